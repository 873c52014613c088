/- The statement Rows.PlainAddsSaid is proved: for every input the law 'athanorlaw14.PlainAdds' returns true, and each argument reads afterwards as it read before. Conditions: those of the row, no others. -/
import Derived.Below
import Derived.ChangeOld
import Derived.OpenShut
import Derived.ProofKit
import Derived.ShutString
import Derived.WalkKit
import Derived.Test.YtbnnpkcfifejmaaGreatRows
import Derived.Test.YtbnnpkcfifejmaaGreatZ13
set_option linter.unusedVariables false
/- Layer 14's statement PlainAdds: the walk. -/
namespace Go.Proofs.YtbnnpkcfifejmaaGreat
open Go.RowKit
set_option maxHeartbeats 16000000 in
set_option maxRecDepth 20000 in
theorem walkPlainAdds (w : World) (S0 C0 : Option Addr) (c0 d0 : Nat) (a : Ten) (hT0 : TenW w S0 C0 c0 d0 a) (S1 C1 : Option Addr) (c1 d1 : Nat) (b : Ten) (hT1 : TenW w S1 C1 c1 d1 b) :
    Calls Tryz.prog 6 #[.agg #[.slice S0 a.s.length c0, .slice C0 a.c.length d0], .agg #[.slice S1 b.s.length c1, .slice C1 b.c.length d1]] w fun e w' => e = .returned (.bool true) ∧ Below w.heap.size w w' := by
  have hk0 := (Blk.new w 30 #[.slice S0 a.s.length c0, .slice C0 a.c.length d0]).alloc (.cells #[.slice S1 b.s.length c1, .slice C1 b.c.length d1] 30)
  have hk1 := Blk.new (w.alloc (.cells #[.slice S0 a.s.length c0, .slice C0 a.c.length d0] 30)) 30 #[.slice S1 b.s.length c1, .slice C1 b.c.length d1]
  rw [World.size_alloc] at hk1
  have h01 : Later w ((w.alloc (.cells #[.slice S0 a.s.length c0, .slice C0 a.c.length d0] 30)).alloc (.cells #[.slice S1 b.s.length c1, .slice C1 b.c.length d1] 30)) := ((Later.refl w).alloc _).alloc _
  have Hk0 := Lib.hid hk0
  have Hk1 := Lib.hid hk1
  have H01 := Lib.hid h01
  have HT0 := Lib.hid hT0
  have HT1 := Lib.hid hT1
  clear hk0 hk1 h01 hT0 hT1
  go_enter Tryz.func6, Tryz.ntmps6
  go_upto_region 1 with fail
  generalize ((w.alloc (.cells #[.slice S0 a.s.length c0, .slice C0 a.c.length d0] 30)).alloc (.cells #[.slice S1 b.s.length c1, .slice C1 b.c.length d1] 30)) = w1 at *
  have x0 : w1.cell? ⟨w.heap.size, 0, none⟩ = _ := Hk0.out.cell 0
  have x1 : w1.cell? ⟨w.heap.size, 1, none⟩ = _ := Hk0.out.cell 1
  have y0 : w1.cell? ⟨w.heap.size + 1, 0, none⟩ = _ := Hk1.out.cell 0
  have y1 : w1.cell? ⟨w.heap.size + 1, 1, none⟩ = _ := Hk1.out.cell 1
  simp at x0 x1 y0 y1
  by_cases hs : a.c.length ≤ 400 ∧ b.c.length ≤ 400 ∧ a.s.length ≤ 9 ∧ b.s.length ≤ 9
  case neg =>
    by_cases q1 : (400 : Int) < a.c.length
    · go_wp2_with fail
      refine (awake14 _).mono ?_
      rintro e w3 ⟨rfl, hb3⟩
      go_wp2_with fail
      go_ret
      exact ⟨rfl, H01.out.call hb3⟩
    by_cases q2 : (400 : Int) < b.c.length
    · go_wp2_with fail
      refine (awake14 _).mono ?_
      rintro e w3 ⟨rfl, hb3⟩
      go_wp2_with fail
      go_ret
      exact ⟨rfl, H01.out.call hb3⟩
    by_cases q3 : (9 : Int) < a.s.length
    · go_wp2_with fail
      refine (awake14 _).mono ?_
      rintro e w3 ⟨rfl, hb3⟩
      go_wp2_with fail
      go_ret
      exact ⟨rfl, H01.out.call hb3⟩
    by_cases q4 : (9 : Int) < b.s.length
    · go_wp2_with fail
      refine (awake14 _).mono ?_
      rintro e w3 ⟨rfl, hb3⟩
      go_wp2_with fail
      go_ret
      exact ⟨rfl, H01.out.call hb3⟩
    · exact absurd ⟨by omega, by omega, by omega, by omega⟩ hs
  obtain ⟨s1, s2, s3, s4⟩ := hs
  have q1 : ¬ (400 : Int) < a.c.length := by omega
  have q2 : ¬ (400 : Int) < b.c.length := by omega
  have q3 : ¬ (9 : Int) < a.s.length := by omega
  have q4 : ¬ (9 : Int) < b.s.length := by omega
  have hA := (HT0.out.small (by omega) (by omega)).later H01.out
  have hB := (HT1.out.small (by omega) (by omega)).later H01.out
  have HA := Lib.hid hA
  have HB := Lib.hid hB
  clear hA hB
  go_wp2_with fail
  clear q1 q2 q3 q4
  refine (plain_add S0 C0 S1 C1 c0 d0 c1 d1 a b w1 HA.out HB.out (by omega) (by omega) (by omega) (by omega)).mono ?_
  rintro e w2 ⟨v, rfl, ⟨S2, c2, C2, d2, rfl, hR, -, -⟩, hb2⟩
  obtain ⟨r, hr⟩ : ∃ r, Pn.add a b = r := ⟨_, rfl⟩
  rw [hr] at hR ⊢
  have h23 : Later w2 (w2.alloc (.cells #[.slice S2 r.s.length c2, .slice C2 r.c.length d2] 30)) := (Later.refl w2).alloc _
  have hk2 := Blk.new w2 30 #[.slice S2 r.s.length c2, .slice C2 r.c.length d2]
  have h13 := (show Later w1 w2 from hb2).trans h23
  have h03 := H01.out.trans h13
  have hx := h13.blk Hk0.out
  have hy := h13.blk Hk1.out
  have hA3 := HA.out.later h13
  have hB3 := HB.out.later h13
  have hR3 := hR.later h23
  have HE := Lib.hid hr
  clear hr hb2 hR x0 x1 y0 y1 HA HB Hk0 Hk1 H01 s1 s2 s3 s4
  have H23 := Lib.hid h23
  have Hk2 := Lib.hid hk2
  have H13 := Lib.hid h13
  have H03 := Lib.hid h03
  have Hx := Lib.hid hx
  have Hy := Lib.hid hy
  have HA3 := Lib.hid hA3
  have HB3 := Lib.hid hB3
  have HR3 := Lib.hid hR3
  clear h23 hk2 h13 h03 hx hy hA3 hB3 hR3
  go_upto_region 4 with fail
  generalize w2.alloc (.cells #[.slice S2 r.s.length c2, .slice C2 r.c.length d2] 30) = w3 at *
  generalize w2.heap.size = rb at *
  clear H23
  have x0 : w3.cell? ⟨w.heap.size, 0, none⟩ = _ := Hx.out.cell 0
  have x1 : w3.cell? ⟨w.heap.size, 1, none⟩ = _ := Hx.out.cell 1
  have y0 : w3.cell? ⟨w.heap.size + 1, 0, none⟩ = _ := Hy.out.cell 0
  have y1 : w3.cell? ⟨w.heap.size + 1, 1, none⟩ = _ := Hy.out.cell 1
  have z0 : w3.cell? ⟨rb, 0, none⟩ = _ := Hk2.out.cell 0
  have z1 : w3.cell? ⟨rb, 1, none⟩ = _ := Hk2.out.cell 1
  simp at x0 x1 y0 y1 z0 z1
  by_cases hz : a.c.length = 0
  · have hrb : Tn.eq r b = true := by
      rw [Tn.eq_iff, ← HE.out]
      unfold Pn.add
      rw [if_pos hz]
    have q : ((a.c.length : Int) = 0) = True := by simpa using hz
    have q2 : (a.c.length == 0) = true := by simpa using hz
    have q3 : ((a.c.length : Int) == 0) = true := by simpa using hz
    clear hz
    have Hrb := Lib.hid hrb
    clear hrb
    go_wp2_with fail
    refine (tensor_equal S2 C2 S1 C1 c2 d2 c1 d1 r b w3 (by have := HR3.out.l1; omega) (by have := HR3.out.l2; omega) (by have := HB3.out.l1; omega) (by have := HB3.out.l2; omega) HR3.out.r HB3.out.r).mono ?_
    rintro e w4 ⟨rfl, hb4⟩
    rw [Hrb.out]
    go_wp2_with fail
    refine (awake14 _).mono ?_
    rintro e w5 ⟨rfl, hb5⟩
    go_wp2_with fail
    go_ret
    exact ⟨rfl, (H03.out.call hb4).call hb5⟩
  have q : ((a.c.length : Int) = 0) = False := by simpa using hz
  have q2 : (a.c.length == 0) = false := by simpa using hz
  have q3 : ((a.c.length : Int) == 0) = false := by simpa using hz
  have Hz := Lib.hid hz
  clear hz
  go_wp2_with fail
  refine (tensor_add S0 C0 S1 C1 c0 d0 c1 d1 a b w3 HA3.out HB3.out).mono ?_
  rintro e w4 ⟨⟨hbad, rfl⟩ | ⟨hgood, v, rfl, ⟨S4, c4, C4, d4, rfl, hU, -, -⟩⟩, hb4⟩
  · have hra : Tn.eq r a = true := by
      rw [Tn.eq_iff, ← HE.out]
      unfold Pn.add
      rw [if_neg Hz.out, if_neg hbad]
    obtain ⟨g, hg⟩ : ∃ g, (Ly.add a b).2 = g := ⟨_, rfl⟩
    rw [hg] at hbad ⊢
    clear hg
    have d2 : (g != 0) = true := by simpa using hbad
    clear hbad
    have Hra := Lib.hid hra
    clear hra
    have h34 : Later w3 (w4.alloc (.cells #[.slice none 0 0, .slice none 0 0] 30)) := (show Later w3 w4 from hb4).alloc _
    have h04 := H03.out.trans h34
    have x0' := h34.cell x0
    have x1' := h34.cell x1
    have z0' := h34.cell z0
    have z1' := h34.cell z1
    have hR4 := HR3.out.later h34
    have hA4 := HA3.out.later h34
    clear hb4 x0 x1 y0 y1 z0 z1
    have H34 := Lib.hid h34
    have H04 := Lib.hid h04
    have HR4 := Lib.hid hR4
    have HA4 := Lib.hid hA4
    clear h34 h04 hR4 hA4
    go_upto_region 7 with fail
    generalize w4.alloc (.cells #[.slice none 0 0, .slice none 0 0] 30) = w5 at *
    go_wp2_with fail
    refine (tensor_equal S2 C2 S0 C0 _ _ c0 d0 r a w5 (by have := HR4.out.l1; omega) (by have := HR4.out.l2; omega) (by have := HA4.out.l1; omega) (by have := HA4.out.l2; omega) HR4.out.r HA4.out.r).mono ?_
    rintro e w6 ⟨rfl, hb6⟩
    rw [Hra.out]
    go_wp2_with fail
    refine (awake14 _).mono ?_
    rintro e w7 ⟨rfl, hb7⟩
    go_wp2_with fail
    go_ret
    exact ⟨rfl, (H04.out.call hb6).call hb7⟩
  have hrs : Tn.eq r (Ly.add a b).1 = true := by
    rw [Tn.eq_iff, ← HE.out]
    unfold Pn.add
    rw [if_neg Hz.out, if_pos hgood]
  obtain ⟨u, hu⟩ : ∃ u, (Ly.add a b).1 = u := ⟨_, rfl⟩
  rw [hu] at hrs hU ⊢
  clear hu hgood
  have Hrs := Lib.hid hrs
  clear hrs
  have h45 : Later w4 (w4.alloc (.cells #[.slice S4 u.s.length c4, .slice C4 u.c.length d4] 30)) := (Later.refl w4).alloc _
  have hk5 := Blk.new w4 30 #[.slice S4 u.s.length c4, .slice C4 u.c.length d4]
  have h35 := (show Later w3 w4 from hb4).trans h45
  have h05 := H03.out.trans h35
  have z0' := h35.cell z0
  have z1' := h35.cell z1
  have hR5 := HR3.out.later h35
  have hU5 := hU.later h45
  clear hb4 x0 x1 y0 y1 z0 z1 hU
  have H45 := Lib.hid h45
  have Hk5 := Lib.hid hk5
  have H35 := Lib.hid h35
  have H05 := Lib.hid h05
  have HR5 := Lib.hid hR5
  have HU5 := Lib.hid hU5
  clear h45 hk5 h35 h05 hR5 hU5
  go_upto_region 7 with fail
  generalize w4.alloc (.cells #[.slice S4 u.s.length c4, .slice C4 u.c.length d4] 30) = w5 at *
  generalize w4.heap.size = ub at *
  clear H45
  have u0 : w5.cell? ⟨ub, 0, none⟩ = _ := Hk5.out.cell 0
  have u1 : w5.cell? ⟨ub, 1, none⟩ = _ := Hk5.out.cell 1
  simp at u0 u1
  go_wp2_with fail
  refine (tensor_equal S2 C2 S4 C4 _ _ c4 d4 r u w5 (by have := HR5.out.l1; omega) (by have := HR5.out.l2; omega) (by have := HU5.out.l1; omega) (by have := HU5.out.l2; omega) HR5.out.r HU5.out.r).mono ?_
  rintro e w6 ⟨rfl, hb6⟩
  rw [Hrs.out]
  go_wp2_with fail
  refine (awake14 _).mono ?_
  rintro e w7 ⟨rfl, hb7⟩
  go_wp2_with fail
  go_ret
  exact ⟨rfl, (H05.out.call hb6).call hb7⟩
end Go.Proofs.YtbnnpkcfifejmaaGreat
namespace Go.Proofs.YtbnnpkcfifejmaaGreat.plainAdds
open Go.ChangeShapes Go.WideShapes Go.ChangeAt Go.RowKit
open Go.ChangeMaps (open_string shut_string)

theorem own : ownKnob Tryz.prog.godebug = none := by kernel_rfl
theorem laidOut : laidOutB Tryz.prog = true := by kernel_rfl

set_option maxRecDepth 100000 in
theorem lifted (os : Os) (started : os.Started) (H : Type) (enc : TypeId × Value → H) :
    ReturnsInHanded {} Tryz.checked os 6 .any (Rows.plainAddsSpec.pre6 enc Tryz.prog Tryz.f6 Rows.plainAddsRow.domain false) (Rows.plainAddsSpec.post enc Tryz.prog Tryz.f6 false true false false) := by
  refine returnsInHanded_of_change (C := Tryz.checked) own started (by kernel_rfl) Tryz.func6
    (ChangeSpec.witness6 (enc := enc) (C := Tryz.checked) false ⟨#[], #[.agg #[.slice none 0 0, .slice none 0 0], .agg #[.slice none 0 0, .slice none 0 0]], []⟩ 8 (by kernel_rfl) (by kernel_rfl) (by kernel_rfl) (by kernel_rfl)) ?_
  intro W base args ds gs before hval0 hW hcnd _
  have hval : ∀ (j : Nat) t v, Tryz.f6.params[j]? = some t → args[j]? = some v → Value.okWide Tryz.prog W .any base t v := hval0
  have hW' := hW
  obtain ⟨p, q, hA0, hV, rfl, hfz, hnd⟩ := hW
  have hA : DataW.TrodAll enc Tryz.prog W 0 (fun _ => true) true Tryz.f6.params.toList args.toList ds p := hA0
  rw [Tryz.params6] at hA hval
  obtain ⟨v0, vs0, d0, ds0, p0, q0, hargs, rfl, rfl, h0, r0⟩ := trodAll_cons hA
  obtain ⟨v1, vs1, d1, ds1, p1, q1, rfl, rfl, rfl, h1, r1⟩ := trodAll_cons r0
  obtain ⟨rfl, rfl, rfl⟩ := trodAll_nil r1
  obtain rfl : args = #[v0, v1] := by cases args; simp_all
  obtain ⟨rfl, rfl⟩ := trodVars_none hV
  have k0 := h0
  have lt0 : ∀ x ∈ p0, x.block < W.heap.size := by obtain ⟨m, hm⟩ := k0; exact DataW.trod_lt m _ _ _ hm
  have k1 := h1
  have lt1 : ∀ x ∈ p1, x.block < W.heap.size := by obtain ⟨m, hm⟩ := k1; exact DataW.trod_lt m _ _ _ hm
  obtain ⟨S0, C0, c0, d0, t0, rfl, hT0⟩ := ten_open0 (hval 0 30 v0 rfl rfl) h0
  obtain ⟨S1, C1, c1, d1, t1, rfl, hT1⟩ := ten_open0 (hval 1 30 v1 rfl rfl) h1
  clear hA0 hval0
  refine (walkPlainAdds W S0 C0 c0 d0 t0 hT0 S1 C1 c1 d1 t1 hT1).mono fun e W' ⟨he, bel⟩ => ?_
  subst he
  exact ⟨_, rfl, _, _, _, [], _, [], hW', trodAll_mk1 (shut_bool Tryz.underlying4 _), (trodAll_cons_mk (Below.trod laidOut (by kernel_rfl) (of_decide_eq_true (by kernel_rfl)) k0 bel lt0) (trodAll_cons_mk (Below.trod laidOut (by kernel_rfl) (of_decide_eq_true (by kernel_rfl)) k1 bel lt1) trodAll_mk0)), rfl, bel.frame _, fun h => by cases h⟩

theorem over : Rows.plainAddsRow.holds Tryz.pinned (OpenSpec.ofChange Rows.plainAddsSpec) :=
  OpenClaim.holds_of_wide 6 Tryz.f6 rfl rfl rfl rfl rfl rfl rfl ⟨rfl, rfl, rfl, rfl, rfl⟩ rfl rfl rfl rfl rfl (by kernel_rfl) Tryz.func6 (by kernel_rfl)
    (of_decide_eq_true (by kernel_rfl)) (by unfold Func.isWrapper; first | (rw [if_pos (by decide +kernel)]; kernel_rfl) | (rw [if_neg (by decide +kernel)]; exact ⟨rfl, rfl⟩))
    (fun os started H enc _ => lifted os started H enc)
end Go.Proofs.YtbnnpkcfifejmaaGreat.plainAdds
namespace Go.Proofs.YtbnnpkcfifejmaaGreat
theorem plainAdds_holds : Rows.PlainAddsSaid := plainAdds.over
#print axioms plainAdds_holds
end Go.Proofs.YtbnnpkcfifejmaaGreat

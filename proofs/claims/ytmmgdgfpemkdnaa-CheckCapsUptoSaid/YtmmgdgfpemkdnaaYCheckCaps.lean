/- The statement Rows.CheckCapsUptoSaid is proved: for every input the law 'athanorlaw18.CheckCaps' returns true, and each argument reads afterwards as it read before. Conditions: those of the row, no others. -/
import Derived.Below
import Derived.ChangeOld
import Derived.JoinedCond
import Derived.OpenShut
import Derived.ProofKit
import Derived.ShutString
import Derived.WalkKit
import Derived.Test.YtmmgdgfpemkdnaaRows
import Derived.Test.YtmmgdgfpemkdnaaZ06
set_option linter.unusedVariables false
/- Layer 18's statement CheckCaps: the walk. -/
namespace Go.Proofs.Ytmmgdgfpemkdnaa
open Go.RowKit
set_option maxHeartbeats 16000000 in
set_option maxRecDepth 100000 in
theorem walkCheckCaps (w : World) (A N Q : Option Addr) (c d q : Nat) (n : NetD) (ps : List (Int × Int)) (cap : Int) (la : n.inn.length ≤ c) (lb : c ≤ 9223372036854775807) (lc : n.nodes.length ≤ d) (ld : d ≤ 9223372036854775807) (hR : NetR w A N n) (hf : n.fits)
    (le : ps.length ≤ q) (lf : q ≤ 9223372036854775807) (lg : ps.length ≤ 1048576) (hQ : Pairs w Q ps) (hpw : ∀ z ∈ ps, (-9223372036854775808 ≤ z.1 ∧ z.1 ≤ 9223372036854775807) ∧ -9223372036854775808 ≤ z.2 ∧ z.2 ≤ 9223372036854775807) (hcap : -9223372036854775808 ≤ cap ∧ cap ≤ 9223372036854775807) (a1 : Int) (w1 : (Lit.int .i64 a1).wf = true) :
    Calls Try.prog 3 #[.agg #[.slice A n.inn.length c, .slice N n.nodes.length d, .slice Q ps.length q, .int .i64 cap], .int .i64 a1] w fun e w' => e = .returned (.bool true) ∧ Below w.heap.size w w' := by
  have hok := hf.ok
  have hk := Blk.new w 30 #[.slice A n.inn.length c, .slice N n.nodes.length d, .slice Q ps.length q, .int .i64 cap]
  have hl0 : Later w (w.alloc (.cells #[.slice A n.inn.length c, .slice N n.nodes.length d, .slice Q ps.length q, .int .i64 cap] 30)) := (Later.refl w).alloc _
  have ha1 := wf_bd w1
  have Hok := Lib.hid hok
  have HR := Lib.hid hR
  have Hk := Lib.hid hk
  have Hl0 := Lib.hid hl0
  have Hf := Lib.hid hf
  have HQ := Lib.hid hQ
  have Hpw := Lib.hid hpw
  clear hok hR hk hl0 hf hQ hpw
  clear w1
  go_enter Try.func3, Try.ntmps3
  go_wp2_with fail
  generalize w.alloc (.cells #[.slice A n.inn.length c, .slice N n.nodes.length d, .slice Q ps.length q, .int .i64 cap] 30) = w1 at *
  refine (small_18 A N Q c d q ps.length cap n w1 Hok.out (HR.out.below Hl0.out (Nat.le_refl _)) lg).mono ?_
  rintro e w2 ⟨b, rfl, hsm, hb2⟩
  have hl2 := Hl0.out.call hb2
  have hk2 := (show Later w1 w2 from hb2).blk Hk.out
  clear hb2 Hk Hl0
  have aw : ∀ W, Later w W → Calls Try.prog 5 #[] W fun e w' => e = .returned (.bool true) ∧ Later w w' := fun W h => (awake18 W).mono fun e w' hq => ⟨hq.1, h.call hq.2⟩
  cases b
  · have Hk2 := Lib.hid hk2
    have Hl2 := Lib.hid hl2
    have Haw := Lib.hid aw
    clear hk2 hl2 aw
    clear hsm
    go_wp2_with fail
    refine (Haw.out _ Hl2.out).mono ?_
    rintro e w3 ⟨rfl, hb3⟩
    go_wp2_with fail
    go_ret
    exact ⟨rfl, hb3⟩
  have hsm := hsm rfl
  have x0 := hk2.cell 0
  have x1 := hk2.cell 1
  have x2 := hk2.cell 2
  have x3 := hk2.cell 3
  simp at x0 x1 x2 x3
  by_cases hg : a1 < 0 ∨ 1073741824 < a1 ∨ cap < 0 ∨ 1073741824 < cap
  · have Hk2 := Lib.hid hk2
    have Hl2 := Lib.hid hl2
    have Haw := Lib.hid aw
    clear hk2 hl2 aw
    clear hsm
    by_cases q1 : a1 < 0
    · have d1 : decide (a1 < 0) = true := by simpa using q1
      go_wp2_with fail
      refine (Haw.out _ Hl2.out).mono ?_
      rintro e w3 ⟨rfl, hb3⟩
      go_wp2_with fail
      go_ret
      exact ⟨rfl, hb3⟩
    by_cases q2 : 1073741824 < a1
    · go_wp2_with fail
      refine (Haw.out _ Hl2.out).mono ?_
      rintro e w3 ⟨rfl, hb3⟩
      go_wp2_with fail
      go_ret
      exact ⟨rfl, hb3⟩
    by_cases q3 : cap < 0
    · go_wp2_with fail
      refine (Haw.out _ Hl2.out).mono ?_
      rintro e w3 ⟨rfl, hb3⟩
      go_wp2_with fail
      go_ret
      exact ⟨rfl, hb3⟩
    · have q4 : 1073741824 < cap := by omega
      go_wp2_with fail
      refine (Haw.out _ Hl2.out).mono ?_
      rintro e w3 ⟨rfl, hb3⟩
      go_wp2_with fail
      go_ret
      exact ⟨rfl, hb3⟩
  obtain ⟨q1, q2, q3, q4⟩ : ¬ a1 < 0 ∧ ¬ 1073741824 < a1 ∧ ¬ cap < 0 ∧ ¬ 1073741824 < cap := by omega
  have hrun : ∀ W b, Later w W → -9223372036854775808 ≤ b ∧ b ≤ 9223372036854775807 → Calls Try.prog 6 #[.agg #[.slice A n.inn.length c, .slice N n.nodes.length d], .slice Q ps.length q, .int .i64 b] W (RunP n ps b W) := fun W b h hb =>
    check_run A N Q c d q n ps b W Hok.out (HR.out.below h (Nat.le_refl _)) lc (by omega) hb lg (HQ.out.below h (Nat.le_refl _))
  clear hg hsm
  have Hk2 := Lib.hid hk2
  have Hl2 := Lib.hid hl2
  have Haw := Lib.hid aw
  have Hrun := Lib.hid hrun
  clear hk2 hl2 aw hrun
  go_wp2_with fail
  refine (Hrun.out w2 cap Hl2.out hcap).mono ?_
  rintro e w3 ⟨rfl, h3⟩
  obtain ⟨⟨⟨p1, p2, p3, p4⟩, er⟩, hr⟩ : ∃ r, Ck.run n ps cap = r := ⟨_, rfl⟩
  have hcaps := fun h => Ck.run_caps (n := n) (ps := ps) (cap := cap) (by omega) h
  rw [hr] at hcaps ⊢
  rw [show statsV ((p1, p2, p3, p4), er) = .tuple #[.agg #[.int .i64 p1, .int .i64 p2, .int .i64 p3, .int .i64 p4], .int .i64 er] from rfl]
  have hk3 := h3.blk Hk2.out
  have hl3 := Hl2.out.trans h3
  have hb4 := Blk.new w3 34 #[.int .i64 p1, .int .i64 p2, .int .i64 p3, .int .i64 p4]
  have h34 : Later w3 (w3.alloc (.cells #[.int .i64 p1, .int .i64 p2, .int .i64 p3, .int .i64 p4] 34)) := (Later.refl w3).alloc _
  have hk4 := h34.blk hk3
  have hl4 := hl3.trans h34
  clear hk3 h34 h3 hl3 x0 x1 x2 x3 Hk2 Hl2 hr
  have Hb4 := Lib.hid hb4
  have Hk4 := Lib.hid hk4
  have Hl4 := Lib.hid hl4
  have Hcaps := Lib.hid hcaps
  clear hb4 hk4 hl4 hcaps
  go_upto_region 4 with fail
  generalize w3.alloc (.cells #[.int .i64 p1, .int .i64 p2, .int .i64 p3, .int .i64 p4] 34) = w4 at *
  generalize w3.heap.size = g5 at *
  by_cases he : er = 0
  case neg =>
    have d1 : decide (er = 0) = false := by simpa using he
    clear Hcaps
    go_wp2_with fail
    refine (Haw.out _ Hl4.out).mono ?_
    rintro e w5 ⟨rfl, hb5⟩
    go_wp2_with fail
    go_ret
    exact ⟨rfl, hb5⟩
  subst he
  obtain ⟨s1, s2, s3, s4⟩ := Hcaps.out rfl
  change p1 ≤ cap at s1
  change 0 ≤ p1 at s2
  change (Ck.run n ps (p1 - 1)).2 = 25 at s4
  have s5 := s3 (cap + a1) (show p1 ≤ _ by omega)
  have s6 := s3 p1 (Int.le_refl _)
  clear s3 Hcaps
  have hw1 : IntKind.i64.wrap (cap + a1) = cap + a1 := IntWalk.i64_in _ (by omega)
  have hw2 : IntKind.i64.wrap (p1 - 1) = p1 - 1 := IntWalk.i64_in _ (by omega)
  have x0 := Hk4.out.cell 0
  have x1 := Hk4.out.cell 1
  have x2 := Hk4.out.cell 2
  have x3 := Hk4.out.cell 3
  simp at x0 x1 x2 x3
  have Hs5 := Lib.hid s5
  have Hs6 := Lib.hid s6
  have Hs4 := Lib.hid s4
  clear s5 s6 s4
  go_wp2_with fail
  refine (Hrun.out w4 (cap + a1) Hl4.out (by omega)).mono ?_
  rintro e w5 ⟨rfl, h5⟩
  rw [Hs5.out, show statsV ((p1, p2, p3, p4), 0) = .tuple #[.agg #[.int .i64 p1, .int .i64 p2, .int .i64 p3, .int .i64 p4], .int .i64 0] from rfl]
  have h6 : Later w4 (w5.alloc (.cells #[.int .i64 p1, .int .i64 p2, .int .i64 p3, .int .i64 p4] 34)) := h5.alloc _
  have hb6 := Blk.new w5 34 #[.int .i64 p1, .int .i64 p2, .int .i64 p3, .int .i64 p4]
  have hl6 := Hl4.out.trans h6
  have hk6 := h6.blk Hk4.out
  have hc6 := h6.blk Hb4.out
  clear x0 x1 x2 x3 h5 Hl4 Hk4 Hb4 Hs5 hw1
  have Hb6 := Lib.hid hb6
  have Hl6 := Lib.hid hl6
  have Hk6 := Lib.hid hk6
  have Hc6 := Lib.hid hc6
  clear hb6 hl6 hk6 hc6
  go_upto_region 7 with fail
  generalize w5.alloc (.cells #[.int .i64 p1, .int .i64 p2, .int .i64 p3, .int .i64 p4] 34) = w6 at *
  generalize w5.heap.size = g7 at *
  clear h6
  have x0 := Hk6.out.cell 0
  have x1 := Hk6.out.cell 1
  have x2 := Hk6.out.cell 2
  have y0 := Hc6.out.cell 0
  simp at x0 x1 x2 y0
  go_wp2_with fail
  refine (Hrun.out w6 p1 Hl6.out (by omega)).mono ?_
  rintro e w7 ⟨rfl, h7⟩
  rw [Hs6.out, show statsV ((p1, p2, p3, p4), 0) = .tuple #[.agg #[.int .i64 p1, .int .i64 p2, .int .i64 p3, .int .i64 p4], .int .i64 0] from rfl]
  have h8 : Later w6 (w7.alloc (.cells #[.int .i64 p1, .int .i64 p2, .int .i64 p3, .int .i64 p4] 34)) := h7.alloc _
  have hb8 := Blk.new w7 34 #[.int .i64 p1, .int .i64 p2, .int .i64 p3, .int .i64 p4]
  have hl8 := Hl6.out.trans h8
  have hk8 := h8.blk Hk6.out
  have hc8 := h8.blk Hc6.out
  have hd8 := h8.blk Hb6.out
  clear x0 x1 x2 y0 h7 Hl6 Hk6 Hb6 Hc6 Hs6
  have Hb8 := Lib.hid hb8
  have Hl8 := Lib.hid hl8
  have Hk8 := Lib.hid hk8
  have Hc8 := Lib.hid hc8
  have Hd8 := Lib.hid hd8
  clear hb8 hl8 hk8 hc8 hd8
  go_upto_region 8 with fail
  generalize w7.alloc (.cells #[.int .i64 p1, .int .i64 p2, .int .i64 p3, .int .i64 p4] 34) = w8 at *
  generalize w7.heap.size = g9 at *
  clear h8
  have x0 := Hk8.out.cell 0
  have x1 := Hk8.out.cell 1
  have x2 := Hk8.out.cell 2
  have y0 := Hc8.out.cell 0
  simp at x0 x1 x2 y0
  go_wp2_with fail
  refine (Hrun.out w8 (p1 - 1) Hl8.out (by omega)).mono ?_
  rintro e w9 ⟨rfl, h9⟩
  obtain ⟨⟨⟨r1, r2, r3, r4⟩, er⟩, hr⟩ : ∃ r, Ck.run n ps (p1 - 1) = r := ⟨_, rfl⟩
  have hs4 := Hs4.out
  rw [hr] at hs4 ⊢
  change er = 25 at hs4
  subst hs4
  rw [show statsV ((r1, r2, r3, r4), 25) = .tuple #[.agg #[.int .i64 r1, .int .i64 r2, .int .i64 r3, .int .i64 r4], .int .i64 25] from rfl]
  have h10 : Later w8 (w9.alloc (.cells #[.int .i64 r1, .int .i64 r2, .int .i64 r3, .int .i64 r4] 34)) := h9.alloc _
  have hl10 := Hl8.out.trans h10
  have hk10 := h10.blk Hk8.out
  have hc10 := h10.blk Hc8.out
  have hd10 := h10.blk Hd8.out
  have hb10 := h10.blk Hb8.out
  clear x0 x1 x2 y0 h9 Hl8 Hk8 Hb8 Hc8 Hd8 Hs4 hr hw2
  have Hb10 := Lib.hid hb10
  have Hl10 := Lib.hid hl10
  have Hk10 := Lib.hid hk10
  have Hc10 := Lib.hid hc10
  have Hd10 := Lib.hid hd10
  clear hb10 hl10 hk10 hc10 hd10
  go_upto_region 9 with fail
  generalize w9.alloc (.cells #[.int .i64 r1, .int .i64 r2, .int .i64 r3, .int .i64 r4] 34) = w10 at *
  clear h10
  have x2 := Hk10.out.cell 3
  have y0 := Hc10.out.cell 0
  have u0 := Hd10.out.cell 0
  have z0 := Hb10.out.cell 0
  have y1 := Hc10.out.cell 1
  have u1 := Hd10.out.cell 1
  have z1 := Hb10.out.cell 1
  have y2 := Hc10.out.cell 2
  have u2 := Hd10.out.cell 2
  have z2 := Hb10.out.cell 2
  have y3 := Hc10.out.cell 3
  have u3 := Hd10.out.cell 3
  have z3 := Hb10.out.cell 3
  simp at x2 y0 y1 y2 y3 u0 u1 u2 u3 z0 z1 z2 z3
  have heqs := run_eql_stats p1 p2 p3 p4
  have d1 : decide (p1 ≤ cap) = true := by simpa using s1
  go_wp2_with fail
  refine (Haw.out _ Hl10.out).mono ?_
  rintro e w11 ⟨rfl, hb11⟩
  go_wp2_with fail
  go_ret
  exact ⟨rfl, hb11⟩
end Go.Proofs.Ytmmgdgfpemkdnaa
namespace Go.Proofs.Ytmmgdgfpemkdnaa.checkCaps
open Go.ChangeShapes Go.WideShapes Go.ChangeAt Go.RowKit
open Go.ChangeMaps (open_string shut_string)

theorem own : ownKnob Try.prog.godebug = none := by kernel_rfl
theorem laidOut : laidOutB Try.prog = true := by kernel_rfl

set_option maxRecDepth 100000 in
theorem lifted (os : Os) (started : os.Started) (H : Type) (enc : TypeId × Value → H) (Fi : Stop.Interp) :
    ReturnsInHanded {} Try.checked os 3 .any ((Rows.OpenSpec.upto Rows.checkCapsSpec).pre6 enc Try.prog Try.f3 Rows.checkCapsUptoRow.domain false) (((Rows.OpenSpec.upto Rows.checkCapsSpec).at Fi).post enc Try.prog Try.f3 false true false false) := by
  refine returnsInHanded_of_cond (C := Try.checked) (s := Rows.OpenSpec.upto Rows.checkCapsSpec) (k := Rows.uptoSmall) rfl own started (by kernel_rfl) Try.func3
    (OpenSpec.witness (enc := enc) (C := Try.checked) (s := Rows.OpenSpec.upto Rows.checkCapsSpec) (k := Rows.uptoSmall) rfl false ⟨#[], #[.agg #[.slice none 0 0, .slice none 0 0, .slice none 0 0, .int .i64 0], .int .i64 0], []⟩ 8 (by kernel_rfl) (by kernel_rfl) (by kernel_rfl)
      (x := ([.agg [.agg [.nil, .nil], .nil, .lit (.int .i64 0)], .lit (.int .i64 0)], [], [])) (by kernel_rfl) rfl (by kernel_rfl)) ?_
  intro W base args ds gs before hval0 hW hcnd hbulk _
  have hval : ∀ (j : Nat) t v, Try.f3.params[j]? = some t → args[j]? = some v → Value.okWide Try.prog W .any base t v := hval0
  have hW' := hW
  obtain ⟨p, q, hA0, hV, rfl, hfz, hnd⟩ := hW
  have hA : DataW.TrodAll enc Try.prog W 0 (fun _ => true) true Try.f3.params.toList args.toList ds p := hA0
  rw [Try.params3] at hA hval
  obtain ⟨v0, vs0, d0, ds0, p0, q0, hargs, rfl, rfl, h0, r0⟩ := trodAll_cons hA
  obtain ⟨v1, vs1, d1, ds1, p1, q1, rfl, rfl, rfl, h1, r1⟩ := trodAll_cons r0
  obtain ⟨rfl, rfl, rfl⟩ := trodAll_nil r1
  obtain rfl : args = #[v0, v1] := by cases args; simp_all
  obtain ⟨rfl, rfl⟩ := trodVars_none hV
  have hbk : Rows.uptoBulkAll ([d0, d1] ++ []) ≤ 1048576 := of_decide_eq_true hbulk
  have hz0 : Rows.uptoBulk d0 ≤ 1048576 := Nat.le_trans (bulk_part (by simp)) hbk
  have k0 := h0
  have lt0 : ∀ x ∈ p0, x.block < W.heap.size := by obtain ⟨m, hm⟩ := k0; exact DataW.trod_lt m _ _ _ hm
  have k1 := h1
  have lt1 : ∀ x ∈ p1, x.block < W.heap.size := by obtain ⟨m, hm⟩ := k1; exact DataW.trod_lt m _ _ _ hm
  obtain ⟨A0, N0, Q0, c10, c20, q0, n0, ps0, cap0, rfl, la0, lb0, lc0, ld0, hS0, hw0, le0, lf0, lg0, hQ0, hp0, hc0⟩ := case_open (hval 0 30 v0 rfl rfl) h0 hz0
  obtain ⟨a1, rfl, rfl, rfl, w1⟩ := open_int Try.underlying3 (hval 1 3 v1 rfl rfl) h1
  clear hA0 hval0
  refine (walkCheckCaps W A0 N0 Q0 c10 c20 q0 n0 ps0 cap0 la0 lb0 lc0 ld0 hS0 hw0 le0 lf0 lg0 hQ0 hp0 hc0 a1 w1).mono fun e W' ⟨he, bel⟩ => ?_
  subst he
  exact ⟨_, rfl, _, _, _, [], _, [], hW', trodAll_mk1 (shut_bool Try.underlying4 _), (trodAll_cons_mk (Below.trod laidOut (by kernel_rfl) (of_decide_eq_true (by kernel_rfl)) k0 bel lt0) (trodAll_cons_mk (Below.trod laidOut (by kernel_rfl) (of_decide_eq_true (by kernel_rfl)) k1 bel lt1) trodAll_mk0)), rfl, bel.frame _, fun h => by cases h⟩

theorem over : Rows.checkCapsUptoRow.holds Try.pinned (Rows.OpenSpec.upto Rows.checkCapsSpec) :=
  OpenClaim.holds_of_cond 3 Try.f3 rfl rfl rfl rfl rfl rfl rfl ⟨rfl, rfl, rfl, rfl, rfl⟩ rfl rfl rfl rfl rfl (by kernel_rfl) Try.func3 (by kernel_rfl)
    (of_decide_eq_true (by kernel_rfl)) (by unfold Func.isWrapper; first | (rw [if_pos (by decide +kernel)]; kernel_rfl) | (rw [if_neg (by decide +kernel)]; exact ⟨rfl, rfl⟩))
    (fun os started H enc _ Fi => lifted os started H enc Fi)
end Go.Proofs.Ytmmgdgfpemkdnaa.checkCaps
namespace Go.Proofs.Ytmmgdgfpemkdnaa
theorem checkCaps_holds : Rows.CheckCapsUptoSaid := checkCaps.over
#print axioms checkCaps_holds
end Go.Proofs.Ytmmgdgfpemkdnaa

/- The statement Rows.FileSumsSaid is proved: for every input the law 'athanorlaw12.FileSums' returns true, and each argument reads afterwards as it read before. Conditions: those of the row, no others. -/
import Derived.Below
import Derived.ChangeOld
import Derived.OpenShut
import Derived.ProofKit
import Derived.ShutString
import Derived.WalkKit
import Derived.Test.YtnofeebcmmmlhaaRows
import Derived.Test.YtnofeebcmmmlhaaZ08
set_option linter.unusedVariables false
/- The walk of the law FileSums. -/
namespace Go.Proofs.Ytnofeebcmmmlhaa
open Go.RowKit
namespace Fp
theorem wsum_set : ∀ (l : List Int) (i k : Nat) (x : Int) (h : i < l.length), wsum k (l.set i x) = wsum k l + ((k : Int) + i + 1) * (x - l[i])
  | c :: r, 0, k, x, h => by
    simp only [List.set_cons_zero, wsum, List.getElem_cons_zero]
    have e : ((k : Int) + (0 : Nat) + 1) = k + 1 := by omega
    rw [e, Int.mul_sub]; omega
  | c :: r, i + 1, k, x, h => by
    have := wsum_set r i (k + 1) x (by simpa using h)
    simp only [List.set_cons_succ, wsum, this, List.getElem_cons_succ]
    have e : (((k + 1 : Nat) : Int) + i + 1) = (k : Int) + ((i + 1 : Nat) : Int) + 1 := by omega
    rw [e]; omega
theorem sum_set {l : List Int} {i : Nat} {x : Int} (h : i < l.length) (hl : l.length ≤ 1000) (hb : ∀ y ∈ l, 0 ≤ y ∧ y ≤ 255) (hx : 0 ≤ x ∧ x ≤ 255) : sum (l.set i x) = sum l ↔ l[i] = x := by
  unfold sum
  rw [wsum_set l i 0 x h]
  have hy := hb _ (List.getElem_mem h)
  generalize l[i] = y at *
  have e : ((0 : Nat) : Int) + i + 1 = (i : Int) + 1 := by omega
  rw [e]
  have h1 : ((i : Int) + 1) * (x - y) ≤ ((i : Int) + 1) * 255 := Int.mul_le_mul_of_nonneg_left (by omega) (by omega)
  have h2 : ((i : Int) + 1) * (-255) ≤ ((i : Int) + 1) * (x - y) := Int.mul_le_mul_of_nonneg_left (by omega) (by omega)
  have h3 : ((i : Int) + 1) * (x - y) = 0 ↔ y = x := by
    rw [Int.mul_eq_zero]; omega
  generalize ((i : Int) + 1) * (x - y) = D at *
  omega
theorem sum_zero (l : List Int) : sum (l ++ [0]) = sum l := by
  have := sum_range l
  rw [sum_snoc]; omega
end Fp
set_option maxHeartbeats 8000000 in
set_option maxRecDepth 100000 in
theorem fileSums_at (w : World) (b off c k : Nat) (bs : List Int) (x : Int) (hk : k < bs.length) (h2 : bs.length ≤ 1000) (hI : Ints .u8 w (some ⟨b, off, none⟩) bs) (hb : ∀ y ∈ bs, 0 ≤ y ∧ y ≤ 255) (hx : 0 ≤ x ∧ x ≤ 255) :
    Calls Try.prog 6 #[.slice (some ⟨b, off, none⟩) bs.length c, .int .i64 k, .int .u8 x] w fun e w' => e = .returned (.bool true) ∧ Below w.heap.size w w' := by
  obtain ⟨i0, hi, hz0, hz1, hz2⟩ := info_parts byte_info
  have hcv := run_string_of c 22 5 9 Try.underlying22 Try.underlying5 Try.underlying9 hI
  have hs1 := file_sum (some ⟨b, off, none⟩) c bs w hI (by omega) hb
  have hs2 := ref_sum (strOfNums bs) w (by rw [strOfNums_size]; omega)
  rw [numsOf_str hb] at hs2
  have hsr := Fp.sum_range bs
  have hD := Fp.sum_set hk h2 hb hx
  have hZ := Fp.sum_zero (bs.set k x)
  have hDb : ∀ y ∈ bs.set k x, 0 ≤ y ∧ y ≤ 255 := fun y hy => by
    rcases List.mem_or_eq_of_mem_set hy with h | rfl
    · exact hb y h
    · exact hx
  have hDl : (bs.set k x).length = bs.length := List.length_set
  have hbk : b < w.heap.size := by obtain ⟨b', off', e, hb', _⟩ := hI 0 (by omega); cases e; exact hb'
  have hck : w.cell? ⟨b, off + k, none⟩ = some (.int .u8 bs[k]) := by
    obtain ⟨b', off', e, _, hc⟩ := hI k hk
    cases e
    rw [hc, List.getD_eq_getElem?_getD, List.getElem?_eq_getElem hk]; rfl
  have hu : IntKind.u64.wrap (Fp.sum bs) = Fp.sum bs := IntWalk.u64_in _ (by omega)
  have q1 : decide ((1000 : Int) < bs.length) = false := by simp; omega
  have q2 : decide ((k : Int) < 0) = false := by simp
  have q3 : decide ((bs.length : Int) ≤ k) = false := by simp; omega
  have q4 : (k : Int) < bs.length := by omega
  have q5 : (0 : Int) ≤ k := by omega
  have HI := Lib.hid hI
  have Hs1 := Lib.hid hs1
  have Hs2 := Lib.hid hs2
  have HD := Lib.hid hD
  have HZ := Lib.hid hZ
  have HDb := Lib.hid hDb
  have HDl := Lib.hid hDl
  have Hb := Lib.hid hb
  clear hI hs1 hs2 hD hZ hDb hDl hb
  generalize hsm : Fp.sum bs = sm at *
  generalize hy : bs[k] = y at *
  go_enter Try.func6, Try.ntmps6
  go_wp2_with fail
  refine Hs1.out.mono ?_
  rintro e wz ⟨rfl, rfl⟩
  go_wp2_with fail
  refine Hs2.out.mono ?_
  rintro e wz ⟨rfl, rfl⟩
  clear hcv Hs1 Hs2
  go_upto_region 8 with fail
  clear q1 q2 q3
  go_wp2_with (at_builtin; refine wpList_append_own _ rfl _ _ 22 rfl w.heap.size 5 i0 (.int .u8 0) 1 1 Try.underlying22 hi hz0 hz1 hz2 rfl (by decide) _ 0 [] rfl (World.ownsRow_made w #[] 0 (Nat.le_refl _) (Nat.zero_le _) rfl) ⟨b, off, none⟩ bs.length c (bytesV bs) rfl ?c1 ?c2 ?c3 ?c4 ?c5 ?c6 ?_)
  case c1 => rw [bytesV_length]; simp
  case c2 =>
    intro j u hj
    unfold bytesV at hj
    obtain ⟨x, hx, rfl⟩ := List.getElem?_map .. ▸ hj |> Option.map_eq_some_iff.1
    obtain ⟨hjl, rfl⟩ := List.getElem?_eq_some_iff.1 hx
    obtain ⟨b, off, e, _, hcell⟩ := HI.out j hjl
    cases e
    rw [Addr.add_lit]
    refine Lib.cell?_alloc_some _ ?_
    rw [hcell]
    simp [hjl]
  case c3 => intro u hu; obtain ⟨x, _, rfl⟩ := List.mem_map.1 hu; rfl
  case c4 => unfold maxLen; omega
  case c5 => omega
  case c6 => simp
  intro v' W9 hown hgrow hnil
  have hown' : W9.ownsRow w.heap.size 5 1 v' bs.length (bytesV bs) := by simpa using hown
  obtain ⟨g, cg, rfl, hg, hB9, hcg, -⟩ := BRow.own hown' (by omega)
  have h79 : Later w W9 := ((Below.refl _ w).alloc (Nat.le_refl _) _).grown hgrow (by simp) (by intro k hk; simp [Value.ownBlock] at hk; omega)
  have h7x : Later w (W9.setCell ⟨g, k, none⟩ (.int .u8 x)) := h79.set (p := ⟨g, k, none⟩) hg _
  have hBx := hB9.set (i := k) hk x
  have x5 := hB9.at_ (j := k) hk
  have f5 := hB9.frozen k
  have hcg2 := hB9.room
  have hcx := h7x.cell hck
  rw [hy] at x5
  have H7x := Lib.hid h7x
  have HBx := Lib.hid hBx
  have Hcx := Lib.hid hcx
  clear h7x hBx hcx
  clear hown hown' hgrow hnil h79 hB9 hck HI
  go_upto_region 10 with fail
  generalize W9.setCell ⟨g, k, none⟩ (.int .u8 x) = Wx at *
  clear x5 f5
  have hsD : ∀ W, Ints .u8 W (some ⟨g, 0, none⟩) (bs.set k x) → Calls Try.prog 25 #[.slice (some ⟨g, 0, none⟩) bs.length cg] W fun e w' => e = .returned (.int .u32 (Fp.sum (bs.set k x))) ∧ W = w' := fun W h => by
    have := file_sum (some ⟨g, 0, none⟩) cg (bs.set k x) W h (by rw [HDl.out]; omega) HDb.out
    rwa [HDl.out] at this
  have hsE : ∀ W A c', Ints .u8 W A (bs.set k x ++ [0]) → Calls Try.prog 25 #[.slice A (bs.length + 1) c'] W fun e w' => e = .returned (.int .u32 (Fp.sum (bs.set k x))) ∧ W = w' := fun W A c' h => by
    have := file_sum A c' (bs.set k x ++ [0]) W h (by rw [List.length_append, HDl.out]; simp; omega) (fun y hy => by
      rcases List.mem_append.1 hy with h | h
      · exact HDb.out y h
      · simp at h; omega)
    rwa [List.length_append, HDl.out, HZ.out] at this
  have hS : ∀ W, Later Wx W → W.cell? ⟨b, off + k, none⟩ = some (.int .u8 y) := fun W hW => hW.cell Hcx.out
  have hbx : b < Wx.heap.size := by have := H7x.out.size; omega
  have hgx := HBx.out.lt
  have hcm : cg ≤ maxLen := by unfold maxLen; omega
  have hl9 : ∀ W, Below w.heap.size Wx W → W.cell? ⟨b, off + k, none⟩ = some (.int .u8 y) := fun W hW => (hW.cell (p := ⟨b, off + k, none⟩) hbk).trans Hcx.out
  have hwx := H7x.out.size
  have hBdl := HDl.out
  generalize hDD : bs.set k x = D at *
  generalize hDs : Fp.sum D = sd at *
  have hbd : Later Wx Wx.drew := (Later.refl _).drew
  have hcc := hS _ hbd
  have hbm : Below w.heap.size Wx Wx.drew := Below.mono hbd hwx
  have hB2 := HBx.out.later (show Later Wx (Wx.drew.alloc (.cells #[.int .u8 0] 5)) from (Later.refl Wx).drew.alloc _)
  have hz2' : w.heap.size ≤ (Wx.drew.alloc (.cells #[.int .u8 0] 5)).heap.size := by simp; omega
  have hlD : D.length ≤ 1000000000 := by omega
  have hq2 := Blk.new Wx.drew 5 #[.int .u8 0]
  rw [World.size_drew] at hq2
  have hbm2 := hbm.alloc hwx (.cells #[.int .u8 0] 5)
  have hDi := (HBx.out.later hbd).ints
  have HsD := Lib.hid hsD
  have HsE := Lib.hid hsE
  have HS := Lib.hid hS
  have Hl9 := Lib.hid hl9
  have HB2 := Lib.hid hB2
  have Hq2 := Lib.hid hq2
  have HDi := Lib.hid hDi
  clear hsD hsE hS hl9 hB2 hq2 hDi
  have v0 : IntKind.i64.wrap (k : Int) = k := IntWalk.i64_in _ (by omega)
  have v1 : ((k : Int)).toNat = k := by omega
  by_cases hyx : y = x
  case' pos =>
    have r1 : (y == x) = true := by simp [hyx]
    have r2 : (sd == sm) = true := by simp [HD.out.2 hyx]
  case' neg =>
    have r1 : (y == x) = false := by simp [hyx]
    have r2 : (sd == sm) = false := by simp; exact fun h => hyx (HD.out.1 h)
  all_goals
    clear HD hyx
    go_region_held3 (fun W => W.cell? ⟨b, off + k, none⟩ = some (.int .u8 y)) (first | exact HS.out _ hbd | exact HS.out _ (hbd.alloc _) | exact Hl9.out _ hbe | exact Hl9.out _ hbv | fail)
      (first
        | (go_at_call_of 25 (Value.slice (some ⟨g, 0, none⟩) bs.length cg); refine (HsD.out _ (by first | exact HDi.out | assumption)).mono ?_; rintro e wz ⟨rfl, rfl⟩)
        | (go_at_call 25; refine (HsE.out _ _ _ (by assumption)).mono ?_; rintro e wz ⟨rfl, rfl⟩)
        | (go_at_call 7; refine (awake12 _).mono ?_; rintro e wv ⟨rfl, hv⟩; have hbv := hbe.trans (Below.mono hv (Nat.le_trans hwx hbe.size)))
        | (refine step_append_one _ _ 22 (by rfl) (by first | rfl | (simp [Region.wanted, yielded]; done)) g cg w.heap.size D HB2.out hg hz2' hcm hlD i0 Try.underlying22 hi hz0 hz1 hz2 bs.length HDl.out (by rfl) Wx.heap.size 0 (by rfl) Hq2.out ?_; intro Ae ce we hIe hId hce hbe'; have hbe := hbm2.trans hbe')
        | fail)
    go_wp2_with fail
    go_ret
    exact ⟨rfl, Below.trans H7x.out hbv⟩
set_option maxHeartbeats 400000 in
theorem walkFileSums (w : World) (A : Option Addr) (c : Nat) (bs : List Int) (hl : bs.length ≤ 9223372036854775807) (hI : Ints .u8 w A bs) (hw : ∀ n ∈ bs, (Lit.int .u8 n).wf = true) (a : Int) (ha : (Lit.int .i64 a).wf = true) (x : Int) (hx : (Lit.int .u8 x).wf = true) :
    Calls Try.prog 6 #[.slice A bs.length c, .int .i64 a, .int .u8 x] w fun e w' => e = .returned (.bool true) ∧ Below w.heap.size w w' := by
  by_cases h2 : 1000 < bs.length
  · clear hI hw
    go_enter Try.func6, Try.ntmps6
    go_wp2_with fail
    refine (awake12 _).mono ?_
    rintro e w1 ⟨rfl, h1⟩
    go_wp2_with fail
    go_ret
    exact ⟨rfl, h1⟩
  · by_cases hk : 0 ≤ a ∧ a < bs.length
    · obtain ⟨k, rfl⟩ := Int.eq_ofNat_of_zero_le hk.1
      obtain ⟨b, off, rfl, _, _⟩ := hI 0 (by omega)
      exact fileSums_at w b off c k bs x (by omega) (by omega) hI (byte_of hw) (wf_bd8 hx)
    · have hb := byte_of hw
      have hcv := run_string_of c 22 5 9 Try.underlying22 Try.underlying5 Try.underlying9 hI
      have hs1 := file_sum A c bs w hI (by omega) hb
      have hs2 := ref_sum (strOfNums bs) w (by rw [strOfNums_size]; omega)
      rw [numsOf_str hb] at hs2
      have hsr := Fp.sum_range bs
      have hu : IntKind.u64.wrap (Fp.sum bs) = Fp.sum bs := IntWalk.u64_in _ (by omega)
      have q1 : decide ((1000 : Int) < bs.length) = false := by simp; omega
      have HI := Lib.hid hI
      have Hs1 := Lib.hid hs1
      have Hs2 := Lib.hid hs2
      have Hw := Lib.hid hw
      have Hb := Lib.hid hb
      clear hI hs1 hs2 hw hb
      generalize Fp.sum bs = sm at *
      by_cases h0 : a < 0
      · have q2 : decide (a < 0) = true := by simp [h0]
        clear hk h0
        go_enter Try.func6, Try.ntmps6
        go_wp2_with fail
        refine Hs1.out.mono ?_
        rintro e wz ⟨rfl, rfl⟩
        go_wp2_with fail
        refine Hs2.out.mono ?_
        rintro e wz ⟨rfl, rfl⟩
        clear hcv
        go_wp2_with fail
        refine (awake12 _).mono ?_
        rintro e w5 ⟨rfl, h5⟩
        go_wp2_with fail
        go_ret
        exact ⟨rfl, h5⟩
      · have q2 : decide (a < 0) = false := by simp; omega
        have q3 : decide ((bs.length : Int) ≤ a) = true := by simp; omega
        clear hk h0
        go_enter Try.func6, Try.ntmps6
        go_wp2_with fail
        refine Hs1.out.mono ?_
        rintro e wz ⟨rfl, rfl⟩
        go_wp2_with fail
        refine Hs2.out.mono ?_
        rintro e wz ⟨rfl, rfl⟩
        clear hcv
        go_wp2_with fail
        refine (awake12 _).mono ?_
        rintro e w5 ⟨rfl, h5⟩
        go_wp2_with fail
        go_ret
        exact ⟨rfl, h5⟩
end Go.Proofs.Ytnofeebcmmmlhaa
namespace Go.Proofs.Ytnofeebcmmmlhaa.fileSums
open Go.ChangeShapes Go.WideShapes Go.ChangeAt Go.RowKit
open Go.ChangeMaps (open_string shut_string)

theorem own : ownKnob Try.prog.godebug = none := by kernel_rfl
theorem laidOut : laidOutB Try.prog = true := by kernel_rfl

set_option maxRecDepth 100000 in
theorem lifted (os : Os) (started : os.Started) (H : Type) (enc : TypeId × Value → H) :
    ReturnsInHanded {} Try.checked os 6 .any (Rows.fileSumsSpec.pre6 enc Try.prog Try.f6 Rows.fileSumsRow.domain false) (Rows.fileSumsSpec.post enc Try.prog Try.f6 false true false false) := by
  refine returnsInHanded_of_change (C := Try.checked) own started (by kernel_rfl) Try.func6
    (ChangeSpec.witness6 (enc := enc) (C := Try.checked) false ⟨#[], #[.slice none 0 0, .int .i64 0, .int .u8 0], []⟩ 8 (by kernel_rfl) (by kernel_rfl) (by kernel_rfl) (by kernel_rfl)) ?_
  intro W base args ds gs before hval0 hW hcnd _
  have hval : ∀ (j : Nat) t v, Try.f6.params[j]? = some t → args[j]? = some v → Value.okWide Try.prog W .any base t v := hval0
  have hW' := hW
  obtain ⟨p, q, hA0, hV, rfl, hfz, hnd⟩ := hW
  have hA : DataW.TrodAll enc Try.prog W 0 (fun _ => true) true Try.f6.params.toList args.toList ds p := hA0
  rw [Try.params6] at hA hval
  obtain ⟨v0, vs0, d0, ds0, p0, q0, hargs, rfl, rfl, h0, r0⟩ := trodAll_cons hA
  obtain ⟨v1, vs1, d1, ds1, p1, q1, rfl, rfl, rfl, h1, r1⟩ := trodAll_cons r0
  obtain ⟨v2, vs2, d2, ds2, p2, q2, rfl, rfl, rfl, h2, r2⟩ := trodAll_cons r1
  obtain ⟨rfl, rfl, rfl⟩ := trodAll_nil r2
  obtain rfl : args = #[v0, v1, v2] := by cases args; simp_all
  obtain ⟨rfl, rfl⟩ := trodVars_none hV
  have k0 := h0
  have lt0 : ∀ x ∈ p0, x.block < W.heap.size := by obtain ⟨m, hm⟩ := k0; exact DataW.trod_lt m _ _ _ hm
  have k1 := h1
  have lt1 : ∀ x ∈ p1, x.block < W.heap.size := by obtain ⟨m, hm⟩ := k1; exact DataW.trod_lt m _ _ _ hm
  have k2 := h2
  have lt2 : ∀ x ∈ p2, x.block < W.heap.size := by obtain ⟨m, hm⟩ := k2; exact DataW.trod_lt m _ _ _ hm
  obtain ⟨a0, len0, cap0, rfl⟩ := okWide_slice Try.underlying22 (hval 0 22 v0 rfl rfl)
  obtain ⟨zs0, hlen0, hl0, hI0, hw0⟩ : ∃ ys : List Int, ys.length = len0 ∧ ys.length ≤ 9223372036854775807 ∧ Ints .u8 W a0 ys ∧ ∀ n ∈ ys, (Lit.int .u8 n).wf = true := by
    obtain ⟨fuel, hf⟩ := h0
    rcases open_ints Try.underlying22 Try.underlying5 (by kernel_rfl) hf with ⟨hcs, _⟩ | ⟨x, l, c, zs, hcs, _, hl, hm, hz, _, hcell, hwz⟩
    · simp [Value.cells] at hcs
      obtain ⟨rfl, rfl, rfl⟩ := hcs
      exact ints_came (zs := []) (.inl ⟨rfl, rfl, rfl, rfl⟩)
    · simp [Value.cells] at hcs
      obtain ⟨rfl, rfl, rfl⟩ := hcs
      exact ints_came (.inr ⟨_, rfl, hl, hm, by simpa using hz, hcell, hwz⟩)
  subst hlen0
  obtain ⟨a1, rfl, rfl, rfl, w1⟩ := open_int Try.underlying3 (hval 1 3 v1 rfl rfl) h1
  obtain ⟨a2, rfl, rfl, rfl, w2⟩ := open_int Try.underlying5 (hval 2 5 v2 rfl rfl) h2
  clear hA0 hval0
  refine (walkFileSums W a0 cap0 zs0 hl0 hI0 hw0 a1 w1 a2 w2).mono fun e W' ⟨he, bel⟩ => ?_
  subst he
  exact ⟨_, rfl, _, _, _, [], _, [], hW', trodAll_mk1 (shut_bool Try.underlying4 _), (trodAll_cons_mk (Below.trod laidOut (by kernel_rfl) (of_decide_eq_true (by kernel_rfl)) k0 bel lt0) (trodAll_cons_mk (Below.trod laidOut (by kernel_rfl) (of_decide_eq_true (by kernel_rfl)) k1 bel lt1) (trodAll_cons_mk (Below.trod laidOut (by kernel_rfl) (of_decide_eq_true (by kernel_rfl)) k2 bel lt2) trodAll_mk0))), rfl, bel.frame _, fun h => by cases h⟩

theorem over : Rows.fileSumsRow.holds Try.pinned (OpenSpec.ofChange Rows.fileSumsSpec) :=
  OpenClaim.holds_of_wide 6 Try.f6 rfl rfl rfl rfl rfl rfl rfl ⟨rfl, rfl, rfl, rfl, rfl⟩ rfl rfl rfl rfl rfl (by kernel_rfl) Try.func6 (by kernel_rfl)
    (of_decide_eq_true (by kernel_rfl)) (by unfold Func.isWrapper; first | (rw [if_pos (by decide +kernel)]; kernel_rfl) | (rw [if_neg (by decide +kernel)]; exact ⟨rfl, rfl⟩))
    (fun os started H enc _ => lifted os started H enc)
end Go.Proofs.Ytnofeebcmmmlhaa.fileSums
namespace Go.Proofs.Ytnofeebcmmmlhaa
theorem fileSums_holds : Rows.FileSumsSaid := fileSums.over
#print axioms fileSums_holds
end Go.Proofs.Ytnofeebcmmmlhaa

/- The statement Rows.RootsLowersUptoCardSaid is proved: for every input the law 'athanorlaw21.RootsLowers' returns true, and each argument reads afterwards as it read before. Conditions: those of the row, no others. -/
import Derived.Below
import Derived.ChangeKeysEq
import Derived.ChangeOld
import Derived.Deep.DeepHandedRow
import Derived.JoinedCond
import Derived.LaidMore
import Derived.Lib.LaidTab
import Derived.OpenShut
import Derived.ProofKit
import Derived.SevenTiedAt
import Derived.ShutString
import Derived.Stop.Joined
import Derived.WalkKit
import Derived.Test.YtnffjfjhbjeaiaaGreatDoorCards
import Derived.Test.YtnffjfjhbjeaiaaGreatDoorRows
import Derived.Test.YtnffjfjhbjeaiaaGreatDoorTie
import Derived.Test.YtnffjfjhbjeaiaaGreatDoorZ13
set_option linter.unusedVariables false
/- Layer 21's statement RootsLowers: the walk. -/
namespace Go.Proofs.YtnffjfjhbjeaiaaGreatDoor
open Go.RowKit
theorem pair_stood : Tryz.prog.stoodInHeld 45 = false := by kernel_rfl
theorem pair_guard : Tryz.prog.eqGuardType Tryz.prog.depth 45 = false := by kernel_rfl
theorem run_neq_pair (w : World) (a b : Int) : (binOp .neq 45 (.agg #[.int .i64 a, .int .i64 b]) (.agg #[.int .i64 a, .int .i64 b])).run Tryz.prog w = .ok (.bool false) w := by
  obtain ⟨i0, hi, _, _, _⟩ := info_parts int_info
  have hA := run_equalIn_array (P := Tryz.prog) (w := w) 9999 #[.int .i64 a, .int .i64 b] #[.int .i64 a, .int .i64 b] Tryz.underlying45 hi
  have h1 : Tryz.prog.cellsOf 3 = 1 := by kernel_rfl
  rw [h1] at hA
  have g1 := pair_stood
  have g2 := pair_guard
  simp [go_sem]
  rw [hA]
  rw [show List.range 2 = [0, 1] from rfl]
  clear hA
  simp [Op.eqItems, go_sem]
set_option maxHeartbeats 32000000 in
set_option maxRecDepth 100000 in
theorem walkRootsLowers (w : World) (A N : Option Addr) (c d : Nat) (n : NetD) (la : n.inn.length ≤ c) (lb : c ≤ 9223372036854775807) (lc : n.nodes.length ≤ d) (ld : d ≤ 9223372036854775807) (hR : NetR w A N n) (hf : n.fits)
    (K : Option Addr) (ck : Nat) (keep : List Int) (hK : Ints .i64 w K keep) (lk : keep.length ≤ ck) (lm : ck ≤ 9223372036854775807) (ln : keep.length ≤ 1048576) (hkw : ∀ z ∈ keep, -9223372036854775808 ≤ z ∧ z ≤ 9223372036854775807) :
    Calls Tryz.prog 3 #[.agg #[.slice A n.inn.length c, .slice N n.nodes.length d], .slice K keep.length ck] w fun e w' => e = .returned (.bool true) ∧ Below w.heap.size w w' := by
  have hok := hf.ok
  have hk := Blk.new w 26 #[.slice A n.inn.length c, .slice N n.nodes.length d]
  have hl0 : Later w (w.alloc (.cells #[.slice A n.inn.length c, .slice N n.nodes.length d] 26)) := (Later.refl w).alloc _
  clear hkw lk lm
  have Hok := Lib.hid hok
  have HR := Lib.hid hR
  have Hk := Lib.hid hk
  have Hl0 := Lib.hid hl0
  have Hf := Lib.hid hf
  have HK := Lib.hid hK
  clear hok hR hk hl0 hf hK
  go_enter Tryz.func3, Tryz.ntmps3
  go_wp2_with fail
  generalize w.alloc (.cells #[.slice A n.inn.length c, .slice N n.nodes.length d] 26) = w1 at *
  refine (small_21 A N K c d ck keep.length n w1 Hok.out (HR.out.below Hl0.out (Nat.le_refl _)) ln).mono ?_
  rintro e w2 ⟨b, rfl, hsm, hb2⟩
  have hl2 := Hl0.out.call hb2
  have hk2 := (show Later w1 w2 from hb2).blk Hk.out
  clear hb2 Hk Hl0
  have aw : ∀ W, Later w W → Calls Tryz.prog 7 #[] W fun e w' => e = .returned (.bool true) ∧ Later w w' := fun W h => (awake21 W).mono fun e w' hq => ⟨hq.1, h.call hq.2⟩
  cases b
  · have Hk2 := Lib.hid hk2
    have Hl2 := Lib.hid hl2
    have Haw := Lib.hid aw
    clear hk2 hl2 aw
    clear hsm
    go_wp2_with fail
    refine (Haw.out _ Hl2.out).mono ?_
    rintro e w3 ⟨rfl, hb3⟩
    go_wp2_with fail
    go_ret
    exact ⟨rfl, hb3⟩
  obtain ⟨h12, h300⟩ := hsm rfl
  have x0 := hk2.cell 0
  have x1 := hk2.cell 1
  simp at x0 x1
  have Hk2 := Lib.hid hk2
  have Hl2 := Lib.hid hl2
  have Haw := Lib.hid aw
  clear hk2 hl2 aw
  go_wp2_with fail
  refine (roots_lower A N K c d ck n keep w2 Hok.out (HR.out.below Hl2.out (Nat.le_refl _)) lc h12 (HK.out.below Hl2.out (Nat.le_refl _)) (by omega)).mono ?_
  rintro e w3 ⟨h23, hcase⟩
  have hk3 := h23.blk Hk2.out
  have hl3 := Hl2.out.trans h23
  clear x0 x1
  have x0 := hk3.cell 0
  have x1 := hk3.cell 1
  simp at x0 x1
  by_cases hch : Nt.check n = 0
  rotate_left
  · -- a net that is not right
    rcases hcase with ⟨-, rfl⟩ | ⟨h0, -⟩ | ⟨h0, -⟩
    rotate_left
    · exact absurd h0 hch
    · exact absurd h0 hch
    have Hk3 := Lib.hid hk3
    have Hl3 := Lib.hid hl3
    have Hch := Lib.hid hch
    clear hk3 hl3 hch
    clear h23 Hk2 Hl2
    go_wp2_with fail
    refine (ref_21 A N c d n w3 Hok.out (HR.out.below Hl3.out (Nat.le_refl _))).mono ?_
    rintro e w5 ⟨N1, d1, rfl, hR1, hd1, hd2, hb5⟩
    have hl5 := Hl3.out.call hb5
    have HR1 := Lib.hid hR1
    have Hl5 := Lib.hid hl5
    clear hR1 hl5
    clear hb5
    go_wp2_with fail
    refine (ref11_check A N1 c d1 n w5 Hok.out HR1.out hd1 la lb).mono ?_
    rintro e w6 ⟨hb6, ⟨h0, -⟩ | ⟨-, rfl⟩⟩
    · exact absurd h0 Hch.out
    have hl6 := Hl5.out.call hb6
    have hne : (Nt.check n != 0) = true := by simp [Hch.out]
    have Hl6 := Lib.hid hl6
    clear hl6
    clear hb6 Hch
    generalize Nt.check n = er at *
    go_wp2_with fail
    refine (Haw.out _ Hl6.out).mono ?_
    rintro e wz ⟨rfl, hbz⟩
    go_wp2_with fail
    go_ret
    exact ⟨rfl, hbz⟩
  rcases hcase with ⟨h0, -⟩ | ⟨-, hnb, rfl⟩ | ⟨-, hnb, C, cc, rfl, hP⟩
  · exact absurd hch h0
  · -- a number that is no node's
    have Hk3 := Lib.hid hk3
    have Hl3 := Lib.hid hl3
    have Hch := Lib.hid hch
    have Hnb := Lib.hid hnb
    clear hk3 hl3 hch hnb
    clear h23 Hk2 Hl2
    go_wp2_with fail
    refine (ref_21 A N c d n w3 Hok.out (HR.out.below Hl3.out (Nat.le_refl _))).mono ?_
    rintro e w5 ⟨N1, d1, rfl, hR1, hd1, hd2, hb5⟩
    have hl35 : Later w3 w5 := hb5
    have hl5 := Hl3.out.trans hl35
    have hk5 := hl35.blk Hk3.out
    have HR1 := Lib.hid hR1
    have Hl5 := Lib.hid hl5
    have Hk5 := Lib.hid hk5
    clear hR1 hl5 hk5
    clear hb5 hl35
    go_wp2_with fail
    refine (ref11_check A N1 c d1 n w5 Hok.out HR1.out hd1 la lb).mono ?_
    rintro e w6 ⟨hb6, ⟨-, gx, rfl, -, -⟩ | ⟨h0, -⟩⟩
    rotate_left
    · exact absurd Hch.out h0
    have hl56 : Later w5 w6 := hb6
    have hl6 := Hl5.out.trans hl56
    have hk6 := hl56.blk Hk5.out
    clear x0 x1 hb6 hl56
    have x0 := hk6.cell 0
    have x1 := hk6.cell 1
    simp at x0 x1
    have Hl6 := Lib.hid hl6
    have Hk6 := Lib.hid hk6
    clear hl6 hk6
    go_wp2_with fail
    refine (nodes_21 A N K c d ck n keep w6 (HK.out.below Hl6.out (Nat.le_refl _)) (by omega)).mono ?_
    rintro e w7 ⟨rfl, hb7⟩
    rw [Hnb.out]
    have hl7 := Hl6.out.call hb7
    have Hl7 := Lib.hid hl7
    clear hl7
    clear hb7
    go_wp2_with fail
    refine (Haw.out _ Hl7.out).mono ?_
    rintro e wz ⟨rfl, hbz⟩
    go_wp2_with fail
    go_ret
    exact ⟨rfl, hbz⟩
  · -- lowered
    have hsame := Rt.lowered_same hch keep
    have hlen : (Rt.lowered n keep).code.length ≤ 1000 := by
      rw [Rt.lowered_eq]; exact Rt.bwdN_short hch h12 keep _ (Nat.le_refl _)
    generalize hcd : (Rt.lowered n keep).code = cd at *
    have Hk3 := Lib.hid hk3
    have Hl3 := Lib.hid hl3
    have Hch := Lib.hid hch
    have Hnb := Lib.hid hnb
    have HP := Lib.hid hP
    have Hsame := Lib.hid hsame
    clear hk3 hl3 hch hnb hP hsame
    clear h23 Hk2 Hl2 hcd
    go_wp2_with fail
    refine (ref_21 A N c d n w3 Hok.out (HR.out.below Hl3.out (Nat.le_refl _))).mono ?_
    rintro e w5 ⟨N1, d1, rfl, hR1, hd1, hd2, hb5⟩
    have hl35 : Later w3 w5 := hb5
    have hl5 := Hl3.out.trans hl35
    have hk5 := hl35.blk Hk3.out
    have hP5 := HP.out.later hl35
    have HR1 := Lib.hid hR1
    have Hl5 := Lib.hid hl5
    have Hk5 := Lib.hid hk5
    have HP5 := Lib.hid hP5
    clear hR1 hl5 hk5 hP5
    clear hb5 hl35 HP
    go_wp2_with fail
    refine (ref11_check A N1 c d1 n w5 Hok.out HR1.out hd1 la lb).mono ?_
    rintro e w6 ⟨hb6, ⟨-, gx, rfl, -, -⟩ | ⟨h0, -⟩⟩
    rotate_left
    · exact absurd Hch.out h0
    have hl56 : Later w5 w6 := hb6
    have hl6 := Hl5.out.trans hl56
    have hk6 := hl56.blk Hk5.out
    have hP6 := HP5.out.later hl56
    clear x0 x1 hb6 hl56
    have x0 := hk6.cell 0
    have x1 := hk6.cell 1
    simp at x0 x1
    have Hl6 := Lib.hid hl6
    have Hk6 := Lib.hid hk6
    have HP6 := Lib.hid hP6
    clear hl6 hk6 hP6
    clear HP5 Hk5 Hl5 HR1
    go_wp2_with fail
    refine (nodes_21 A N K c d ck n keep w6 (HK.out.below Hl6.out (Nat.le_refl _)) (by omega)).mono ?_
    rintro e w7 ⟨rfl, hb7⟩
    rw [Hnb.out]
    have hl67 : Later w6 w7 := hb7
    have hl7 := Hl6.out.trans hl67
    have hk7 := hl67.blk Hk6.out
    have hP7 := HP6.out.later hl67
    clear x0 x1 hb7 hl67
    have x0 := hk7.cell 0
    have x1 := hk7.cell 1
    simp at x0 x1
    have Hl7 := Lib.hid hl7
    have Hk7 := Lib.hid hk7
    have HP7 := Lib.hid hP7
    clear hl7 hk7 hP7
    clear HP6 Hk6 Hl6
    go_wp2_with fail
    refine (ref_21 A N c d n w7 Hok.out (HR.out.below Hl7.out (Nat.le_refl _))).mono ?_
    rintro e w8 ⟨N2, d2, rfl, hR2, hd3, hd4, hb8⟩
    have hl78 : Later w7 w8 := hb8
    have hl8 := Hl7.out.trans hl78
    have hP8 := HP7.out.later hl78
    have HR2 := Lib.hid hR2
    have Hl8 := Lib.hid hl8
    have HP8 := Lib.hid hP8
    clear hR2 hl8 hP8
    clear hb8 hl78 HP7 Hk7 Hl7 x0 x1
    go_wp2_with fail
    refine (ref21_lower A N2 K c d2 ck n keep w8 Hok.out Hch.out h12 HR2.out hd3 la lb (HK.out.below Hl8.out (Nat.le_refl _)) (by omega)).mono ?_
    rintro e w9 ⟨C2, cc2, rfl, hP2, hl89⟩
    rw [← Hsame.out] at hP2 ⊢
    have hl9 := Hl8.out.trans hl89
    have hP9 := HP8.out.later hl89
    have hneq := run_neq_pair
    have HP2 := Lib.hid hP2
    have Hl9 := Lib.hid hl9
    have HP9 := Lib.hid hP9
    clear hP2 hl9 hP9
    clear hl89 HP8 Hl8 Hsame
    go_wp2_with fail
    go_loopw [11, 72] (fun _ t wx => ∃ k : Nat, k ≤ cd.length ∧ t = .int .i64 (k : Int) ∧ Later w9 wx) (fun _ t _ => cd.length - (intOf t).toNat)
    case atStart => exact ⟨0, Nat.zero_le _, rfl, Later.refl _⟩
    case round =>
      obtain ⟨k, hk, rfl, hlk⟩ := hrel
      by_cases hlt : k < cd.length
      · obtain ⟨b1, o1, e1, -, c0, c1⟩ := (HP9.out.later hlk) k hlt
        obtain ⟨b2, o2, e2, -, d0, d1⟩ := (HP2.out.later hlk) k hlt
        generalize cd[k] = pk at *
        obtain ⟨kd, id⟩ := pk
        simp only at c0 c1 d0 d1
        have k0 : (0 : Int) ≤ (k : Int) := by omega
        have k1 : (k : Int) < (cd.length : Int) := by omega
        have hl2 := Lib.hid (fun q => hlk.trans (Later.drewN (Later.refl wr) q))
        subst e1 e2
        clear hlk
        go_wp2_with fail
        go_quiet (fail)
        go_wp2_with fail
        go_roundw
        case rel => exact ⟨k + 1, by omega, by go_num, hl2.out _⟩
        case measure => simp [intOf]; omega
      · obtain rfl : k = cd.length := by omega
        have hlz := Hl9.out.trans hlk
        have Hlz := Lib.hid hlz
        clear hlz
        clear hlk
        go_wp2_with fail
        refine (Haw.out _ Hlz.out).mono ?_
        rintro e wz ⟨rfl, hbz⟩
        go_wp2_with fail
        go_ret
        exact ⟨rfl, hbz⟩
end Go.Proofs.YtnffjfjhbjeaiaaGreatDoor
namespace Go.Proofs.YtnffjfjhbjeaiaaGreatDoor.rootsLowers
open Go.ChangeShapes Go.WideShapes Go.ChangeAt Go.RowKit
open Go.ChangeMaps (open_string shut_string)

theorem own : ownKnob Tryz.prog.godebug = none := by kernel_rfl
theorem laidOut : laidOutB Tryz.prog = true := by kernel_rfl

/-- The witness's world: the door's own, the listed variables laid. -/
noncomputable def doorW (os : Os) : World := World.doorLaid Tryz.prog 24 os
theorem laid_met (os : Os) (args : Array Value) : laidMet Tryz.prog Rows.rootsLowersRow.laid ((doorW os).forCall (fun _ _ => 0) ⟨#[], args, []⟩).memory :=
  laidMet_of_run' 8 (by kernel_rfl) (by kernel_rfl)
theorem reads (os : Os) {H : Type} (enc : TypeId × Value → H) : ∃ places, DataW.whole enc Tryz.prog ((doorW os).forCall (fun _ _ => 0) ⟨#[], #[.agg #[.slice none 0 0, .slice none 0 0], .slice none 0 0], []⟩).memory Tryz.f3.params.toList Rows.rootsLowersSpec.vars false #[.agg #[.slice none 0 0, .slice none 0 0], .slice none 0 0].toList 8 = some ([.agg [.nil, .nil], .nil], [], places) :=
  ⟨[], by kernel_rfl⟩

set_option maxRecDepth 100000 in
theorem lifted (os : Os) (started : os.Started) (H : Type) (enc : TypeId × Value → H) (Fi : Stop.Interp) :
    ReturnsInHanded {} Tryz.checked os 3 .any ((Rows.OpenSpec.upto Rows.rootsLowersSpec).preRow enc Tryz.prog Tryz.f3 Rows.rootsLowersUptoRow.domain false Rows.rootsLowersUptoRow.laid) (((Rows.OpenSpec.upto Rows.rootsLowersSpec).at Fi).post enc Tryz.prog Tryz.f3 false true false false) := by
  obtain ⟨places, hx⟩ := reads os enc
  refine returnsInHanded_of_row (C := Tryz.checked) (s := Rows.OpenSpec.upto Rows.rootsLowersSpec) own started (by kernel_rfl) Tryz.func3
    (witness_row_at (enc := enc) (C := Tryz.checked) false (doorW os) #[.agg #[.slice none 0 0, .slice none 0 0], .slice none 0 0] rfl (by kernel_rfl) (by kernel_rfl) (by kernel_rfl)
      (OpenSpec.preRow_of_cond 8 hx (by kernel_rfl) (fun k hk => by cases hk; kernel_rfl) (by kernel_rfl) (laid_met os _))) ?_
  intro W base args ds gs before hval0 hW hcnd hcond _ hL _ _
  have hbulk := hcond _ rfl
  have hval : ∀ (j : Nat) t v, Tryz.f3.params[j]? = some t → args[j]? = some v → Value.okWide Tryz.prog W .any base t v := hval0
  have hW' := hW
  obtain ⟨p, q, hA0, hV, rfl, hfz, hnd⟩ := hW
  have hA : DataW.TrodAll enc Tryz.prog W 0 (fun _ => true) true Tryz.f3.params.toList args.toList ds p := hA0
  rw [Tryz.params3] at hA hval
  obtain ⟨v0, vs0, d0, ds0, p0, q0, hargs, rfl, rfl, h0, r0⟩ := trodAll_cons hA
  obtain ⟨v1, vs1, d1, ds1, p1, q1, rfl, rfl, rfl, h1, r1⟩ := trodAll_cons r0
  obtain ⟨rfl, rfl, rfl⟩ := trodAll_nil r1
  obtain rfl : args = #[v0, v1] := by cases args; simp_all
  obtain ⟨rfl, rfl⟩ := trodVars_none hV
  have hbk : Rows.uptoBulkAll ([d0, d1] ++ []) ≤ 1048576 := of_decide_eq_true hbulk
  have hz0 : Rows.uptoBulk d0 ≤ 1048576 := Nat.le_trans (bulk_part (by simp)) hbk
  have hz1 : Rows.uptoBulk d1 ≤ 1048576 := Nat.le_trans (bulk_part (by simp)) hbk
  have k0 := h0
  have lt0 : ∀ x ∈ p0, x.block < W.heap.size := by obtain ⟨m, hm⟩ := k0; exact DataW.trod_lt m _ _ _ hm
  have k1 := h1
  have lt1 : ∀ x ∈ p1, x.block < W.heap.size := by obtain ⟨m, hm⟩ := k1; exact DataW.trod_lt m _ _ _ hm
  obtain ⟨A0, N0, c10, c20, n0, rfl, la0, lb0, lc0, ld0, hS0, hw0⟩ := net_open (hval 0 26 v0 rfl rfl) h0 hz0
  obtain ⟨a1, len1, cap1, rfl⟩ := okWide_slice Tryz.underlying22 (hval 1 22 v1 rfl rfl)
  obtain ⟨fuel1, hf1⟩ := h1
  obtain ⟨ax1, cx1, zs1, hv1, hI1, hl1, hc1, hn1, hw1⟩ := nums_open Tryz.underlying22 hf1 hz1
  injection hv1 with ea1 el1 ec1
  subst ea1 el1 ec1
  clear hA0 hval0
  refine (walkRootsLowers W A0 N0 c10 c20 n0 la0 lb0 lc0 ld0 hS0 hw0 a1 cap1 zs1 hI1 hl1 hc1 hn1 hw1).mono fun e W' ⟨he, bel⟩ => ?_
  subst he
  exact ⟨_, rfl, _, _, _, [], _, [], hW', trodAll_mk1 (shut_bool Tryz.underlying4 _), (trodAll_cons_mk (Below.trod laidOut (by kernel_rfl) (of_decide_eq_true (by kernel_rfl)) k0 bel lt0) (trodAll_cons_mk (Below.trod laidOut (by kernel_rfl) (of_decide_eq_true (by kernel_rfl)) k1 bel lt1) trodAll_mk0)), rfl, bel.frame _, fun h => by cases h⟩

theorem over : Rows.rootsLowersUptoRow.holds Tryz.pinned (Rows.OpenSpec.upto Rows.rootsLowersSpec) :=
  OpenClaim.holds_of_cond 3 Tryz.f3 rfl rfl rfl rfl rfl rfl rfl ⟨rfl, rfl, rfl, rfl, rfl⟩ rfl rfl rfl rfl rfl (by kernel_rfl) Tryz.func3 (by kernel_rfl)
    (of_decide_eq_true (by kernel_rfl)) (by unfold Func.isWrapper; first | (rw [if_pos (by decide +kernel)]; kernel_rfl) | (rw [if_neg (by decide +kernel)]; exact ⟨rfl, rfl⟩))
    (fun os started H enc _ Fi => by rw [OpenClaim.pre_eq_preRow]; exact lifted os started H enc Fi)
end Go.Proofs.YtnffjfjhbjeaiaaGreatDoor.rootsLowers
namespace Go.Proofs.YtnffjfjhbjeaiaaGreatDoor
open Go
theorem rootsLowers_holds : Rows.RootsLowersUptoCardSaid :=
  Claim7.holds_tied_plain_at .later [] [.data, .data, .data] true Rows.rootsLowersUptoCard.stood.harness false
    rootsLowers.over (fun _ h => by cases h) (by kernel_rfl) (fun _ h => by cases h) rootsLowersUpto_row_tie rfl ⟨rfl, rfl⟩ (by kernel_rfl) rfl
    (fun f fn hf hfn => by
      obtain rfl : f = 3 := Option.some.inj ((show Tryz.prog.funcNamed Rows.rootsLowersUptoRow.func = some 3 by kernel_rfl).symm.trans hf) |>.symm
      obtain rfl : fn = Tryz.f3 := (Option.some.inj (Tryz.func3.symm.trans hfn)).symm
      exact ⟨by kernel_rfl, fun j t ht => by
        rw [Tryz.params3] at ht
        have h3 : Tryz.prog.wantsStandIn t = false := by
          rcases j with _ | _ | j
          · simp at ht; subst ht; exact (show Tryz.prog.wantsStandIn 26 = false by kernel_rfl)
          · simp at ht; subst ht; exact (show Tryz.prog.wantsStandIn 22 = false by kernel_rfl)
          · simp at ht
        exact h3⟩)
    (by kernel_rfl)
#print axioms rootsLowers_holds
end Go.Proofs.YtnffjfjhbjeaiaaGreatDoor

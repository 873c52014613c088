/- The walk of the law CodeParses. -/
import Derived.Test.YtklngiikgnmdeaaDoorAwakeQ
namespace Go.Proofs.YtklngiikgnmdeaaDoor
open Go.RowKit

set_option maxHeartbeats 1600000 in
theorem codeParses_three (w : World) (A : Option Addr) (c : Nat) (zs : List Int) (hl : ¬ 1500 < zs.length) (h3 : zs.length % 3 = 0) (hI : Ints .u8 w A zs) (hw : ∀ n ∈ zs, (Lit.int .u8 n).wf = true) :
    Calls Tryd.prog 4 #[.slice A zs.length c] w fun e w' => e = .returned (.bool true) ∧ Below w.heap.size w w' := by
  have HI := Lib.hid hI
  have HW := Lib.hid hw
  have H3 := Lib.hid h3
  have hb3 : ((zs.length : Int) % 3 != 0) = false := by simp; omega
  have hm : ¬ 65536 < zs.length / 3 := by omega
  have hok := Lib.hid (Cd.parse_ok h3 hm)
  have hbad := Lib.hid (Cd.parse_bad h3 hm)
  clear hI hw h3 hm
  go_enter Tryd.func4, Tryd.ntmps4
  go_wp2_with fail
  refine (code_parse A c zs _ (by omega) HI.out HW.out).mono ?_
  rintro e w1 ⟨A1, c1, rfl, hP1, h1⟩
  have HP1 := Lib.hid hP1
  have hsz := h1.size
  clear hP1
  go_wp2_with fail
  go_loopw [5] (fun i wr => ∃ k : Nat, k ≤ zs.length / 3 ∧ i = .int .i64 (3 * k : Nat) ∧ (∀ j, j < k → Cd.right (Cd.insAt zs j) = true) ∧ Below w1.heap.size w1 wr) (fun i _ => zs.length - (intOf i).toNat)
  case atStart => exact ⟨0, Nat.zero_le _, rfl, by intro j hj; omega, Below.refl _ _⟩
  case round =>
    obtain ⟨k, hk, rfl, hgood, hbel⟩ := hrel
    have HG := Lib.hid hgood
    have hb1 := h1.trans (hbel.mono hsz)
    clear hgood
    by_cases hlt : k < zs.length / 3
    · have hl0 : 3 * k < zs.length := by omega
      have hl1 : 3 * k + 1 < zs.length := by omega
      have hl2 : 3 * k + 2 < zs.length := by omega
      have HA := Lib.hid (show Cd.insAt zs k = (zs.getD (3 * k) 0, zs.getD (3 * k + 1) 0 * 256 + zs.getD (3 * k + 2) 0) from rfl)
      have HW' := HW.out
      have ⟨q0, q1⟩ := wf_bd8 (HW' (zs.getD (3 * k) 0) (by simp [hl0]))
      have ⟨r0, r1⟩ := wf_bd8 (HW' (zs.getD (3 * k + 1) 0) (by simp [hl1]))
      have ⟨s0, s1⟩ := wf_bd8 (HW' (zs.getD (3 * k + 2) 0) (by simp [hl2]))
      obtain ⟨b, off, e0, hb, hc0⟩ := HI.out.below hb1 (Nat.le_refl _) (3 * k) hl0
      obtain ⟨b', off', e1, _, hc1⟩ := HI.out.below hb1 (Nat.le_refl _) (3 * k + 1) hl1
      obtain ⟨b'', off'', e2, _, hc2⟩ := HI.out.below hb1 (Nat.le_refl _) (3 * k + 2) hl2
      subst e0
      injection e1 with e1; injection e1 with e1 e1'; subst e1; subst e1'
      injection e2 with e2; injection e2 with e2 e2'; subst e2; subst e2'
      clear HW'
      generalize zs.getD (3 * k) 0 = x0 at HA q0 q1 hc0
      generalize zs.getD (3 * k + 1) 0 = x1 at HA r0 r1 hc1
      generalize zs.getD (3 * k + 2) 0 = x2 at HA s0 s1 hc2
      generalize hik : 3 * k = i at hl0 hl1 hl2 hc0 hc1 hc2
      have HK := Lib.hid hik
      clear hik
      have i0' : (0 : Int) ≤ (i : Int) := Int.natCast_nonneg _
      have i1 : (i : Int) < (zs.length : Int) := by omega
      have i2 : (0 : Int) ≤ (i : Int) + 1 := by omega
      have i3 : (i : Int) + 1 < (zs.length : Int) := by omega
      have i4 : (0 : Int) ≤ (i : Int) + 2 := by omega
      have i5 : (i : Int) + 2 < (zs.length : Int) := by omega
      have n1 : ((i : Int) + 1).toNat = i + 1 := by omega
      have n2 : ((i : Int) + 2).toNat = i + 2 := by omega
      have v1 : IntKind.i64.wrap ((i : Int) + 1) = (i : Int) + 1 := IntWalk.i64_in _ (by omega)
      have v2 : IntKind.i64.wrap ((i : Int) + 2) = (i : Int) + 2 := IntWalk.i64_in _ (by omega)
      have c0 : IntKind.i64.wrap x0 = x0 := IntWalk.i64_in _ (by omega)
      have c1' : IntKind.i64.wrap x1 = x1 := IntWalk.i64_in _ (by omega)
      have c2 : IntKind.i64.wrap x2 = x2 := IntWalk.i64_in _ (by omega)
      have c3 : IntKind.i64.wrap (x1 * 256) = x1 * 256 := IntWalk.i64_in _ (by omega)
      have c4 : IntKind.i64.wrap (x1 * 256 + x2) = x1 * 256 + x2 := IntWalk.i64_in _ (by omega)
      go_wp2_with fail
      go_quiet ((go_at_call 11; exact quiet_same (ref17_right _ _ _)))
      clear v1 v2 c0 c1' c2 c3 c4 n1 n2
      cases hr : Cd.right (x0, x1 * 256 + x2)
      · have hgl := Cd.group_length zs
        have HC := Lib.hid (Cd.check_form (ps := Cd.group zs) (by omega) (Cd.not_all (k := k) (by omega) (by rw [Cd.group_get, HA.out]; exact hr)))
        have HF := Lib.hid (hbad.out (by rw [HC.out]; decide))
        clear hr hgl
        rw [HF.out, HC.out]
        go_wp2_with fail
        refine (awake17 _).mono ?_
        rintro e w4 ⟨rfl, h4⟩
        go_wp2_with fail
        go_ret
        exact ⟨rfl, (Bdrawn hb1 _).trans (h4.mono hb1.size)⟩
      · have HR := Lib.hid hr
        clear hr
        go_wp2_with fail
        go_roundw
        case rel => exact ⟨k + 1, by omega, by have := HK.out; go_num, fun j hj => by rcases Nat.lt_succ_iff_lt_or_eq.1 hj with h | h; exact HG.out j h; subst h; rw [HA.out]; exact HR.out, Bdrawn hbel _⟩
        case measure => simp [intOf]; omega
    · obtain rfl : k = zs.length / 3 := by omega
      have HK := Lib.hid (show 3 * (zs.length / 3) = zs.length by have := H3.out; omega)
      have hgl := Cd.group_length zs
      have HC := Lib.hid (Cd.check_ok (ps := Cd.group zs) (by omega) (Cd.all_get (fun j hj => by rw [Cd.group_get]; exact HG.out j (by omega))))
      have HF := Lib.hid (hok.out HC.out)
      have HB := Lib.hid ((Cd.bytes_ok HC.out).trans (Cd.flat_group H3.out (fun n hn => wf_bd8 (HW.out n hn))))
      have hgl2 : (Cd.group zs).length ≤ 500 := by omega
      have HGL := Lib.hid (show (((Cd.group zs).length : Nat) : Int) = (zs.length : Int) / 3 by omega)
      replace HP1 := Lib.hid (HP1.out.below hbel (Nat.le_refl _))
      clear hgl
      rw [HF.out] at HP1
      rw [HF.out, HK.out]
      dsimp only at HP1 ⊢
      generalize Cd.group zs = gs at HP1 HC HB hgl2 HGL
      clear HF hok hbad
      go_wp2_with fail
      refine (code_bytes A1 c1 gs _ (by omega) HP1.out).mono ?_
      rintro e w2 ⟨A2, c2, rfl, hI2, h2⟩
      rw [HB.out, HC.out]
      rw [HB.out] at hI2
      have hb2 := hb1.trans (h2.mono hb1.size)
      have hcv1 := run_string_of c2 25 5 9 Tryd.underlying25 Tryd.underlying5 Tryd.underlying9 hI2
      have hcv2 := run_string_of c 25 5 9 Tryd.underlying25 Tryd.underlying5 Tryd.underlying9 (HI.out.below hb2 (Nat.le_refl _))
      have hlg : ((gs.length : Int) == (zs.length : Int) / 3) = true := by rw [HGL.out]; simp
      clear hI2
      go_wp2_with fail
      clear hcv1 hcv2
      refine (awake17 _).mono ?_
      rintro e w4 ⟨rfl, h4⟩
      go_wp2_with fail
      go_ret
      exact ⟨rfl, hb2.trans (h4.mono hb2.size)⟩

set_option maxHeartbeats 800000 in
theorem walkCodeParses (w : World) (A : Option Addr) (c : Nat) (zs : List Int) (hl : zs.length ≤ 9223372036854775807) (hI : Ints .u8 w A zs) (hw : ∀ n ∈ zs, (Lit.int .u8 n).wf = true) :
    Calls Tryd.prog 4 #[.slice A zs.length c] w fun e w' => e = .returned (.bool true) ∧ Below w.heap.size w w' := by
  by_cases h1500 : 1500 < zs.length
  · clear hI hw
    go_enter Tryd.func4, Tryd.ntmps4
    go_wp2_with fail
    refine (awake17 _).mono ?_
    rintro e w1 ⟨rfl, h1⟩
    go_wp2_with fail
    go_ret
    exact ⟨rfl, h1⟩
  · by_cases h3 : zs.length % 3 = 0
    · exact codeParses_three w A c zs h1500 h3 hI hw
    · have HI := Lib.hid hI
      have HW := Lib.hid hw
      have hb3 : ((zs.length : Int) % 3 != 0) = true := by simp; omega
      have HF := Lib.hid (Cd.parse_short h3)
      clear hI hw h3
      go_enter Tryd.func4, Tryd.ntmps4
      go_wp2_with fail
      refine (code_parse A c zs _ (by omega) HI.out HW.out).mono ?_
      rintro e w1 ⟨A1, c1, rfl, hP1, h1⟩
      rw [HF.out]
      clear hP1
      go_wp2_with fail
      refine (awake17 _).mono ?_
      rintro e w4 ⟨rfl, h4⟩
      go_wp2_with fail
      go_ret
      exact ⟨rfl, h1.trans (h4.mono h1.size)⟩
end Go.Proofs.YtklngiikgnmdeaaDoor

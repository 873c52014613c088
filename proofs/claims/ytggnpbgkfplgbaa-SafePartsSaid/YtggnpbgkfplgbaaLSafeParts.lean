/- The walk of the law SafeParts. -/
import Derived.Test.YtggnpbgkfplgbaaAwakeB
namespace Go.Proofs.Ytggnpbgkfplgbaa
open Go.RowKit

set_option maxHeartbeats 800000 in
theorem parts_badA (w : World) (a : Int) (hwa : (Lit.int .i64 a).wf = true) (b : Int) (hwb : (Lit.int .i64 b).wf = true) (A : Option Addr) (c : Nat) (zs : List Int) (hl : zs.length ≤ 9223372036854775807) (hI : Ints .i64 w A zs) (ha : Safe.ok a = false) (h200 : ¬ 200 < zs.length) :
    Calls Try.prog 7 #[.int .i64 a, .int .i64 b, .slice A zs.length c] w fun e w' => e = .returned (.bool true) ∧ Below w.heap.size w w' := by
  have HI := Lib.hid hI
  have hS := Lib.hid (show subS a b = (0, 11) from by simp [subS, ha])
  have hT := Lib.hid (show shareS a b = (0, 0, 11) from by simp [shareS, ha])
  have ⟨ha1, ha2⟩ := wf_bd hwa
  have ⟨hb1, hb2⟩ := wf_bd hwb
  have HA := Lib.hid ha
  clear hI ha hwa hwb
  go_enter Try.func7, Try.ntmps7
  go_wp2_with fail
  refine (ref_right a _).mono ?_
  rintro e w1 ⟨rfl, rfl⟩
  rw [HA.out]
  go_wp2_with fail
  refine (safe_sub a b _).mono ?_
  rintro e w1 ⟨rfl, rfl⟩
  rw [hS.out]
  go_wp2_with fail
  refine (safe_share a b _).mono ?_
  rintro e w1 ⟨rfl, hbel⟩
  rw [hT.out]
  go_wp2_with fail
  go_loop [13, 15, 104] (fun m x i => ∃ k : Nat, k ≤ zs.length ∧ i = .int .i64 k ∧ m = .int .i64 (Safe.max (zs.take k))) (fun _ _ i => zs.length - (intOf i).toNat)
  case atStart => exact ⟨0, Nat.zero_le _, rfl, rfl⟩
  case round =>
    obtain ⟨k, hk, rfl, rfl⟩ := hrel
    by_cases hlt : k < zs.length
    · obtain ⟨b, off, rfl, hb, hc⟩ := HI.out.below hbel (Nat.le_refl _) k hlt
      have HS := Lib.hid (Safe.max_take_succ zs k hlt)
      generalize hm : Safe.max (zs.take k) = m
      rw [hm] at HS
      clear hm
      by_cases hmx : m < zs[k]
      · go_wp2_with fail
        go_round
        case rel => exact ⟨k + 1, by omega, by go_num, by rw [HS.out, if_pos hmx]; exact congrArg _ (by omega)⟩
        case measure => simp [intOf]; omega
      · go_wp2_with fail
        go_round
        case rel => exact ⟨k + 1, by omega, by go_num, by rw [HS.out, if_neg (by omega)]; exact congrArg _ (by omega)⟩
        case measure => simp [intOf]; omega
    · obtain rfl : k = zs.length := by omega
      rw [List.take_length]
      go_wp2_with fail
      refine (safe_max A c zs _ hl (HI.out.below hbel (Nat.le_refl _))).mono ?_
      rintro e w2 ⟨rfl, rfl⟩
      go_wp2_with fail
      refine (safe_right a _).mono ?_
      rintro e w2 ⟨rfl, rfl⟩
      go_wp2_with fail
      refine (ref_right a _).mono ?_
      rintro e w2 ⟨rfl, rfl⟩
      go_wp2_with fail
      refine (awake02 _).mono ?_
      rintro e w3 ⟨rfl, h3⟩
      go_wp2_with fail
      go_ret
      exact ⟨rfl, hbel.trans (h3.mono hbel.size)⟩

set_option maxHeartbeats 800000 in
theorem parts_badB (w : World) (a : Int) (hwa : (Lit.int .i64 a).wf = true) (b : Int) (hwb : (Lit.int .i64 b).wf = true) (A : Option Addr) (c : Nat) (zs : List Int) (hl : zs.length ≤ 9223372036854775807) (hI : Ints .i64 w A zs) (ha : Safe.ok a = true) (hb : Safe.ok b = false) (h200 : ¬ 200 < zs.length) :
    Calls Try.prog 7 #[.int .i64 a, .int .i64 b, .slice A zs.length c] w fun e w' => e = .returned (.bool true) ∧ Below w.heap.size w w' := by
  have HI := Lib.hid hI
  have hS := Lib.hid (show subS a b = (0, 11) from by simp [subS, hb])
  have hT := Lib.hid (show shareS a b = (0, 0, 11) from by simp [shareS, hb])
  have ⟨ha1, ha2⟩ := wf_bd hwa
  have ⟨hb1, hb2⟩ := wf_bd hwb
  have HA := Lib.hid ha
  have ⟨ha3, ha4⟩ := (Safe.ok_iff a).1 ha
  have HB := Lib.hid hb
  clear hI ha hwa hwb hb
  go_enter Try.func7, Try.ntmps7
  go_wp2_with fail
  refine (ref_right a _).mono ?_
  rintro e w1 ⟨rfl, rfl⟩
  rw [HA.out]
  go_wp2_with fail
  refine (ref_right b _).mono ?_
  rintro e w1 ⟨rfl, rfl⟩
  rw [HB.out]
  go_wp2_with fail
  refine (safe_sub a b _).mono ?_
  rintro e w1 ⟨rfl, rfl⟩
  rw [hS.out]
  go_wp2_with fail
  refine (safe_share a b _).mono ?_
  rintro e w1 ⟨rfl, hbel⟩
  rw [hT.out]
  go_wp2_with fail
  go_loop [13, 15, 104] (fun m x i => ∃ k : Nat, k ≤ zs.length ∧ i = .int .i64 k ∧ m = .int .i64 (Safe.max (zs.take k))) (fun _ _ i => zs.length - (intOf i).toNat)
  case atStart => exact ⟨0, Nat.zero_le _, rfl, rfl⟩
  case round =>
    obtain ⟨k, hk, rfl, rfl⟩ := hrel
    by_cases hlt : k < zs.length
    · obtain ⟨b, off, rfl, hb, hc⟩ := HI.out.below hbel (Nat.le_refl _) k hlt
      have HS := Lib.hid (Safe.max_take_succ zs k hlt)
      generalize hm : Safe.max (zs.take k) = m
      rw [hm] at HS
      clear hm
      by_cases hmx : m < zs[k]
      · go_wp2_with fail
        go_round
        case rel => exact ⟨k + 1, by omega, by go_num, by rw [HS.out, if_pos hmx]; exact congrArg _ (by omega)⟩
        case measure => simp [intOf]; omega
      · go_wp2_with fail
        go_round
        case rel => exact ⟨k + 1, by omega, by go_num, by rw [HS.out, if_neg (by omega)]; exact congrArg _ (by omega)⟩
        case measure => simp [intOf]; omega
    · obtain rfl : k = zs.length := by omega
      rw [List.take_length]
      go_wp2_with fail
      refine (safe_max A c zs _ hl (HI.out.below hbel (Nat.le_refl _))).mono ?_
      rintro e w2 ⟨rfl, rfl⟩
      go_wp2_with fail
      refine (safe_right a _).mono ?_
      rintro e w2 ⟨rfl, rfl⟩
      go_wp2_with fail
      refine (ref_right a _).mono ?_
      rintro e w2 ⟨rfl, rfl⟩
      go_wp2_with fail
      refine (awake02 _).mono ?_
      rintro e w3 ⟨rfl, h3⟩
      go_wp2_with fail
      go_ret
      exact ⟨rfl, hbel.trans (h3.mono hbel.size)⟩

set_option maxHeartbeats 800000 in
theorem parts_more (w : World) (a : Int) (hwa : (Lit.int .i64 a).wf = true) (b : Int) (hwb : (Lit.int .i64 b).wf = true) (A : Option Addr) (c : Nat) (zs : List Int) (hl : zs.length ≤ 9223372036854775807) (hI : Ints .i64 w A zs) (ha : Safe.ok a = true) (hb : Safe.ok b = true) (hlt : a < b) (h200 : ¬ 200 < zs.length) :
    Calls Try.prog 7 #[.int .i64 a, .int .i64 b, .slice A zs.length c] w fun e w' => e = .returned (.bool true) ∧ Below w.heap.size w w' := by
  have HI := Lib.hid hI
  have hS := Lib.hid (show subS a b = (0, 17) from by simp [subS, ha, hb, hlt])
  have hT := Lib.hid (show shareS a b = (a / b, a % b, 0) from by simp [shareS, ha, hb]; have := (Safe.ok_iff a).1 ha; omega)
  have ⟨ha1, ha2⟩ := wf_bd hwa
  have ⟨hb1, hb2⟩ := wf_bd hwb
  have HA := Lib.hid ha
  have ⟨ha3, ha4⟩ := (Safe.ok_iff a).1 ha
  have ⟨hb3, hb4⟩ := (Safe.ok_iff b).1 hb
  have HB := Lib.hid hb
  have hq0 : 0 ≤ a / b := Int.ediv_nonneg ha3 hb3
  have hq1 : a / b ≤ a := Int.ediv_le_self _ ha3
  have hr0 : 0 ≤ a % b := Int.emod_nonneg _ (by omega)
  have hr1 : a % b < b := Int.emod_lt_of_pos _ (by omega)
  have hqr : a / b * b + a % b = a := by rw [Int.mul_comm]; exact Int.mul_ediv_add_emod a b
  have hm0 : 0 ≤ a / b * b := Int.mul_nonneg hq0 hb3
  have hm1 : a / b * b ≤ 1099511627776 := by omega
  have HQ : Hid (a / b * b + a % b = a) := hqr
  have hne : (a / b * b + a % b != a) = false := by simp [hqr]
  clear hqr
  clear hI ha hwa hwb hb
  go_enter Try.func7, Try.ntmps7
  go_wp2_with fail
  refine (ref_right a _).mono ?_
  rintro e w1 ⟨rfl, rfl⟩
  rw [HA.out]
  go_wp2_with fail
  refine (ref_right b _).mono ?_
  rintro e w1 ⟨rfl, rfl⟩
  rw [HB.out]
  go_wp2_with fail
  refine (safe_sub a b _).mono ?_
  rintro e w1 ⟨rfl, rfl⟩
  rw [hS.out]
  go_wp2_with fail
  refine (safe_share a b _).mono ?_
  rintro e w1 ⟨rfl, hbel⟩
  rw [hT.out]
  go_wp2_with fail
  go_loop [13, 15, 104] (fun m x i => ∃ k : Nat, k ≤ zs.length ∧ i = .int .i64 k ∧ m = .int .i64 (Safe.max (zs.take k))) (fun _ _ i => zs.length - (intOf i).toNat)
  case atStart => exact ⟨0, Nat.zero_le _, rfl, rfl⟩
  case round =>
    obtain ⟨k, hk, rfl, rfl⟩ := hrel
    by_cases hlt : k < zs.length
    · obtain ⟨b, off, rfl, hb, hc⟩ := HI.out.below hbel (Nat.le_refl _) k hlt
      have HS := Lib.hid (Safe.max_take_succ zs k hlt)
      generalize hm : Safe.max (zs.take k) = m
      rw [hm] at HS
      clear hm
      by_cases hmx : m < zs[k]
      · go_wp2_with fail
        go_round
        case rel => exact ⟨k + 1, by omega, by go_num, by rw [HS.out, if_pos hmx]; exact congrArg _ (by omega)⟩
        case measure => simp [intOf]; omega
      · go_wp2_with fail
        go_round
        case rel => exact ⟨k + 1, by omega, by go_num, by rw [HS.out, if_neg (by omega)]; exact congrArg _ (by omega)⟩
        case measure => simp [intOf]; omega
    · obtain rfl : k = zs.length := by omega
      rw [List.take_length]
      go_wp2_with fail
      refine (safe_max A c zs _ hl (HI.out.below hbel (Nat.le_refl _))).mono ?_
      rintro e w2 ⟨rfl, rfl⟩
      go_wp2_with fail
      refine (safe_right a _).mono ?_
      rintro e w2 ⟨rfl, rfl⟩
      go_wp2_with fail
      refine (ref_right a _).mono ?_
      rintro e w2 ⟨rfl, rfl⟩
      go_wp2_with fail
      refine (awake02 _).mono ?_
      rintro e w3 ⟨rfl, h3⟩
      go_wp2_with fail
      go_ret
      exact ⟨rfl, hbel.trans (h3.mono hbel.size)⟩

set_option maxHeartbeats 800000 in
theorem parts_zero (w : World) (a : Int) (hwa : (Lit.int .i64 a).wf = true) (b : Int) (hwb : (Lit.int .i64 b).wf = true) (A : Option Addr) (c : Nat) (zs : List Int) (hl : zs.length ≤ 9223372036854775807) (hI : Ints .i64 w A zs) (ha : Safe.ok a = true) (hb : Safe.ok b = true) (hlt : ¬ a < b) (hz : b ≤ 0) (h200 : ¬ 200 < zs.length) :
    Calls Try.prog 7 #[.int .i64 a, .int .i64 b, .slice A zs.length c] w fun e w' => e = .returned (.bool true) ∧ Below w.heap.size w w' := by
  have HI := Lib.hid hI
  have hS := Lib.hid (show subS a b = (a - b, 0) from by simp [subS, ha, hb, hlt])
  have hT := Lib.hid (show shareS a b = (0, 0, 11) from by simp [shareS, ha, hb]; have := (Safe.ok_iff b).1 hb; omega)
  have ⟨ha1, ha2⟩ := wf_bd hwa
  have ⟨hb1, hb2⟩ := wf_bd hwb
  have HA := Lib.hid ha
  have ⟨ha3, ha4⟩ := (Safe.ok_iff a).1 ha
  have ⟨hb3, hb4⟩ := (Safe.ok_iff b).1 hb
  have HB := Lib.hid hb
  clear hI ha hwa hwb hb
  go_enter Try.func7, Try.ntmps7
  go_wp2_with fail
  refine (ref_right a _).mono ?_
  rintro e w1 ⟨rfl, rfl⟩
  rw [HA.out]
  go_wp2_with fail
  refine (ref_right b _).mono ?_
  rintro e w1 ⟨rfl, rfl⟩
  rw [HB.out]
  go_wp2_with fail
  refine (safe_sub a b _).mono ?_
  rintro e w1 ⟨rfl, rfl⟩
  rw [hS.out]
  go_wp2_with fail
  refine (safe_share a b _).mono ?_
  rintro e w1 ⟨rfl, hbel⟩
  rw [hT.out]
  go_wp2_with fail
  go_loop [13, 15, 104] (fun m x i => ∃ k : Nat, k ≤ zs.length ∧ i = .int .i64 k ∧ m = .int .i64 (Safe.max (zs.take k))) (fun _ _ i => zs.length - (intOf i).toNat)
  case atStart => exact ⟨0, Nat.zero_le _, rfl, rfl⟩
  case round =>
    obtain ⟨k, hk, rfl, rfl⟩ := hrel
    by_cases hlt : k < zs.length
    · obtain ⟨b, off, rfl, hb, hc⟩ := HI.out.below hbel (Nat.le_refl _) k hlt
      have HS := Lib.hid (Safe.max_take_succ zs k hlt)
      generalize hm : Safe.max (zs.take k) = m
      rw [hm] at HS
      clear hm
      by_cases hmx : m < zs[k]
      · go_wp2_with fail
        go_round
        case rel => exact ⟨k + 1, by omega, by go_num, by rw [HS.out, if_pos hmx]; exact congrArg _ (by omega)⟩
        case measure => simp [intOf]; omega
      · go_wp2_with fail
        go_round
        case rel => exact ⟨k + 1, by omega, by go_num, by rw [HS.out, if_neg (by omega)]; exact congrArg _ (by omega)⟩
        case measure => simp [intOf]; omega
    · obtain rfl : k = zs.length := by omega
      rw [List.take_length]
      go_wp2_with fail
      refine (safe_max A c zs _ hl (HI.out.below hbel (Nat.le_refl _))).mono ?_
      rintro e w2 ⟨rfl, rfl⟩
      go_wp2_with fail
      refine (safe_right a _).mono ?_
      rintro e w2 ⟨rfl, rfl⟩
      go_wp2_with fail
      refine (ref_right a _).mono ?_
      rintro e w2 ⟨rfl, rfl⟩
      go_wp2_with fail
      refine (awake02 _).mono ?_
      rintro e w3 ⟨rfl, h3⟩
      go_wp2_with fail
      go_ret
      exact ⟨rfl, hbel.trans (h3.mono hbel.size)⟩

set_option maxHeartbeats 800000 in
theorem parts_full (w : World) (a : Int) (hwa : (Lit.int .i64 a).wf = true) (b : Int) (hwb : (Lit.int .i64 b).wf = true) (A : Option Addr) (c : Nat) (zs : List Int) (hl : zs.length ≤ 9223372036854775807) (hI : Ints .i64 w A zs) (ha : Safe.ok a = true) (hb : Safe.ok b = true) (hlt : ¬ a < b) (hz : 0 < b) (h200 : ¬ 200 < zs.length) :
    Calls Try.prog 7 #[.int .i64 a, .int .i64 b, .slice A zs.length c] w fun e w' => e = .returned (.bool true) ∧ Below w.heap.size w w' := by
  have HI := Lib.hid hI
  have hS := Lib.hid (show subS a b = (a - b, 0) from by simp [subS, ha, hb, hlt])
  have hT := Lib.hid (show shareS a b = (a / b, a % b, 0) from by simp [shareS, ha, hb]; omega)
  have ⟨ha1, ha2⟩ := wf_bd hwa
  have ⟨hb1, hb2⟩ := wf_bd hwb
  have HA := Lib.hid ha
  have ⟨ha3, ha4⟩ := (Safe.ok_iff a).1 ha
  have ⟨hb3, hb4⟩ := (Safe.ok_iff b).1 hb
  have HB := Lib.hid hb
  have hq0 : 0 ≤ a / b := Int.ediv_nonneg ha3 hb3
  have hq1 : a / b ≤ a := Int.ediv_le_self _ ha3
  have hr0 : 0 ≤ a % b := Int.emod_nonneg _ (by omega)
  have hr1 : a % b < b := Int.emod_lt_of_pos _ (by omega)
  have hqr : a / b * b + a % b = a := by rw [Int.mul_comm]; exact Int.mul_ediv_add_emod a b
  have hm0 : 0 ≤ a / b * b := Int.mul_nonneg hq0 hb3
  have hm1 : a / b * b ≤ 1099511627776 := by omega
  have HQ : Hid (a / b * b + a % b = a) := hqr
  have hne : (a / b * b + a % b != a) = false := by simp [hqr]
  clear hqr
  clear hI ha hwa hwb hb
  go_enter Try.func7, Try.ntmps7
  go_wp2_with fail
  refine (ref_right a _).mono ?_
  rintro e w1 ⟨rfl, rfl⟩
  rw [HA.out]
  go_wp2_with fail
  refine (ref_right b _).mono ?_
  rintro e w1 ⟨rfl, rfl⟩
  rw [HB.out]
  go_wp2_with fail
  refine (safe_sub a b _).mono ?_
  rintro e w1 ⟨rfl, rfl⟩
  rw [hS.out]
  go_wp2_with fail
  refine (safe_share a b _).mono ?_
  rintro e w1 ⟨rfl, hbel⟩
  rw [hT.out]
  go_wp2_with fail
  go_loop [13, 15, 104] (fun m x i => ∃ k : Nat, k ≤ zs.length ∧ i = .int .i64 k ∧ m = .int .i64 (Safe.max (zs.take k))) (fun _ _ i => zs.length - (intOf i).toNat)
  case atStart => exact ⟨0, Nat.zero_le _, rfl, rfl⟩
  case round =>
    obtain ⟨k, hk, rfl, rfl⟩ := hrel
    by_cases hlt : k < zs.length
    · obtain ⟨b, off, rfl, hb, hc⟩ := HI.out.below hbel (Nat.le_refl _) k hlt
      have HS := Lib.hid (Safe.max_take_succ zs k hlt)
      generalize hm : Safe.max (zs.take k) = m
      rw [hm] at HS
      clear hm
      by_cases hmx : m < zs[k]
      · go_wp2_with fail
        go_round
        case rel => exact ⟨k + 1, by omega, by go_num, by rw [HS.out, if_pos hmx]; exact congrArg _ (by omega)⟩
        case measure => simp [intOf]; omega
      · go_wp2_with fail
        go_round
        case rel => exact ⟨k + 1, by omega, by go_num, by rw [HS.out, if_neg (by omega)]; exact congrArg _ (by omega)⟩
        case measure => simp [intOf]; omega
    · obtain rfl : k = zs.length := by omega
      rw [List.take_length]
      go_wp2_with fail
      refine (safe_max A c zs _ hl (HI.out.below hbel (Nat.le_refl _))).mono ?_
      rintro e w2 ⟨rfl, rfl⟩
      go_wp2_with fail
      refine (safe_right a _).mono ?_
      rintro e w2 ⟨rfl, rfl⟩
      go_wp2_with fail
      refine (ref_right a _).mono ?_
      rintro e w2 ⟨rfl, rfl⟩
      go_wp2_with fail
      refine (awake02 _).mono ?_
      rintro e w3 ⟨rfl, h3⟩
      go_wp2_with fail
      go_ret
      exact ⟨rfl, hbel.trans (h3.mono hbel.size)⟩

set_option maxHeartbeats 400000 in
theorem walkSafeParts (w : World) (a : Int) (hwa : (Lit.int .i64 a).wf = true) (b : Int) (hwb : (Lit.int .i64 b).wf = true) (A : Option Addr) (c : Nat) (zs : List Int) (hl : zs.length ≤ 9223372036854775807) (hI : Ints .i64 w A zs) (_hw : ∀ n ∈ zs, (Lit.int .i64 n).wf = true) :
    Calls Try.prog 7 #[.int .i64 a, .int .i64 b, .slice A zs.length c] w fun e w' => e = .returned (.bool true) ∧ Below w.heap.size w w' := by
  by_cases h200 : 200 < zs.length
  · clear hI _hw hwa hwb
    go_enter Try.func7, Try.ntmps7
    go_wp2_with fail
    refine (awake02 _).mono ?_
    rintro e w1 ⟨rfl, h1⟩
    go_wp2_with fail
    go_ret
    exact ⟨rfl, h1⟩
  · cases ha : Safe.ok a
    · exact parts_badA w a hwa b hwb A c zs hl hI ha h200
    · cases hb : Safe.ok b
      · exact parts_badB w a hwa b hwb A c zs hl hI ha hb h200
      · by_cases hlt : a < b
        · exact parts_more w a hwa b hwb A c zs hl hI ha hb hlt h200
        · rcases Int.lt_or_le 0 b with hz | hz
          · exact parts_full w a hwa b hwb A c zs hl hI ha hb hlt hz h200
          · exact parts_zero w a hwa b hwb A c zs hl hI ha hb hlt hz h200
end Go.Proofs.Ytggnpbgkfplgbaa

/- Layer 2 (safe): maxima, differences, shares, and what the reference computes: contracts. -/
import Derived.Test.YtggnpbgkfplgbaaSafe
namespace Go.Proofs.Ytggnpbgkfplgbaa
open Go.RowKit

set_option maxHeartbeats 400000 in
theorem safe_max (A : Option Addr) (c : Nat) (zs : List Int) (w : World) (hl : zs.length ≤ 9223372036854775807) (hI : Ints .i64 w A zs) :
    Calls Try.prog 17 #[.slice A zs.length c] w fun e w' => e = .returned (.int .i64 (Safe.max zs)) ∧ w = w' := by
  have HI := Lib.hid hI
  clear hI
  go_enter Try.func17, Try.ntmps17
  go_wp2_with fail
  go_loop [3, 5, 8] (fun m x i => ∃ k : Nat, k ≤ zs.length ∧ i = .int .i64 k ∧ m = .int .i64 (Safe.max (zs.take k))) (fun _ _ i => zs.length - (intOf i).toNat)
  case atStart => exact ⟨0, Nat.zero_le _, rfl, rfl⟩
  case round =>
    obtain ⟨k, hk, rfl, rfl⟩ := hrel
    by_cases hlt : k < zs.length
    · obtain ⟨b, off, rfl, hb, hc⟩ := HI.out k hlt
      have HS := Lib.hid (Safe.max_take_succ zs k hlt)
      generalize hm : Safe.max (zs.take k) = m
      rw [hm] at HS
      clear hm
      by_cases hmx : m < zs[k]
      · go_wp2_with fail
        go_round
        case rel => exact ⟨k + 1, by omega, by go_num, by rw [HS.out, if_pos hmx]⟩
        case measure => simp [intOf]; omega
      · go_wp2_with fail
        go_round
        case rel => exact ⟨k + 1, by omega, by go_num, by rw [HS.out, if_neg (by omega)]⟩
        case measure => simp [intOf]; omega
    · go_wp2_with fail
      go_ret
      exact ⟨ret_int (by rw [List.take_of_length_le (by omega)]), rfl⟩

def subS (a b : Int) : Int × Int := if Safe.ok a && Safe.ok b then (if b > a then (0, 17) else (a - b, 0)) else (0, 11)
def shareS (a b : Int) : Int × Int × Int := if Safe.ok a && Safe.ok b && b != 0 then (a / b, a % b, 0) else (0, 0, 11)

theorem safe_sub (a b : Int) (w : World) :
    Calls Try.prog 15 #[.int .i64 a, .int .i64 b] w fun e w' => e = .returned (.tuple #[.int .i64 (subS a b).1, .int .i64 (subS a b).2]) ∧ w = w' := by
  cases h1 : Safe.ok a
  · have hfin := Lib.hid (show subS a b = (0, 11) by simp [subS, h1])
    have H1 := Lib.hid h1
    clear h1
    go_enter Try.func15, Try.ntmps15
    go_wp2_with fail
    refine (safe_right a _).mono ?_
    rintro e w' ⟨rfl, rfl⟩
    rw [H1.out]
    go_wp2_with fail
    go_ret2
    exact ⟨by rw [hfin.out]; rfl, rfl⟩
  · cases h2 : Safe.ok b
    · have hfin := Lib.hid (show subS a b = (0, 11) by simp [subS, h2])
      have H1 := Lib.hid h1
      have H2 := Lib.hid h2
      clear h1 h2
      go_enter Try.func15, Try.ntmps15
      go_wp2_with fail
      refine (safe_right a _).mono ?_
      rintro e w' ⟨rfl, rfl⟩
      rw [H1.out]
      go_wp2_with fail
      refine (safe_right b _).mono ?_
      rintro e w' ⟨rfl, rfl⟩
      rw [H2.out]
      go_wp2_with fail
      go_ret2
      exact ⟨by rw [hfin.out]; rfl, rfl⟩
    · have ⟨ha0, ha1⟩ := (Safe.ok_iff a).1 h1
      have ⟨hb0, hb1⟩ := (Safe.ok_iff b).1 h2
      by_cases hlt : a < b
      · have hfin := Lib.hid (show subS a b = (0, 17) by simp [subS, h1, h2, hlt])
        have H1 := Lib.hid h1
        have H2 := Lib.hid h2
        clear h1 h2
        go_enter Try.func15, Try.ntmps15
        go_wp2_with fail
        refine (safe_right a _).mono ?_
        rintro e w' ⟨rfl, rfl⟩
        rw [H1.out]
        go_wp2_with fail
        refine (safe_right b _).mono ?_
        rintro e w' ⟨rfl, rfl⟩
        rw [H2.out]
        go_wp2_with fail
        go_ret2
        exact ⟨by rw [hfin.out]; rfl, rfl⟩
      · have hfin := Lib.hid (show subS a b = (a - b, 0) by simp [subS, h1, h2, hlt])
        have H1 := Lib.hid h1
        have H2 := Lib.hid h2
        clear h1 h2
        go_enter Try.func15, Try.ntmps15
        go_wp2_with fail
        refine (safe_right a _).mono ?_
        rintro e w' ⟨rfl, rfl⟩
        rw [H1.out]
        go_wp2_with fail
        refine (safe_right b _).mono ?_
        rintro e w' ⟨rfl, rfl⟩
        rw [H2.out]
        go_wp2_with fail
        go_ret2
        exact ⟨by rw [hfin.out]; rfl, rfl⟩

theorem safe_share (a b : Int) (w : World) :
    Calls Try.prog 16 #[.int .i64 a, .int .i64 b] w fun e w' => e = .returned (.tuple #[.int .i64 (shareS a b).1, .int .i64 (shareS a b).2.1, .int .i64 (shareS a b).2.2]) ∧ Below w.heap.size w w' := by
  cases h1 : Safe.ok a
  · have hfin := Lib.hid (show shareS a b = (0, 0, 11) by simp [shareS, h1])
    have H1 := Lib.hid h1
    clear h1
    go_enter Try.func16, Try.ntmps16
    go_wp2_with fail
    refine (safe_right a _).mono ?_
    rintro e w' ⟨rfl, rfl⟩
    rw [H1.out]
    go_wp2_with fail
    go_ret3
    exact ⟨by rw [hfin.out]; rfl, Below.refl _ _⟩
  · cases h2 : Safe.ok b
    · have hfin := Lib.hid (show shareS a b = (0, 0, 11) by simp [shareS, h2])
      have H1 := Lib.hid h1
      have H2 := Lib.hid h2
      clear h1 h2
      go_enter Try.func16, Try.ntmps16
      go_wp2_with fail
      refine (safe_right a _).mono ?_
      rintro e w' ⟨rfl, rfl⟩
      rw [H1.out]
      go_wp2_with fail
      refine (safe_right b _).mono ?_
      rintro e w' ⟨rfl, rfl⟩
      rw [H2.out]
      go_wp2_with fail
      go_ret3
      exact ⟨by rw [hfin.out]; rfl, Below.refl _ _⟩
    · have ⟨ha0, ha1⟩ := (Safe.ok_iff a).1 h1
      have ⟨hb0, hb1⟩ := (Safe.ok_iff b).1 h2
      by_cases hz : b = 0
      · subst hz
        have hfin := Lib.hid (show shareS a 0 = (0, 0, 11) by simp [shareS])
        have H1 := Lib.hid h1
        have H2 := Lib.hid h2
        clear h1 h2
        go_enter Try.func16, Try.ntmps16
        go_wp2_with fail
        refine (safe_right a _).mono ?_
        rintro e w' ⟨rfl, rfl⟩
        rw [H1.out]
        go_wp2_with fail
        refine (safe_right 0 _).mono ?_
        rintro e w' ⟨rfl, rfl⟩
        rw [H2.out]
        go_wp2_with fail
        go_ret3
        exact ⟨by rw [hfin.out]; rfl, Below.refl _ _⟩
      · have hfin := Lib.hid (show shareS a b = (a / b, a % b, 0) by simp [shareS, h1, h2, hz])
        have H1 := Lib.hid h1
        have H2 := Lib.hid h2
        have hb2 : 1 ≤ b := by omega
        have hne : (b == 0) = false := by simp [hz]
        have hq0 : 0 ≤ a / b := Int.ediv_nonneg ha0 hb0
        have hq1 : a / b ≤ a := Int.ediv_le_self _ ha0
        clear h1 h2
        go_enter Try.func16, Try.ntmps16
        go_wp2_with fail
        refine (safe_right a _).mono ?_
        rintro e w' ⟨rfl, rfl⟩
        rw [H1.out]
        go_wp2_with fail
        refine (safe_right b _).mono ?_
        rintro e w' ⟨rfl, rfl⟩
        rw [H2.out]
        go_wp2_with fail
        go_quiet (fail)
        go_wp2_with fail
        go_ret3
        exact ⟨by rw [hfin.out]; rfl, Bdrawn (Below.refl _ _) _⟩

theorem ref_right (n : Int) (w : World) :
    Calls Try.prog 14 #[.int .i64 n] w fun e w' => e = .returned (.bool (Safe.ok n)) ∧ w = w' := by
  by_cases h1 : 0 ≤ n
  · by_cases h2 : n ≤ 1099511627776
    · go_enter Try.func14, Try.ntmps14
      go_wp2
      go_ret
      exact ⟨by simp [Safe.ok, h1, h2], rfl⟩
    · go_enter Try.func14, Try.ntmps14
      go_wp2
      go_ret
      exact ⟨by simp [Safe.ok, h1, h2], rfl⟩
  · go_enter Try.func14, Try.ntmps14
    go_wp2
    go_ret
    exact ⟨by simp [Safe.ok]; omega, rfl⟩
end Go.Proofs.Ytggnpbgkfplgbaa

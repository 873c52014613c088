/- Layer 2 (safe): the root: contract. -/
import Derived.Test.YtggnpbgkfplgbaaSafe
import Derived.Test.YtggnpbgkfplgbaaShelf
namespace Go.Proofs.Ytggnpbgkfplgbaa
open Go.RowKit

theorem bitLen_bd : ∀ (f x : Nat), x < 2 ^ f → 0 < x → x < 2 ^ Lib.bitLenAux f x ∧ 1 ≤ Lib.bitLenAux f x ∧ Lib.bitLenAux f x ≤ f
  | 0, x, h, h0 => by simp at h; omega
  | f + 1, x, h, h0 => by
    rw [Lib.bitLenAux, if_neg (by omega)]
    by_cases h1 : x = 1
    · subst h1
      cases f <;> simp [Lib.bitLenAux]
    · have ⟨a, b, c⟩ := bitLen_bd f (x / 2) (by rw [Nat.pow_succ] at h; omega) (by omega)
      refine ⟨?_, by omega, by omega⟩
      rw [Nat.add_comm, Nat.pow_succ]
      omega

theorem root_start (x : Nat) (h0 : 0 < x) (h : x < 2 ^ 63) : (Lib.bitLen x - 1) / 2 ≤ 31 ∧ (x : Int) < (0 + 2 ^ ((Lib.bitLen x - 1) / 2 + 1)) * (0 + 2 ^ ((Lib.bitLen x - 1) / 2 + 1)) ∧ 1 ≤ Lib.bitLen x ∧ Lib.bitLen x ≤ 63 := by
  have e : Lib.bitLen x = Lib.bitLenAux 63 x := Lib.bitLenAux_fuel 63 x h 64 (by omega)
  have ⟨a, b, c⟩ := bitLen_bd 63 x h h0
  rw [e]
  generalize Lib.bitLenAux 63 x = L at a b c
  refine ⟨by omega, ?_, b, c⟩
  rw [Int.zero_add, ← Int.pow_add]
  have : 2 ^ L ≤ 2 ^ ((L - 1) / 2 + 1 + ((L - 1) / 2 + 1)) := Nat.pow_le_pow_right (by omega) (by omega)
  have h3 : x < 2 ^ ((L - 1) / 2 + 1 + ((L - 1) / 2 + 1)) := by omega
  exact_mod_cast h3

def rootBit (j : Nat) : Int := 2 ^ j / 2
theorem rootBit_zero : rootBit 0 = 0 := by decide
theorem rootBit_succ (j : Nat) : rootBit (j + 1) = 2 ^ j := by
  unfold rootBit
  rw [Int.pow_succ]
  omega
theorem rootBit_half (j : Nat) : (2 : Int) ^ j / 2 = rootBit j := rfl
theorem pow_bd (j : Nat) (h : j ≤ 31) : (1 : Int) ≤ 2 ^ j ∧ (2 : Int) ^ j ≤ 2147483648 := by
  have h1 : 2 ^ j ≤ 2 ^ 31 := Nat.pow_le_pow_right (by omega) h
  have h2 : 0 < 2 ^ j := Nat.pow_pos (by omega)
  have e : ((2 ^ j : Nat) : Int) = 2 ^ j := Int.natCast_pow 2 j
  rw [← e]
  omega

theorem root_bd {r n : Int} (h0 : 0 ≤ r) (h : r * r ≤ n) (hn : n ≤ 9223372036854775807) : r ≤ 4294967296 := by
  rcases Int.lt_or_le 4294967296 r with h1 | h1
  · have := Int.mul_le_mul (Int.le_of_lt h1) (Int.le_of_lt h1) (by omega) h0
    omega
  · exact h1

set_option maxHeartbeats 400000 in
theorem safe_isqrt (n : Int) (w : World) (hl : -9223372036854775808 ≤ n) (hh : n ≤ 9223372036854775807) :
    Calls Try.prog 13 #[.int .i64 n] w fun e w' => e = .returned (.int .i64 (Safe.isqrt n)) ∧ w = w' := by
  by_cases hn : n ≤ 0
  · have hfin := Lib.hid (Safe.isqrt_nonpos hn)
    go_enter Try.func13, Try.ntmps13
    go_wp2_with fail
    go_ret
    exact ⟨ret_int (by rw [hfin.out]), rfl⟩
  · have hn1 : 1 ≤ n := by omega
    clear hn
    obtain ⟨x, rfl⟩ := Int.eq_ofNat_of_zero_le (show 0 ≤ n by omega)
    obtain ⟨hm, hx, hL1, hL2⟩ := root_start x (by omega) (by omega)
    have HX := Lib.hid hx
    have HP := Lib.hid (pow_bd _ hm)
    clear hx
    go_enter Try.func13, Try.ntmps13
    go_wp2_with fail
    refine (Try.bits_Len (x : Int) _ (by omega) (by omega)).mono ?_
    rintro e w' ⟨rfl, hw⟩
    obtain rfl := hw.symm
    clear hw
    rw [Int.toNat_natCast]
    generalize Lib.bitLen x = L at HX HP hm hL1 hL2
    go_wp2_with fail
    go_loop [3, 4, 5] (fun r b _ => ∃ (j : Nat) (q : Int), j ≤ 32 ∧ 0 ≤ q ∧ r = .int .i64 q ∧ b = .int .i64 (rootBit j) ∧ q * q ≤ (x : Int) ∧ (x : Int) < (q + 2 ^ j) * (q + 2 ^ j)) (fun _ b _ => (intOf b).toNat)
    case atStart =>
      refine ⟨(L - 1) / 2 + 1, 0, by omega, by omega, rfl, ?_, by omega, HX.out⟩
      rw [rootBit_succ, IntWalk.wrap64_in _ ⟨by have := HP.out; omega, by have := HP.out; omega⟩]
    case round =>
      obtain ⟨j, q, hj, hq, rfl, rfl, h1, h2⟩ := hrel
      have H1 := Lib.hid h1
      have H2 := Lib.hid h2
      have hqb := root_bd hq h1 hh
      clear h1 h2
      rcases j with _ | j
      · rw [rootBit_zero]
        have hfin := Lib.hid (Safe.isqrt_uniq hq H1.out (by simpa using H2.out))
        go_wp2_with fail
        go_ret
        exact ⟨ret_int (by rw [← hfin.out]), rfl⟩
      · have ⟨hp1, hp2⟩ := pow_bd j (by omega)
        have HB := Lib.hid (rootBit_half j)
        rw [rootBit_succ]
        have e2 : (2 : Int) ^ (j + 1) = 2 * 2 ^ j := by rw [Int.pow_succ, Int.mul_comm]
        rw [e2] at H2
        clear e2
        generalize hpe : (2 : Int) ^ j = p at hp1 hp2 HB H2
        have HE := Lib.hid hpe
        clear hpe
        have hd0 : 0 ≤ (x : Int) / (q + p) := Int.ediv_nonneg (by omega) (by omega)
        have hd1 : (x : Int) / (q + p) ≤ 9223372036854775807 := Int.le_trans (Int.ediv_le_self _ (by omega)) hh
        by_cases hle : (q + p) * (q + p) ≤ (x : Int)
        · have hd : q + p ≤ (x : Int) / (q + p) := (Int.le_ediv_iff_mul_le (by omega)).2 hle
          have HL := Lib.hid hle
          clear hle
          go_wp2_with fail
          go_round
          case rel => exact ⟨j, q + p, by omega, by omega, rfl, by rw [HB.out], HL.out, by rw [HE.out]; have := H2.out; rw [show q + p + p = q + 2 * p by omega]; exact this⟩
          case measure => simp [intOf]; omega
        · have hd : (x : Int) / (q + p) < q + p := by
            rcases Int.lt_or_le ((x : Int) / (q + p)) (q + p) with h | h
            · exact h
            · exact absurd ((Int.le_ediv_iff_mul_le (by omega)).1 h) hle
          have HL := Lib.hid hle
          clear hle
          go_wp2_with fail
          go_round
          case rel => exact ⟨j, q, by omega, by omega, rfl, by rw [HB.out], H1.out, by rw [HE.out]; have := HL.out; omega⟩
          case measure => simp [intOf]; omega
end Go.Proofs.Ytggnpbgkfplgbaa

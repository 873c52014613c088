/- The document's bytes (references 12 and 27): contracts. -/
import Derived.Test.YtjgagbhbgehmpaaKeepP
import Derived.WalkSpells
import Derived.BigQuiet
import Derived.Deep.RegionHeld3
namespace Go.Proofs.Ytjgagbhbgehmpaa
open Go.RowKit

/-- A string's bytes as numbers. -/
def numsOf (s : ByteArray) : List Int := s.data.toList.map fun c => (c.toNat : Int)
theorem numsOf_length (s : ByteArray) : (numsOf s).length = s.size := by unfold numsOf; rw [List.length_map]; rfl
theorem numsOf_byte (s : ByteArray) : ∀ x ∈ numsOf s, 0 ≤ x ∧ x ≤ 255 := fun x hx => by
  obtain ⟨c, _, rfl⟩ := List.mem_map.1 hx
  have := c.toNat_lt
  omega
theorem numsOf_str {bs : List Int} (h : ∀ x ∈ bs, 0 ≤ x ∧ x ≤ 255) : numsOf (strOfNums bs) = bs := by
  unfold numsOf strOfNums
  simp only [List.map_map]
  conv => rhs; rw [← List.map_id bs]
  apply List.map_congr_left
  intro x hx
  have := h x hx
  simp only [Function.comp, id, UInt8.toNat_ofNat']
  omega
theorem str_numsOf (s : ByteArray) : strOfNums (numsOf s) = s := by
  unfold numsOf strOfNums
  simp only [List.map_map]
  have : (s.data.toList.map ((fun n : Int => UInt8.ofNat n.toNat) ∘ fun c : UInt8 => (c.toNat : Int))) = s.data.toList := by
    conv => rhs; rw [← List.map_id s.data.toList]
    apply List.map_congr_left
    intro c _
    simp
  rw [this]
theorem numsOf_get (s : ByteArray) (k : Nat) (h : k < s.size) : (numsOf s)[k]'(by rw [numsOf_length]; exact h) = ((s[k]).toNat : Int) := by
  simp [numsOf]; rfl
theorem str_inj {a b : List Int} (ha : ∀ x ∈ a, 0 ≤ x ∧ x ≤ 255) (hb : ∀ x ∈ b, 0 ≤ x ∧ x ≤ 255) (h : strOfNums a = strOfNums b) : a = b := by
  rw [← numsOf_str ha, h, numsOf_str hb]
theorem str_size_le {bs : List Int} {n : Nat} (h : bs.length ≤ n) : (strOfNums bs).size ≤ n := by rw [strOfNums_size]; exact h

theorem run_str1 (W : World) (x : Int) : (convert 30 9 (.slice (some ⟨W.heap.size, 0, none⟩) 1 1)).run Try.prog (W.alloc (.cells #[.int .u8 x] 5)) = .ok (.string (strOfNums [x])) (W.alloc (.cells #[.int .u8 x] 5)) :=
  run_string_of (zs := [x]) 1 30 5 9 Try.underlying30 Try.underlying5 Try.underlying9 (Ints.of_row fun j hj => by obtain rfl : j = 0 := (by simpa using hj); simp)
set_option maxHeartbeats 1000000 in
theorem ref_big (n : Int) (size : Nat) (w : World) (h0 : 0 ≤ n) (h1 : n < 18446744073709551616) (hs : size ≤ 8) :
    Calls Try.prog 15 #[.int .u64 n, .int .i64 size] w fun e w' => e = .returned (.string (strOfNums (Fp.big n size))) ∧ Below w.heap.size w w' := by
  have hcv := run_str1
  have hs1 : ∀ x : Int, (strOfNums [x]).size = 1 := fun _ => rfl
  go_enter Try.func15, Try.ntmps15
  go_wp2_with fail
  go_loopw [0, 5, 6] (fun m s i wr => ∃ (k : Nat) (q : Int) (t : ByteArray), k ≤ size ∧ i = .int .i64 k ∧ m = .int .u64 q ∧ q = n / 256 ^ k ∧ 0 ≤ q ∧ q < 18446744073709551616 ∧ s = .string t ∧ t = strOfNums (Fp.big n k) ∧ t.size ≤ 8 ∧ Below w.heap.size w wr) (fun _ _ i _ => size - (intOf i).toNat)
  case atStart => exact ⟨0, n, _, Nat.zero_le _, rfl, rfl, by simp, h0, h1, rfl, rfl, by simp [ByteArray.size], Below.refl _ _⟩
  case round =>
    obtain ⟨k, q, t, hk, rfl, rfl, hq, hq0, hq1, rfl, ht, hts, hbel⟩ := hrel
    have Hq := Lib.hid hq
    have Ht := Lib.hid ht
    clear hq ht
    by_cases hlt : k < size
    · have hx : IntKind.u8.wrap (q % 256) = q % 256 := by rw [IntKind.wrap_u8']; omega
      have HT := Lib.hid (show strOfNums [q % 256] ++ t = strOfNums (Fp.big n (k + 1)) by rw [Ht.out, ← strOfNums_append, Fp.big, Hq.out]; rfl)
      have HQ := Lib.hid (show q / 256 = n / 256 ^ (k + 1) by rw [Hq.out, Int.ediv_ediv_of_nonneg (Int.pow_nonneg (by decide)), Int.pow_succ])
      have HZ := Lib.hid (show (strOfNums [q % 256] ++ t).size ≤ 8 by rw [HT.out, strOfNums_size, Fp.big_length]; omega)
      go_wp2_with fail
      go_roundw
      case rel => exact ⟨k + 1, q / 256, _, by omega, by go_num, rfl, HQ.out, by omega, by omega, rfl, HT.out, HZ.out, hbel.alloc hbel.size _⟩
      case measure => simp [intOf]; omega
    · obtain rfl : k = size := by omega
      go_wp2_with fail
      go_ret
      exact ⟨by rw [← Ht.out]; rfl, hbel⟩

set_option maxHeartbeats 1000000 in
theorem ref_sum (s : ByteArray) (w : World) (hs : s.size ≤ 1000000000) :
    Calls Try.prog 16 #[.string s] w fun e w' => e = .returned (.int .u64 (Fp.sum (numsOf s))) ∧ w = w' := by
  go_enter Try.func16, Try.ntmps16
  go_wp2_with fail
  go_loopw [3, 4] (fun n i wr => wr = w ∧ ∃ k : Nat, k ≤ s.size ∧ i = .int .i64 k ∧ n = .int .u64 (Fp.sum ((numsOf s).take k))) (fun _ i _ => s.size - (intOf i).toNat)
  case atStart => exact ⟨rfl, 0, Nat.zero_le _, rfl, rfl⟩
  case round =>
    obtain ⟨rfl, k, hk, rfl, rfl⟩ := hrel
    by_cases hlt : k < s.size
    · have hl := numsOf_length s
      have HS := Lib.hid (Fp.sum_step (numsOf s) k (by omega))
      have hg := numsOf_get s k hlt
      rw [hg] at HS
      have hb := (s[k]).toNat_lt
      have ⟨hs0, hs1⟩ := Fp.sum_range ((numsOf s).take k)
      clear hl hg
      generalize Fp.sum ((numsOf s).take k) = sm at *
      have hx0 : (0 : Int) ≤ (s[k].toNat : Int) := by omega
      have hx1 : (s[k].toNat : Int) ≤ 255 := by omega
      have hpr := Int.mul_nonneg (show (0 : Int) ≤ (k : Int) + 1 by omega) hx0
      have hpr2 := Int.mul_le_mul (show (k : Int) + 1 ≤ 1000000000 by omega) hx1 hx0 (by omega)
      go_wp2_with fail
      go_roundw
      case rel => exact ⟨trivial, k + 1, by omega, by go_num, by rw [HS.out]⟩
      case measure => simp [intOf]; omega
    · obtain rfl : k = s.size := by omega
      have HE := Lib.hid (show (numsOf s).take s.size = numsOf s by rw [← numsOf_length, List.take_length])
      go_wp2_with fail
      go_ret
      exact ⟨by rw [HE.out]; rfl, rfl⟩

set_option maxHeartbeats 1000000 in
theorem ref_shape (A : Option Addr) (c : Nat) (zs : List Int) (w : World) (hl : zs.length ≤ 1000000) (hI : Ints .i64 w A zs) :
    Calls Try.prog 47 #[.slice A zs.length c] w fun e w' => e = .returned (.string (strOfNums (Fp.shape zs))) ∧ Below w.heap.size w w' := by
  have HI := Lib.hid hI
  clear hI
  have hu0 : IntKind.u64.wrap (zs.length : Int) = zs.length := IntWalk.u64_in _ (by omega)
  go_enter Try.func47, Try.ntmps47
  go_wp2_with fail
  refine (ref_big zs.length 1 _ (by omega) (by omega) (by omega)).mono ?_
  rintro e w1 ⟨rfl, h1⟩
  go_wp2_with fail
  go_loopw [3, 4] (fun s i wr => ∃ (k : Nat) (t : ByteArray), k ≤ zs.length ∧ i = .int .i64 k ∧ s = .string t ∧ t = strOfNums (Fp.shapeTo zs k) ∧ t.size ≤ 1 + 2 * k ∧ Below w.heap.size w wr) (fun _ i _ => zs.length - (intOf i).toNat)
  case atStart => exact ⟨0, _, Nat.zero_le _, rfl, rfl, by rw [Fp.shapeTo_zero], by rw [strOfNums_size, Fp.big_length]; omega, h1⟩
  case round =>
    clear h1
    obtain ⟨k, t, hk, rfl, rfl, ht, hts, hbel⟩ := hrel
    have Ht := Lib.hid ht
    clear ht
    by_cases hlt : k < zs.length
    · obtain ⟨b, off, rfl, hb, hc⟩ := HI.out.below hbel (Nat.le_refl _) k hlt
      have hu : IntKind.u64.wrap zs[k] = zs[k] % 18446744073709551616 := IntKind.wrap_u64 _
      have HS := Lib.hid (Fp.shapeTo_succ zs k hlt)
      have HL := Lib.hid (Fp.shapeTo_length zs (k + 1) hlt)
      go_wp2_with fail
      refine (ref_big (zs[k] % 18446744073709551616) 2 _ (by omega) (by omega) (by omega)).mono ?_
      rintro e w2 ⟨rfl, h2⟩
      have hb2 := hbel.trans (h2.mono hbel.size)
      rw [Fp.big_wrap _ _ (by omega)]
      have HT := Lib.hid (show t ++ strOfNums (Fp.big zs[k] 2) = strOfNums (Fp.shapeTo zs (k + 1)) by rw [Ht.out, HS.out, strOfNums_append])
      have HZ := Lib.hid (show (t ++ strOfNums (Fp.big zs[k] 2)).size ≤ 1 + 2 * (k + 1) by rw [HT.out, strOfNums_size, HL.out]; omega)
      have hz : (strOfNums (Fp.big zs[k] 2)).size ≤ 2 := str_size_le (by rw [Fp.big_length]; omega)
      clear h2 hbel
      generalize strOfNums (Fp.big zs[k] 2) = t2 at *
      go_wp2_with fail
      go_roundw
      case rel => exact ⟨k + 1, _, by omega, by go_num, rfl, HT.out, HZ.out, hb2⟩
      case measure => simp [intOf]; omega
    · obtain rfl : k = zs.length := by omega
      rw [Fp.shapeTo_all] at Ht
      go_wp2_with fail
      go_ret
      exact ⟨by rw [← Ht.out]; rfl, hbel⟩

set_option maxHeartbeats 1000000 in
theorem ref_cells (A : Option Addr) (c : Nat) (zs : List Int) (w : World) (hl : zs.length ≤ 1000000) (hI : Ints .i64 w A zs) :
    Calls Try.prog 48 #[.slice A zs.length c] w fun e w' => e = .returned (.string (strOfNums (Fp.words zs))) ∧ Below w.heap.size w w' := by
  have HI := Lib.hid hI
  clear hI
  go_enter Try.func48, Try.ntmps48
  go_wp2_with fail
  go_loopw [3, 4] (fun s i wr => ∃ (k : Nat) (t : ByteArray), k ≤ zs.length ∧ i = .int .i64 k ∧ s = .string t ∧ t = strOfNums (Fp.wordsTo zs k) ∧ t.size ≤ 8 * k ∧ Below w.heap.size w wr) (fun _ i _ => zs.length - (intOf i).toNat)
  case atStart => exact ⟨0, _, Nat.zero_le _, rfl, rfl, by rw [Fp.wordsTo_zero]; rfl, by simp [ByteArray.size], Below.refl _ _⟩
  case round =>
    obtain ⟨k, t, hk, rfl, rfl, ht, hts, hbel⟩ := hrel
    have Ht := Lib.hid ht
    clear ht
    by_cases hlt : k < zs.length
    · obtain ⟨b, off, rfl, hb, hc⟩ := HI.out.below hbel (Nat.le_refl _) k hlt
      have hu : IntKind.u64.wrap zs[k] = zs[k] % 18446744073709551616 := IntKind.wrap_u64 _
      have HS := Lib.hid (Fp.wordsTo_succ zs k hlt)
      have HL := Lib.hid (Fp.wordsTo_length zs (k + 1) hlt)
      go_wp2_with fail
      refine (ref_big (zs[k] % 18446744073709551616) 8 _ (by omega) (by omega) (by omega)).mono ?_
      rintro e w2 ⟨rfl, h2⟩
      have hb2 := hbel.trans (h2.mono hbel.size)
      rw [Fp.big_wrap _ _ (by omega)]
      have HT := Lib.hid (show t ++ strOfNums (Fp.big zs[k] 8) = strOfNums (Fp.wordsTo zs (k + 1)) by rw [Ht.out, HS.out, strOfNums_append])
      have HZ := Lib.hid (show (t ++ strOfNums (Fp.big zs[k] 8)).size ≤ 8 * (k + 1) by rw [HT.out, strOfNums_size, HL.out]; omega)
      have hz : (strOfNums (Fp.big zs[k] 8)).size ≤ 8 := str_size_le (by rw [Fp.big_length]; omega)
      clear h2 hbel
      generalize strOfNums (Fp.big zs[k] 8) = t2 at *
      go_wp2_with fail
      go_roundw
      case rel => exact ⟨k + 1, _, by omega, by go_num, rfl, HT.out, HZ.out, hb2⟩
      case measure => simp [intOf]; omega
    · obtain rfl : k = zs.length := by omega
      rw [Fp.wordsTo_all] at Ht
      go_wp2_with fail
      go_ret
      exact ⟨by rw [← Ht.out]; rfl, hbel⟩
end Go.Proofs.Ytjgagbhbgehmpaa

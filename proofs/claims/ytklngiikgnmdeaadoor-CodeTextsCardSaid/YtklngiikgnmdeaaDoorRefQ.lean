/- Layer 17: digits and lines of the reference: contracts. -/
import Derived.Test.YtklngiikgnmdeaaDoorCodeT
import Derived.Deep.RegionHeld3
import Derived.WalkSpells
namespace Go.Proofs.YtklngiikgnmdeaaDoor
open Go.RowKit

theorem one_byte (w : World) (x : Int) : Ints .u8 (w.alloc (.cells #[.int .u8 x] 5)) (some ⟨w.heap.size, 0, none⟩) [x] := by
  refine Ints.of_row fun j hj => ?_
  have hj0 : j = 0 := by simpa using hj
  subst hj0
  rw [Nat.zero_add, (Blk.new w 5 _).cell 0]
  rfl
theorem run_string1 (W : World) (x : Int) : (convert 25 9 (.slice (some ⟨W.heap.size, 0, none⟩) 1 1)).run Tryd.prog (W.alloc (.cells #[.int .u8 x] 5)) = .ok (.string (strOfNums [x])) (W.alloc (.cells #[.int .u8 x] 5)) :=
  run_string_of 1 25 5 9 Tryd.underlying25 Tryd.underlying5 Tryd.underlying9 (one_byte W x)
theorem run_string1_at (W : World) (g : Nat) (x : Int) (h : W.cell? ⟨g, 0, none⟩ = some (.int .u8 x)) : (convert 25 9 (.slice (some ⟨g, 0, none⟩) 1 1)).run Tryd.prog W = .ok (.string (strOfNums [x])) W :=
  run_string_of (zs := [x]) 1 25 5 9 Tryd.underlying25 Tryd.underlying5 Tryd.underlying9 (Ints.of_row fun j hj => by
    have hj0 : j = 0 := by simpa using hj
    subst hj0
    exact h)
theorem dig_small {u : Nat} (h : u < 10) : (⟨(Lib.decDigits u).toArray⟩ : ByteArray) = strOfNums [48 + (u : Int)] := by
  rw [Lib.decDigits, dif_pos h]
  unfold strOfNums
  simp only [List.map_cons, List.map_nil]
  congr 3
theorem dig_big {u : Nat} (h : ¬ u < 10) : (⟨(Lib.decDigits u).toArray⟩ : ByteArray) = ⟨(Lib.decDigits (u / 10)).toArray⟩ ++ strOfNums [48 + (u : Int) % 10] := by
  rw [Lib.decDigits, dif_neg h]
  have e : (strOfNums [48 + (u : Int) % 10]) = ⟨[UInt8.ofNat (48 + u % 10)].toArray⟩ := by
    unfold strOfNums
    simp only [List.map_cons, List.map_nil]
    congr 3
  rw [e, ByteArray.mk_append_mk]

theorem cell_after {w wx : World} {v : Value} {t : TypeId} (h : Below (w.alloc (.cells #[v] t)).drew.heap.size (w.alloc (.cells #[v] t)).drew wx) : wx.cell? ⟨w.heap.size, 0, none⟩ = some v := by
  rw [h.cell (p := ⟨w.heap.size, 0, none⟩) (by simp)]
  simp
theorem cell_afterN (j : Nat) {w wx : World} {cs : Array Value} {t : TypeId} {v : Value} (h : Below (w.alloc (.cells cs t)).drew.heap.size (w.alloc (.cells cs t)).drew wx) (_ : True) (hv : cs[j]? = some v) : wx.cell? ⟨w.heap.size, j, none⟩ = some v := by
  rw [h.cell (p := ⟨w.heap.size, j, none⟩) (by simp)]
  show (w.alloc (.cells cs t)).cell? ⟨w.heap.size, j, none⟩ = some v
  rw [(Blk.new w t cs).cell j, hv]
theorem after1 {w wx : World} {o : Obj} (h : Below w.drew.heap.size w.drew wx) : Below w.heap.size w (wx.alloc o) := (((Below.refl _ w).drew).trans h).alloc h.size o
theorem after2 {w wx : World} {o : Obj} (h : Below (w.alloc o).drew.heap.size (w.alloc o).drew wx) : Below w.heap.size w wx := (((Below.refl _ w).alloc (Nat.le_refl _) o).drew).trans (h.mono (by simp))
def StrPost (l : List UInt8) (w : World) (e : Ending) (w' : World) : Prop := e = .returned (.string ⟨l.toArray⟩) ∧ Below w.heap.size w w'

set_option maxHeartbeats 1600000 in
theorem ref17_digits_nat : ∀ (n u : Nat) (w : World), u ≤ n → u ≤ 9223372036854775807 → Calls Tryd.prog 25 #[.int .i64 u] w (StrPost (Lib.decDigits u) w) := by
  intro n
  induction n with
  | zero =>
    intro u w h hm
    obtain rfl : u = 0 := by omega
    have HD := Lib.hid (dig_small (u := 0) (by decide))
    have hcv := run_string1
    go_enter Tryd.func25, Tryd.ntmps25
    go_wp2_with fail
    go_ret
    exact ⟨by rw [HD.out]; rfl, (Below.refl _ _).alloc (Nat.le_refl _) _⟩
  | succ n ih =>
    intro u w h hm
    by_cases h10 : u < 10
    · have HD := Lib.hid (dig_small h10)
      have HH := Lib.hid ih
      have hcv := run_string1
      clear ih
      go_enter Tryd.func25, Tryd.ntmps25
      go_wp2_with fail
      go_ret
      exact ⟨by rw [HD.out]; rfl, (Below.refl _ _).alloc (Nat.le_refl _) _⟩
    · have HD := Lib.hid (dig_big h10)
      have HH := Lib.hid ih
      have hlen := Lib.itoa_length_le ((u / 10 : Nat) : Int) (by omega) (by omega)
      rw [Lib.itoa_nonneg] at hlen
      clear ih
      have v1 : IntKind.i64.wrap ((u : Int) / 10) = (u : Int) / 10 := IntWalk.i64_in _ (by omega)
      have v2 : (u : Int).tmod 10 = (u : Int) % 10 := Int.tmod_eq_emod_of_nonneg (by omega)
      have v3 : IntKind.i64.wrap (48 + (u : Int) % 10) = 48 + (u : Int) % 10 := IntWalk.i64_in _ (by omega)
      have v4 : IntKind.u8.wrap (48 + (u : Int) % 10) = 48 + (u : Int) % 10 := by rw [IntKind.wrap_u8']; omega
      go_enter Tryd.func25, Tryd.ntmps25
      go_wp2_with fail
      have hsz1 : ∀ x : Int, (strOfNums [x]).size = 1 := fun _ => rfl
      have hsz2 : (⟨(Lib.decDigits (u / 10)).toArray⟩ : ByteArray).size ≤ 21 := by simpa [ByteArray.size] using hlen
      have hcv := run_string1
      have hca : ∀ (W : World) (g : Nat), W.cell? ⟨g, 0, none⟩ = some (.int .u8 (48 + (u : Int) % 10)) → (convert 25 9 (.slice (some ⟨g, 0, none⟩) 1 1)).run Tryd.prog W = .ok (.string (strOfNums [48 + (u : Int) % 10])) W := fun W g h => run_string1_at W g _ h
      go_region_with ((go_at_call 25; rw [show ((u : Int) / 10) = ((u / 10 : Nat) : Int) by omega]; refine (HH.out (u / 10) _ (by omega) (by omega)).mono ?_; rintro e wx ⟨rfl, hbx⟩; try (have hcx := cell_after hbx)))
      all_goals
        go_wp2_with fail
        go_ret
        refine ⟨by rw [HD.out]; rfl, ?_⟩
      all_goals first | exact after1 hbx | exact after2 hbx

set_option maxHeartbeats 800000 in
theorem ref17_digits (n : Int) (h0 : -9223372036854775808 ≤ n) (h1 : n ≤ 9223372036854775807) (w : World) : Calls Tryd.prog 25 #[.int .i64 n] w (StrPost (Lib.itoa n) w) := by
  by_cases hn : n < 0
  · by_cases hmin : n = -9223372036854775808
    · subst hmin
      have HD := Lib.hid (show Lib.itoa (-9223372036854775808) = [45, 57, 50, 50, 51, 51, 55, 50, 48, 51, 54, 56, 53, 52, 55, 55, 53, 56, 48, 56] by simp [Lib.itoa, Lib.decDigits])
      go_enter Tryd.func25, Tryd.ntmps25
      go_wp2_with fail
      go_ret
      exact ⟨by rw [HD.out]; rfl, Below.refl _ _⟩
    · obtain ⟨u, hu⟩ := Int.eq_ofNat_of_zero_le (show 0 ≤ -n by omega)
      have hu1 : 1 ≤ u := by omega
      obtain rfl : n = -(u : Int) := by omega
      have HD := Lib.hid (Lib.itoa_neg u hu1)
      have hlen := Lib.itoa_length_le (u : Int) (by omega) (by omega)
      rw [Lib.itoa_nonneg] at hlen
      have hneb : ((-(u : Int)) == -9223372036854775808) = false := by simp; omega
      have HU := Lib.hid (show -(-(u : Int)) = (u : Int) by omega)
      have hu2 : u ≤ 9223372036854775807 := by omega
      have hsz : (⟨(Lib.decDigits u).toArray⟩ : ByteArray).size ≤ 21 := by simpa [ByteArray.size] using hlen
      clear hu hmin
      go_enter Tryd.func25, Tryd.ntmps25
      go_wp2_with fail
      refine (ref17_digits_nat u u _ (Nat.le_refl _) hu2).mono ?_
      rintro e w1 ⟨rfl, h1⟩
      go_wp2_with fail
      go_ret
      exact ⟨by rw [HD.out]; exact congrArg (fun b => Ending.returned (Value.string b)) (ByteArray.mk_append_mk [45] (Lib.decDigits u)), h1⟩
  · obtain ⟨u, rfl⟩ := Int.eq_ofNat_of_zero_le (show 0 ≤ n by omega)
    rw [Lib.itoa_nonneg]
    exact ref17_digits_nat u u w (Nat.le_refl _) (by omega)

theorem lineOf_in {k id : Int} (l : List UInt8) (h : nameOf k = l) (hl : l ≠ []) : lineOf (k, id) = l ++ tailOf id ++ [10] := by
  subst h; exact lineOf_some hl

theorem line_str (nm it : List UInt8) : Ending.returned (.string ((⟨nm.toArray⟩ : ByteArray) ++ ⟨#[32]⟩ ++ ⟨it.toArray⟩ ++ ⟨#[10]⟩)) = .returned (.string ⟨(nm ++ ([32] ++ it) ++ [10]).toArray⟩) := by
  have e1 : (⟨#[32]⟩ : ByteArray) = ⟨[32].toArray⟩ := rfl
  have e2 : (⟨#[10]⟩ : ByteArray) = ⟨[10].toArray⟩ := rfl
  rw [e1, e2, ByteArray.mk_append_mk, ByteArray.mk_append_mk, ByteArray.mk_append_mk, List.append_assoc nm]
set_option maxHeartbeats 1600000 in
theorem ref17_line (k id : Int) (h0 : -9223372036854775808 ≤ id) (h1 : id ≤ 9223372036854775807) (w : World) : Calls Tryd.prog 18 #[.int .i64 k, .int .i64 id] w (StrPost (lineOf (k, id)) w) := by
  have hil := Lib.itoa_length_le id h0 h1
  have hsz : (⟨(Lib.itoa id).toArray⟩ : ByteArray).size ≤ 21 := by simpa [ByteArray.size] using hil
  by_cases hk1 : k < 1
  · have HF := Lib.hid (lineOf_none (p := (k, id)) (nameOf_out (.inl hk1)))
    go_enter Tryd.func18, Tryd.ntmps18
    go_wp2_with fail
    go_ret
    exact ⟨by rw [HF.out]; rfl, (Below.refl _ _).alloc (Nat.le_refl _) _⟩
  · by_cases hk6 : 6 < k
    · have HF := Lib.hid (lineOf_none (p := (k, id)) (nameOf_out (.inr (by show 7 ≤ k; omega))))
      go_enter Tryd.func18, Tryd.ntmps18
      go_wp2_with fail
      go_ret
      exact ⟨by rw [HF.out]; rfl, (Below.refl _ _).alloc (Nat.le_refl _) _⟩
    · by_cases hid : id = 0
      · subst hid
        have HT := Lib.hid (show tailOf 0 = [] from rfl)
        rcases (show k = 1 ∨ k = 2 ∨ k = 3 ∨ k = 4 ∨ k = 5 ∨ k = 6 by omega) with rfl | rfl | rfl | rfl | rfl | rfl
        · have HF := Lib.hid (lineOf_in (k := 1) (id := 0) [115, 97, 118, 101] rfl (by decide))
          go_enter Tryd.func18, Tryd.ntmps18
          go_wp2_with fail
          go_ret
          exact ⟨by rw [HF.out, HT.out]; rfl, (Below.refl _ _).alloc (Nat.le_refl _) _⟩
        · have HF := Lib.hid (lineOf_in (k := 2) (id := 0) [97, 103, 97, 105, 110] rfl (by decide))
          go_enter Tryd.func18, Tryd.ntmps18
          go_wp2_with fail
          go_ret
          exact ⟨by rw [HF.out, HT.out]; rfl, (Below.refl _ _).alloc (Nat.le_refl _) _⟩
        · have HF := Lib.hid (lineOf_in (k := 3) (id := 0) [102, 114, 101, 101] rfl (by decide))
          go_enter Tryd.func18, Tryd.ntmps18
          go_wp2_with fail
          go_ret
          exact ⟨by rw [HF.out, HT.out]; rfl, (Below.refl _ _).alloc (Nat.le_refl _) _⟩
        · have HF := Lib.hid (lineOf_in (k := 4) (id := 0) [101, 109, 105, 116] rfl (by decide))
          go_enter Tryd.func18, Tryd.ntmps18
          go_wp2_with fail
          go_ret
          exact ⟨by rw [HF.out, HT.out]; rfl, (Below.refl _ _).alloc (Nat.le_refl _) _⟩
        · have HF := Lib.hid (lineOf_in (k := 5) (id := 0) [115, 101, 101, 100] rfl (by decide))
          go_enter Tryd.func18, Tryd.ntmps18
          go_wp2_with fail
          go_ret
          exact ⟨by rw [HF.out, HT.out]; rfl, (Below.refl _ _).alloc (Nat.le_refl _) _⟩
        · have HF := Lib.hid (lineOf_in (k := 6) (id := 0) [98, 97, 99, 107] rfl (by decide))
          go_enter Tryd.func18, Tryd.ntmps18
          go_wp2_with fail
          go_ret
          exact ⟨by rw [HF.out, HT.out]; rfl, (Below.refl _ _).alloc (Nat.le_refl _) _⟩
      · have HT := Lib.hid (show tailOf id = [32] ++ Lib.itoa id by simp [tailOf, hid])
        have hne : (id == 0) = false := by simp [hid]
        clear hid
        rcases (show k = 1 ∨ k = 2 ∨ k = 3 ∨ k = 4 ∨ k = 5 ∨ k = 6 by omega) with rfl | rfl | rfl | rfl | rfl | rfl
        · have HF := Lib.hid (lineOf_in (k := 1) (id := id) [115, 97, 118, 101] rfl (by decide))
          go_enter Tryd.func18, Tryd.ntmps18
          go_wp2_with fail
          have hsz2 : (⟨(Lib.itoa id).toArray⟩ : ByteArray).size ≤ 21 := by simpa [ByteArray.size] using hil
          go_region_with ((go_at_call 25; refine (ref17_digits id h0 h1 _).mono ?_; rintro e wx ⟨rfl, hbx⟩; try (have hcx := cell_afterN 1 hbx trivial rfl)))
          all_goals
            go_wp2_with fail
            go_ret
            exact ⟨by rw [HF.out, HT.out]; exact line_str _ _, after2 hbx⟩
        · have HF := Lib.hid (lineOf_in (k := 2) (id := id) [97, 103, 97, 105, 110] rfl (by decide))
          go_enter Tryd.func18, Tryd.ntmps18
          go_wp2_with fail
          have hsz2 : (⟨(Lib.itoa id).toArray⟩ : ByteArray).size ≤ 21 := by simpa [ByteArray.size] using hil
          go_region_with ((go_at_call 25; refine (ref17_digits id h0 h1 _).mono ?_; rintro e wx ⟨rfl, hbx⟩; try (have hcx := cell_afterN 2 hbx trivial rfl)))
          all_goals
            go_wp2_with fail
            go_ret
            exact ⟨by rw [HF.out, HT.out]; exact line_str _ _, after2 hbx⟩
        · have HF := Lib.hid (lineOf_in (k := 3) (id := id) [102, 114, 101, 101] rfl (by decide))
          go_enter Tryd.func18, Tryd.ntmps18
          go_wp2_with fail
          have hsz2 : (⟨(Lib.itoa id).toArray⟩ : ByteArray).size ≤ 21 := by simpa [ByteArray.size] using hil
          go_region_with ((go_at_call 25; refine (ref17_digits id h0 h1 _).mono ?_; rintro e wx ⟨rfl, hbx⟩; try (have hcx := cell_afterN 3 hbx trivial rfl)))
          all_goals
            go_wp2_with fail
            go_ret
            exact ⟨by rw [HF.out, HT.out]; exact line_str _ _, after2 hbx⟩
        · have HF := Lib.hid (lineOf_in (k := 4) (id := id) [101, 109, 105, 116] rfl (by decide))
          go_enter Tryd.func18, Tryd.ntmps18
          go_wp2_with fail
          have hsz2 : (⟨(Lib.itoa id).toArray⟩ : ByteArray).size ≤ 21 := by simpa [ByteArray.size] using hil
          go_region_with ((go_at_call 25; refine (ref17_digits id h0 h1 _).mono ?_; rintro e wx ⟨rfl, hbx⟩; try (have hcx := cell_afterN 4 hbx trivial rfl)))
          all_goals
            go_wp2_with fail
            go_ret
            exact ⟨by rw [HF.out, HT.out]; exact line_str _ _, after2 hbx⟩
        · have HF := Lib.hid (lineOf_in (k := 5) (id := id) [115, 101, 101, 100] rfl (by decide))
          go_enter Tryd.func18, Tryd.ntmps18
          go_wp2_with fail
          have hsz2 : (⟨(Lib.itoa id).toArray⟩ : ByteArray).size ≤ 21 := by simpa [ByteArray.size] using hil
          go_region_with ((go_at_call 25; refine (ref17_digits id h0 h1 _).mono ?_; rintro e wx ⟨rfl, hbx⟩; try (have hcx := cell_afterN 5 hbx trivial rfl)))
          all_goals
            go_wp2_with fail
            go_ret
            exact ⟨by rw [HF.out, HT.out]; exact line_str _ _, after2 hbx⟩
        · have HF := Lib.hid (lineOf_in (k := 6) (id := id) [98, 97, 99, 107] rfl (by decide))
          go_enter Tryd.func18, Tryd.ntmps18
          go_wp2_with fail
          have hsz2 : (⟨(Lib.itoa id).toArray⟩ : ByteArray).size ≤ 21 := by simpa [ByteArray.size] using hil
          go_region_with ((go_at_call 25; refine (ref17_digits id h0 h1 _).mono ?_; rintro e wx ⟨rfl, hbx⟩; try (have hcx := cell_afterN 6 hbx trivial rfl)))
          all_goals
            go_wp2_with fail
            go_ret
            exact ⟨by rw [HF.out, HT.out]; exact line_str _ _, after2 hbx⟩
end Go.Proofs.YtklngiikgnmdeaaDoor

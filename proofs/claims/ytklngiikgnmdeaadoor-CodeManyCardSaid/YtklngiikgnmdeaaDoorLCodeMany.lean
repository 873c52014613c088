/- The walk of the law CodeMany. -/
import Derived.Test.YtklngiikgnmdeaaDoorAwakeQ
namespace Go.Proofs.YtklngiikgnmdeaaDoor
open Go.RowKit

/-- m pairs, the first k of them of kind 4. -/
def filled (m k : Nat) : List (Int × Int) := List.replicate k (4, 0) ++ List.replicate (m - k) (0, 0)
def filledCells (m k : Nat) : List Value := pairCells (filled m k)
theorem filled_full (m : Nat) : filled m m = List.replicate m (4, 0) := by simp [filled]
theorem made_zero (m : Nat) : (madeCells #[.int .i64 0, .int .i64 0] (m * 2)).toList = filledCells m 0 := by
  apply List.ext_getElem
  · simp [filledCells, filled, pairCells_length, size_madeCells]
  · intro i h1 h2
    have hl : (madeCells #[.int .i64 0, .int .i64 0] (m * 2)).toList.length = m * 2 := by simp [size_madeCells]
    have hi : i / 2 < (filled m 0).length := by simp [filled]; omega
    have ⟨e1, e2⟩ := pairCells_at (filled m 0) (i / 2) hi
    have hv : (filled m 0)[i / 2] = (0, 0) := by simp [filled]
    rw [hv] at e1 e2
    have hr : (filledCells m 0)[i]? = some (.int .i64 0) := by
      rcases Nat.mod_two_eq_zero_or_one i with h | h
      · rw [show i = i / 2 * 2 by omega]; exact e1
      · rw [show i = i / 2 * 2 + 1 by omega]; exact e2
    rw [List.getElem?_eq_getElem h2] at hr
    injection hr with hr
    rw [hr]
    simp only [madeCells, Array.toList_map, List.getElem_map]
    rcases Nat.mod_two_eq_zero_or_one i with h | h <;> simp [h]
theorem filled_set (m k : Nat) (h : k < m) : (filledCells m k).set (k * 2) (.int .i64 4) = filledCells m (k + 1) := by
  unfold filledCells filled
  have e1 : List.replicate (m - k) ((0 : Int), (0 : Int)) = (0, 0) :: List.replicate (m - (k + 1)) (0, 0) := by rw [← List.replicate_succ]; congr 1; omega
  have e2 : List.replicate (k + 1) ((4 : Int), (0 : Int)) = List.replicate k (4, 0) ++ [(4, 0)] := List.replicate_succ'
  rw [e1, e2, pairCells_append, List.append_assoc, pairCells_append, List.set_append_right _ _ (by simp [pairCells_length])]
  simp [pairCells_length, pairCells]
theorem filled_at (m k : Nat) (h : k < m) : (filledCells m k)[k * 2]? = some (.int .i64 0) := by
  have hk : k < (filled m k).length := by simp [filled]; omega
  have ⟨e1, _⟩ := pairCells_at (filled m k) k hk
  have hv : (filled m k)[k] = (0, 0) := by simp [filled, List.getElem_append]
  rw [hv] at e1
  exact e1
theorem check_filled (m : Nat) : Cd.check (List.replicate m (4, 0)) = if 65536 < m then 12 else 0 := by
  unfold Cd.check
  rw [List.length_replicate]
  have : (List.replicate m ((4 : Int), (0 : Int))).all Cd.right = true := by
    rw [List.all_eq_true]
    intro x hx
    rw [List.eq_of_mem_replicate hx]
    rfl
  rw [this]
  rfl

set_option maxHeartbeats 1600000 in
theorem codeMany_some (w : World) (n : Int) (m : Nat) (hnm : n = m) (h1 : 65530 ≤ n) (h2 : n ≤ 65540) :
    Calls Tryd.prog 7 #[.int .i64 n] w fun e w' => e = .returned (.bool true) ∧ Below w.heap.size w w' := by
  obtain ⟨i0, hi, hz0, hz1, hz2⟩ := info_parts instr_info
  have HN := Lib.hid hnm
  have hm : m ≤ 70000 := by omega
  clear hnm
  go_enter Tryd.func7, Tryd.ntmps7
  go_wp2_with (at_make; refine wpList_make_full _ rfl _ _ 23 rfl w.heap.size 30 i0 (.agg #[.int .i64 0, .int .i64 0]) 2 Tryd.underlying23 hi hz0 hz1 _ _ _ _ m rfl rfl HN.out HN.out ?b2 ?b3 (Nat.le_refl _) ?_)
  case b2 => rw [hz2]; omega
  case b3 => unfold maxLen; omega
  intro w2 hown hgrow
  have hb2 : Below w.heap.size w w2 := (Below.refl _ _).grown hgrow (Nat.le_refl _) (by simp)
  replace hown : w2.ownsRow w.heap.size 30 2 (.slice (some ⟨w.heap.size, 0, none⟩) m m) m (filledCells m 0) := by rw [← made_zero]; exact hown
  clear hgrow
  go_wp2_with fail
  go_loopw [4, 18] (fun _ i wr => ∃ k : Nat, k ≤ m ∧ i = .int .i64 k ∧ wr.ownsRow w.heap.size 30 2 (.slice (some ⟨w.heap.size, 0, none⟩) m m) m (filledCells m k) ∧ Below w.heap.size w wr) (fun _ i _ => m - (intOf i).toNat)
  case atStart => exact ⟨0, Nat.zero_le _, rfl, hown, hb2⟩
  case round =>
    clear hown hb2
    obtain ⟨k, hk, rfl, hown, hbel⟩ := hrel
    by_cases hlt : k < m
    · have hc := hown.cellAt (k * 2) (by omega)
      have hf := hown.frozenAt (k * 2)
      have ⟨ho, hg⟩ := hown.stored (k * 2) (.int .i64 4)
      rw [filled_set m k hlt] at ho
      rw [filled_at m k hlt] at hc
      have hb1 := hbel.setCell (p := ⟨w.heap.size, k * 2, none⟩) (Nat.le_refl _) (.int .i64 4)
      clear hg hown
      go_wp2_with fail
      go_roundw
      case rel => exact ⟨k + 1, by omega, by go_num, ho, hb1⟩
      case measure => simp [intOf]; omega
    · obtain rfl : k = m := by omega
      unfold filledCells at hown
      rw [filled_full] at hown
      obtain ⟨A', c', hv, hn, hP⟩ := Pairs.of_own hown
      injection hv with hv1 hv2 hv3
      subst hv1; subst hv3
      have HP := Lib.hid hP
      have HC := Lib.hid (check_filled k)
      have HL := Lib.hid hv2
      have HF := Lib.hid (Cd.flat_length (List.replicate k ((4 : Int), (0 : Int))))
      have hle : (List.replicate k ((4 : Int), (0 : Int))).length ≤ 9223372036854775807 := by omega
      generalize List.replicate k ((4 : Int), (0 : Int)) = ps at HP HC HL HF hle
      clear hown hn hP hv2
      go_wp2_with fail
      have hcall := code_bytes (some ⟨w.heap.size, 0, none⟩) k ps wr hle HP.out
      rw [← HL.out] at hcall
      refine hcall.mono ?_
      rintro e w3 ⟨A3, c3, rfl, hI3, h3⟩
      clear hI3 hcall
      have hb3 := hbel.trans (h3.mono hbel.size)
      have hck2 := code_check (some ⟨w.heap.size, 0, none⟩) k ps w3 hle (HP.out.below h3 (Nat.le_refl _))
      rw [← HL.out] at hck2
      have HCK := Lib.hid hck2
      clear hck2
      by_cases hbig : 65536 < n
      · have hck : Cd.check ps = 12 := by rw [HC.out, if_pos (by have := HN.out; omega)]
        have HB := Lib.hid (Cd.bytes_bad (ps := ps) (by rw [hck]; decide))
        rw [hck] at HCK ⊢
        rw [HB.out]
        clear hck
        go_wp2_with fail
        refine HCK.out.mono ?_
        rintro e w4 ⟨rfl, h4⟩
        have hb4 := hb3.trans (h4.mono hb3.size)
        go_wp2_with fail
        refine (awake17 _).mono ?_
        rintro e w5 ⟨rfl, h5⟩
        go_wp2_with fail
        go_ret
        exact ⟨rfl, hb4.trans (h5.mono hb4.size)⟩
      · have hck : Cd.check ps = 0 := by rw [HC.out, if_neg (by have := HN.out; omega)]
        have HB := Lib.hid (Cd.bytes_ok (ps := ps) hck)
        rw [hck] at HCK ⊢
        rw [HB.out]
        have hlen : (((Cd.flat ps).length : Int) == 3 * n) = true := by
          rw [HF.out, HN.out, ← HL.out]; simp
        clear hck
        generalize (Cd.flat ps).length = q at hlen
        go_wp2_with fail
        refine HCK.out.mono ?_
        rintro e w4 ⟨rfl, h4⟩
        have hb4 := hb3.trans (h4.mono hb3.size)
        go_wp2_with fail
        refine (awake17 _).mono ?_
        rintro e w5 ⟨rfl, h5⟩
        go_wp2_with fail
        go_ret
        exact ⟨rfl, hb4.trans (h5.mono hb4.size)⟩

set_option maxHeartbeats 800000 in
theorem walkCodeMany (w : World) (n : Int) (_hw : (Lit.int .i64 n).wf = true) :
    Calls Tryd.prog 7 #[.int .i64 n] w fun e w' => e = .returned (.bool true) ∧ Below w.heap.size w w' := by
  by_cases h1 : n < 65530
  · clear _hw
    go_enter Tryd.func7, Tryd.ntmps7
    go_wp2_with fail
    refine (awake17 _).mono ?_
    rintro e w1 ⟨rfl, h1⟩
    go_wp2_with fail
    go_ret
    exact ⟨rfl, h1⟩
  · by_cases h2 : 65540 < n
    · clear _hw
      go_enter Tryd.func7, Tryd.ntmps7
      go_wp2_with fail
      refine (awake17 _).mono ?_
      rintro e w1 ⟨rfl, h1⟩
      go_wp2_with fail
      go_ret
      exact ⟨rfl, h1⟩
    · exact codeMany_some w n n.toNat (by omega) (by omega) (by omega)
end Go.Proofs.YtklngiikgnmdeaaDoor

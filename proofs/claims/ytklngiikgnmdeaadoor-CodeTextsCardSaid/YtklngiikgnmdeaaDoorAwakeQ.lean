/- Layer 17's statements: the fixed answer. -/
import Derived.Test.YtklngiikgnmdeaaDoorCodeT
import Derived.Test.YtklngiikgnmdeaaDoorCodeD
namespace Go.Proofs.YtklngiikgnmdeaaDoor
open Go.RowKit

theorem pairs_new (w : World) (ps : List (Int × Int)) (cs : List Value) (h : cs = pairCells ps) : Pairs (w.alloc (.cells cs.toArray 30)) (some ⟨w.heap.size, 0, none⟩) ps := by
  subst h
  intro k hk
  have ⟨e1, e2⟩ := pairCells_at ps k hk
  have hb := Blk.new w 30 (pairCells ps).toArray
  refine ⟨w.heap.size, 0, rfl, by simp, ?_, ?_⟩
  · rw [Nat.zero_add, hb.cell]; simpa using e1
  · rw [Nat.zero_add, hb.cell]; simpa using e2
theorem bytes_new (w : World) (zs : List Int) (cs : List Value) (h : cs = zs.map (.int .u8)) : Ints .u8 (w.alloc (.cells cs.toArray 5)) (some ⟨w.heap.size, 0, none⟩) zs := by
  subst h
  refine Ints.of_row fun j hj => ?_
  rw [Nat.zero_add, (Blk.new w 5 _).cell j]
  simp [hj]
theorem nums_new (w : World) (zs : List Int) (cs : List Value) (h : cs = zs.map (.int .i64)) : Ints .i64 (w.alloc (.cells cs.toArray 3)) (some ⟨w.heap.size, 0, none⟩) zs := by
  subst h
  refine Ints.of_row fun j hj => ?_
  rw [Nat.zero_add, (Blk.new w 3 _).cell j]
  simp [hj]

theorem run_string3 (W : World) (x y z : Int) : (convert 25 9 (.slice (some ⟨W.heap.size, 0, none⟩) 3 3)).run Tryd.prog (W.alloc (.cells #[.int .u8 x, .int .u8 y, .int .u8 z] 5)) = .ok (.string (strOfNums [x, y, z])) (W.alloc (.cells #[.int .u8 x, .int .u8 y, .int .u8 z] 5)) :=
  run_string_of 3 25 5 9 Tryd.underlying25 Tryd.underlying5 Tryd.underlying9 (bytes_new W [x, y, z] _ rfl)
theorem size_string3 (x y z : Int) : (strOfNums [x, y, z]).size = 3 := rfl

set_option maxHeartbeats 1600000 in
theorem awake17 (w : World) : Calls Tryd.prog 8 #[] w fun e w' => e = .returned (.bool true) ∧ Below w.heap.size w w' := by
  go_enter Tryd.func8, Tryd.ntmps8
  go_wp2_with fail
  have hb0 : Below w.heap.size w (w.alloc (.cells #[.int .i64 1, .int .i64 1, .int .i64 4, .int .i64 0] 30)) := (Below.refl _ _).alloc (Nat.le_refl _) _
  have hP := pairs_new w [(1, 1), (4, 0)] _ rfl
  have HP := Lib.hid hP
  have HB := Lib.hid hb0
  clear hP hb0
  refine (code_bytes _ 2 [(1, 1), (4, 0)] _ (by decide) HP.out).mono ?_
  rintro e w1 ⟨A1, c1, rfl, hI1, h1⟩
  replace HP := Lib.hid (HP.out.below h1 (Nat.le_refl _))
  replace HB := Lib.hid (HB.out.trans (h1.mono HB.out.size))
  clear h1
  rw [show Cd.bytes [(1, 1), (4, 0)] = [1, 0, 1, 4, 0, 0] by decide, show Cd.check [(1, 1), (4, 0)] = 0 by decide]
  rw [show Cd.bytes [(1, 1), (4, 0)] = [1, 0, 1, 4, 0, 0] by decide] at hI1
  have HI := Lib.hid hI1
  clear hI1
  go_wp2_with fail
  refine (code_parse A1 c1 [1, 0, 1, 4, 0, 0] _ (by decide) HI.out (by decide)).mono ?_
  rintro e w2 ⟨A2, c2, rfl, hI2, h2⟩
  rw [show Cd.parse [1, 0, 1, 4, 0, 0] = ([(1, 1), (4, 0)], 0) by decide] at hI2 ⊢
  replace HP := Lib.hid (HP.out.below h2 (Nat.le_refl _))
  replace HI := Lib.hid (HI.out.below h2 (Nat.le_refl _))
  replace HB := Lib.hid (HB.out.trans (h2.mono HB.out.size))
  have HP2 := Lib.hid hI2
  clear h2 hI2
  go_wp2_with fail
  refine (code_parse _ 3 [9, 0, 1] _ (by decide) (bytes_new w2 [9, 0, 1] _ rfl) (by decide)).mono ?_
  rintro e w3 ⟨A3, c3, rfl, hI3, h3⟩
  rw [show Cd.parse [9, 0, 1] = ([], 10) by decide]
  replace h3 : Below w2.heap.size w2 w3 := ((Below.refl _ _).alloc (Nat.le_refl _) _).trans (h3.mono (by simp))
  replace HP := Lib.hid (HP.out.below h3 (Nat.le_refl _))
  replace HP2 := Lib.hid (HP2.out.below h3 (Nat.le_refl _))
  replace HI := Lib.hid (HI.out.below h3 (Nat.le_refl _))
  replace HB := Lib.hid (HB.out.trans (h3.mono HB.out.size))
  clear h3 hI3
  go_wp2_with fail
  have h4a : Below w3.heap.size w3 (w3.alloc (.cells #[.int .i64 0, .int .i64 7] 3)) := (Below.refl _ _).alloc (Nat.le_refl _) _
  refine (code_cost _ 2 [(1, 1), (4, 0)] _ 2 [0, 7] _ (by decide) (HP.out.below h4a (Nat.le_refl _)) (by decide) (nums_new w3 [0, 7] _ rfl)).mono ?_
  rintro e w4 ⟨rfl, h4⟩
  replace h4 : Below w3.heap.size w3 w4 := h4a.trans (h4.mono (by simp))
  rw [show Cd.costs [(1, 1), (4, 0)] [0, 7] = (7, 0) by decide]
  replace HP := Lib.hid (HP.out.below h4 (Nat.le_refl _))
  replace HP2 := Lib.hid (HP2.out.below h4 (Nat.le_refl _))
  replace HI := Lib.hid (HI.out.below h4 (Nat.le_refl _))
  replace HB := Lib.hid (HB.out.trans (h4.mono HB.out.size))
  clear h4 h4a
  have hcv : (convert 25 9 (.slice A1 6 c1)).run Tryd.prog w4 = .ok (.string ⟨#[1, 0, 1, 4, 0, 0]⟩) w4 := run_string_of c1 25 5 9 Tryd.underlying25 Tryd.underlying5 Tryd.underlying9 HI.out
  go_wp2_with fail
  clear hcv
  refine (code_equal A2 c2 [(1, 1), (4, 0)] _ 2 [(1, 1), (4, 0)] _ (by decide) HP2.out HP.out).mono ?_
  rintro e w5 ⟨rfl, h5⟩
  rw [show decide ([((1 : Int), (1 : Int)), (4, 0)] = [(1, 1), (4, 0)]) = true by decide]
  replace HP := Lib.hid (HP.out.below h5 (Nat.le_refl _))
  replace HB := Lib.hid (HB.out.trans (h5.mono HB.out.size))
  clear h5 HP2 HI
  go_wp2_with fail
  refine (code_text _ 2 [(1, 1), (4, 0)] _ (by decide) HP.out (by decide) ?_).mono ?_
  · intro p hp w' _
    simp only [List.mem_cons, List.mem_nil_iff, or_false] at hp
    rcases hp with rfl | rfl
    · refine (Tryd.strconv_Itoa_small 1 (by decide) w').mono ?_
      rintro e w'' ⟨rfl, rfl⟩
      exact ⟨rfl, Below.refl _ _⟩
    · refine (Tryd.strconv_Itoa_small 0 (by decide) w').mono ?_
      rintro e w'' ⟨rfl, rfl⟩
      exact ⟨rfl, Below.refl _ _⟩
  rintro e w6 ⟨rfl, h6⟩
  rw [show textOf [(1, 1), (4, 0)] = [115, 97, 118, 101, 32, 49, 10, 101, 109, 105, 116, 10] by simp [textOf, lineOf, nameOf, tailOf, Lib.itoa, Lib.decDigits]]
  replace HP := Lib.hid (HP.out.below h6 (Nat.le_refl _))
  replace HB := Lib.hid (HB.out.trans (h6.mono HB.out.size))
  clear h6
  go_wp2_with fail
  refine (code_count _ 2 [(1, 1), (4, 0)] 4 _ (by decide) HP.out).mono ?_
  rintro e w7 ⟨rfl, h7⟩
  rw [show Cd.count 4 [(1, 1), (4, 0)] = 1 by decide]
  replace HB := Lib.hid (HB.out.trans (h7.mono HB.out.size))
  clear h7
  go_wp2_with fail
  go_ret
  exact ⟨rfl, HB.out⟩
end Go.Proofs.YtklngiikgnmdeaaDoor

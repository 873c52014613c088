/- Layer 2's statements: the fixed answer. -/
import Derived.Test.YtggnpbgkfplgbaaSafeB
import Derived.Test.YtggnpbgkfplgbaaSafeC
import Derived.Test.YtggnpbgkfplgbaaSafeD
namespace Go.Proofs.Ytggnpbgkfplgbaa
open Go.RowKit

theorem isqrt15 : Safe.isqrt 15 = 3 := (Safe.isqrt_uniq (n := 15) (k := 3) (by decide) (by decide) (by decide)).symm

theorem ints_new (w : World) (zs : List Int) (cs : List Value) (h : cs = zs.map (.int .i64)) : Ints .i64 (w.alloc (.cells cs.toArray 3)) (some ⟨w.heap.size, 0, none⟩) zs := by
  subst h
  refine Ints.of_row fun j hj => ?_
  rw [Nat.zero_add, (Blk.new w 3 _).cell j]
  simp [hj]

set_option maxHeartbeats 800000 in
theorem awake02 (w : World) : Calls Try.prog 8 #[] w fun e w' => e = .returned (.bool true) ∧ Below w.heap.size w w' := by
  go_enter Try.func8, Try.ntmps8
  go_wp2_with fail
  refine (safe_add _ 3 [1, 2, 3] _ (by decide) (ints_new w [1, 2, 3] _ rfl)).mono ?_
  rintro e w1 ⟨rfl, h1⟩
  have hb1 : Below w.heap.size w w1 := ((Below.refl _ _).alloc (Nat.le_refl _) _).trans (h1.mono (by simp))
  clear h1
  rw [show Safe.add [1, 2, 3] = (6, 0) by decide]
  go_wp2_with fail
  refine (safe_mul _ 4 [1024, 1024, 1024, 1024] _ (by decide) (ints_new w1 [1024, 1024, 1024, 1024] _ rfl)).mono ?_
  rintro e w2 ⟨rfl, h2⟩
  have hb2 : Below w.heap.size w w2 := (hb1.alloc hb1.size _).trans (h2.mono (by have := hb1.size; simp; omega))
  clear h2 hb1
  rw [show Safe.mul [1024, 1024, 1024, 1024] = (1099511627776, 0) by decide]
  go_wp2_with fail
  refine (safe_mul _ 2 [2097152, 1048576] _ (by decide) (ints_new w2 [2097152, 1048576] _ rfl)).mono ?_
  rintro e w3 ⟨rfl, h3⟩
  have hb3 : Below w.heap.size w w3 := (hb2.alloc hb2.size _).trans (h3.mono (by have := hb2.size; simp; omega))
  clear h3 hb2
  rw [show Safe.mul [2097152, 1048576] = (0, 17) by decide]
  go_wp2_with fail
  refine (safe_add _ 1 [-1] _ (by decide) (ints_new w3 [-1] _ rfl)).mono ?_
  rintro e w4 ⟨rfl, h4⟩
  have hb4 : Below w.heap.size w w4 := (hb3.alloc hb3.size _).trans (h4.mono (by have := hb3.size; simp; omega))
  clear h4 hb3
  rw [show Safe.add [-1] = (0, 11) by decide]
  go_wp2_with fail
  refine (safe_isqrt 15 _ (by decide) (by decide)).mono ?_
  rintro e w5 ⟨rfl, rfl⟩
  rw [isqrt15]
  go_wp2_with fail
  refine (safe_max _ 3 [3, 9, 2] _ (by decide) (ints_new w4 [3, 9, 2] _ rfl)).mono ?_
  rintro e w6 ⟨rfl, rfl⟩
  rw [show Safe.max [3, 9, 2] = 9 by decide]
  go_wp2_with fail
  go_ret
  exact ⟨rfl, hb4.alloc hb4.size _⟩
end Go.Proofs.Ytggnpbgkfplgbaa

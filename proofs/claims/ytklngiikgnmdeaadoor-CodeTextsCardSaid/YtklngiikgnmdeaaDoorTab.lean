/- The table of powers of ten, as the row lays it: Itoa's contract in every world above. -/
import Derived.Test.YtklngiikgnmdeaaDoorRows
import Derived.Test.YtklngiikgnmdeaaDoorCodeT
import Derived.LaidSub
import Derived.MakeChecks
import Derived.Lib.LaidTab
namespace Go.Proofs.YtklngiikgnmdeaaDoor
open Go.RowKit Go.Sort

def powTab (w : World) : Prop := Lib.TabIs Tryd.prog w "internal/strconv.uint64pow10" .u64 Lib.pow10Tab
theorem pow_named : Tryd.prog.globalNamed "internal/strconv.uint64pow10" = some 0 := by kernel_rfl
theorem pow_typed : (Tryd.prog.globals[0]?).map (·.type) = some 71 := by kernel_rfl
theorem powTab_of {w : World} (h : laidMetH Tryd.prog [("internal/strconv.uint64pow10", Rows.laid_internal_strconv_uint64pow10)] w) : powTab w := by
  rw [MakeChecks.laidMetH_plain _ _ _ (by kernel_rfl)] at h
  have e : (Rows.laid_internal_strconv_uint64pow10 : DataW Unit) = Lib.tabData .u64 Lib.pow10Tab := by kernel_rfl
  rw [e] at h
  exact Lib.tabIs_of_head pow_named pow_typed Tryd.underlying71 Tryd.underlying65 (by kernel_rfl) (by kernel_rfl) h
theorem powTab_below {w w' : World} (h : powTab w) (hb : Below w.heap.size w w') : powTab w' := by
  unfold powTab Lib.TabIs at *
  unfold World.var? at *
  simp only [pow_named, Option.bind_some] at *
  cases hg : w.heap[0]? with
  | none => rw [hg] at h; simp at h
  | some o =>
    have hlt : 0 < w.heap.size := lt_of_block hg
    rw [hb.block 0 hlt]
    exact h
theorem grow_below (w : World) (k : Nat) (os : Array Obj) : Below w.heap.size w (grow (w.drewN k) os) :=
  ⟨rfl, rfl, rfl, by simp [grow, World.drewN], fun j hj => by
    simp only [grow, World.drewN]
    rw [Array.getElem?_append_left hj]⟩
theorem itoa_at {w : World} (h : powTab w) (n : Int) (h0 : -9223372036854775808 ≤ n) (h1 : n ≤ 9223372036854775807) : Calls Tryd.prog 28 #[.int .i64 n] w (ItoaPost n w) := by
  refine (Tryd.strconv_Itoa n h0 h1 w h).mono ?_
  rintro e w' ⟨rfl, k, os, rfl⟩
  exact ⟨rfl, grow_below w k os⟩
theorem itoaFits_of {w : World} (h : powTab w) (ps : List (Int × Int)) (hbd : ∀ p ∈ ps, -9223372036854775808 ≤ p.2 ∧ p.2 ≤ 9223372036854775807) : ItoaFits ps w :=
  fun p hp _ hb => itoa_at (powTab_below h hb) p.2 (hbd p hp).1 (hbd p hp).2
end Go.Proofs.YtklngiikgnmdeaaDoor

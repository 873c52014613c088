/- A code that came in, opened. -/
import Derived.Test.YtklngiikgnmdeaaDoorOpen
import Derived.Test.YtklngiikgnmdeaaDoorCode
namespace Go.Proofs.YtklngiikgnmdeaaDoor
open Go.ChangeShapes Go.WideShapes Go.Deep Go.RowKit
theorem ins_one : oneCellFields Tryd.prog (Tryd.prog.fieldsOf 30) = true := by kernel_rfl
theorem ins_cells : Tryd.prog.cellsOf 30 = (Tryd.prog.fieldsOf 30).size := by kernel_rfl
theorem ins_under : Tryd.prog.underlying 30 = some (.struct (Tryd.prog.fieldsOf 30)) := by kernel_rfl
theorem ins_two : (Tryd.prog.fieldsOf 30).size = 2 := by kernel_rfl
theorem ins_f0 : ((Tryd.prog.fieldsOf 30)[0]?).map (·.type) = some 3 := by kernel_rfl
theorem ins_f1 : ((Tryd.prog.fieldsOf 30)[1]?).map (·.type) = some 3 := by kernel_rfl

theorem code_came {H : Type} {enc : TypeId × Value → H} {W : World} {base : Nat} {spare : Nat → Bool} {held : Bool} {a : Option Addr} {len cap : Nat} {d : DataW H} {p : List MemPlace}
    (h : DataW.Trod enc Tryd.prog W base spare held 23 (.slice a len cap) d p) :
    ∃ ps : List (Int × Int), ps.length = len ∧ ps.length ≤ 9223372036854775807 ∧ Pairs W a ps ∧ ∀ q ∈ ps, (Lit.int .i64 q.1).wf = true ∧ (Lit.int .i64 q.2).wf = true := by
  obtain ⟨fuel, hf⟩ := h
  rcases open_slice_fields Tryd.underlying23 ins_under ins_one ins_cells hf with ⟨hcs, _⟩ | ⟨x, l, c, m, D, Pl, hcs, _, hl, hm, hmm, _, hi⟩
  · simp [Value.cells] at hcs
    obtain ⟨rfl, rfl, rfl⟩ := hcs
    exact ⟨[], rfl, by simp, Pairs.nil, by simp⟩
  · simp [Value.cells] at hcs
    obtain ⟨rfl, rfl, rfl⟩ := hcs
    rw [ins_two] at hi
    have hlm : len ≤ m := by rw [hmm]; split <;> omega
    obtain ⟨f0, e0, t0⟩ := Option.map_eq_some_iff.1 ins_f0
    obtain ⟨f1, e1, t1⟩ := Option.map_eq_some_iff.1 ins_f1
    have key : ∀ i, i < len → ∃ q : Int × Int, W.cell? (x.add (i * 2)) = some (.int .i64 q.1) ∧ W.cell? (x.add (i * 2 + 1)) = some (.int .i64 q.2) ∧ (Lit.int .i64 q.1).wf = true ∧ (Lit.int .i64 q.2).wf = true := by
      intro i hil
      obtain ⟨ys, n, _, _, _, hf⟩ := hi i (by omega)
      obtain ⟨v0, y0, c0, _, r0⟩ := hf 0 f0 e0
      obtain ⟨v1, y1, c1, _, r1⟩ := hf 1 f1 e1
      rw [t0] at r0
      rw [t1] at r1
      obtain ⟨x0, q0, _, w0⟩ := DataW.trod_int Tryd.underlying3 r0
      obtain ⟨x1, q1, _, w1⟩ := DataW.trod_int Tryd.underlying3 r1
      simp at q0 q1
      subst q0 q1
      exact ⟨(x0, x1), by simpa using c0, c1, w0, w1⟩
    obtain ⟨f, hf⟩ := choose_lt (α := Int × Int) key
    have hget : ∀ k (hk : k < ((List.range len).map f).length), ((List.range len).map f)[k] = f k := by intro k hk; simp
    refine ⟨(List.range len).map f, by simp, by simp; unfold maxLen at hm; omega, ?_, ?_⟩
    · intro k hk
      have hk' : k < len := by simpa using hk
      obtain ⟨b, off, rfl⟩ := plain_row (w := W) (a := x) (v := .int .i64 (f 0).1) (by simpa using (hf 0 (by omega)).1)
      have ⟨c0, c1, _, _⟩ := hf k hk'
      rw [add_plain'] at c0 c1
      rw [hget k hk]
      exact ⟨b, off, rfl, World.block_lt_of_cell? _ _ c0, c0, by rw [Nat.add_assoc]; exact c1⟩
    · intro q hq
      simp only [List.mem_map, List.mem_range] at hq
      obtain ⟨i, hil, rfl⟩ := hq
      exact (hf i hil).2.2
end Go.Proofs.YtklngiikgnmdeaaDoor

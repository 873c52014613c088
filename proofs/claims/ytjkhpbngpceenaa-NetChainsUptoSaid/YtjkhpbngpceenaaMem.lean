/- Words for memory: a block known whole, a slice of integers that reads as a list. No program is named here. -/
import Derived.WalkKit
import Derived.WalkLawsBesides
import Derived.Lib.Hide
import Derived.Deep.Draws
import Derived.Deep.QuietTactic
namespace Go.Proofs.Ytjkhpbngpceenaa
open Go.RowKit

/-- A call of a function that has a Go body is entered. -/
theorem enters {P : Program} {f : FuncId} {fn : Func} {c : Code} (hf : P.funcs[f]? = some fn) (hname : (fn.name == "runtime.NumGoroutine") = false) (hb : fn.body = some c) (args : Array Value) (w : World) :
    (callFunc f args).run P w = .ok (.enter f args) w := by
  have h1 : fn.name ≠ "runtime.NumGoroutine" := by simpa using hname
  simp [callFunc, hf, h1, hb]

theorem Bdrawn {B : Nat} {a w : World} (h : Below B a w) (n : Nat) : Below B a (w.drewN n) := ⟨h.os, h.tape, h.output, h.size, h.block⟩

/-- Block g is just the cells cs, none frozen. -/
def Blk (w : World) (g : Nat) (t : TypeId) (cs : Array Value) : Prop := w.heap[g]? = some (.cells cs t (0, 0))

section
variable {w w' : World} {g : Nat} {t : TypeId} {cs : Array Value}
theorem Blk.lt (h : Blk w g t cs) : g < w.heap.size := lt_of_block h
theorem Blk.cell (h : Blk w g t cs) (i : Nat) : w.cell? ⟨g, i, none⟩ = cs[i]? := cell_of_row w g i cs t (0, 0) h
theorem Blk.frozen (h : Blk w g t cs) (i : Nat) : w.frozen? ⟨g, i, none⟩ = false := by
  unfold Blk at h
  simp [World.frozen?, h]
theorem Blk.new (w : World) (t : TypeId) (cs : Array Value) : Blk (w.alloc (.cells cs t)) w.heap.size t cs := heap_alloc_new w _
theorem Blk.drew (h : Blk w g t cs) : Blk w.drew g t cs := h
theorem Blk.drewN (h : Blk w g t cs) (n : Nat) : Blk (w.drewN n) g t cs := h
theorem Blk.alloc (h : Blk w g t cs) (o : Obj) : Blk (w.alloc o) g t cs := (Below.heap_alloc w o g h.lt).trans h
theorem Blk.set_ (h : Blk w g t cs) (i : Nat) (u : Value) : Blk (w.setCell ⟨g, i, none⟩ u) g t (cs.setIfInBounds i u) := by
  unfold Blk at h ⊢
  simp [World.setCell, Array.getElem?_modify, h]
theorem Blk.far (h : Blk w g t cs) {p : Addr} (hp : g ≠ p.block) (u : Value) : Blk (w.setCell p u) g t cs := (Below.heap_setCell w p u g hp).trans h
theorem Blk.below {B : Nat} (h : Blk w g t cs) (hb : Below B w w') (hg : g < B) : Blk w' g t cs := (hb.block g hg).trans h
theorem Blk.grown {row : Option Nat} (h : Blk w g t cs) (hb : w.grownBy w' row) (hg : some g ≠ row) : Blk w' g t cs := (hb.block g h.lt hg).trans h
end

/-- The slice at A reads as the integers zs (nil and empty slices let in). -/
def Ints (k : IntKind) (w : World) (A : Option Addr) (zs : List Int) : Prop :=
  ∀ j, j < zs.length → ∃ b off, A = some ⟨b, off, none⟩ ∧ b < w.heap.size ∧ w.cell? ⟨b, off + j, none⟩ = some (.int k (zs.getD j 0))

section
variable {k : IntKind} {w w' : World} {A : Option Addr} {zs : List Int}
theorem Ints.nil : Ints k w A [] := fun j hj => by simp at hj
theorem Ints.below {B : Nat} (h : Ints k w A zs) (hb : Below B w w') (hB : w.heap.size ≤ B) : Ints k w' A zs := fun j hj => by
  obtain ⟨b, off, e, hl, hc⟩ := h j hj
  exact ⟨b, off, e, Nat.lt_of_lt_of_le hl hb.size, (hb.cell (p := ⟨b, off + j, none⟩) (Nat.lt_of_lt_of_le hl hB)).trans hc⟩
theorem Ints.alloc (h : Ints k w A zs) (o : Obj) : Ints k (w.alloc o) A zs := h.below ((Below.refl _ _).alloc (Nat.le_refl _) o) (Nat.le_refl _)
theorem Ints.drew (h : Ints k w A zs) : Ints k w.drew A zs := h
theorem Ints.drewN (h : Ints k w A zs) (n : Nat) : Ints k (w.drewN n) A zs := h
theorem Ints.of_row {b off : Nat} (hc : ∀ j, j < zs.length → w.cell? ⟨b, off + j, none⟩ = some (.int k (zs.getD j 0))) : Ints k w (some ⟨b, off, none⟩) zs :=
  fun j hj => ⟨b, off, rfl, World.block_lt_of_cell? _ _ (hc j hj), hc j hj⟩
end

theorem ret_int {k : IntKind} {a b : Int} (h : a = b) : Ending.returned (.int k a) = .returned (.int k b) := by rw [h]
theorem ret_bool {a b : Bool} (h : a = b) : Ending.returned (.bool a) = .returned (.bool b) := by rw [h]

/-- What was read off a slice of integers that came in: its elements alone. -/
theorem Ints.of_came {k : IntKind} {w : World} {a : Option Addr} {len cap : Nat} {zs : List Int}
    (h : (a = none ∧ len = 0 ∧ cap = 0 ∧ zs = []) ∨ ∃ x, a = some x ∧ len ≤ cap ∧ cap ≤ maxLen ∧ zs.length = cap ∧ (∀ i, i < zs.length → w.cell? (x.add i) = some (.int k (zs.getD i 0))) ∧ ∀ n ∈ zs, (Lit.int k n).wf = true) :
    Ints k w a (zs.take len) ∧ (zs.take len).length = len ∧ (∀ n ∈ zs.take len, (Lit.int k n).wf = true) ∧ len ≤ maxLen := by
  rcases h with ⟨rfl, rfl, rfl, rfl⟩ | ⟨x, rfl, hl, hm, hz, hc, hw⟩
  · exact ⟨Ints.nil, rfl, by simp, by simp⟩
  · refine ⟨fun j hj => ?_, by simp; omega, fun n hn => hw n (List.mem_of_mem_take hn), by omega⟩
    have hj' : j < len := by simp at hj; omega
    have hc' := hc j (by omega)
    obtain ⟨b, off, spot⟩ := x
    have hs : spot = none := by simpa [Addr.add] using World.cell?_spot (hc 0 (by omega))
    subst hs
    have hc2 : w.cell? ⟨b, off + j, none⟩ = some (.int k (zs.getD j 0)) := by
      by_cases h0 : j = 0
      · subst h0; simpa [Addr.add] using hc'
      · simpa [Addr.add, h0] using hc'
    refine ⟨b, off, rfl, World.block_lt_of_cell? _ _ hc2, ?_⟩
    rw [hc2]
    have e : (zs.take len).getD j 0 = zs.getD j 0 := by simp [List.getD_eq_getElem?_getD, List.getElem?_take, hj']
    rw [e]
end Go.Proofs.Ytjkhpbngpceenaa
namespace Go.Proofs.Ytjkhpbngpceenaa
open Go.RowKit
theorem wf_bd {n : Int} (h : (Lit.int .i64 n).wf = true) : -9223372036854775808 ≤ n ∧ n ≤ 9223372036854775807 := by
  have hmin : IntKind.i64.min = -9223372036854775808 := rfl
  have hmax : IntKind.i64.max = 9223372036854775807 := rfl
  simp only [Lit.wf, Bool.and_eq_true, decide_eq_true_eq] at h
  omega
theorem wf_bd8 {n : Int} (h : (Lit.int .u8 n).wf = true) : 0 ≤ n ∧ n ≤ 255 := by
  have hmin : IntKind.u8.min = 0 := rfl
  have hmax : IntKind.u8.max = 255 := rfl
  simp only [Lit.wf, Bool.and_eq_true, decide_eq_true_eq] at h
  omega
/-- A slice of integers that came in, as the walks take it. -/
theorem ints_came {k : IntKind} {w : World} {a : Option Addr} {len cap : Nat} {zs : List Int}
    (h : (a = none ∧ len = 0 ∧ cap = 0 ∧ zs = []) ∨ ∃ x, a = some x ∧ len ≤ cap ∧ cap ≤ maxLen ∧ zs.length = cap ∧ (∀ i, i < zs.length → w.cell? (x.add i) = some (.int k (zs.getD i 0))) ∧ ∀ n ∈ zs, (Lit.int k n).wf = true) :
    ∃ ys : List Int, ys.length = len ∧ ys.length ≤ 9223372036854775807 ∧ Ints k w a ys ∧ ∀ n ∈ ys, (Lit.int k n).wf = true := by
  obtain ⟨h1, h2, h3, h4⟩ := Ints.of_came h
  exact ⟨zs.take len, h2, by rw [h2]; unfold maxLen at h4; omega, h1, h3⟩
end Go.Proofs.Ytjkhpbngpceenaa
namespace Go.Proofs.Ytjkhpbngpceenaa
open Go.RowKit
/-- What a slice of the call's own holds, read as integers. -/
theorem Ints.of_own {k : IntKind} {w : World} {base : Nat} {e : TypeId} {v : Value} {n : Nat} {zs : List Int} (h : w.ownsRow base e 1 v n (zs.map (Value.int k))) :
    ∃ A c, v = .slice A zs.length c ∧ n = zs.length ∧ Ints k w A zs := by
  have hn : zs.length = n := by have := h.1; simpa using this
  subst hn
  rcases h.2 with ⟨rfl, h0⟩ | ⟨g, cap, cur, rfl, hb, hh, r1, r2, r3, r4⟩
  · have : zs = [] := List.eq_nil_of_length_eq_zero h0
    subst this
    exact ⟨none, 0, rfl, rfl, Ints.nil⟩
  · refine ⟨_, cap, rfl, rfl, Ints.of_row fun j hj => ?_⟩
    rw [Nat.zero_add, h.cellAt j (by simpa using hj)]
    simp [hj]
theorem one_new (w : World) (t : TypeId) (v : Value) : ∀ (j : Nat) (u : Value), [v][j]? = some u → (w.alloc (.cells #[v] t)).cell? (Addr.add ⟨w.heap.size, 0, none⟩ j) = some u := by
  intro j u hj
  match j, hj with
  | 0, hj => simp at hj; subst hj; simp [Addr.add]
theorem one_new2 (w : World) (o : Obj) (t : TypeId) (v : Value) : ∀ (j : Nat) (u : Value), [v][j]? = some u → ((w.alloc o).alloc (.cells #[v] t)).cell? (Addr.add ⟨w.heap.size + 1, 0, none⟩ j) = some u := by
  have := one_new (w.alloc o) t v
  rw [World.size_alloc] at this
  exact this

/-- string(b), b a slice of bytes that reads as the numbers zs. -/
theorem run_string_of {P : Program} {w : World} {A : Option Addr} {zs : List Int} (c : Nat) (src e dst : TypeId) (hs : P.underlying src = some (.slice e)) (he : P.underlying e = some (.int .u8)) (hd : P.underlying dst = some .string) (h : Ints .u8 w A zs) :
    (convert src dst (.slice A zs.length c)).run P w = .ok (.string (strOfNums zs)) w := by
  rcases zs with _ | ⟨z, r⟩
  · rcases A with _ | a
    · exact run_convert_bytes_nil w src e hs he 0 c dst hd
    · rw [run_convert_bytes_string w src dst e _ _ c hs he hd]
      exact run_bytesToString w a 0 c [] (run_loadCells_list (P := P) w a [] (fun j v hj => by simp at hj))
  · obtain ⟨b, off, rfl, hb, _⟩ := h 0 (by simp)
    refine run_convert_bytes_arg w src e hs he b off _ c (z :: r) rfl (fun i hi => ?_) dst hd
    obtain ⟨b', off', e', _, hc⟩ := h i hi
    injection e' with e'
    injection e' with e1 e2
    subst e1; subst e2
    exact hc
theorem strOfNums_append (a b : List Int) : strOfNums (a ++ b) = strOfNums a ++ strOfNums b := by
  unfold strOfNums
  rw [List.map_append, ByteArray.mk_append_mk]
theorem strOfNums_beq (a b : List Int) (h : a = b) : ((strOfNums a).toList == (strOfNums b).toList) = true := by subst h; simp
theorem wf_u8 {n : Int} (h : 0 ≤ n ∧ n ≤ 255) : (Lit.int .u8 n).wf = true := by
  have hmin : IntKind.u8.min = 0 := rfl
  have hmax : IntKind.u8.max = 255 := rfl
  simp only [Lit.wf, Bool.and_eq_true, decide_eq_true_eq]
  omega
/-- A callee that leaves the world as it is, inside a region that only reads. -/
theorem quiet_same {P : Program} {f : FuncId} {args : Array Value} {w : World} {n : Nat} {v : Value}
    (h : Calls P f args (w.drewN n) fun e w' => e = .returned v ∧ w.drewN n = w') : Calls P f args (w.drewN n) fun e w'' => e = .returned v ∧ ∃ m, w'' = w.drewN m :=
  h.mono fun _ _ ⟨he, hm⟩ => ⟨he, n, hm.symm⟩
/-- A callee that only draws, inside a region that only reads. -/
theorem quiet_drawn {P : Program} {f : FuncId} {args : Array Value} {w : World} {n : Nat} {v : Value}
    (h : Calls P f args (w.drewN n) fun e w' => e = .returned v ∧ ∃ m, w' = (w.drewN n).drewN m) : Calls P f args (w.drewN n) fun e w'' => e = .returned v ∧ ∃ m, w'' = w.drewN m :=
  h.mono fun _ _ ⟨he, m, hm⟩ => ⟨he, n + m, hm.trans (World.drewN_drewN _ _ _)⟩
end Go.Proofs.Ytjkhpbngpceenaa

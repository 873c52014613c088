/- A frame: only some blocks of what was there may have turned. No program is named here. -/
import Derived.Test.YtjkhpbngpceenaaMem
import Derived.Laws.CopyOwn
namespace Go.Proofs.Ytjkhpbngpceenaa
open Go.RowKit

/-- w' is w with new blocks, and with changes in the blocks of S alone. -/
def Fr (S : Nat → Prop) (w w' : World) : Prop := Below 0 w w' ∧ ∀ b, b < w.heap.size → ¬ S b → w'.heap[b]? = w.heap[b]?
section
variable {S T : Nat → Prop} {w w1 w2 w' : World}
theorem Fr.size (h : Fr S w w') : w.heap.size ≤ w'.heap.size := h.1.size
theorem Fr.refl (S : Nat → Prop) (w : World) : Fr S w w := ⟨Below.refl _ _, fun _ _ _ => rfl⟩
theorem Fr.trans' (h : Fr S w w1) (k : Fr T w1 w2) (hT : ∀ b, b < w.heap.size → T b → S b) : Fr S w w2 :=
  ⟨h.1.trans k.1, fun b hb hS => (k.2 b (Nat.lt_of_lt_of_le hb h.size) fun ht => hS (hT b hb ht)).trans (h.2 b hb hS)⟩
theorem Fr.trans (h : Fr S w w1) (k : Fr S w1 w2) : Fr S w w2 := h.trans' k fun _ _ h => h
theorem Fr.mono (h : Fr S w w') (hT : ∀ b, b < w.heap.size → S b → T b) : Fr T w w' := ⟨h.1, fun b hb hS => h.2 b hb fun hs => hS (hT b hb hs)⟩
theorem Fr.of_grown {row : Option Nat} (h : w.grownBy w' row) (hS : ∀ k, row = some k → k < w.heap.size → S k) : Fr S w w' :=
  ⟨⟨h.os, h.tape, h.output, h.size, fun k hk => absurd hk (Nat.not_lt_zero k)⟩, fun b hb hs => h.block b hb fun e => hs (hS b e.symm hb)⟩
theorem Fr.grown {row : Option Nat} (h : Fr S w w1) (k : w1.grownBy w2 row) (hS : ∀ j, row = some j → j < w.heap.size → S j) : Fr S w w2 :=
  ⟨h.1.trans ⟨k.os, k.tape, k.output, k.size, fun k hk => absurd hk (Nat.not_lt_zero k)⟩, fun b hb hs => (k.block b (Nat.lt_of_lt_of_le hb h.size) fun e => hs (hS b e.symm hb)).trans (h.2 b hb hs)⟩
theorem Fr.alloc (h : Fr S w w1) (o : Obj) : Fr S w (w1.alloc o) := ⟨h.1.alloc (Nat.zero_le _) o, fun b hb hs => (Below.heap_alloc w1 o b (Nat.lt_of_lt_of_le hb h.size)).trans (h.2 b hb hs)⟩
theorem Fr.drew (h : Fr S w w1) : Fr S w w1.drew := ⟨h.1.drew, h.2⟩
theorem Fr.drewN (h : Fr S w w1) (n : Nat) : Fr S w (w1.drewN n) := ⟨Bdrawn h.1 n, h.2⟩
theorem Fr.setCell (h : Fr S w w1) {p : Addr} (hp : p.block < w.heap.size → S p.block) (u : Value) : Fr S w (w1.setCell p u) :=
  ⟨h.1.setCell (Nat.zero_le _) u, fun b hb hs => (Below.heap_setCell w1 p u b fun e => hs (e ▸ hp (e ▸ hb))).trans (h.2 b hb hs)⟩
theorem Fr.of_below {B : Nat} (h : Below B w w') (hS : ∀ b, b < w.heap.size → ¬ S b → b < B) : Fr S w w' := ⟨h.mono (Nat.zero_le _), fun b hb hs => h.block b (hS b hb hs)⟩
theorem Fr.then_below {B : Nat} (h : Fr S w w1) (k : Below B w1 w2) (hB : w.heap.size ≤ B) : Fr S w w2 := ⟨h.1.trans (k.mono (Nat.zero_le _)), fun b hb hs => (k.block b (Nat.lt_of_lt_of_le hb hB)).trans (h.2 b hb hs)⟩
theorem Fr.below {B : Nat} (h : Fr S w w') (hS : ∀ b, S b → B ≤ b) (hB : B ≤ w.heap.size) : Below B w w' := ⟨h.1.os, h.1.tape, h.1.output, h.1.size, fun k hk => h.2 k (Nat.lt_of_lt_of_le hk hB) fun hs => by have := hS k hs; omega⟩
theorem Fr.blk {g : Nat} {t : TypeId} {cs : Array Value} (h : Fr S w w') (hb : Blk w g t cs) (hg : ¬ S g) : Blk w' g t cs := (h.2 g hb.lt hg).trans hb
theorem Fr.cell {p : Addr} {v : Value} (h : Fr S w w') (hc : w.cell? p = some v) (hg : ¬ S p.block) : w'.cell? p = some v := (World.cell?_of_block (w := w) (h.2 p.block (World.block_lt_of_cell? _ _ hc) hg)).trans hc
theorem Fr.ints {k : IntKind} {A : Option Addr} {zs : List Int} (h : Fr S w w') (hI : Ints k w A zs) (hS : ∀ a, A = some a → ¬ S a.block) : Ints k w' A zs := fun j hj => by
  obtain ⟨b, off, e, hl, hc⟩ := hI j hj
  exact ⟨b, off, e, Nat.lt_of_lt_of_le hl h.size, h.cell (p := ⟨b, off + j, none⟩) hc (hS ⟨b, off, none⟩ e)⟩
end

theorem splice_zero {α : Type} (L : List α) (o : Nat) : splice L o ([] : List α) = L := by simp [splice]
theorem splice_set {α : Type} (L : List α) (o : Nat) (l : List α) (v : α) (h : o + l.length < L.length) : (splice L o l).set (o + l.length) v = splice L o (l ++ [v]) := by
  unfold splice
  have h1 : (L.take o).length = o := by rw [List.length_take]; omega
  rw [← List.append_assoc, List.set_append_right (o + l.length) v (by simp [h1])]
  rw [show o + l.length - (L.take o ++ l).length = 0 by simp [h1]]
  rw [List.drop_eq_getElem_cons h, List.set_cons_zero]
  simp [List.append_assoc, Nat.add_assoc]
theorem splice_get {α : Type} (L : List α) (o : Nat) (l : List α) (j : Nat) (h : o + l.length ≤ L.length) (hj : o + l.length ≤ j) : (splice L o l)[j]? = L[j]? := by
  unfold splice
  have h1 : (L.take o).length = o := by rw [List.length_take]; omega
  rw [← List.append_assoc, List.getElem?_append_right (by simp [h1]; omega), List.getElem?_drop]
  congr 1
  simp [h1]; omega
theorem splice_splice {α : Type} (L : List α) (a b : List α) (h : a.length + b.length ≤ L.length) : splice (splice L 0 a) a.length b = splice L 0 (a ++ b) := by
  unfold splice
  simp only [List.take_zero, List.nil_append, Nat.zero_add]
  rw [List.take_append_of_le_length (Nat.le_refl _), List.take_length, List.drop_append, List.drop_eq_nil_of_le (by omega), List.nil_append, List.drop_drop, List.append_assoc, List.length_append]
  congr 3
  omega
theorem splice_full {α : Type} (L l : List α) (h : l.length = L.length) : splice L 0 l = l := by simp [splice, h]
end Go.Proofs.Ytjkhpbngpceenaa

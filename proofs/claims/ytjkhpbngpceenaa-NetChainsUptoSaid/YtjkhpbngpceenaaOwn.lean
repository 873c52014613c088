/- Rows of the call's own whose elements have memory of their own. No program is named here. -/
import Derived.Test.YtjkhpbngpceenaaFr
import Derived.Maps.AppendAt
namespace Go.Proofs.Ytjkhpbngpceenaa
open Go.RowKit

/-- Φ holds at every world that agrees with w on the blocks of F. -/
def On (F : Nat → Prop) (w : World) (Φ : World → Prop) : Prop := ∀ w', (∀ b, F b → w'.heap[b]? = w.heap[b]?) → Φ w'
section
variable {F : Nat → Prop} {S : Nat → Prop} {w w' : World} {Φ Ψ : World → Prop}
theorem On.now (h : On F w Φ) : Φ w := h w fun _ _ => rfl
theorem On.agree (h : On F w Φ) (ha : ∀ b, F b → w'.heap[b]? = w.heap[b]?) : On F w' Φ := fun w2 h2 => h w2 fun b hb => (h2 b hb).trans (ha b hb)
theorem On.fr (h : On F w Φ) (hf : Fr S w w') (hF : ∀ b, F b → b < w.heap.size ∧ ¬ S b) : On F w' Φ := h.agree fun b hb => hf.2 b (hF b hb).1 (hF b hb).2
theorem On.imp_ (h : On F w Φ) (hi : ∀ w, Φ w → Ψ w) : On F w Ψ := fun w2 h2 => hi _ (h w2 h2)
theorem On.mono {G : Nat → Prop} (h : On F w Φ) (hG : ∀ b, F b → G b) : On G w Φ := fun w2 h2 => h w2 fun b hb => h2 b (hG b hb)
theorem On.and {G : Nat → Prop} (h : On F w Φ) (k : On G w Ψ) : On (fun b => F b ∨ G b) w (fun w => Φ w ∧ Ψ w) := fun w2 h2 => ⟨h w2 fun b hb => h2 b (.inl hb), k w2 fun b hb => h2 b (.inr hb)⟩
theorem Blk.on {g : Nat} {t : TypeId} {cs : Array Value} (h : Blk w g t cs) : On (fun b => b = g) w (fun w => Blk w g t cs) := fun w2 h2 => (h2 g rfl).trans h
end

/-- The row v holds the elements L; what is said of an element stands in blocks from B on, below C, other than the row's. -/
def OwnRow {α : Type} (B C : Nat) (w : World) (e : TypeId) (size : Nat) (v : Value) (cells : α → List Value) (Φ : α → World → Prop) (L : List α) : Prop :=
  w.ownsRow B e size v L.length (L.flatMap cells) ∧ (∀ b, v.ownBlock = some b → b < C) ∧ C ≤ w.heap.size ∧ ∀ x ∈ L, ∃ F : Nat → Prop, On F w (Φ x) ∧ ∀ b, F b → B ≤ b ∧ b < C ∧ some b ≠ v.ownBlock
section
variable {α : Type} {B C : Nat} {w w' : World} {e : TypeId} {size : Nat} {v : Value} {cells : α → List Value} {Φ : α → World → Prop} {L : List α} {S : Nat → Prop}
theorem ownsRow_heap {n : Nat} {xs : List Value} (h : w.ownsRow B e size v n xs) (hk : ∀ g, v.ownBlock = some g → w'.heap[g]? = w.heap[g]?) : w'.ownsRow B e size v n xs := by
  refine ⟨h.1, ?_⟩
  rcases h.2 with h | ⟨g, cap, cur, rfl, h1, h2, h3⟩
  · exact .inl h
  · exact .inr ⟨g, cap, cur, rfl, h1, (hk g rfl).trans h2, h3⟩
theorem OwnRow.nil (B : Nat) (w : World) (e : TypeId) (size : Nat) (cells : α → List Value) (Φ : α → World → Prop) : OwnRow B w.heap.size w e size (.slice none 0 0) cells Φ [] :=
  ⟨World.ownsRow_nil _ _ _ _, by simp [Value.ownBlock], Nat.le_refl _, by simp⟩
theorem OwnRow.fr (h : OwnRow B C w e size v cells Φ L) (hf : Fr S w w') (hS : ∀ b, B ≤ b → b < C → ¬ S b) : OwnRow B C w' e size v cells Φ L :=
  ⟨ownsRow_heap h.1 fun g hg => hf.2 g (h.1.lt g hg).2 (hS g (h.1.lt g hg).1 (h.2.1 g hg)), h.2.1, Nat.le_trans h.2.2.1 hf.size, fun x hx => by
    obtain ⟨F, hF, hb⟩ := h.2.2.2 x hx
    exact ⟨F, hF.fr hf fun b k => ⟨Nat.lt_of_lt_of_le (hb b k).2.1 h.2.2.1, hS b (hb b k).1 (hb b k).2.1⟩, hb⟩⟩
theorem OwnRow.widen {C' : Nat} (h : OwnRow B C w e size v cells Φ L) (hC : C ≤ C') (hw : C' ≤ w.heap.size) : OwnRow B C' w e size v cells Φ L :=
  ⟨h.1, fun b hb => Nat.lt_of_lt_of_le (h.2.1 b hb) hC, hw, fun x hx => by
    obtain ⟨F, hF, hb⟩ := h.2.2.2 x hx
    exact ⟨F, hF, fun b k => ⟨(hb b k).1, Nat.lt_of_lt_of_le (hb b k).2.1 hC, (hb b k).2.2⟩⟩⟩
theorem OwnRow.base {B' : Nat} (h : OwnRow B C w e size v cells Φ L) (hB : B' ≤ B) : OwnRow B' C w e size v cells Φ L := by
  refine ⟨⟨h.1.1, ?_⟩, h.2.1, h.2.2.1, fun x hx => ?_⟩
  · rcases h.1.2 with h1 | ⟨g, cap, cur, h1, h2, h3⟩
    · exact .inl h1
    · exact .inr ⟨g, cap, cur, h1, Nat.le_trans hB h2, h3⟩
  · obtain ⟨F, hF, hb⟩ := h.2.2.2 x hx
    exact ⟨F, hF, fun b k => ⟨Nat.le_trans hB (hb b k).1, (hb b k).2⟩⟩
theorem OwnRow.now (h : OwnRow B C w e size v cells Φ L) : ∀ x ∈ L, Φ x w := fun x hx => by obtain ⟨F, hF, _⟩ := h.2.2.2 x hx; exact hF.now
/-- Behind an append. -/
theorem OwnRow.push {x : α} {v' : Value} (h : OwnRow B C w e size v cells Φ L) (hown : w'.ownsRow B e size v' (L.length + 1) (L.flatMap cells ++ cells x)) (hg : w.grownBy w' v.ownBlock) (hat : v'.ownBlock = v.ownBlock ∨ v'.ownBlock = some w.heap.size)
    {F : Nat → Prop} (hx : On F w (Φ x)) (hF : ∀ b, F b → B ≤ b ∧ b < w.heap.size ∧ some b ≠ v.ownBlock) : OwnRow B w'.heap.size w' e size v' cells Φ (L ++ [x]) := by
  have hne : ∀ b, b < w.heap.size → some b ≠ v.ownBlock → some b ≠ v'.ownBlock := fun b hb hb' => by
    rcases hat with e | e
    · rw [e]; exact hb'
    · rw [e]; intro h; injection h with h; omega
  refine ⟨by simpa using hown, fun b hb => (hown.lt b hb).2, Nat.le_refl _, fun y hy => ?_⟩
  rcases List.mem_append.1 hy with hy | hy
  · obtain ⟨G, hG, hb⟩ := h.2.2.2 y hy
    have hlt : ∀ b, G b → b < w.heap.size := fun b k => Nat.lt_of_lt_of_le (hb b k).2.1 h.2.2.1
    exact ⟨G, hG.agree fun b k => hg.block b (hlt b k) (hb b k).2.2, fun b k => ⟨(hb b k).1, Nat.lt_of_lt_of_le (hlt b k) hg.size, hne b (hlt b k) (hb b k).2.2⟩⟩
  · rw [List.mem_singleton] at hy
    subst hy
    exact ⟨F, hx.agree fun b k => hg.block b (hF b k).2.1 (hF b k).2.2, fun b k => ⟨(hF b k).1, Nat.lt_of_lt_of_le (hF b k).2.1 hg.size, hne b (hF b k).2.1 (hF b k).2.2⟩⟩
/-- A place of the row. -/
theorem OwnRow.at_ (h : OwnRow B C w e size v cells Φ L) (hc : ∀ x, (cells x).length = size) {i : Nat} (hi : i < L.length) :
    ∃ b cap, v = .slice (some ⟨b, 0, none⟩) L.length cap ∧ B ≤ b ∧ b < C ∧ L.length ≤ cap ∧ ∀ j, j < size → w.cell? ⟨b, i * size + j, none⟩ = (cells L[i])[j]? := by
  rcases h.1.2 with ⟨_, h0⟩ | ⟨g, cap, cur, rfl, hb, hg, hcap, _⟩
  · omega
  · refine ⟨g, cap, rfl, hb, h.2.1 g rfl, hcap, fun j hj => ?_⟩
    have hlen : ∀ l : List α, (l.flatMap cells).length = l.length * size := by
      intro l
      induction l with
      | nil => simp
      | cons x r ih => simp [ih, hc, Nat.succ_mul]; omega
    have hij : i * size + j < L.length * size := by
      have : (i + 1) * size ≤ L.length * size := Nat.mul_le_mul_right _ hi
      rw [Nat.succ_mul] at this; omega
    rw [h.1.cellAt _ hij]
    have e : L = L.take i ++ (L[i] :: L.drop (i + 1)) := by rw [← List.drop_eq_getElem_cons hi, List.take_append_drop]
    have e2 : (L.flatMap cells)[i * size + j]? = ((L.take i ++ (L[i] :: L.drop (i + 1))).flatMap cells)[i * size + j]? := congrArg (fun l => (l.flatMap cells)[i * size + j]?) e
    rw [e2, List.flatMap_append, List.flatMap_cons, List.getElem?_append_right (by rw [hlen, List.length_take]; rw [Nat.min_eq_left (by omega)]; omega)]
    rw [hlen, List.length_take, Nat.min_eq_left (by omega), Nat.add_sub_cancel_left, List.getElem?_append_left (by rw [hc]; exact hj)]
theorem OwnRow.form (h : OwnRow B C w e size v cells Φ L) : ∃ A cap, v = .slice A L.length cap ∧ L.length ≤ cap := by
  rcases h.1.2 with ⟨rfl, h0⟩ | ⟨g, cap, cur, rfl, hb, hg, hcap, _⟩
  · exact ⟨none, 0, by rw [h0], by omega⟩
  · exact ⟨_, cap, rfl, hcap⟩
end
end Go.Proofs.Ytjkhpbngpceenaa

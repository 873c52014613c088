/- A row of rows of numbers, each with memory of its own: who uses what. No program is named here. -/
import Derived.Test.YtjkhpbngpceenaaNetM
namespace Go.Proofs.Ytjkhpbngpceenaa
open Go.RowKit

/-- The block g is a row of rows of the call's own, apart from one another and from the blocks X. -/
def URow (X : Nat → Prop) (B : Nat) (w : World) (g : Nat) (t e : TypeId) (us : List (List Int)) : Prop :=
  X g ∧ ∃ vs : List Value, vs.length = us.length ∧ Blk w g t vs.toArray ∧
    (∀ j (hj : j < us.length) v, vs[j]? = some v → w.ownsRow B e 1 v us[j].length (us[j].map (Value.int .i64))) ∧
    (∀ (j : Nat) (v : Value) (b : Nat), vs[j]? = some v → v.ownBlock = some b → ¬ X b) ∧
    (∀ (i j : Nat) (u v : Value) (b : Nat), i ≠ j → vs[i]? = some u → vs[j]? = some v → u.ownBlock = some b → v.ownBlock ≠ some b)
section
variable {X : Nat → Prop} {B : Nat} {w w' : World} {g : Nat} {t e : TypeId} {us : List (List Int)}
theorem URow.lt (h : URow X B w g t e us) : g < w.heap.size := by obtain ⟨_, vs, _, hb, _⟩ := h; exact hb.lt
theorem URow.agree (h : URow X B w g t e us) (ha : ∀ b, b < w.heap.size → (b = g ∨ ¬ X b) → w'.heap[b]? = w.heap[b]?) : URow X B w' g t e us := by
  obtain ⟨hg, vs, hl, hk, ho, hx, hd⟩ := h
  refine ⟨hg, vs, hl, (ha g hk.lt (.inl rfl)).trans hk, fun j hj v hv => ?_, hx, hd⟩
  exact ownsRow_heap (ho j hj v hv) fun b hb => ha b ((ho j hj v hv).lt b hb).2 (.inr (hx j v b hv hb))
theorem URow.new {n : Nat} (hX : X g) (h : Blk w g t (List.replicate n (Value.slice none 0 0)).toArray) : URow X B w g t e (List.replicate n []) := by
  refine ⟨hX, List.replicate n (.slice none 0 0), by simp, h, fun j hj v hv => ?_, fun j v b hv hb => ?_, fun i j u v b _ hu _ hb => ?_⟩
  · rw [List.getElem?_replicate] at hv
    split at hv
    · injection hv with hv
      subst hv
      simpa using World.ownsRow_nil w B e 1
    · cases hv
  · rw [List.getElem?_replicate] at hv
    split at hv
    · injection hv with hv; subst hv; simp [Value.ownBlock] at hb
    · cases hv
  · rw [List.getElem?_replicate] at hu
    split at hu
    · injection hu with hu; subst hu; simp [Value.ownBlock] at hb
    · cases hu
/-- A place, and what an append there leaves. -/
theorem URow.at_ (h : URow X B w g t e us) (hlt : ∀ b, X b → b < w.heap.size) {j : Nat} (hj : j < us.length) :
    ∃ v, w.cell? ⟨g, j, none⟩ = some v ∧ w.ownsRow B e 1 v us[j].length (us[j].map (Value.int .i64)) ∧ (∀ b, v.ownBlock = some b → ¬ X b) ∧
      ∀ v' w1 x, w1.ownsRow B e 1 v' (us[j].length + 1) (us[j].map (Value.int .i64) ++ [.int .i64 x]) → w.grownBy w1 v.ownBlock → (v'.ownBlock = v.ownBlock ∨ v'.ownBlock = some w.heap.size) →
        URow X B (w1.setCell ⟨g, j, none⟩ v') g t e (us.set j (us[j] ++ [x])) := by
  obtain ⟨hg, vs, hl, hk, ho, hx, hd⟩ := h
  obtain ⟨v, hv⟩ : ∃ v, vs[j]? = some v := ⟨vs[j], List.getElem?_eq_getElem (by omega)⟩
  refine ⟨v, by rw [hk.cell j]; simpa using hv, ho j hj v hv, fun b hb => hx j v b hv hb, fun v' w1 x hown hgr hat => ?_⟩
  have hgv : some g ≠ v.ownBlock := fun h => hx j v g hv h.symm hg
  have hk1 : Blk w1 g t vs.toArray := (hgr.block g hk.lt hgv).trans hk
  have hb' : ∀ b, v'.ownBlock = some b → ¬ X b := fun b hb => by
    rcases hat with h | h
    · exact hx j v b hv (h ▸ hb)
    · rw [h] at hb; injection hb with hb; subst hb; intro hX; have := hlt _ hX; omega
  have hset : ∀ b, b ≠ g → (w1.setCell ⟨g, j, none⟩ v').heap[b]? = w1.heap[b]? := fun b hb => Below.heap_setCell w1 _ _ b hb
  refine ⟨hg, vs.set j v', by simp [hl], ?_, fun i hi u hu => ?_, fun i u b hu hb => ?_, fun i k u z b hik hu hz hb => ?_⟩
  · have := hk1.set_ j v'
    simpa using this
  · rw [List.length_set] at hi
    by_cases e : j = i
    · subst e
      rw [List.getElem?_set_self (by omega)] at hu
      injection hu with hu
      subst hu
      have := ownsRow_heap (w' := w1.setCell ⟨g, j, none⟩ v') hown fun b hb => hset b fun q => hb' b hb (q ▸ hg)
      simpa using this
    · rw [List.getElem?_set_ne e] at hu
      simp only [List.getElem_set_ne e]
      refine ownsRow_heap (ho i hi u hu) fun b hb => ?_
      rw [hset b fun q => hx i u b hu hb (q ▸ hg)]
      exact hgr.block b ((ho i hi u hu).lt b hb).2 fun q => hd i j u v b (fun q => e q.symm) hu hv hb q.symm
  · by_cases e : j = i
    · subst e
      rw [List.getElem?_set_self (by omega)] at hu
      injection hu with hu
      subst hu
      exact hb' b hb
    · rw [List.getElem?_set_ne e] at hu
      exact hx i u b hu hb
  · have hne : ∀ i' u' b', i' ≠ j → vs[i']? = some u' → u'.ownBlock = some b' → v'.ownBlock ≠ some b' := fun i' u' b' hi' hu' hb' q => by
      rcases hat with h | h
      · exact hd i' j u' v b' hi' hu' hv hb' (h ▸ q)
      · rw [h] at q
        injection q with q
        subst q
        have hi2 : i' < us.length := by
          rw [← hl]
          exact (List.getElem?_eq_some_iff.1 hu').1
        have := ((ho i' hi2 u' hu').lt _ hb').2
        omega
    by_cases e : j = i
    · subst e
      rw [List.getElem?_set_self (by omega)] at hu
      injection hu with hu
      subst hu
      rw [List.getElem?_set_ne hik] at hz
      intro q
      exact hne k z b (fun q => hik q.symm) hz q hb
    · rw [List.getElem?_set_ne e] at hu
      by_cases e2 : j = k
      · subst e2
        rw [List.getElem?_set_self (by omega)] at hz
        injection hz with hz
        subst hz
        exact hne i u b (fun q => e q.symm) hu hb
      · rw [List.getElem?_set_ne e2] at hz
        exact hd i k u z b hik hu hz hb
end
end Go.Proofs.Ytjkhpbngpceenaa

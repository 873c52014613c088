/- Lemmas for the statements of this seat: contracts of functions and the plain laws. -/
import Derived.BigQuiet
import Derived.ChangeKeysEq
import Derived.Deep.DeepCutAuto
import Derived.Deep.RegionHeld3
import Derived.Deep.RegionLaw
import Derived.Maps.AppendAt
import Derived.Test.YtbnnpkcfifejmaaZ01
set_option linter.unusedVariables false
/- Rows of the call's own whose elements have memory of their own. No program is named here. -/
namespace Go.Proofs.Ytbnnpkcfifejmaa
open Go.RowKit

/-- Φ holds at every world that agrees with w on the blocks of F. -/
def On (F : Nat → Prop) (w : World) (Φ : World → Prop) : Prop := ∀ w', (∀ b, F b → w'.heap[b]? = w.heap[b]?) → Φ w'
section
variable {F : Nat → Prop} {S : Nat → Prop} {w w' : World} {Φ Ψ : World → Prop}
theorem On.now (h : On F w Φ) : Φ w := h w fun _ _ => rfl
theorem On.agree (h : On F w Φ) (ha : ∀ b, F b → w'.heap[b]? = w.heap[b]?) : On F w' Φ := fun w2 h2 => h w2 fun b hb => (h2 b hb).trans (ha b hb)
theorem On.fr (h : On F w Φ) (hf : Fr S w w') (hF : ∀ b, F b → b < w.heap.size ∧ ¬ S b) : On F w' Φ := h.agree fun b hb => hf.2 b (hF b hb).1 (hF b hb).2
theorem On.imp_ (h : On F w Φ) (hi : ∀ w, Φ w → Ψ w) : On F w Ψ := fun w2 h2 => hi _ (h w2 h2)
theorem On.mono {G : Nat → Prop} (h : On F w Φ) (hG : ∀ b, F b → G b) : On G w Φ := fun w2 h2 => h w2 fun b hb => h2 b (hG b hb)
theorem On.and {G : Nat → Prop} (h : On F w Φ) (k : On G w Ψ) : On (fun b => F b ∨ G b) w (fun w => Φ w ∧ Ψ w) := fun w2 h2 => ⟨h w2 fun b hb => h2 b (.inl hb), k w2 fun b hb => h2 b (.inr hb)⟩
theorem Blk.on {g : Nat} {t : TypeId} {cs : Array Value} (h : Blk w g t cs) : On (fun b => b = g) w (fun w => Blk w g t cs) := fun w2 h2 => (h2 g rfl).trans h
end

/-- The row v holds the elements L; what is said of an element stands in blocks from B on, below C, other than the row's. -/
def OwnRow {α : Type} (B C : Nat) (w : World) (e : TypeId) (size : Nat) (v : Value) (cells : α → List Value) (Φ : α → World → Prop) (L : List α) : Prop :=
  w.ownsRow B e size v L.length (L.flatMap cells) ∧ (∀ b, v.ownBlock = some b → b < C) ∧ C ≤ w.heap.size ∧ ∀ x ∈ L, ∃ F : Nat → Prop, On F w (Φ x) ∧ ∀ b, F b → B ≤ b ∧ b < C ∧ some b ≠ v.ownBlock
section
variable {α : Type} {B C : Nat} {w w' : World} {e : TypeId} {size : Nat} {v : Value} {cells : α → List Value} {Φ : α → World → Prop} {L : List α} {S : Nat → Prop}
theorem ownsRow_heap {n : Nat} {xs : List Value} (h : w.ownsRow B e size v n xs) (hk : ∀ g, v.ownBlock = some g → w'.heap[g]? = w.heap[g]?) : w'.ownsRow B e size v n xs := by
  refine ⟨h.1, ?_⟩
  rcases h.2 with h | ⟨g, cap, cur, rfl, h1, h2, h3⟩
  · exact .inl h
  · exact .inr ⟨g, cap, cur, rfl, h1, (hk g rfl).trans h2, h3⟩
theorem OwnRow.nil (B : Nat) (w : World) (e : TypeId) (size : Nat) (cells : α → List Value) (Φ : α → World → Prop) : OwnRow B w.heap.size w e size (.slice none 0 0) cells Φ [] :=
  ⟨World.ownsRow_nil _ _ _ _, by simp [Value.ownBlock], Nat.le_refl _, by simp⟩
theorem OwnRow.fr (h : OwnRow B C w e size v cells Φ L) (hf : Fr S w w') (hS : ∀ b, B ≤ b → b < C → ¬ S b) : OwnRow B C w' e size v cells Φ L :=
  ⟨ownsRow_heap h.1 fun g hg => hf.2 g (h.1.lt g hg).2 (hS g (h.1.lt g hg).1 (h.2.1 g hg)), h.2.1, Nat.le_trans h.2.2.1 hf.size, fun x hx => by
    obtain ⟨F, hF, hb⟩ := h.2.2.2 x hx
    exact ⟨F, hF.fr hf fun b k => ⟨Nat.lt_of_lt_of_le (hb b k).2.1 h.2.2.1, hS b (hb b k).1 (hb b k).2.1⟩, hb⟩⟩
theorem OwnRow.widen {C' : Nat} (h : OwnRow B C w e size v cells Φ L) (hC : C ≤ C') (hw : C' ≤ w.heap.size) : OwnRow B C' w e size v cells Φ L :=
  ⟨h.1, fun b hb => Nat.lt_of_lt_of_le (h.2.1 b hb) hC, hw, fun x hx => by
    obtain ⟨F, hF, hb⟩ := h.2.2.2 x hx
    exact ⟨F, hF, fun b k => ⟨(hb b k).1, Nat.lt_of_lt_of_le (hb b k).2.1 hC, (hb b k).2.2⟩⟩⟩
theorem OwnRow.base {B' : Nat} (h : OwnRow B C w e size v cells Φ L) (hB : B' ≤ B) : OwnRow B' C w e size v cells Φ L := by
  refine ⟨⟨h.1.1, ?_⟩, h.2.1, h.2.2.1, fun x hx => ?_⟩
  · rcases h.1.2 with h1 | ⟨g, cap, cur, h1, h2, h3⟩
    · exact .inl h1
    · exact .inr ⟨g, cap, cur, h1, Nat.le_trans hB h2, h3⟩
  · obtain ⟨F, hF, hb⟩ := h.2.2.2 x hx
    exact ⟨F, hF, fun b k => ⟨Nat.le_trans hB (hb b k).1, (hb b k).2⟩⟩
theorem OwnRow.now (h : OwnRow B C w e size v cells Φ L) : ∀ x ∈ L, Φ x w := fun x hx => by obtain ⟨F, hF, _⟩ := h.2.2.2 x hx; exact hF.now
/-- Behind an append. -/
theorem OwnRow.push {x : α} {v' : Value} (h : OwnRow B C w e size v cells Φ L) (hown : w'.ownsRow B e size v' (L.length + 1) (L.flatMap cells ++ cells x)) (hg : w.grownBy w' v.ownBlock) (hat : v'.ownBlock = v.ownBlock ∨ v'.ownBlock = some w.heap.size)
    {F : Nat → Prop} (hx : On F w (Φ x)) (hF : ∀ b, F b → B ≤ b ∧ b < w.heap.size ∧ some b ≠ v.ownBlock) : OwnRow B w'.heap.size w' e size v' cells Φ (L ++ [x]) := by
  have hne : ∀ b, b < w.heap.size → some b ≠ v.ownBlock → some b ≠ v'.ownBlock := fun b hb hb' => by
    rcases hat with e | e
    · rw [e]; exact hb'
    · rw [e]; intro h; injection h with h; omega
  refine ⟨by simpa using hown, fun b hb => (hown.lt b hb).2, Nat.le_refl _, fun y hy => ?_⟩
  rcases List.mem_append.1 hy with hy | hy
  · obtain ⟨G, hG, hb⟩ := h.2.2.2 y hy
    have hlt : ∀ b, G b → b < w.heap.size := fun b k => Nat.lt_of_lt_of_le (hb b k).2.1 h.2.2.1
    exact ⟨G, hG.agree fun b k => hg.block b (hlt b k) (hb b k).2.2, fun b k => ⟨(hb b k).1, Nat.lt_of_lt_of_le (hlt b k) hg.size, hne b (hlt b k) (hb b k).2.2⟩⟩
  · rw [List.mem_singleton] at hy
    subst hy
    exact ⟨F, hx.agree fun b k => hg.block b (hF b k).2.1 (hF b k).2.2, fun b k => ⟨(hF b k).1, Nat.lt_of_lt_of_le (hF b k).2.1 hg.size, hne b (hF b k).2.1 (hF b k).2.2⟩⟩
/-- A place of the row. -/
theorem OwnRow.at_ (h : OwnRow B C w e size v cells Φ L) (hc : ∀ x, (cells x).length = size) {i : Nat} (hi : i < L.length) :
    ∃ b cap, v = .slice (some ⟨b, 0, none⟩) L.length cap ∧ B ≤ b ∧ b < C ∧ L.length ≤ cap ∧ ∀ j, j < size → w.cell? ⟨b, i * size + j, none⟩ = (cells L[i])[j]? := by
  rcases h.1.2 with ⟨_, h0⟩ | ⟨g, cap, cur, rfl, hb, hg, hcap, _⟩
  · omega
  · refine ⟨g, cap, rfl, hb, h.2.1 g rfl, hcap, fun j hj => ?_⟩
    have hlen : ∀ l : List α, (l.flatMap cells).length = l.length * size := by
      intro l
      induction l with
      | nil => simp
      | cons x r ih => simp [ih, hc, Nat.succ_mul]; omega
    have hij : i * size + j < L.length * size := by
      have : (i + 1) * size ≤ L.length * size := Nat.mul_le_mul_right _ hi
      rw [Nat.succ_mul] at this; omega
    rw [h.1.cellAt _ hij]
    have e : L = L.take i ++ (L[i] :: L.drop (i + 1)) := by rw [← List.drop_eq_getElem_cons hi, List.take_append_drop]
    have e2 : (L.flatMap cells)[i * size + j]? = ((L.take i ++ (L[i] :: L.drop (i + 1))).flatMap cells)[i * size + j]? := congrArg (fun l => (l.flatMap cells)[i * size + j]?) e
    rw [e2, List.flatMap_append, List.flatMap_cons, List.getElem?_append_right (by rw [hlen, List.length_take]; rw [Nat.min_eq_left (by omega)]; omega)]
    rw [hlen, List.length_take, Nat.min_eq_left (by omega), Nat.add_sub_cancel_left, List.getElem?_append_left (by rw [hc]; exact hj)]
theorem OwnRow.form (h : OwnRow B C w e size v cells Φ L) : ∃ A cap, v = .slice A L.length cap ∧ L.length ≤ cap := by
  rcases h.1.2 with ⟨rfl, h0⟩ | ⟨g, cap, cur, rfl, hb, hg, hcap, _⟩
  · exact ⟨none, 0, by rw [h0], by omega⟩
  · exact ⟨_, cap, rfl, hcap⟩
end
end Go.Proofs.Ytbnnpkcfifejmaa
/- Memory of shapes, ops, nodes and nets: what slices of them read as. No program is named here. -/
namespace Go.Proofs.Ytbnnpkcfifejmaa
open Go.RowKit

/-- A slice of shapes reads as the list ss. -/
def Shps (w : World) (A : Option Addr) (ss : List (List Int)) : Prop :=
  ∀ j (hj : j < ss.length), ∃ b off S c, A = some ⟨b, off, none⟩ ∧ b < w.heap.size ∧ w.cell? ⟨b, off + j, none⟩ = some (.slice S ss[j].length c) ∧ Ints .i64 w S ss[j] ∧ ss[j].length ≤ c ∧ c ≤ 9223372036854775807
section
variable {w w' : World} {A : Option Addr} {ss : List (List Int)} {B : Nat}
theorem Shps.below (h : Shps w A ss) (hb : Below B w w') (hB : w.heap.size ≤ B) : Shps w' A ss := fun j hj => by
  obtain ⟨b, off, S, c, e, hl, hc, hI, h2⟩ := h j hj
  exact ⟨b, off, S, c, e, Nat.lt_of_lt_of_le hl hb.size, (hb.cell (p := ⟨b, off + j, none⟩) (Nat.lt_of_lt_of_le hl hB)).trans hc, hI.below hb hB, h2⟩
theorem Shps.alloc (h : Shps w A ss) (o : Obj) : Shps (w.alloc o) A ss := h.below ((Below.refl _ _).alloc (Nat.le_refl _) o) (Nat.le_refl _)
theorem Shps.drewN (h : Shps w A ss) (n : Nat) : Shps (w.drewN n) A ss := h
theorem Shps.drew (h : Shps w A ss) : Shps w.drew A ss := h
theorem Shps.nil : Shps w A [] := fun j hj => absurd hj (by simp)
theorem Shps.dropped {b off : Nat} (k : Nat) (h : Shps w (some ⟨b, off, none⟩) ss) : Shps w (some ⟨b, off + k, none⟩) (ss.drop k) := fun j hj => by
  rw [List.length_drop] at hj
  obtain ⟨b', off', S, c, e, hl, hc, hI, h2⟩ := h (k + j) (by omega)
  injection e with e
  injection e with e1 e2
  subst e1 e2
  rw [List.getElem_drop]
  exact ⟨b, off + k, S, c, rfl, hl, by rw [Nat.add_assoc]; exact hc, hI, h2⟩
end

/-- The op's value, its shape at S. -/
def opVal (o : OpD) (S : Option Addr) (c : Nat) : Value := .agg #[.int .i64 o.kind, .int .i64 o.k, .int .i64 o.width, .int .i64 o.step, .int .i64 o.side, .int .i64 o.frm, .int .i64 o.to, .slice S o.s.length c]
/-- All numbers are an int's. -/
def OpD.wide (o : OpD) : Prop := ∀ z ∈ [o.kind, o.k, o.width, o.step, o.side, o.frm, o.to], -9223372036854775808 ≤ z ∧ z ≤ 9223372036854775807

/-- A slice of nodes reads as the list ns. -/
def Nodes (w : World) (A : Option Addr) (ns : List NodeD) : Prop :=
  ∀ j (hj : j < ns.length), ∃ b off S c I d Q q, A = some ⟨b, off, none⟩ ∧ b < w.heap.size ∧
    w.cell? ⟨b, off + j * 10, none⟩ = some (.int .i64 ns[j].op.kind) ∧ w.cell? ⟨b, off + j * 10 + 1, none⟩ = some (.int .i64 ns[j].op.k) ∧ w.cell? ⟨b, off + j * 10 + 2, none⟩ = some (.int .i64 ns[j].op.width) ∧
    w.cell? ⟨b, off + j * 10 + 3, none⟩ = some (.int .i64 ns[j].op.step) ∧ w.cell? ⟨b, off + j * 10 + 4, none⟩ = some (.int .i64 ns[j].op.side) ∧ w.cell? ⟨b, off + j * 10 + 5, none⟩ = some (.int .i64 ns[j].op.frm) ∧
    w.cell? ⟨b, off + j * 10 + 6, none⟩ = some (.int .i64 ns[j].op.to) ∧ w.cell? ⟨b, off + j * 10 + 7, none⟩ = some (.slice S ns[j].op.s.length c) ∧
    w.cell? ⟨b, off + j * 10 + 8, none⟩ = some (.slice I ns[j].ins.length d) ∧ w.cell? ⟨b, off + j * 10 + 9, none⟩ = some (.slice Q ns[j].p.length q) ∧
    (Ints .i64 w S ns[j].op.s ∧ ns[j].op.s.length ≤ c ∧ c ≤ 9223372036854775807) ∧ (Ints .i64 w I ns[j].ins ∧ ns[j].ins.length ≤ d ∧ d ≤ 9223372036854775807) ∧ (Shps w Q ns[j].p ∧ ns[j].p.length ≤ q ∧ q ≤ 9223372036854775807)
theorem Nodes.below {B : Nat} {w w' : World} {A : Option Addr} {ns : List NodeD} (h : Nodes w A ns) (hb : Below B w w') (hB : w.heap.size ≤ B) : Nodes w' A ns := fun j hj => by
  obtain ⟨b, off, S, c, I, d, Q, q, e, hl, c0, c1, c2, c3, c4, c5, c6, c7, c8, c9, ⟨h1, h1'⟩, ⟨h2, h2'⟩, h3, h3'⟩ := h j hj
  have hc : ∀ {k v}, w.cell? ⟨b, k, none⟩ = some v → w'.cell? ⟨b, k, none⟩ = some v := fun {k v} hk => (hb.cell (p := ⟨b, k, none⟩) (Nat.lt_of_lt_of_le hl hB)).trans hk
  exact ⟨b, off, S, c, I, d, Q, q, e, Nat.lt_of_lt_of_le hl hb.size, hc c0, hc c1, hc c2, hc c3, hc c4, hc c5, hc c6, hc c7, hc c8, hc c9, ⟨h1.below hb hB, h1'⟩, ⟨h2.below hb hB, h2'⟩, h3.below hb hB, h3'⟩
theorem Nodes.alloc {w : World} {A : Option Addr} {ns : List NodeD} (h : Nodes w A ns) (o : Obj) : Nodes (w.alloc o) A ns := h.below ((Below.refl _ _).alloc (Nat.le_refl _) o) (Nat.le_refl _)
/-- A net's parts read as n. -/
def NetR (w : World) (A N : Option Addr) (n : NetD) : Prop := Ints .i64 w A n.inn ∧ Nodes w N n.nodes
theorem NetR.below {B : Nat} {w w' : World} {A N : Option Addr} {n : NetD} (h : NetR w A N n) (hb : Below B w w') (hB : w.heap.size ≤ B) : NetR w' A N n := ⟨h.1.below hb hB, h.2.below hb hB⟩

/-- The block g is a row of shapes, none of them in the block itself. -/
def ShpRow (w : World) (g : Nat) (t : TypeId) (sh : List (List Int)) : Prop :=
  ∃ vs : List Value, vs.length = sh.length ∧ Blk w g t vs.toArray ∧ ∀ j (hj : j < sh.length), ∃ S c, vs[j]? = some (.slice S sh[j].length c) ∧ Ints .i64 w S sh[j] ∧ sh[j].length ≤ c ∧ c ≤ 9223372036854775807 ∧ ∀ a, S = some a → a.block ≠ g
section
variable {w w' : World} {g : Nat} {t : TypeId} {sh : List (List Int)} {B : Nat}
theorem ShpRow.lt (h : ShpRow w g t sh) : g < w.heap.size := by obtain ⟨vs, _, hb, _⟩ := h; exact hb.lt
theorem ShpRow.below (h : ShpRow w g t sh) (hb : Below B w w') (hB : w.heap.size ≤ B) : ShpRow w' g t sh := by
  obtain ⟨vs, hl, hk, hv⟩ := h
  refine ⟨vs, hl, hk.below hb (Nat.lt_of_lt_of_le hk.lt hB), fun j hj => ?_⟩
  obtain ⟨S, c, e, hI, h2⟩ := hv j hj
  exact ⟨S, c, e, hI.below hb hB, h2⟩
theorem ShpRow.alloc (h : ShpRow w g t sh) (o : Obj) : ShpRow (w.alloc o) g t sh := h.below ((Below.refl _ _).alloc (Nat.le_refl _) o) (Nat.le_refl _)
theorem ShpRow.drewN (h : ShpRow w g t sh) (n : Nat) : ShpRow (w.drewN n) g t sh := h
theorem ShpRow.at_ (h : ShpRow w g t sh) {j : Nat} (hj : j < sh.length) : ∃ S c, w.cell? ⟨g, j, none⟩ = some (.slice S sh[j].length c) ∧ Ints .i64 w S sh[j] ∧ sh[j].length ≤ c ∧ c ≤ 9223372036854775807 ∧ ∀ a, S = some a → a.block ≠ g := by
  obtain ⟨vs, hl, hk, hv⟩ := h
  obtain ⟨S, c, e, h2⟩ := hv j hj
  exact ⟨S, c, by rw [hk.cell j]; simpa using e, h2⟩
theorem ShpRow.shps (h : ShpRow w g t sh) : Shps w (some ⟨g, 0, none⟩) sh := fun j hj => by
  obtain ⟨S, c, hc, hI, h1, h2, _⟩ := h.at_ hj
  exact ⟨g, 0, S, c, rfl, h.lt, by rw [Nat.zero_add]; exact hc, hI, h1, h2⟩
theorem Ints.set_far {k : IntKind} {A : Option Addr} {zs : List Int} (h : Ints k w A zs) {p : Addr} (hp : ∀ a, A = some a → a.block ≠ p.block) (v : Value) : Ints k (w.setCell p v) A zs := fun j hj => by
  obtain ⟨b, off, e, hl, hc⟩ := h j hj
  refine ⟨b, off, e, by simpa using hl, ?_⟩
  have hne : b ≠ p.block := hp _ e
  exact (World.cell?_of_block (w := w) (a := ⟨b, off + j, none⟩) (Below.heap_setCell w p v b hne)).trans hc
theorem ShpRow.set_ (h : ShpRow w g t sh) {i : Nat} {S : Option Addr} {s : List Int} {c : Nat} (hI : Ints .i64 w S s) (hc : s.length ≤ c) (hm : c ≤ 9223372036854775807) (hS : ∀ a, S = some a → a.block ≠ g) :
    ShpRow (w.setCell ⟨g, i, none⟩ (.slice S s.length c)) g t (sh.set i s) := by
  obtain ⟨vs, hl, hk, hv⟩ := h
  refine ⟨vs.set i (.slice S s.length c), by simp [hl], ?_, fun j hj => ?_⟩
  · have := hk.set_ i (.slice S s.length c)
    simpa using this
  · rw [List.length_set] at hj
    by_cases e : i = j
    · subst e
      refine ⟨S, c, by simp [hl, hj], by simpa using hI.set_far (p := ⟨g, i, none⟩) hS _, by simpa using hc, hm, hS⟩
    · obtain ⟨S', c', e', hI', h1, h2, h3⟩ := hv j hj
      refine ⟨S', c', by simp [List.getElem?_set_ne e, e', List.getElem_set_ne e], ?_, by simpa [List.getElem_set_ne e] using h1, h2, h3⟩
      rw [List.getElem_set_ne e]
      exact hI'.set_far (p := ⟨g, i, none⟩) h3 _
theorem ShpRow.new {n : Nat} (h : Blk w g t (List.replicate n (Value.slice none 0 0)).toArray) : ShpRow w g t (List.replicate n []) :=
  ⟨List.replicate n (.slice none 0 0), by simp, h, fun j hj => ⟨none, 0, by simp at hj; simp [hj], by simp at hj; simp [Ints.nil], by simp, by omega, fun a e => by cases e⟩⟩
end
end Go.Proofs.Ytbnnpkcfifejmaa
/- Layer 10 (op): which ops are right and equal: contracts. -/
namespace Go.Proofs.Ytbnnpkcfifejmaa
open Go.RowKit

def opCells (o : OpD) (S : Option Addr) (c : Nat) : Array Value := #[.int .i64 o.kind, .int .i64 o.k, .int .i64 o.width, .int .i64 o.step, .int .i64 o.side, .int .i64 o.frm, .int .i64 o.to, .slice S o.s.length c]
def opNums (o : OpD) : Value := .agg #[.int .i64 o.kind, .int .i64 o.k, .int .i64 o.width, .int .i64 o.step, .int .i64 o.side, .int .i64 o.frm, .int .i64 o.to]

theorem below2 (w : World) (a b : Obj) : Below w.heap.size w ((w.alloc a).alloc b) := ((Below.refl _ w).alloc (Nat.le_refl _) a).alloc (by simp) b
theorem below3 (w : World) (a b c : Obj) : Below w.heap.size w (((w.alloc a).alloc b).alloc c) := (below2 w a b).alloc (by simp; omega) c
/-- The op with what its kind uses, its shape where it was, or none. -/
def UsedP (o : OpD) (S : Option Addr) (c : Nat) (w : World) (e : Ending) (w' : World) : Prop :=
  ∃ S' c', e = .returned (.agg #[.int .i64 (Od.used o).kind, .int .i64 (Od.used o).k, .int .i64 (Od.used o).width, .int .i64 (Od.used o).step, .int .i64 (Od.used o).side, .int .i64 (Od.used o).frm, .int .i64 (Od.used o).to, .slice S' (Od.used o).s.length c']) ∧ (S' = S ∧ (Od.used o).s = o.s ∨ (Od.used o).s = []) ∧ Below w.heap.size w w'

set_option maxHeartbeats 1000000 in
theorem op_numbers (o : OpD) (S : Option Addr) (c : Nat) (w : World) :
    Calls Try.prog 90 #[.agg #[.int .i64 o.kind, .int .i64 o.k, .int .i64 o.width, .int .i64 o.step, .int .i64 o.side, .int .i64 o.frm, .int .i64 o.to, .slice S o.s.length c]] w fun e w' => e = .returned (.agg #[.int .i64 o.kind, .int .i64 o.k, .int .i64 o.width, .int .i64 o.step, .int .i64 o.side, .int .i64 o.frm, .int .i64 o.to]) ∧ Below w.heap.size w w' := by
  go_enter Try.func90, Try.ntmps90
  go_wp2_with fail
  refine bodyPost_ret (v := .agg #[.int .i64 o.kind, .int .i64 o.k, .int .i64 o.width, .int .i64 o.step, .int .i64 o.side, .int .i64 o.frm, .int .i64 o.to]) (by simp [results, Try.results90, go_sem]) rfl ?_
  exact ⟨rfl, below2 w _ _⟩

set_option maxHeartbeats 2000000 in
set_option maxRecDepth 100000 in
theorem op_used (o : OpD) (S : Option Addr) (c : Nat) (w : World) :
    Calls Try.prog 74 #[.agg #[.int .i64 o.kind, .int .i64 o.k, .int .i64 o.width, .int .i64 o.step, .int .i64 o.side, .int .i64 o.frm, .int .i64 o.to, .slice S o.s.length c]] w (UsedP o S c w) := by
  obtain ⟨kind, k, width, step, side, frm, to_, s⟩ := o
  by_cases hk : kind = 2 ∨ kind = 5 ∨ kind = 10 ∨ kind = 11 ∨ kind = 12 ∨ kind = 13 ∨ kind = 14 ∨ kind = 15
  · rcases hk with rfl | rfl | rfl | rfl | rfl | rfl | rfl | rfl
    all_goals
      go_enter Try.func74, Try.ntmps74
      go_wp2_with fail
      try go_region_with (fail)
    all_goals try go_wp2_with fail
    all_goals refine bodyPost_ret (by simp [results, Try.results74, go_sem]; rfl) rfl ?_
    all_goals refine ⟨_, _, rfl, by simp [Od.used], ?_⟩
    all_goals (repeat' first | exact Below.refl _ _ | exact below3 _ _ _ _ | refine Below.drew ?_ | refine Below.setCell ?_ (by simp) _ | refine Below.alloc ?_ (by simp) _)
  · have n2 : (kind == 2) = false := by simp; omega
    have n5 : (kind == 5) = false := by simp; omega
    have n10 : (kind == 10) = false := by simp; omega
    have n11 : (kind == 11) = false := by simp; omega
    have n12 : (kind == 12) = false := by simp; omega
    have n13 : (kind == 13) = false := by simp; omega
    have n14 : (kind == 14) = false := by simp; omega
    have n15 : (kind == 15) = false := by simp; omega
    have HU := Lib.hid (show Od.used ⟨kind, k, width, step, side, frm, to_, s⟩ = ⟨kind, 0, 0, 0, 0, 0, 0, []⟩ by unfold Od.used; simp only; rw [if_neg (by omega), if_neg (by omega), if_neg (by omega), if_neg (by omega), if_neg (by omega), if_neg (by omega)])
    clear hk
    go_enter Try.func74, Try.ntmps74
    go_wp2_with fail
    refine bodyPost_ret (by simp [results, Try.results74, go_sem]; rfl) rfl ?_
    exact ⟨none, 0, by rw [HU.out]; rfl, .inr (by rw [HU.out]), below3 w _ _ _⟩
end Go.Proofs.Ytbnnpkcfifejmaa
/- Layer 10 (op): equal and right ops: contracts. -/
namespace Go.Proofs.Ytbnnpkcfifejmaa
open Go.RowKit

theorem arr_stood : Try.prog.stoodInHeld 122 = false := by kernel_rfl
theorem arr_guard : Try.prog.eqGuardType Try.prog.depth 122 = false := by kernel_rfl
theorem i64_one : Try.prog.cellsOf 2 = 1 := by kernel_rfl
theorem run_eql_nums (w : World) (a0 a1 a2 a3 a4 a5 a6 b0 b1 b2 b3 b4 b5 b6 : Int) : (binOp .eql 122 (.agg #[.int .i64 a0, .int .i64 a1, .int .i64 a2, .int .i64 a3, .int .i64 a4, .int .i64 a5, .int .i64 a6]) (.agg #[.int .i64 b0, .int .i64 b1, .int .i64 b2, .int .i64 b3, .int .i64 b4, .int .i64 b5, .int .i64 b6])).run Try.prog w =
    .ok (.bool (a0 == b0 && a1 == b1 && a2 == b2 && a3 == b3 && a4 == b4 && a5 == b5 && a6 == b6)) w := by
  obtain ⟨i0, hi, _, _, _⟩ := info_parts i64_info
  have hA := run_equalIn_array (P := Try.prog) (w := w) 9999 #[.int .i64 a0, .int .i64 a1, .int .i64 a2, .int .i64 a3, .int .i64 a4, .int .i64 a5, .int .i64 a6] #[.int .i64 b0, .int .i64 b1, .int .i64 b2, .int .i64 b3, .int .i64 b4, .int .i64 b5, .int .i64 b6] Try.underlying122 hi
  rw [i64_one] at hA
  have g1 := arr_stood
  have g2 := arr_guard
  simp [go_sem]
  rw [hA]
  rw [show List.range 7 = [0, 1, 2, 3, 4, 5, 6] from rfl]
  clear hA
  cases h0 : (a0 == b0)
  · simp [Op.eqItems, go_sem, h0]
  cases h1 : (a1 == b1)
  · simp [Op.eqItems, go_sem, h0, h1]
  cases h2 : (a2 == b2)
  · simp [Op.eqItems, go_sem, h0, h1, h2]
  cases h3 : (a3 == b3)
  · simp [Op.eqItems, go_sem, h0, h1, h2, h3]
  cases h4 : (a4 == b4)
  · simp [Op.eqItems, go_sem, h0, h1, h2, h3, h4]
  cases h5 : (a5 == b5)
  · simp [Op.eqItems, go_sem, h0, h1, h2, h3, h4, h5]
  cases h6 : (a6 == b6)
  all_goals simp [Op.eqItems, go_sem, h0, h1, h2, h3, h4, h5, h6]

theorem op_eq_iff (o q : OpD) : decide (o = q) = ((o.kind == q.kind && o.k == q.k && o.width == q.width && o.step == q.step && o.side == q.side && o.frm == q.frm && o.to == q.to) && (o.s == q.s)) := by
  obtain ⟨a0, a1, a2, a3, a4, a5, a6, a7⟩ := o
  obtain ⟨b0, b1, b2, b3, b4, b5, b6, b7⟩ := q
  rw [Bool.eq_iff_iff]
  simp [and_assoc]

set_option maxHeartbeats 4000000 in
theorem op_equal (o q : OpD) (S T : Option Addr) (c d : Nat) (w : World) (ho : o.s.length ≤ 17592186043904) (hq : q.s.length ≤ 17592186043904) (hI : Ints .i64 w S o.s) (hJ : Ints .i64 w T q.s) :
    Calls Try.prog 73 #[.agg #[.int .i64 o.kind, .int .i64 o.k, .int .i64 o.width, .int .i64 o.step, .int .i64 o.side, .int .i64 o.frm, .int .i64 o.to, .slice S o.s.length c], .agg #[.int .i64 q.kind, .int .i64 q.k, .int .i64 q.width, .int .i64 q.step, .int .i64 q.side, .int .i64 q.frm, .int .i64 q.to, .slice T q.s.length d]] w fun e w' => e = .returned (.bool (decide (o = q))) ∧ Below w.heap.size w w' := by
  have hrun := fun W => run_eql_nums W o.kind o.k o.width o.step o.side o.frm o.to q.kind q.k q.width q.step q.side q.frm q.to
  have HE := Lib.hid (op_eq_iff o q)
  have hk0 := (Blk.new w 26 #[.int .i64 o.kind, .int .i64 o.k, .int .i64 o.width, .int .i64 o.step, .int .i64 o.side, .int .i64 o.frm, .int .i64 o.to, .slice S o.s.length c]).alloc (.cells #[.int .i64 q.kind, .int .i64 q.k, .int .i64 q.width, .int .i64 q.step, .int .i64 q.side, .int .i64 q.frm, .int .i64 q.to, .slice T q.s.length d] 26)
  have hk1 := Blk.new (w.alloc (.cells #[.int .i64 o.kind, .int .i64 o.k, .int .i64 o.width, .int .i64 o.step, .int .i64 o.side, .int .i64 o.frm, .int .i64 o.to, .slice S o.s.length c] 26)) 26 #[.int .i64 q.kind, .int .i64 q.k, .int .i64 q.width, .int .i64 q.step, .int .i64 q.side, .int .i64 q.frm, .int .i64 q.to, .slice T q.s.length d]
  have hb0 := below2 w (.cells #[.int .i64 o.kind, .int .i64 o.k, .int .i64 o.width, .int .i64 o.step, .int .i64 o.side, .int .i64 o.frm, .int .i64 o.to, .slice S o.s.length c] 26) (.cells #[.int .i64 q.kind, .int .i64 q.k, .int .i64 q.width, .int .i64 q.step, .int .i64 q.side, .int .i64 q.frm, .int .i64 q.to, .slice T q.s.length d] 26)
  rw [World.size_alloc] at hk1
  go_enter Try.func73, Try.ntmps73
  go_wp2_with fail
  generalize ((w.alloc (.cells #[.int .i64 o.kind, .int .i64 o.k, .int .i64 o.width, .int .i64 o.step, .int .i64 o.side, .int .i64 o.frm, .int .i64 o.to, .slice S o.s.length c] 26)).alloc (.cells #[.int .i64 q.kind, .int .i64 q.k, .int .i64 q.width, .int .i64 q.step, .int .i64 q.side, .int .i64 q.frm, .int .i64 q.to, .slice T q.s.length d] 26)) = w0 at *
  have hlt0 := hk0.lt
  have hlt1 := hk1.lt
  have hcells : ∀ W, Below w0.heap.size w0 W → W.cell? ⟨w.heap.size, 0, none⟩ = some (.int .i64 o.kind) ∧ W.cell? ⟨w.heap.size, 1, none⟩ = some (.int .i64 o.k) ∧ W.cell? ⟨w.heap.size, 2, none⟩ = some (.int .i64 o.width) ∧ W.cell? ⟨w.heap.size, 3, none⟩ = some (.int .i64 o.step) ∧ W.cell? ⟨w.heap.size, 4, none⟩ = some (.int .i64 o.side) ∧ W.cell? ⟨w.heap.size, 5, none⟩ = some (.int .i64 o.frm) ∧ W.cell? ⟨w.heap.size, 6, none⟩ = some (.int .i64 o.to) ∧ W.cell? ⟨w.heap.size, 7, none⟩ = some (.slice S o.s.length c) ∧ W.cell? ⟨w.heap.size + 1, 0, none⟩ = some (.int .i64 q.kind) ∧ W.cell? ⟨w.heap.size + 1, 1, none⟩ = some (.int .i64 q.k) ∧ W.cell? ⟨w.heap.size + 1, 2, none⟩ = some (.int .i64 q.width) ∧ W.cell? ⟨w.heap.size + 1, 3, none⟩ = some (.int .i64 q.step) ∧ W.cell? ⟨w.heap.size + 1, 4, none⟩ = some (.int .i64 q.side) ∧ W.cell? ⟨w.heap.size + 1, 5, none⟩ = some (.int .i64 q.frm) ∧ W.cell? ⟨w.heap.size + 1, 6, none⟩ = some (.int .i64 q.to) ∧ W.cell? ⟨w.heap.size + 1, 7, none⟩ = some (.slice T q.s.length d) := fun W hW => by
    have k0 := hk0.below hW hlt0
    have k1 := hk1.below hW hlt1
    have e := fun i => k0.cell i
    have f := fun i => k1.cell i
    refine ⟨?_, ?_, ?_, ?_, ?_, ?_, ?_, ?_, ?_, ?_, ?_, ?_, ?_, ?_, ?_, ?_⟩
    all_goals first | (rw [e]; rfl) | (rw [f]; rfl)
  have hself : Below w0.heap.size w0 w0.drew := (Below.refl _ _).drew
  have hall := hcells _ hself
  generalize hbv : (o.kind == q.kind && o.k == q.k && o.width == q.width && o.step == q.step && o.side == q.side && o.frm == q.frm && o.to == q.to) = bv at *
  have Hcells := Lib.hid hcells
  have HI := Lib.hid hI
  have HJ := Lib.hid hJ
  have Hk0 := Lib.hid hk0
  have Hk1 := Lib.hid hk1
  have Hbv := Lib.hid hbv
  clear hcells hI hJ hk0 hk1 hbv
  obtain ⟨x0, x1, x2, x3, x4, x5, x6, x7, y0, y1, y2, y3, y4, y5, y6, y7⟩ := hall
  cases bv
  · first
      | (go_region_with (first
          | (go_at_call_of 90 (Value.agg #[.int .i64 o.kind, .int .i64 o.k, .int .i64 o.width, .int .i64 o.step, .int .i64 o.side, .int .i64 o.frm, .int .i64 o.to, .slice S o.s.length c]); refine (op_numbers o S c _).mono ?_; rintro e wa ⟨rfl, ha⟩; have hbb := hself.trans (ha.mono hself.size); obtain ⟨u0, u1, u2, u3, u4, u5, u6, u7, u8, u9, u10, u11, u12, u13, u14, u15⟩ := Hcells.out _ hbb)
          | (go_at_call 90; refine (op_numbers q T d _).mono ?_; rintro e wb ⟨rfl, hb⟩; have hbb := hbb.trans (hb.mono hbb.size); obtain ⟨v0, v1, v2, v3, v4, v5, v6, v7, v8, v9, v10, v11, v12, v13, v14, v15⟩ := Hcells.out _ hbb)))
      | skip
    all_goals
      go_wp2_with fail
      go_ret
      exact ⟨by rw [HE.out]; rfl, hb0.trans (hbb.mono hb0.size)⟩
  · go_region_held3 (fun W => W.cell? ⟨w.heap.size, 0, none⟩ = some (.int .i64 o.kind) ∧ W.cell? ⟨w.heap.size, 1, none⟩ = some (.int .i64 o.k) ∧ W.cell? ⟨w.heap.size, 2, none⟩ = some (.int .i64 o.width) ∧ W.cell? ⟨w.heap.size, 3, none⟩ = some (.int .i64 o.step) ∧ W.cell? ⟨w.heap.size, 4, none⟩ = some (.int .i64 o.side) ∧ W.cell? ⟨w.heap.size, 5, none⟩ = some (.int .i64 o.frm) ∧ W.cell? ⟨w.heap.size, 6, none⟩ = some (.int .i64 o.to) ∧ W.cell? ⟨w.heap.size, 7, none⟩ = some (.slice S o.s.length c) ∧ W.cell? ⟨w.heap.size + 1, 0, none⟩ = some (.int .i64 q.kind) ∧ W.cell? ⟨w.heap.size + 1, 1, none⟩ = some (.int .i64 q.k) ∧ W.cell? ⟨w.heap.size + 1, 2, none⟩ = some (.int .i64 q.width) ∧ W.cell? ⟨w.heap.size + 1, 3, none⟩ = some (.int .i64 q.step) ∧ W.cell? ⟨w.heap.size + 1, 4, none⟩ = some (.int .i64 q.side) ∧ W.cell? ⟨w.heap.size + 1, 5, none⟩ = some (.int .i64 q.frm) ∧ W.cell? ⟨w.heap.size + 1, 6, none⟩ = some (.int .i64 q.to) ∧ W.cell? ⟨w.heap.size + 1, 7, none⟩ = some (.slice T q.s.length d)) (first | exact Hcells.out _ hbc | exact Hcells.out _ hbb | exact Hcells.out _ hself)
      (first
        | (go_at_call_of 90 (Value.agg #[.int .i64 o.kind, .int .i64 o.k, .int .i64 o.width, .int .i64 o.step, .int .i64 o.side, .int .i64 o.frm, .int .i64 o.to, .slice S o.s.length c]); refine (op_numbers o S c _).mono ?_; rintro e wa ⟨rfl, ha⟩; have hbb := hself.trans (ha.mono hself.size))
        | (go_at_call 90; refine (op_numbers q T d _).mono ?_; rintro e wb ⟨rfl, hb⟩; have hbb := hbb.trans (hb.mono hbb.size))
        | (go_at_call 12; refine (shape_equal S T c d o.s q.s _ ho hq (HI.out.below (hb0.trans (hbb.mono hb0.size)) (Nat.le_refl _)) (HJ.out.below (hb0.trans (hbb.mono hb0.size)) (Nat.le_refl _))).mono ?_; rintro e wd ⟨rfl, nd, rfl⟩; have hbc := Bdrawn hbb nd))
    all_goals
      go_wp2_with fail
      go_ret
      exact ⟨by rw [HE.out]; rfl, hb0.trans (hbc.mono hb0.size)⟩
end Go.Proofs.Ytbnnpkcfifejmaa
/- Layer 10 (op): right ops, how many ins and parameters: contracts. -/
namespace Go.Proofs.Ytbnnpkcfifejmaa
open Go.RowKit

theorem used_len (o : OpD) : (Od.used o).s.length ≤ o.s.length := by
  unfold Od.used
  repeat' split
  all_goals simp
set_option maxHeartbeats 4000000 in
theorem op_right (o : OpD) (S : Option Addr) (c : Nat) (w : World) (ho : o.s.length ≤ 17592186043904) (hI : Ints .i64 w S o.s) :
    Calls Try.prog 43 #[.agg #[.int .i64 o.kind, .int .i64 o.k, .int .i64 o.width, .int .i64 o.step, .int .i64 o.side, .int .i64 o.frm, .int .i64 o.to, .slice S o.s.length c]] w fun e w' => e = .returned (.bool (Od.right o)) ∧ Below w.heap.size w w' := by
  have hk0 := Blk.new w 26 #[.int .i64 o.kind, .int .i64 o.k, .int .i64 o.width, .int .i64 o.step, .int .i64 o.side, .int .i64 o.frm, .int .i64 o.to, .slice S o.s.length c]
  have hb0 : Below w.heap.size w (w.alloc (.cells #[.int .i64 o.kind, .int .i64 o.k, .int .i64 o.width, .int .i64 o.step, .int .i64 o.side, .int .i64 o.frm, .int .i64 o.to, .slice S o.s.length c] 26)) := (Below.refl _ _).alloc (Nat.le_refl _) _
  have hlt0 := hk0.lt
  have hul := used_len o
  by_cases h1 : 1 ≤ o.kind
  case neg =>
    have HR := Lib.hid (show Od.right o = false by simp [Od.right]; omega)
    have d1 : decide (1 ≤ o.kind) = false := by simp; omega
    have d1' : decide (o.kind ≥ 1) = false := d1
    go_enter Try.func43, Try.ntmps43
    go_wp2_with fail
    first
      | (go_region_with (fail))
      | skip
    all_goals
      go_wp2_with fail
      go_ret
      exact ⟨by rw [HR.out]; rfl, by first | exact hb0 | exact hb0.drew⟩
  by_cases h15 : o.kind ≤ 15
  case neg =>
    have HR := Lib.hid (show Od.right o = false by simp [Od.right]; omega)
    have d1 : decide (1 ≤ o.kind) = true := by simp; omega
    have d2 : decide (o.kind ≤ 15) = false := by simp; omega
    go_enter Try.func43, Try.ntmps43
    go_wp2_with fail
    first
      | (go_region_with (fail))
      | skip
    all_goals
      go_wp2_with fail
      go_ret
      exact ⟨by rw [HR.out]; rfl, by first | exact hb0 | exact hb0.drew⟩
  have HR := Lib.hid (show Od.right o = decide (o = Od.used o) by simp [Od.right, h1, h15])
  have d1 : decide (1 ≤ o.kind) = true := by simp; omega
  have d2 : decide (o.kind ≤ 15) = true := by simp; omega
  go_enter Try.func43, Try.ntmps43
  go_wp2_with fail
  generalize (w.alloc (.cells #[.int .i64 o.kind, .int .i64 o.k, .int .i64 o.width, .int .i64 o.step, .int .i64 o.side, .int .i64 o.frm, .int .i64 o.to, .slice S o.s.length c] 26)) = w0 at *
  have hcells : ∀ W, Below w0.heap.size w0 W → W.cell? ⟨w.heap.size, 0, none⟩ = some (.int .i64 o.kind) ∧ W.cell? ⟨w.heap.size, 1, none⟩ = some (.int .i64 o.k) ∧ W.cell? ⟨w.heap.size, 2, none⟩ = some (.int .i64 o.width) ∧ W.cell? ⟨w.heap.size, 3, none⟩ = some (.int .i64 o.step) ∧ W.cell? ⟨w.heap.size, 4, none⟩ = some (.int .i64 o.side) ∧ W.cell? ⟨w.heap.size, 5, none⟩ = some (.int .i64 o.frm) ∧ W.cell? ⟨w.heap.size, 6, none⟩ = some (.int .i64 o.to) ∧ W.cell? ⟨w.heap.size, 7, none⟩ = some (.slice S o.s.length c) := fun W hW => by
    have k0 := hk0.below hW hlt0
    have e := fun i => k0.cell i
    refine ⟨?_, ?_, ?_, ?_, ?_, ?_, ?_, ?_⟩
    all_goals (rw [e]; rfl)
  have hself : Below w0.heap.size w0 w0.drew := (Below.refl _ _).drew
  obtain ⟨x0, x1, x2, x3, x4, x5, x6, x7⟩ := hcells _ hself
  have Hcells := Lib.hid hcells
  have HI := Lib.hid hI
  have Hk0 := Lib.hid hk0
  clear hcells hI hk0
  go_region_held3 (fun W => W.cell? ⟨w.heap.size, 0, none⟩ = some (.int .i64 o.kind) ∧ W.cell? ⟨w.heap.size, 1, none⟩ = some (.int .i64 o.k) ∧ W.cell? ⟨w.heap.size, 2, none⟩ = some (.int .i64 o.width) ∧ W.cell? ⟨w.heap.size, 3, none⟩ = some (.int .i64 o.step) ∧ W.cell? ⟨w.heap.size, 4, none⟩ = some (.int .i64 o.side) ∧ W.cell? ⟨w.heap.size, 5, none⟩ = some (.int .i64 o.frm) ∧ W.cell? ⟨w.heap.size, 6, none⟩ = some (.int .i64 o.to) ∧ W.cell? ⟨w.heap.size, 7, none⟩ = some (.slice S o.s.length c)) (first | exact Hcells.out _ hbc | exact Hcells.out _ hbb | exact Hcells.out _ hself)
    (first
      | (go_at_call 74; refine (op_used o S c _).mono ?_; rintro e wa ⟨S', c', rfl, hcase, ha⟩; have hbb := hself.trans (ha.mono hself.size); have HC := Lib.hid hcase; clear hcase)
      | (go_at_call 73; refine (op_equal o (Od.used o) S S' c c' _ ho (by omega) (HI.out.below (hb0.trans (hbb.mono hb0.size)) (Nat.le_refl _)) (by rcases HC.out with ⟨e1, e2⟩ | e2; (rw [e1, e2]; exact HI.out.below (hb0.trans (hbb.mono hb0.size)) (Nat.le_refl _)); (rw [e2]; exact Ints.nil))).mono ?_; rintro e wd ⟨rfl, hd⟩; have hbc := hbb.trans (hd.mono hbb.size)))
  all_goals
    go_wp2_with fail
    go_ret
    exact ⟨by rw [HR.out]; rfl, hb0.trans (hbc.mono hb0.size)⟩
end Go.Proofs.Ytbnnpkcfifejmaa
/- Layer 10 (op): how many ins and parameters: contracts. -/
namespace Go.Proofs.Ytbnnpkcfifejmaa
open Go.RowKit

theorem op_cells {W : World} {g : Nat} {t : TypeId} {o : OpD} {S : Option Addr} {c : Nat} (h : Blk W g t #[.int .i64 o.kind, .int .i64 o.k, .int .i64 o.width, .int .i64 o.step, .int .i64 o.side, .int .i64 o.frm, .int .i64 o.to, .slice S o.s.length c]) :
    W.cell? ⟨g, 0, none⟩ = some (.int .i64 o.kind) ∧ W.cell? ⟨g, 1, none⟩ = some (.int .i64 o.k) ∧ W.cell? ⟨g, 2, none⟩ = some (.int .i64 o.width) ∧ W.cell? ⟨g, 3, none⟩ = some (.int .i64 o.step) ∧ W.cell? ⟨g, 4, none⟩ = some (.int .i64 o.side) ∧ W.cell? ⟨g, 5, none⟩ = some (.int .i64 o.frm) ∧ W.cell? ⟨g, 6, none⟩ = some (.int .i64 o.to) ∧ W.cell? ⟨g, 7, none⟩ = some (.slice S o.s.length c) := by
  have e := fun i => h.cell i
  refine ⟨?_, ?_, ?_, ?_, ?_, ?_, ?_, ?_⟩
  all_goals (rw [e]; rfl)

set_option maxHeartbeats 1000000 in
theorem point_ins (k : Int) (w : World) : Calls Try.prog 75 #[.int .i64 k] w fun e w' => e = .returned (.int .i64 (Od.ptIns k)) ∧ w = w' := by
  by_cases h : 1 ≤ k ∧ k ≤ 7
  · have hk : k = 1 ∨ k = 2 ∨ k = 3 ∨ k = 4 ∨ k = 5 ∨ k = 6 ∨ k = 7 := by omega
    rcases hk with rfl | rfl | rfl | rfl | rfl | rfl | rfl
    all_goals
      go_enter Try.func75, Try.ntmps75
      go_wp2_with fail
      go_ret
      exact ⟨rfl, rfl⟩
  · have HP := Lib.hid (show Od.ptIns k = 0 by unfold Od.ptIns; rw [if_neg (by omega), if_neg (by omega)])
    have n1 : (k == 1) = false := by simp; omega
    have n2 : (k == 2) = false := by simp; omega
    have n3 : (k == 3) = false := by simp; omega
    have n4 : (k == 4) = false := by simp; omega
    have n5 : (k == 5) = false := by simp; omega
    have n6 : (k == 6) = false := by simp; omega
    have n7 : (k == 7) = false := by simp; omega
    clear h
    go_enter Try.func75, Try.ntmps75
    go_wp2_with fail
    go_ret
    exact ⟨by rw [HP.out]; rfl, rfl⟩

set_option maxHeartbeats 1000000 in
theorem op_ins (o : OpD) (S : Option Addr) (c : Nat) (w : World) (ho : o.s.length ≤ 17592186043904) (hI : Ints .i64 w S o.s) :
    Calls Try.prog 44 #[.agg #[.int .i64 o.kind, .int .i64 o.k, .int .i64 o.width, .int .i64 o.step, .int .i64 o.side, .int .i64 o.frm, .int .i64 o.to, .slice S o.s.length c]] w fun e w' => e = .returned (.tuple #[.int .i64 (Od.least o), .int .i64 (Od.most o)]) ∧ Below w.heap.size w w' := by
  have hk0 := Blk.new w 26 #[.int .i64 o.kind, .int .i64 o.k, .int .i64 o.width, .int .i64 o.step, .int .i64 o.side, .int .i64 o.frm, .int .i64 o.to, .slice S o.s.length c]
  have hb0 : Below w.heap.size w (w.alloc (.cells #[.int .i64 o.kind, .int .i64 o.k, .int .i64 o.width, .int .i64 o.step, .int .i64 o.side, .int .i64 o.frm, .int .i64 o.to, .slice S o.s.length c] 26)) := (Below.refl _ _).alloc (Nat.le_refl _) _
  have hlt0 := hk0.lt
  have hr := op_right o S c (w.alloc (.cells #[.int .i64 o.kind, .int .i64 o.k, .int .i64 o.width, .int .i64 o.step, .int .i64 o.side, .int .i64 o.frm, .int .i64 o.to, .slice S o.s.length c] 26)) ho (hI.alloc _)
  cases hq : Od.right o
  · have HL := Lib.hid (show Od.least o = 0 ∧ Od.most o = 0 by simp [Od.least, Od.most, hq])
    rw [hq] at hr
    have Hr := Lib.hid hr
    have Hk0 := Lib.hid hk0
    have Hq := Lib.hid hq
    have HI := Lib.hid hI
    clear hr hk0 hq hI
    go_enter Try.func44, Try.ntmps44
    go_wp2_with fail
    refine (Hr.out).mono ?_
    rintro e w1 ⟨rfl, h1⟩
    go_wp2_with fail
    go_ret2
    exact ⟨by rw [HL.out.1, HL.out.2]; rfl, hb0.trans (h1.mono hb0.size)⟩
  · have hkd := Od.right_kind hq
    rw [hq] at hr
    by_cases h7 : o.kind ≤ 7
    · have HL := Lib.hid (show Od.least o = Od.ptIns o.kind ∧ Od.most o = Od.ptIns o.kind by simp [Od.least, Od.most, hq, h7])
      have Hr := Lib.hid hr
      have Hk0 := Lib.hid hk0
      have Hq := Lib.hid hq
      have HI := Lib.hid hI
      clear hr hk0 hq hI
      go_enter Try.func44, Try.ntmps44
      go_wp2_with fail
      refine (Hr.out).mono ?_
      rintro e w1 ⟨rfl, h1⟩
      obtain ⟨x0, -⟩ := op_cells (Hk0.out.below h1 hlt0)
      go_wp2_with fail
      refine (point_ins o.kind _).mono ?_
      rintro e w2 ⟨rfl, rfl⟩
      go_wp2_with fail
      go_ret2
      exact ⟨by rw [HL.out.1, HL.out.2]; rfl, hb0.trans (h1.mono hb0.size)⟩
    · by_cases h13 : o.kind = 13
      · have HL := Lib.hid (show Od.least o = 1 ∧ Od.most o = 8 by simp [Od.least, Od.most, hq, h13])
        have Hr := Lib.hid hr
        have Hk0 := Lib.hid hk0
        have Hq := Lib.hid hq
        have HI := Lib.hid hI
        have H13 := Lib.hid h13
        clear hr hk0 hq hI h13
        go_enter Try.func44, Try.ntmps44
        go_wp2_with fail
        refine (Hr.out).mono ?_
        rintro e w1 ⟨rfl, h1⟩
        obtain ⟨x0, -⟩ := op_cells (Hk0.out.below h1 hlt0)
        rw [H13.out] at x0
        go_wp2_with fail
        go_ret2
        exact ⟨by rw [HL.out.1, HL.out.2]; rfl, hb0.trans (h1.mono hb0.size)⟩
      · have HL := Lib.hid (show Od.least o = 1 ∧ Od.most o = 1 by simp [Od.least, Od.most, hq, h13, h7])
        have n13 : (o.kind == 13) = false := by simp; omega
        have Hr := Lib.hid hr
        have Hk0 := Lib.hid hk0
        have Hq := Lib.hid hq
        have HI := Lib.hid hI
        clear hr hk0 hq hI
        go_enter Try.func44, Try.ntmps44
        go_wp2_with fail
        refine (Hr.out).mono ?_
        rintro e w1 ⟨rfl, h1⟩
        obtain ⟨x0, -⟩ := op_cells (Hk0.out.below h1 hlt0)
        go_wp2_with fail
        go_ret2
        exact ⟨by rw [HL.out.1, HL.out.2]; rfl, hb0.trans (h1.mono hb0.size)⟩

set_option maxHeartbeats 1000000 in
theorem op_params (o : OpD) (S : Option Addr) (c : Nat) (w : World) (ho : o.s.length ≤ 17592186043904) (hI : Ints .i64 w S o.s) :
    Calls Try.prog 15 #[.agg #[.int .i64 o.kind, .int .i64 o.k, .int .i64 o.width, .int .i64 o.step, .int .i64 o.side, .int .i64 o.frm, .int .i64 o.to, .slice S o.s.length c]] w fun e w' => e = .returned (.int .i64 (Od.params o)) ∧ Below w.heap.size w w' := by
  have hk0 := Blk.new w 26 #[.int .i64 o.kind, .int .i64 o.k, .int .i64 o.width, .int .i64 o.step, .int .i64 o.side, .int .i64 o.frm, .int .i64 o.to, .slice S o.s.length c]
  have hb0 : Below w.heap.size w (w.alloc (.cells #[.int .i64 o.kind, .int .i64 o.k, .int .i64 o.width, .int .i64 o.step, .int .i64 o.side, .int .i64 o.frm, .int .i64 o.to, .slice S o.s.length c] 26)) := (Below.refl _ _).alloc (Nat.le_refl _) _
  have hlt0 := hk0.lt
  have hr := op_right o S c (w.alloc (.cells #[.int .i64 o.kind, .int .i64 o.k, .int .i64 o.width, .int .i64 o.step, .int .i64 o.side, .int .i64 o.frm, .int .i64 o.to, .slice S o.s.length c] 26)) ho (hI.alloc _)
  cases hq : Od.right o
  · have HL := Lib.hid (show Od.params o = 0 by simp [Od.params, hq])
    rw [hq] at hr
    have Hr := Lib.hid hr
    have Hk0 := Lib.hid hk0
    have Hq := Lib.hid hq
    have HI := Lib.hid hI
    clear hr hk0 hq hI
    go_enter Try.func15, Try.ntmps15
    go_wp2_with fail
    refine (Hr.out).mono ?_
    rintro e w1 ⟨rfl, h1⟩
    go_wp2_with fail
    go_ret
    exact ⟨by rw [HL.out]; rfl, hb0.trans (h1.mono hb0.size)⟩
  · rw [hq] at hr
    by_cases h8 : o.kind = 8 ∨ o.kind = 9 ∨ o.kind = 10
    · have HL := Lib.hid (show Od.params o = if o.kind = 8 then 2 else 1 by unfold Od.params; rw [if_pos hq]; rcases h8 with h | h | h <;> simp [h])
      have Hr := Lib.hid hr
      have Hk0 := Lib.hid hk0
      have Hq := Lib.hid hq
      have HI := Lib.hid hI
      clear hr hk0 hq hI
      rcases h8 with h8 | h8 | h8
      all_goals
        have H8 := Lib.hid h8
        clear h8
        go_enter Try.func15, Try.ntmps15
        go_wp2_with fail
        refine (Hr.out).mono ?_
        rintro e w1 ⟨rfl, h1⟩
        obtain ⟨x0, -⟩ := op_cells (Hk0.out.below h1 hlt0)
        rw [H8.out] at x0
        go_wp2_with fail
        go_ret
        exact ⟨by rw [HL.out, H8.out]; rfl, hb0.trans (h1.mono hb0.size)⟩
    · have HL := Lib.hid (show Od.params o = 0 by unfold Od.params; rw [if_pos hq, if_neg (by omega), if_neg (by omega)])
      have n8 : (o.kind == 8) = false := by simp; omega
      have n9 : (o.kind == 9) = false := by simp; omega
      have n10 : (o.kind == 10) = false := by simp; omega
      have Hr := Lib.hid hr
      have Hk0 := Lib.hid hk0
      have Hq := Lib.hid hq
      have HI := Lib.hid hI
      clear hr hk0 hq hI
      clear h8
      go_enter Try.func15, Try.ntmps15
      go_wp2_with fail
      refine (Hr.out).mono ?_
      rintro e w1 ⟨rfl, h1⟩
      obtain ⟨x0, -⟩ := op_cells (Hk0.out.below h1 hlt0)
      go_wp2_with fail
      go_ret
      exact ⟨by rw [HL.out]; rfl, hb0.trans (h1.mono hb0.size)⟩

set_option maxHeartbeats 1000000 in
theorem op_counts (o : OpD) (S : Option Addr) (c : Nat) (p x : Int) (w : World) (ho : o.s.length ≤ 17592186043904) (hI : Ints .i64 w S o.s) :
    Calls Try.prog 16 #[.agg #[.int .i64 o.kind, .int .i64 o.k, .int .i64 o.width, .int .i64 o.step, .int .i64 o.side, .int .i64 o.frm, .int .i64 o.to, .slice S o.s.length c], .int .i64 p, .int .i64 x] w fun e w' => e = .returned (.int .i64 (Od.counts o p x)) ∧ Below w.heap.size w w' := by
  have hk0 := Blk.new w 26 #[.int .i64 o.kind, .int .i64 o.k, .int .i64 o.width, .int .i64 o.step, .int .i64 o.side, .int .i64 o.frm, .int .i64 o.to, .slice S o.s.length c]
  have hb0 : Below w.heap.size w (w.alloc (.cells #[.int .i64 o.kind, .int .i64 o.k, .int .i64 o.width, .int .i64 o.step, .int .i64 o.side, .int .i64 o.frm, .int .i64 o.to, .slice S o.s.length c] 26)) := (Below.refl _ _).alloc (Nat.le_refl _) _
  have hlt0 := hk0.lt
  have hr := op_right o S c (w.alloc (.cells #[.int .i64 o.kind, .int .i64 o.k, .int .i64 o.width, .int .i64 o.step, .int .i64 o.side, .int .i64 o.frm, .int .i64 o.to, .slice S o.s.length c] 26)) ho (hI.alloc _)
  cases hq : Od.right o
  · have HL := Lib.hid (show Od.counts o p x = 21 by simp [Od.counts, hq])
    rw [hq] at hr
    have Hr := Lib.hid hr
    have Hk0 := Lib.hid hk0
    have Hq := Lib.hid hq
    have HI := Lib.hid hI
    clear hr hk0 hq hI
    go_enter Try.func16, Try.ntmps16
    go_wp2_with fail
    refine (Hr.out).mono ?_
    rintro e w1 ⟨rfl, h1⟩
    go_wp2_with fail
    go_ret
    exact ⟨by rw [HL.out]; rfl, hb0.trans (h1.mono hb0.size)⟩
  · rw [hq] at hr
    have HL := Lib.hid (show Od.counts o p x = if x < Od.least o ∨ Od.most o < x ∨ p ≠ Od.params o then 20 else 0 by simp [Od.counts, hq])
    have Hr := Lib.hid hr
    have Hk0 := Lib.hid hk0
    have Hq := Lib.hid hq
    have HI := Lib.hid hI
    clear hr hk0 hq hI
    go_enter Try.func16, Try.ntmps16
    go_wp2_with fail
    refine (Hr.out).mono ?_
    rintro e w1 ⟨rfl, h1⟩
    obtain ⟨x0, x1, x2, x3, x4, x5, x6, x7⟩ := op_cells (Hk0.out.below h1 hlt0)
    go_wp2_with fail
    refine (op_ins o S c _ ho (HI.out.below (hb0.trans (h1.mono hb0.size)) (Nat.le_refl _))).mono ?_
    rintro e w2 ⟨rfl, h2⟩
    clear x0 x1 x2 x3 x4 x5 x6 x7
    have hb2 := h1.trans (h2.mono h1.size)
    by_cases hx1 : x < Od.least o
    · go_wp2_with fail
      go_ret
      exact ⟨by rw [HL.out, if_pos (.inl hx1)]; rfl, hb0.trans (hb2.mono hb0.size)⟩
    · by_cases hx2 : Od.most o < x
      · go_wp2_with fail
        go_ret
        exact ⟨by rw [HL.out, if_pos (.inr (.inl hx2))]; rfl, hb0.trans (hb2.mono hb0.size)⟩
      · obtain ⟨x0, x1, x2, x3, x4, x5, x6, x7⟩ := op_cells (Hk0.out.below hb2 hlt0)
        go_wp2_with fail
        refine (op_params o S c _ ho (HI.out.below (hb0.trans (hb2.mono hb0.size)) (Nat.le_refl _))).mono ?_
        rintro e w3 ⟨rfl, h3⟩
        clear x0 x1 x2 x3 x4 x5 x6 x7
        have hb3 := hb2.trans (h3.mono hb2.size)
        by_cases hp : p = Od.params o
        · have hp' : (p != Od.params o) = false := by simp [hp]
          have HE := Lib.hid (show Od.counts o p x = 0 by rw [HL.out, if_neg (by omega)])
          clear hp
          go_wp2_with fail
          go_ret
          exact ⟨by rw [HE.out]; rfl, hb0.trans (hb3.mono hb0.size)⟩
        · have hp' : (p != Od.params o) = true := by simp [hp]
          have HE := Lib.hid (show Od.counts o p x = 20 by rw [HL.out, if_pos (.inr (.inr hp))])
          clear hp
          go_wp2_with fail
          go_ret
          exact ⟨by rw [HE.out]; rfl, hb0.trans (hb3.mono hb0.size)⟩
end Go.Proofs.Ytbnnpkcfifejmaa
/- A world later than another: all that was there reads as it did. No program is named here. -/
namespace Go.Proofs.Ytbnnpkcfifejmaa
open Go.RowKit
/-- All that was there is there. -/
def Later (w w' : World) : Prop := Below w.heap.size w w'
section
variable {w w1 w2 : World}
theorem Later.refl (w : World) : Later w w := Below.refl _ _
theorem Later.alloc (h : Later w w1) (o : Obj) : Later w (w1.alloc o) := Below.alloc h h.size o
theorem Later.drew (h : Later w w1) : Later w w1.drew := Below.drew h
theorem Later.drewN (h : Later w w1) (n : Nat) : Later w (w1.drewN n) := Bdrawn h n
theorem Later.call (h : Later w w1) (k : Below w1.heap.size w1 w2) : Later w w2 := Below.trans h (k.mono h.size)
theorem Later.trans (h : Later w w1) (k : Later w1 w2) : Later w w2 := h.call k
theorem Later.set (h : Later w w1) {p : Addr} (hp : w.heap.size ≤ p.block) (u : Value) : Later w (w1.setCell p u) := Below.setCell h hp u
theorem Later.cell {p : Addr} {v : Value} (h : Later w w1) (hc : w.cell? p = some v) : w1.cell? p = some v := (Below.cell h (World.block_lt_of_cell? _ _ hc)).trans hc
theorem Later.blk {g : Nat} {t : TypeId} {cs : Array Value} (h : Later w w1) (hb : Blk w g t cs) : Blk w1 g t cs := hb.below h hb.lt
theorem Later.below {B : Nat} {w0 : World} (h : Later w w1) (hb : Below B w0 w) (hB : B ≤ w.heap.size) : Below B w0 w1 := hb.trans (Below.mono h hB)
end
end Go.Proofs.Ytbnnpkcfifejmaa
/- Layer 5 (point), as far as the statements' fixed answers reach it: Relu of one tensor: contracts. -/
namespace Go.Proofs.Ytbnnpkcfifejmaa
open Go.RowKit
def relu (x : Int) : Int := if x < 0 then 0 else x
theorem cell_relu (k x y : Int) (w : World) :
    Calls Try.prog 62 #[.int .i64 1, .int .i64 k, .int .i64 x, .int .i64 y] w fun e w' => e = .returned (.int .i64 (relu x)) ∧ w = w' := by
  by_cases h : x < 0
  · have hm := Lib.hid (show relu x = 0 by unfold relu; rw [if_pos h])
    have d1 : decide (x < 0) = true := by simpa using h
    have d2 : decide (0 < x) = false := by simp; omega
    have d3 : decide (x ≤ 0) = true := by simp; omega
    have d4 : decide (0 ≤ x) = false := by simp; omega
    go_enter Try.func62, Try.ntmps62
    go_wp2_with fail
    go_ret
    exact ⟨by (rw [hm.out] <;> simp <;> omega), rfl⟩
  · have hm := Lib.hid (show relu x = x by unfold relu; rw [if_neg h])
    have d1 : decide (x < 0) = false := by simpa using h
    have d4 : decide (0 ≤ x) = true := by simp; omega
    go_enter Try.func62, Try.ntmps62
    go_wp2_with fail
    go_ret
    exact ⟨by (rw [hm.out] <;> simp <;> omega), rfl⟩
theorem second_one (A : Option Addr) (c : Nat) (i : Int) (w : World) :
    Calls Try.prog 63 #[.slice A 1 c, .int .i64 i] w fun e w' => e = .returned (.int .i64 0) ∧ w = w' := by
  go_enter Try.func63, Try.ntmps63
  go_wp2_with fail
  go_ret
  exact ⟨rfl, rfl⟩
set_option maxHeartbeats 4000000 in
theorem agree_relu (b c d : Nat) (S C : Option Addr) (f : Nat) (t : Ten) (w : World) (hr : Tn.right t = true) (hb : Blk w b 30 #[.slice S t.s.length c, .slice C t.c.length d]) (hT : TenR w S C t) :
    Calls Try.prog 61 #[.int .i64 1, .slice (some ⟨b, 0, none⟩) 1 f] w fun e w' => e = .returned (.int .i64 0) ∧ Below w.heap.size w w' := by
  obtain ⟨l1, l2, l3⟩ := Tn.right_len hr
  have Hr := Lib.hid hr
  have Hb := Lib.hid hb
  have HT := Lib.hid hT
  clear hr hb hT
  go_enter Try.func61, Try.ntmps61
  go_wp2_with fail
  refine (point_ins 1 _).mono ?_
  rintro e w1 ⟨rfl, rfl⟩
  have e1 : Od.ptIns 1 = 1 := rfl
  rw [e1]
  go_wp2_with fail
  go_loopw [18] (fun i wx => ∃ k : Nat, k ≤ 1 ∧ i = .int .i64 (k : Int) ∧ Later w wx) (fun i _ => 1 - (intOf i).toNat)
  case atStart => exact ⟨0, by omega, rfl, Later.refl _⟩
  case round =>
    obtain ⟨k, hk, rfl, hlw⟩ := hrel
    by_cases hlt : k < 1
    · obtain rfl : k = 0 := by omega
      have hbw := hlw.blk Hb.out
      have y0 : wr.cell? ⟨b, 0, none⟩ = some (.slice S t.s.length c) := by rw [hbw.cell]; rfl
      have y1 : wr.cell? ⟨b, 1, none⟩ = some (.slice C t.c.length d) := by rw [hbw.cell]; rfl
      have h2 : Later wr (wr.alloc (.cells #[.slice S t.s.length c, .slice C t.c.length d] 30)) := (Later.refl wr).alloc _
      have hkx := Blk.new wr 30 #[.slice S t.s.length c, .slice C t.c.length d]
      have hbx := h2.blk hbw
      have hl2 := hlw.trans h2
      have Hlw := Lib.hid hlw
      have Hbw := Lib.hid hbw
      have H2 := Lib.hid h2
      have Hkx := Lib.hid hkx
      have Hbx := Lib.hid hbx
      have Hl2 := Lib.hid hl2
      clear hlw hbw h2 hkx hbx hl2
      go_wp2_with fail
      generalize wr.alloc (.cells #[.slice S t.s.length c, .slice C t.c.length d] 30) = w2 at *
      clear y0 y1
      have x0 : w2.cell? ⟨wr.heap.size, 0, none⟩ = some (.slice S t.s.length c) := by rw [Hkx.out.cell]; rfl
      have x1 : w2.cell? ⟨wr.heap.size, 1, none⟩ = some (.slice C t.c.length d) := by rw [Hkx.out.cell]; rfl
      have x2 : w2.cell? ⟨b, 0, none⟩ = some (.slice S t.s.length c) := by rw [Hbx.out.cell]; rfl
      have hc1 := fun (V : World) (h : Later w2 V) => tensor_right S C c d t V (by omega) (by omega) (HT.out.1.below (Hl2.out.trans h) (Nat.le_refl _))
      have hc2 := fun (V : World) (h : Later w2 V) => shape_equal S S c c t.s t.s V (by omega) (by omega) (HT.out.1.below (Hl2.out.trans h) (Nat.le_refl _)) (HT.out.1.below (Hl2.out.trans h) (Nat.le_refl _))
      rw [Hr.out] at hc1
      rw [show (t.s == t.s) = true by simp] at hc2
      have Hc1 := Lib.hid hc1
      have Hc2 := Lib.hid hc2
      clear hc1 hc2
      go_region_held3 (fun W => W.cell? ⟨wr.heap.size, 0, none⟩ = some (.slice S t.s.length c) ∧ W.cell? ⟨wr.heap.size, 1, none⟩ = some (.slice C t.c.length d) ∧ W.cell? ⟨b, 0, none⟩ = some (.slice S t.s.length c)) (first | (with_reducible exact ⟨x0, x1, x2⟩) | exact ⟨Later.cell (show Later w2 _ by repeat (first | (with_reducible exact Later.refl _) | (with_reducible apply Later.drew) | (with_reducible apply Later.drewN) | (with_reducible apply Later.alloc) | (with_reducible refine Later.call ?_ (by assumption)))) x0, Later.cell (show Later w2 _ by repeat (first | (with_reducible exact Later.refl _) | (with_reducible apply Later.drew) | (with_reducible apply Later.drewN) | (with_reducible apply Later.alloc) | (with_reducible refine Later.call ?_ (by assumption)))) x1, Later.cell (show Later w2 _ by repeat (first | (with_reducible exact Later.refl _) | (with_reducible apply Later.drew) | (with_reducible apply Later.drewN) | (with_reducible apply Later.alloc) | (with_reducible refine Later.call ?_ (by assumption)))) x2⟩)
        (first
        | (go_at_call 41; (with_reducible refine (Hc1.out _ (show Later w2 _ by repeat (first | (with_reducible exact Later.refl _) | (with_reducible apply Later.drew) | (with_reducible apply Later.drewN) | (with_reducible apply Later.alloc) | (with_reducible refine Later.call ?_ (by assumption))))).mono ?_); rintro e wa ⟨rfl, hba⟩)
        | (go_at_call 12; (with_reducible refine (Hc2.out _ (show Later w2 _ by repeat (first | (with_reducible exact Later.refl _) | (with_reducible apply Later.drew) | (with_reducible apply Later.drewN) | (with_reducible apply Later.alloc) | (with_reducible refine Later.call ?_ (by assumption))))).mono ?_); rintro e wd ⟨rfl, qd, rfl⟩))
      all_goals
        have hle := Hl2.out.trans (show Later w2 _ from (show Later w2 wa by repeat (first | (with_reducible exact Later.refl _) | (with_reducible apply Later.drew) | (with_reducible apply Later.drewN) | (with_reducible apply Later.alloc) | (with_reducible refine Later.call ?_ (by assumption)))).drewN qd)
        have Hle := Lib.hid hle
        clear hle
        go_wp2_with fail
        go_roundw
        case rel => exact ⟨1, by omega, rfl, Hle.out⟩
        case measure => simp [intOf]
    · obtain rfl : k = 1 := by omega
      have Hlw := Lib.hid hlw
      clear hlw
      go_wp2_with fail
      go_ret
      exact ⟨rfl, Hlw.out⟩
def ReluP (t : Ten) (w : World) (e : Ending) (w' : World) : Prop := ∃ v, e = .returned (.tuple #[v, .int .i64 0]) ∧ TenN w.heap.size w' v ⟨t.s, t.c.map relu⟩ ∧ Below w.heap.size w w'
theorem relu_step (l : List Int) {k : Nat} (hk : k < l.length) : ((l.take k).map relu ++ l.drop k).set k (relu l[k]) = (l.take (k + 1)).map relu ++ l.drop (k + 1) := by
  have h1 : ((l.take k).map relu).length = k := by simp; omega
  rw [List.set_append_right _ _ (by omega), h1, Nat.sub_self, List.drop_eq_getElem_cons hk, List.set_cons_zero, List.take_succ_eq_append_getElem hk, List.map_append, List.append_assoc]
  rfl
set_option maxHeartbeats 8000000 in
theorem point_relu (k0 : Int) (b c d : Nat) (S C : Option Addr) (f : Nat) (t : Ten) (w : World) (hr : Tn.right t = true) (hb : Blk w b 30 #[.slice S t.s.length c, .slice C t.c.length d]) (hT : TenR w S C t) :
    Calls Try.prog 24 #[.int .i64 1, .int .i64 k0, .slice (some ⟨b, 0, none⟩) 1 f] w (ReluP t w) := by
  obtain ⟨l1, l2, l3⟩ := Tn.right_len hr
  have h01 : Later w (w.alloc (.cells #[.slice none 0 0, .slice none 0 0] 30)) := (Later.refl w).alloc _
  have hz := Blk.new w 30 #[.slice none 0 0, .slice none 0 0]
  have Hr := Lib.hid hr
  have Hb := Lib.hid hb
  have HT := Lib.hid hT
  have H01 := Lib.hid h01
  have Hz := Lib.hid hz
  clear hr hb hT h01 hz
  go_enter Try.func24, Try.ntmps24
  go_wp2_with fail
  generalize w.alloc (.cells #[.slice none 0 0, .slice none 0 0] 30) = w1 at *
  refine (agree_relu b c d S C f t w1 Hr.out (H01.out.blk Hb.out) ⟨HT.out.1.below H01.out (Nat.le_refl _), HT.out.2.below H01.out (Nat.le_refl _)⟩).mono ?_
  rintro e w2 ⟨rfl, hb2⟩
  have h02 := H01.out.call hb2
  have hz2 := (show Later w1 w2 from hb2).blk Hz.out
  have hbb2 := h02.blk Hb.out
  have y0 : w2.cell? ⟨b, 0, none⟩ = some (.slice S t.s.length c) := by rw [hbb2.cell]; rfl
  have y1 : w2.cell? ⟨b, 1, none⟩ = some (.slice C t.c.length d) := by rw [hbb2.cell]; rfl
  clear hb2 Hz H01
  have H02 := Lib.hid h02
  have Hz2 := Lib.hid hz2
  have Hbb2 := Lib.hid hbb2
  clear h02 hz2 hbb2
  go_wp2_with fail
  refine (tensor_copy S C c d t w2 (by omega) (by omega) ⟨HT.out.1.below H02.out (Nat.le_refl _), HT.out.2.below H02.out (Nat.le_refl _)⟩).mono ?_
  rintro e w3 ⟨v, rfl, ⟨g, h, rfl, hg, hh, hG, hH⟩, hb3⟩
  have h23 : Later w2 w3 := hb3
  have h3a : Later w3 (w3.alloc (.cells #[.slice (some ⟨g, 0, none⟩) t.s.length t.s.length, .slice (some ⟨h, 0, none⟩) t.c.length t.c.length] 30)) := (Later.refl w3).alloc _
  have ho := Blk.new w3 30 #[.slice (some ⟨g, 0, none⟩) t.s.length t.s.length, .slice (some ⟨h, 0, none⟩) t.c.length t.c.length]
  have h04 := (H02.out.trans h23).trans h3a
  have hz4 := (h23.trans h3a).blk Hz2.out
  have hbb4 := (h23.trans h3a).blk Hbb2.out
  have hG4 := h3a.blk hG
  have hH4 := h3a.blk hH
  have hs2 := H02.out.size
  have hs3 := h23.size
  have hhl := hH.lt
  have hgl := hG.lt
  have hzl := Hz2.out.lt
  have z0 := hbb4.cell 0
  have z1 := hbb4.cell 1
  simp at z0 z1
  clear y0 y1 hb3 Hz2 Hbb2 H02 hG hH
  have H23 := Lib.hid h23
  have H3a := Lib.hid h3a
  have Ho := Lib.hid ho
  have H04 := Lib.hid h04
  have Hz4 := Lib.hid hz4
  have Hbb4 := Lib.hid hbb4
  have HG4 := Lib.hid hG4
  have HH4 := Lib.hid hH4
  clear h23 h3a ho h04 hz4 hbb4 hG4 hH4
  have Z0 := Lib.hid z0
  have Z1 := Lib.hid z1
  clear z0 z1
  go_upto_region 5 with fail
  generalize w3.alloc (.cells #[.slice (some ⟨g, 0, none⟩) t.s.length t.s.length, .slice (some ⟨h, 0, none⟩) t.c.length t.c.length] 30) = w4 at *
  generalize hpe : w3.heap.size = p at *
  have z0 := Z0.out
  have z1 := Z1.out
  clear Z0 Z1 H3a H23
  have Hpe := Lib.hid hpe
  clear hpe
  go_wp2_with fail
  clear z0 z1
  have hI0 : Blk w4 h 22 (((t.c.take 0).map relu ++ t.c.drop 0).map (Value.int .i64)).toArray := by simpa using HH4.out
  have HI0 := Lib.hid hI0
  clear hI0
  go_loopw [28] (fun i wx => ∃ k : Nat, k ≤ t.c.length ∧ i = .int .i64 (k : Int) ∧ Blk wx h 22 (((t.c.take k).map relu ++ t.c.drop k).map (Value.int .i64)).toArray ∧ Blk wx p 30 #[.slice (some ⟨g, 0, none⟩) t.s.length t.s.length, .slice (some ⟨h, 0, none⟩) t.c.length t.c.length] ∧ Blk wx w.heap.size 30 #[.slice none 0 0, .slice none 0 0] ∧ Blk wx g 3 (t.s.map (Value.int .i64)).toArray ∧ Later w wx) (fun i _ => t.c.length - (intOf i).toNat)
  case atStart => exact ⟨0, Nat.zero_le _, rfl, HI0.out, Ho.out, Hz4.out, HG4.out, H04.out⟩
  case round =>
    obtain ⟨k, hk, rfl, hm, hox, hzx, hgx, hlw⟩ := hrel
    clear HI0
    by_cases hlt : k < t.c.length
    · obtain ⟨b2, off2, rfl, -, hc2⟩ := (HT.out.2.below hlw (Nat.le_refl _)) k hlt
      rw [show t.c.getD k 0 = t.c[k] by rw [List.getD_eq_getElem?_getD, List.getElem?_eq_getElem hlt]; rfl] at hc2
      have hst := relu_step t.c hlt
      have hlen : ((t.c.take k).map relu ++ t.c.drop k).length = t.c.length := by simp; omega
      generalize t.c[k] = x at *
      have o1 : wr.cell? ⟨p, 1, none⟩ = some (.slice (some ⟨h, 0, none⟩) t.c.length t.c.length) := by rw [hox.cell]; rfl
      obtain ⟨u, hu⟩ : ∃ u, wr.cell? ⟨h, k, none⟩ = some u := ⟨_, by rw [hm.cell, List.getElem?_toArray, List.getElem?_eq_getElem (by simp; omega)]⟩
      have fu := hm.frozen k
      have hm2 : Blk (wr.setCell ⟨h, k, none⟩ (.int .i64 (relu x))) h 22 (((t.c.take (k + 1)).map relu ++ t.c.drop (k + 1)).map (Value.int .i64)).toArray := by
        have := hm.set_ k (.int .i64 (relu x))
        rw [← hst, List.map_set]
        simpa using this
      have hox2 := hox.far (p := ⟨h, k, none⟩) (by have := Hpe.out; simp; omega) (.int .i64 (relu x))
      have hzx2 := hzx.far (p := ⟨h, k, none⟩) (by simp; omega) (.int .i64 (relu x))
      have hgx2 : Blk (wr.setCell ⟨h, k, none⟩ (.int .i64 (relu x))) g 3 (t.s.map (Value.int .i64)).toArray := hgx.far (p := ⟨h, k, none⟩) (by
        intro e
        have e : g = h := e
        subst e
        have h1 : (Obj.cells (t.s.map (Value.int .i64)).toArray 3 (0, 0)) = _ := Option.some.inj (hgx.symm.trans hm)
        injection h1 with _ h2 _
        exact absurd h2 (by decide)) (.int .i64 (relu x))
      have hlw2 := hlw.set (p := ⟨h, k, none⟩) (by simp; omega) (.int .i64 (relu x))
      have k1 : (k : Int) < (t.c.length : Int) := by omega
      have k2 : (0 : Int) ≤ (k : Int) := by omega
      have Hm := Lib.hid hm
      have Hox := Lib.hid hox
      have Hzx := Lib.hid hzx
      have Hgx := Lib.hid hgx
      have Hlw := Lib.hid hlw
      have Hm2 := Lib.hid hm2
      have Hox2 := Lib.hid hox2
      have Hzx2 := Lib.hid hzx2
      have Hgx2 := Lib.hid hgx2
      have Hlw2 := Lib.hid hlw2
      have Hst := Lib.hid hst
      clear hm hox hzx hgx hlw hm2 hox2 hzx2 hgx2 hlw2 hst
      go_wp2_with fail
      go_region_law ((first
        | (go_simp; go_at_call 63; refine (second_one _ _ _ _).mono ?_; rintro e wa ⟨rfl, rfl⟩)
        | (go_simp; go_at_call 62; refine (cell_relu _ _ _ _).mono ?_; rintro e wb ⟨rfl, rfl⟩)))
      all_goals
        go_wp2_with fail
        go_roundw
        case rel => exact ⟨k + 1, by omega, by go_num, Hm2.out.drew, Hox2.out.drew, Hzx2.out.drew, Hgx2.out.drew, Hlw2.out.drew⟩
        case measure => simp [intOf]; omega
    · obtain rfl : k = t.c.length := by omega
      rw [List.take_length, List.drop_length, List.append_nil] at hm
      have o0 : wr.cell? ⟨p, 0, none⟩ = some (.slice (some ⟨g, 0, none⟩) t.s.length t.s.length) := by rw [hox.cell]; rfl
      have o1 : wr.cell? ⟨p, 1, none⟩ = some (.slice (some ⟨h, 0, none⟩) t.c.length t.c.length) := by rw [hox.cell]; rfl
      have c0 := hzx.cell 0
      have c1 := hzx.cell 1
      have f0 := hzx.frozen 0
      have f1 := hzx.frozen 1
      simp at c0 c1
      have hz3 := (hzx.set_ 0 (.slice (some ⟨g, 0, none⟩) t.s.length t.s.length)).set_ 1 (.slice (some ⟨h, 0, none⟩) t.c.length t.c.length)
      have d0 := hz3.cell 0
      have d1 := hz3.cell 1
      simp at d0 d1
      have hgz : g ≠ w.heap.size := by omega
      have hhz : h ≠ w.heap.size := by omega
      have Hm := Lib.hid hm
      have Hox := Lib.hid hox
      have Hzx := Lib.hid hzx
      have Hgx := Lib.hid hgx
      have Hlw := Lib.hid hlw
      have Hz3 := Lib.hid hz3
      clear hm hox hzx hgx hlw hz3
      go_wp2_with fail
      refine bodyPost_ret (v := .tuple #[.agg #[.slice (some ⟨g, 0, none⟩) t.s.length t.s.length, .slice (some ⟨h, 0, none⟩) t.c.length t.c.length], .int .i64 0]) (by simp [results, Try.results24, go_sem, d0, d1]) rfl ?_
      refine ⟨_, rfl, ⟨g, h, by simp, by omega, by omega, (Hgx.out.far (p := ⟨w.heap.size, 0, none⟩) hgz _).far (p := ⟨w.heap.size, 1, none⟩) hgz _, (Hm.out.far (p := ⟨w.heap.size, 0, none⟩) hhz _).far (p := ⟨w.heap.size, 1, none⟩) hhz _⟩, (Hlw.out.set (p := ⟨w.heap.size, 0, none⟩) (Nat.le_refl _) _).set (p := ⟨w.heap.size, 1, none⟩) (Nat.le_refl _) _⟩
end Go.Proofs.Ytbnnpkcfifejmaa
/- Layer 3 (shape): windows, parts and joins; layers 7 and 8: the answer's shape: contracts. -/
namespace Go.Proofs.Ytbnnpkcfifejmaa
open Go.RowKit

/-- A shape of new memory (or none), and an error's number. -/
def ShPost (r : List Int × Int) (w : World) (e : Ending) (w' : World) : Prop :=
  ∃ S c, e = .returned (.tuple #[.slice S r.1.length c, .int .i64 r.2]) ∧ Ints .i64 w' S r.1 ∧ r.1.length ≤ c ∧ c ≤ 9223372036854775807 ∧ (∀ a, S = some a → w.heap.size ≤ a.block) ∧ Below w.heap.size w w'
theorem ShPost.fail {r : List Int × Int} {w w' : World} {n : Int} (hr : r = ([], n)) (hb : Below w.heap.size w w') : ShPost r w (.returned (.tuple #[.slice none 0 0, .int .i64 n])) w' := by
  subst hr
  exact ⟨_, _, rfl, Ints.nil, by simp, by omega, (fun a h => by cases h), hb⟩
theorem ShPost.fresh {r : List Int × Int} {w w' : World} {g c n : Nat} {l : List Int} {t : TypeId} (hr : r = (l, 0)) (hn : n = l.length) (hg : w.heap.size ≤ g) (hk : Blk w' g t (l.map (Value.int .i64)).toArray) (hc : l.length ≤ c) (hm : c ≤ 9223372036854775807) (hb : Below w.heap.size w w') :
    ShPost r w (.returned (.tuple #[.slice (some ⟨g, 0, none⟩) n c, .int .i64 0])) w' := by
  subst hr hn
  refine ⟨_, _, rfl, Ints.of_row fun j hj => ?_, hc, hm, (fun a h => by injection h with h; subst h; exact hg), hb⟩
  rw [hk.cell]
  simp [hj]
theorem ShPost.mk' {r : List Int × Int} {w w' : World} {S : Option Addr} {c n : Nat} {l : List Int} (hr : r = (l, 0)) (hn : n = l.length) (hI : Ints .i64 w' S l) (hc : l.length ≤ c) (hm : c ≤ 9223372036854775807) (hS : ∀ a, S = some a → w.heap.size ≤ a.block) (hb : Below w.heap.size w w') :
    ShPost r w (.returned (.tuple #[.slice S n c, .int .i64 0])) w' := by
  subst hr hn
  exact ⟨_, _, rfl, hI, hc, hm, hS, hb⟩
theorem Blk.ints_set {w : World} {g i : Nat} {t : TypeId} {l : List Int} {n : Int} (h : Blk w g t (l.map (Value.int .i64)).toArray) : Blk (w.setCell ⟨g, i, none⟩ (.int .i64 n)) g t ((l.set i n).map (Value.int .i64)).toArray := by
  have := h.set_ i (.int .i64 n)
  simpa using this

theorem types_of {P : Program} {t : TypeId} {i : TypeInfo} (hi : P.info? t = some i) (h : t < P.types.size) : P.types[t] = i := by
  unfold Tables.info? at hi
  rw [Array.getElem?_eq_getElem h, if_pos h] at hi
  exact Option.some.inj hi
theorem int_cells (h : 3 < Try.prog.types.size) : (Try.prog.types[3]'h).size = 1 := by
  obtain ⟨i0, hi, h0, h1, h2⟩ := info_parts int_info
  rw [types_of hi h]
  exact h1
theorem run_index3_0 (w : World) (a b c : Int) : (Instr.index 87 (.agg #[.int .i64 a, .int .i64 b, .int .i64 c]) (.int .i64 0)).run Try.prog w = .ok (.int .i64 a) w := by
  simp [Instr.index, run_underlying Try.underlying87, asIntOf, go_sem]
theorem run_index3_1 (w : World) (a b c : Int) : (Instr.index 87 (.agg #[.int .i64 a, .int .i64 b, .int .i64 c]) (.int .i64 1)).run Try.prog w = .ok (.int .i64 b) w := by
  simp [Instr.index, run_underlying Try.underlying87, asIntOf, go_sem]
theorem run_index3_2 (w : World) (a b c : Int) : (Instr.index 87 (.agg #[.int .i64 a, .int .i64 b, .int .i64 c]) (.int .i64 2)).run Try.prog w = .ok (.int .i64 c) w := by
  simp [Instr.index, run_underlying Try.underlying87, asIntOf, go_sem]
set_option maxHeartbeats 2000000 in
set_option maxRecDepth 100000 in
theorem shape_window (side width step : Int) (w : World) :
    Calls Try.prog 67 #[.int .i64 side, .int .i64 width, .int .i64 step] w fun e w' => e = .returned (.tuple #[.int .i64 (Od.window side width step).1, .int .i64 (Od.window side width step).2]) ∧ w = w' := by
  have bad : ¬ (Sh.side side = true ∧ Sh.side width = true ∧ Sh.side step = true ∧ width ≤ side) → Hid (Od.window side width step = (0, 11)) := fun h => Lib.hid (by unfold Od.window; rw [if_neg h])
  have r0 := fun W => run_index3_0 W side width step
  have r1 := fun W => run_index3_1 W side width step
  have r2 := fun W => run_index3_2 W side width step
  go_enter Try.func67, Try.ntmps67
  go_wp2_with fail
  go_loopw [14] (fun i wr => wr = w ∧ ∃ k : Nat, k ≤ 3 ∧ i = .int .i64 k ∧ (0 < k → Sh.side side = true) ∧ (1 < k → Sh.side width = true) ∧ (2 < k → Sh.side step = true)) (fun i _ => 3 - (intOf i).toNat)
  case atStart => exact ⟨rfl, 0, by omega, rfl, by omega, by omega, by omega⟩
  case round =>
    obtain ⟨rfl, k, hk, rfl, h1, h2, h3⟩ := hrel
    have hkk : k = 0 ∨ k = 1 ∨ k = 2 ∨ k = 3 := by omega
    rcases hkk with rfl | rfl | rfl | rfl
    · by_cases a1 : side < 1
      · have HB := bad (by rw [Sh.side_iff]; omega)
        clear bad h1 h2 h3
        go_wp2_with fail
        go_ret2
        exact ⟨by rw [HB.out]; rfl, rfl⟩
      · by_cases a2 : 1024 < side
        · have HB := bad (by rw [Sh.side_iff]; omega)
          clear bad h1 h2 h3
          go_wp2_with fail
          go_ret2
          exact ⟨by rw [HB.out]; rfl, rfl⟩
        · clear bad h1 h2 h3
          go_wp2_with fail
          go_roundw
          case rel => exact ⟨trivial, 1, by omega, by go_num, fun _ => (Sh.side_iff _).2 (by omega), by omega, by omega⟩
          case measure => simp [intOf]
    · by_cases a1 : width < 1
      · have HB := bad (by rw [Sh.side_iff, Sh.side_iff]; omega)
        clear bad h1 h2 h3
        go_wp2_with fail
        go_ret2
        exact ⟨by rw [HB.out]; rfl, rfl⟩
      · by_cases a2 : 1024 < width
        · have HB := bad (by rw [Sh.side_iff, Sh.side_iff]; omega)
          clear bad h1 h2 h3
          go_wp2_with fail
          go_ret2
          exact ⟨by rw [HB.out]; rfl, rfl⟩
        · have H1 := Lib.hid (h1 (by omega))
          clear bad h1 h2 h3
          go_wp2_with fail
          go_roundw
          case rel => exact ⟨trivial, 2, by omega, by go_num, fun _ => H1.out, fun _ => (Sh.side_iff _).2 (by omega), by omega⟩
          case measure => simp [intOf]
    · by_cases a1 : step < 1
      · have HB := bad (by rw [Sh.side_iff, Sh.side_iff, Sh.side_iff]; omega)
        clear bad h1 h2 h3
        go_wp2_with fail
        go_ret2
        exact ⟨by rw [HB.out]; rfl, rfl⟩
      · by_cases a2 : 1024 < step
        · have HB := bad (by rw [Sh.side_iff, Sh.side_iff, Sh.side_iff]; omega)
          clear bad h1 h2 h3
          go_wp2_with fail
          go_ret2
          exact ⟨by rw [HB.out]; rfl, rfl⟩
        · have H1 := Lib.hid (h1 (by omega))
          have H2 := Lib.hid (h2 (by omega))
          clear bad h1 h2 h3
          go_wp2_with fail
          go_roundw
          case rel => exact ⟨trivial, 3, by omega, by go_num, fun _ => H1.out, fun _ => H2.out, fun _ => (Sh.side_iff _).2 (by omega)⟩
          case measure => simp [intOf]
    · have h1 := h1 (by omega)
      have h2 := h2 (by omega)
      have h3 := h3 (by omega)
      by_cases hw : side < width
      · have HB := bad (by omega)
        clear bad h1 h2 h3
        go_wp2_with fail
        go_ret2
        exact ⟨by rw [HB.out]; rfl, rfl⟩
      · have HG := Lib.hid (show Od.window side width step = (1 + (side - width).tdiv step, 0) by unfold Od.window; rw [if_pos ⟨h1, h2, h3, by omega⟩])
        rw [Sh.side_iff] at h1 h2 h3
        have q1 : 0 ≤ (side - width).tdiv step := Int.tdiv_nonneg (by omega) (by omega)
        have q2 : (side - width).tdiv step ≤ side - width := Int.tdiv_le_self _ (by omega)
        clear bad
        go_wp2_with fail
        go_ret2
        exact ⟨by rw [HG.out]; rfl, rfl⟩
end Go.Proofs.Ytbnnpkcfifejmaa
/- Layer 3 (shape): parts and joins; layer 8: the answer's shape: contracts. -/
namespace Go.Proofs.Ytbnnpkcfifejmaa
open Go.RowKit

theorem getD_at {l : List Int} {k : Nat} (h : k < l.length) : l.getD k 0 = l[k] := by rw [List.getD_eq_getElem?_getD, List.getElem?_eq_getElem h]; rfl
theorem Ints.cell_at {w : World} {k : IntKind} {b off j : Nat} {zs : List Int} (h : Ints k w (some ⟨b, off, none⟩) zs) (hj : j < zs.length) : w.cell? ⟨b, off + j, none⟩ = some (.int k zs[j]) := by
  obtain ⟨b1, o1, e, _, hc⟩ := h j hj
  injection e with e
  injection e with e1 e2
  subst e1 e2
  rw [getD_at hj] at hc
  exact hc
set_option maxHeartbeats 2000000 in
theorem shape_cut (A : Option Addr) (c : Nat) (zs : List Int) (side frm to_ : Int) (w : World) (hl : zs.length ≤ 17592186043904) (hI : Ints .i64 w A zs) :
    Calls Try.prog 36 #[.slice A zs.length c, .int .i64 side, .int .i64 frm, .int .i64 to_] w (ShPost (Od.cut zs side frm to_) w) := by
  have hcall := shape_right A c zs w (by omega) hI
  cases hr : Sh.right zs
  · have HE := Lib.hid (show Od.cut zs side frm to_ = ([], 20) by simp [Od.cut, hr])
    rw [hr] at hcall
    have Hr := Lib.hid hr
    have HI := Lib.hid hI
    have Hcall := Lib.hid hcall
    clear hr hI hcall
    go_enter Try.func36, Try.ntmps36
    go_wp2_with fail
    refine (Hcall.out).mono ?_
    rintro e w1 ⟨rfl, h1⟩
    go_wp2_with fail
    go_ret2
    exact ShPost.fail HE.out h1
  · have fail : ¬ (0 ≤ side ∧ side < zs.length ∧ 0 ≤ frm ∧ to_ ≤ Od.at_ zs side ∧ frm < to_) → Od.cut zs side frm to_ = ([], 11) := fun h => by
      unfold Od.cut
      rw [if_pos hr, if_neg]
      simp [Od.inR]
      omega
    have good : (0 ≤ side ∧ side < zs.length ∧ 0 ≤ frm ∧ to_ ≤ Od.at_ zs side ∧ frm < to_) → Od.cut zs side frm to_ = (zs.set side.toNat (to_ - frm), 0) := fun h => by
      unfold Od.cut
      rw [if_pos hr, if_pos]
      simp [Od.inR]
      omega
    obtain ⟨_, a1, a2, a3, -⟩ := Sh.right_mul hr
    rw [hr] at hcall
    have Hr := Lib.hid hr
    have HI := Lib.hid hI
    have Hcall := Lib.hid hcall
    have Ha3 := Lib.hid a3
    clear hr hI hcall a3
    by_cases c1 : side < 0
    · have HE := Lib.hid (fail (by omega))
      clear fail good
      go_enter Try.func36, Try.ntmps36
      go_wp2_with fail
      refine (Hcall.out).mono ?_
      rintro e w1 ⟨rfl, h1⟩
      go_wp2_with fail
      go_ret2
      exact ShPost.fail HE.out h1
    obtain ⟨k, rfl⟩ : ∃ k : Nat, side = k := ⟨side.toNat, by omega⟩
    by_cases c2 : zs.length ≤ k
    · have HE := Lib.hid (fail (by omega))
      clear fail good
      go_enter Try.func36, Try.ntmps36
      go_wp2_with fail
      refine (Hcall.out).mono ?_
      rintro e w1 ⟨rfl, h1⟩
      go_wp2_with fail
      go_ret2
      exact ShPost.fail HE.out h1
    have hk : k < zs.length := by omega
    have hat : Od.at_ zs k = zs[k] := by unfold Od.at_; rw [show ((k : Int)).toNat = k by omega, getD_at hk]
    rw [hat] at fail good
    have hz := Ha3.out _ (List.getElem_mem hk)
    clear hat
    by_cases c3 : frm < 0
    · have HE := Lib.hid (fail (by omega))
      clear fail good
      go_enter Try.func36, Try.ntmps36
      go_wp2_with fail
      refine (Hcall.out).mono ?_
      rintro e w1 ⟨rfl, h1⟩
      go_wp2_with fail
      go_ret2
      exact ShPost.fail HE.out h1
    obtain ⟨b, off, rfl, hb, -⟩ := HI.out k hk
    by_cases c4 : zs[k] < to_
    · have HE := Lib.hid (fail (by omega))
      clear fail good
      go_enter Try.func36, Try.ntmps36
      go_wp2_with fail
      refine (Hcall.out).mono ?_
      rintro e w1 ⟨rfl, h1⟩
      obtain ⟨b', off', e, _, hc⟩ := HI.out.below h1 (Nat.le_refl _) k hk
      injection e with e; injection e with e1 e2; subst e1 e2
      rw [getD_at hk] at hc
      go_wp2_with fail
      go_ret2
      exact ShPost.fail HE.out h1
    by_cases c5 : to_ ≤ frm
    · have HE := Lib.hid (fail (by omega))
      clear fail good
      go_enter Try.func36, Try.ntmps36
      go_wp2_with fail
      refine (Hcall.out).mono ?_
      rintro e w1 ⟨rfl, h1⟩
      obtain ⟨b', off', e, _, hc⟩ := HI.out.below h1 (Nat.le_refl _) k hk
      injection e with e; injection e with e1 e2; subst e1 e2
      rw [getD_at hk] at hc
      go_wp2_with fail
      go_ret2
      exact ShPost.fail HE.out h1
    have HE := Lib.hid (good (by omega))
    clear fail good
    go_enter Try.func36, Try.ntmps36
    go_wp2_with fail
    refine (Hcall.out).mono ?_
    rintro e w1 ⟨rfl, h1⟩
    obtain ⟨b', off', e, _, hc⟩ := HI.out.below h1 (Nat.le_refl _) k hk
    injection e with e; injection e with e1 e2; subst e1 e2
    rw [getD_at hk] at hc
    go_wp2_with fail
    refine (shape_copy _ c zs _ hl (HI.out.below h1 (Nat.le_refl _))).mono ?_
    rintro e w2 ⟨g, rfl, hg, hB, h2⟩
    have hbb := h1.trans (h2.mono h1.size)
    have hB' : Blk w2 g 3 (zs.map (Value.int .i64)).toArray := hB
    have hcg := hB'.cell k
    have hfg := hB'.frozen k
    simp [hk] at hcg
    have HB := Lib.hid hB'
    have hgs := h1.size
    clear hB hB' hc
    go_wp2_with fail
    go_ret2
    refine ShPost.fresh HE.out (by simp) (by omega) HB.out.ints_set (by simp) (by omega) ?_
    exact hbb.setCell (by simp; omega) _

set_option maxHeartbeats 2000000 in
theorem pool_shape (A : Option Addr) (c : Nat) (zs : List Int) (width step : Int) (w : World) (hl : zs.length ≤ 17592186043904) (hI : Ints .i64 w A zs) :
    Calls Try.prog 34 #[.slice A zs.length c, .int .i64 width, .int .i64 step] w (ShPost (Od.pool zs width step) w) := by
  have hcall := shape_right A c zs w (by omega) hI
  cases hr : Sh.right zs
  · have HE := Lib.hid (show Od.pool zs width step = ([], 20) by simp [Od.pool, hr])
    rw [hr] at hcall
    have Hr := Lib.hid hr
    have HI := Lib.hid hI
    have Hcall := Lib.hid hcall
    clear hr hI hcall
    go_enter Try.func34, Try.ntmps34
    go_wp2_with fail
    refine (Hcall.out).mono ?_
    rintro e w1 ⟨rfl, h1⟩
    go_wp2_with fail
    go_ret2
    exact ShPost.fail HE.out h1
  · obtain ⟨_, a1, a2, a3, -⟩ := Sh.right_mul hr
    obtain ⟨k, hk⟩ : ∃ k : Nat, zs.length = k + 1 := ⟨zs.length - 1, by omega⟩
    have hk1 : k < zs.length := by omega
    have hgd : zs.getD (zs.length - 1) 0 = zs[k] := by rw [show zs.length - 1 = k by omega, getD_at hk1]
    have hp : Od.pool zs width step = if (Od.window zs[k] width step).2 = 0 then (zs.set k (Od.window zs[k] width step).1, 0) else ([], 11) := by
      unfold Od.pool
      rw [if_pos hr, hgd, show zs.length - 1 = k by omega]
    rw [hr] at hcall
    obtain ⟨b, off, rfl, hb, -⟩ := hI k hk1
    have e1 : IntKind.i64.wrap ((zs.length : Int) - 1) = k := by have := IntWalk.i64_in ((zs.length : Int) - 1) (by omega); omega
    have Hr := Lib.hid hr
    have HI := Lib.hid hI
    have Hcall := Lib.hid hcall
    have Ha3 := Lib.hid a3
    have Hgd := Lib.hid hgd
    clear hr hI hcall a3 hgd
    clear hk
    by_cases hw : (Od.window zs[k] width step).2 = 0
    · have HE := Lib.hid (show Od.pool zs width step = (zs.set k (Od.window zs[k] width step).1, 0) by rw [hp, if_pos hw])
      have HW := Lib.hid hw
      clear hp hw
      go_enter Try.func34, Try.ntmps34
      go_wp2_with fail
      refine (Hcall.out).mono ?_
      rintro e w1 ⟨rfl, h1⟩
      obtain ⟨b', off', e, _, hc⟩ := HI.out.below h1 (Nat.le_refl _) k hk1
      injection e with e; injection e with e2 e3; subst e2 e3
      rw [getD_at hk1] at hc
      go_wp2_with fail
      refine (shape_window zs[k] width step _).mono ?_
      rintro e w2 ⟨rfl, rfl⟩
      rw [HW.out]
      go_wp2_with fail
      refine (shape_copy _ c zs _ hl (HI.out.below h1 (Nat.le_refl _))).mono ?_
      rintro e w2 ⟨g, rfl, hg, hB, h2⟩
      have hbb := h1.trans (h2.mono h1.size)
      have hB' : Blk w2 g 3 (zs.map (Value.int .i64)).toArray := hB
      have hcg := hB'.cell k
      have hfg := hB'.frozen k
      simp [hk1] at hcg
      have HB := Lib.hid hB'
      have hgs := h1.size
      clear hB hB' hc
      go_wp2_with fail
      go_ret2
      refine ShPost.fresh HE.out (by simp) (by omega) HB.out.ints_set (by simp) (by omega) ?_
      exact hbb.setCell (by simp; omega) _
    · have HE := Lib.hid (show Od.pool zs width step = ([], 11) by rw [hp, if_neg hw])
      have HW := Lib.hid (Od.window_err hw)
      clear hp hw
      go_enter Try.func34, Try.ntmps34
      go_wp2_with fail
      refine (Hcall.out).mono ?_
      rintro e w1 ⟨rfl, h1⟩
      obtain ⟨b', off', e, _, hc⟩ := HI.out.below h1 (Nat.le_refl _) k hk1
      injection e with e; injection e with e2 e3; subst e2 e3
      rw [getD_at hk1] at hc
      go_wp2_with fail
      refine (shape_window zs[k] width step _).mono ?_
      rintro e w2 ⟨rfl, rfl⟩
      rw [HW.out]
      go_wp2_with fail
      go_ret2
      exact ShPost.fail HE.out h1
end Go.Proofs.Ytbnnpkcfifejmaa
/- Layer 3 (shape): joins: contract. -/
namespace Go.Proofs.Ytbnnpkcfifejmaa
open Go.RowKit

namespace Od
/-- The shape behind the first k sides. -/
def jMid (s t : List Int) (side : Nat) (k : Nat) : List Int := if side < k then joinL s t side else s
theorem jMid_len (s t : List Int) (side k : Nat) : (jMid s t side k).length = s.length := by unfold jMid joinL; split <;> simp
theorem join_bad {s t : List Int} {side : Int} {k : Nat} (h1 : Sh.right s = true) (h2 : Sh.right t = true) (h3 : s.length = t.length) (h4 : 0 ≤ side ∧ side < s.length) (hk : k < s.length) (hk2 : k < t.length) (hs : (k : Int) ≠ side) (hne : s[k] ≠ t[k]) : join s t side = ([], 20) := by
  unfold join
  rw [if_pos (by simp [h1, h2, h3]), if_pos (by simp [inR, h4]), if_neg]
  rw [Bool.and_eq_true, not_and]
  intro h
  exfalso
  unfold joinOk at h
  rw [List.all_eq_true] at h
  have := h k (List.mem_range.2 hk)
  rw [getD_at hk, getD_at hk2] at this
  simp [hs, hne] at this
theorem joinOk_of {s t : List Int} {side : Nat} (h : ∀ j (h1 : j < s.length) (h2 : j < t.length), j ≠ side → s[j] = t[j]) (hl : s.length = t.length) : joinOk s t side = true := by
  unfold joinOk
  rw [List.all_eq_true]
  intro j hj
  have hj := List.mem_range.1 hj
  by_cases e : j = side
  · simp [e]
  · rw [getD_at hj, getD_at (by omega : j < t.length)]
    simp [h j hj (by omega) e]
end Od
set_option maxHeartbeats 4000000 in
theorem shape_join (A B : Option Addr) (c d : Nat) (s t : List Int) (side : Int) (w : World) (hl : s.length ≤ 17592186043904) (hl' : t.length ≤ 17592186043904) (hI : Ints .i64 w A s) (hJ : Ints .i64 w B t) :
    Calls Try.prog 68 #[.slice A s.length c, .slice B t.length d, .int .i64 side] w (ShPost (Od.join s t side) w) := by
  have hcall := shape_right A c s w (by omega) hI
  have hcall2 := fun w1 (h1 : Below w.heap.size w w1) => shape_right B d t w1 (by omega) (hJ.below h1 (Nat.le_refl _))
  cases hr : Sh.right s
  · have HE := Lib.hid (show Od.join s t side = ([], 20) by simp [Od.join, hr])
    rw [hr] at hcall
    have Hr := Lib.hid hr
    have HI := Lib.hid hI
    have HJ := Lib.hid hJ
    have Hcall := Lib.hid hcall
    have Hcall2 := Lib.hid hcall2
    clear hr hI hJ hcall hcall2
    go_enter Try.func68, Try.ntmps68
    go_wp2_with fail
    refine (Hcall.out).mono ?_
    rintro e w1 ⟨rfl, h1⟩
    go_wp2_with fail
    go_ret2
    exact ShPost.fail HE.out h1
  rw [hr] at hcall
  cases hq : Sh.right t
  · have HE := Lib.hid (show Od.join s t side = ([], 20) by simp [Od.join, hq])
    rw [hq] at hcall2
    have Hr := Lib.hid hr
    have Hq := Lib.hid hq
    have HI := Lib.hid hI
    have HJ := Lib.hid hJ
    have Hcall := Lib.hid hcall
    have Hcall2 := Lib.hid hcall2
    clear hr hq hI hJ hcall hcall2
    go_enter Try.func68, Try.ntmps68
    go_wp2_with fail
    refine (Hcall.out).mono ?_
    rintro e w1 ⟨rfl, h1⟩
    go_wp2_with fail
    refine (Hcall2.out _ h1).mono ?_
    rintro e w2 ⟨rfl, h2⟩
    go_wp2_with fail
    go_ret2
    exact ShPost.fail HE.out (h1.trans (h2.mono h1.size))
  rw [hq] at hcall2
  obtain ⟨_, a1, a2, a3, -⟩ := Sh.right_mul hr
  obtain ⟨_, b1, b2, b3, -⟩ := Sh.right_mul hq
  by_cases hlen : s.length = t.length
  case neg =>
    have HE := Lib.hid (show Od.join s t side = ([], 20) by simp [Od.join, hlen])
    have hn : ((s.length : Int) != t.length) = true := by simp; omega
    have Hr := Lib.hid hr
    have Hq := Lib.hid hq
    have HI := Lib.hid hI
    have HJ := Lib.hid hJ
    have Hcall := Lib.hid hcall
    have Hcall2 := Lib.hid hcall2
    have Ha3 := Lib.hid a3
    have Hb3 := Lib.hid b3
    clear hr hq hI hJ hcall hcall2 a3 b3
    clear hlen
    go_enter Try.func68, Try.ntmps68
    go_wp2_with fail
    refine (Hcall.out).mono ?_
    rintro e w1 ⟨rfl, h1⟩
    go_wp2_with fail
    refine (Hcall2.out _ h1).mono ?_
    rintro e w2 ⟨rfl, h2⟩
    go_wp2_with fail
    go_ret2
    exact ShPost.fail HE.out (h1.trans (h2.mono h1.size))
  have hn : ((s.length : Int) != t.length) = false := by simp [hlen]
  by_cases c1 : side < 0
  · have HE := Lib.hid (show Od.join s t side = ([], 11) by unfold Od.join; rw [if_pos (by simp [hr, hq, hlen]), if_neg]; simp [Od.inR]; omega)
    have Hr := Lib.hid hr
    have Hq := Lib.hid hq
    have HI := Lib.hid hI
    have HJ := Lib.hid hJ
    have Hcall := Lib.hid hcall
    have Hcall2 := Lib.hid hcall2
    have Ha3 := Lib.hid a3
    have Hb3 := Lib.hid b3
    have Hlen := Lib.hid hlen
    clear hr hq hI hJ hcall hcall2 a3 b3 hlen
    go_enter Try.func68, Try.ntmps68
    go_wp2_with fail
    refine (Hcall.out).mono ?_
    rintro e w1 ⟨rfl, h1⟩
    go_wp2_with fail
    refine (Hcall2.out _ h1).mono ?_
    rintro e w2 ⟨rfl, h2⟩
    go_wp2_with fail
    go_ret2
    exact ShPost.fail HE.out (h1.trans (h2.mono h1.size))
  obtain ⟨sd, rfl⟩ : ∃ k : Nat, side = k := ⟨side.toNat, by omega⟩
  by_cases c2 : s.length ≤ sd
  · have HE := Lib.hid (show Od.join s t sd = ([], 11) by unfold Od.join; rw [if_pos (by simp [hr, hq, hlen]), if_neg]; simp [Od.inR]; omega)
    have Hr := Lib.hid hr
    have Hq := Lib.hid hq
    have HI := Lib.hid hI
    have HJ := Lib.hid hJ
    have Hcall := Lib.hid hcall
    have Hcall2 := Lib.hid hcall2
    have Ha3 := Lib.hid a3
    have Hb3 := Lib.hid b3
    have Hlen := Lib.hid hlen
    clear hr hq hI hJ hcall hcall2 a3 b3 hlen
    go_enter Try.func68, Try.ntmps68
    go_wp2_with fail
    refine (Hcall.out).mono ?_
    rintro e w1 ⟨rfl, h1⟩
    go_wp2_with fail
    refine (Hcall2.out _ h1).mono ?_
    rintro e w2 ⟨rfl, h2⟩
    go_wp2_with fail
    go_ret2
    exact ShPost.fail HE.out (h1.trans (h2.mono h1.size))
  have hbad := fun (k : Nat) (hk : k < s.length) (hk2 : k < t.length) (hs : (k : Int) ≠ sd) (hne : s[k] ≠ t[k]) => Od.join_bad hr hq hlen (by omega) hk hk2 hs hne
  have hgood : Od.joinOk s t sd = true → Od.join s t sd = if Sh.right (Od.joinL s t sd) = true then (Od.joinL s t sd, 0) else ([], 20) := fun h => by
    unfold Od.join
    rw [if_pos (by simp [hr, hq, hlen]), if_pos (by simp [Od.inR]; omega), h, Bool.true_and]
  have hLen := Lib.hid hlen
  have Hr := Lib.hid hr
  have Hq := Lib.hid hq
  have HI := Lib.hid hI
  have HJ := Lib.hid hJ
  have Hcall := Lib.hid hcall
  have Hcall2 := Lib.hid hcall2
  have Ha3 := Lib.hid a3
  have Hb3 := Lib.hid b3
  have Hbad := Lib.hid hbad
  have Hgood := Lib.hid hgood
  clear hr hq hI hJ hcall hcall2 a3 b3 hbad hgood
  clear hlen
  go_enter Try.func68, Try.ntmps68
  go_wp2_with fail
  refine (Hcall.out).mono ?_
  rintro e w1 ⟨rfl, h1⟩
  go_wp2_with fail
  refine (Hcall2.out _ h1).mono ?_
  rintro e w2 ⟨rfl, h2⟩
  have hb2 := h1.trans (h2.mono h1.size)
  go_wp2_with fail
  refine (shape_copy _ c s _ hl (HI.out.below hb2 (Nat.le_refl _))).mono ?_
  rintro e w3 ⟨g, rfl, hg, hB, h3⟩
  have hb3 := hb2.trans (h3.mono hb2.size)
  have hgw : w.heap.size ≤ g := Nat.le_trans hb2.size hg
  have HB := Lib.hid hB
  clear hB h1 h2 h3 hg
  go_wp2_with fail
  go_loopw [37] (fun i wr => ∃ k : Nat, k ≤ s.length ∧ i = .int .i64 k ∧ Blk wr g 3 ((Od.jMid s t sd k).map (Value.int .i64)).toArray ∧ Below w.heap.size w wr ∧ ∀ j (h1 : j < s.length) (h2 : j < t.length), j < k → j ≠ sd → s[j] = t[j]) (fun i _ => s.length - (intOf i).toNat)
  case atStart => exact ⟨0, Nat.zero_le _, rfl, by rw [show Od.jMid s t sd 0 = s by simp [Od.jMid]]; exact HB.out, hb3, fun j _ _ h => by omega⟩
  case round =>
    obtain ⟨k, hk, rfl, hblk, hbw, hall⟩ := hrel
    have HA := Lib.hid hall
    clear hall HB hb3 hb2
    by_cases hlt : k < s.length
    · have hlt' : k < t.length := by have := hLen.out; omega
      obtain ⟨b, off, rfl, hbl, hc⟩ := HI.out.below hbw (Nat.le_refl _) k hlt
      obtain ⟨b', off', rfl, hbl', hc'⟩ := HJ.out.below hbw (Nat.le_refl _) k hlt'
      rw [getD_at hlt] at hc
      rw [getD_at hlt'] at hc'
      have hx := Ha3.out _ (List.getElem_mem hlt)
      have hy := Hb3.out _ (List.getElem_mem hlt')
      have k0 : (0 : Int) ≤ k := by omega
      have k1 : (k : Int) < s.length := by omega
      have k2 : (k : Int) < t.length := by omega
      by_cases hs : k = sd
      · subst hs
        have hm : Od.jMid s t k k = s := by simp [Od.jMid]
        rw [hm] at hblk
        have hcg := hblk.cell k
        have hfg := hblk.frozen k
        simp [hlt] at hcg
        have hm2 : Od.jMid s t k (k + 1) = s.set k (s[k] + t[k]) := by
          simp [Od.jMid, Od.joinL, Od.at_, hlt, hlt']
        have HM := Lib.hid hm2
        have HB := Lib.hid hblk
        have hwr : IntKind.i64.wrap (s[k] + t[k]) = s[k] + t[k] := IntWalk.i64_in _ (by omega)
        clear hblk hm hm2
        go_wp2_with fail
        go_region_with (fail)
        all_goals
          go_wp2_with fail
          go_roundw
          case rel => exact ⟨k + 1, by omega, by go_num, by rw [HM.out]; exact HB.out.ints_set, (hbw.setCell (by simpa using hgw) _).drew, fun j h1 h2 h3 h4 => HA.out j h1 h2 (by omega) h4⟩
          case measure => simp [intOf]; omega
      · have hne : ((k : Int) == (sd : Int)) = false := by simp; omega
        by_cases hxy : s[k] = t[k]
        · have hb : (s[k] != t[k]) = false := by simp [hxy]
          have HX := Lib.hid hxy
          have HM := Lib.hid (show Od.jMid s t sd (k + 1) = Od.jMid s t sd k by unfold Od.jMid; simp only [show (sd < k + 1) = (sd < k) by simp; omega])
          have HB := Lib.hid hblk
          clear hxy hblk
          go_wp2_with fail
          go_quiet (fail)
          go_wp2_with fail
          go_roundw
          case rel => exact ⟨k + 1, by omega, by go_num, by rw [HM.out]; exact HB.out, Bdrawn hbw _, fun j h1 h2 h3 h4 => by
            by_cases e : j = k
            · subst e; exact HX.out
            · exact HA.out j h1 h2 (by omega) h4⟩
          case measure => simp [intOf]; omega
        · have hb : (s[k] != t[k]) = true := by simp [hxy]
          have HE := Lib.hid (Hbad.out k hlt hlt' (by omega) hxy)
          clear hxy hblk
          go_wp2_with fail
          go_quiet (fail)
          go_wp2_with fail
          go_ret2
          exact ShPost.fail HE.out (Bdrawn hbw _)
    · obtain rfl : k = s.length := by omega
      have hj : Od.joinOk s t sd = true := Od.joinOk_of (fun j h1 h2 h3 => HA.out j h1 h2 h1 h3) hLen.out
      have hm : Od.jMid s t sd s.length = Od.joinL s t sd := by unfold Od.jMid; rw [if_pos (by omega)]
      have hlj : (Od.joinL s t sd).length = s.length := by simp [Od.joinL]
      rw [hm] at hblk
      have hI2 : Ints .i64 wr (some ⟨g, 0, none⟩) (Od.joinL s t sd) := Ints.of_row fun j hj => by rw [hblk.cell]; simp [hj]
      have hcall3 := shape_right (some ⟨g, 0, none⟩) s.length (Od.joinL s t sd) wr (by omega) hI2
      rw [hlj] at hcall3
      have hg2 := Hgood.out hj
      cases h5 : Sh.right (Od.joinL s t sd)
      · have HE := Lib.hid (show Od.join s t sd = ([], 20) by rw [hg2, if_neg (by simp [h5])])
        rw [h5] at hcall3
        have Hcall3 := Lib.hid hcall3
        have HI2 := Lib.hid hI2
        have Hblk := Lib.hid hblk
        have Hlj := Lib.hid hlj
        have Hm := Lib.hid hm
        have Hg2 := Lib.hid hg2
        have Hj := Lib.hid hj
        have H5 := Lib.hid h5
        clear hcall3 hI2 hblk hlj hm hg2 hj h5
        go_wp2_with fail
        refine (Hcall3.out).mono ?_
        rintro e w4 ⟨rfl, h4⟩
        go_wp2_with fail
        go_ret2
        exact ShPost.fail HE.out (hbw.trans (h4.mono hbw.size))
      · have HE := Lib.hid (show Od.join s t sd = (Od.joinL s t sd, 0) by rw [hg2, if_pos h5])
        rw [h5] at hcall3
        have Hcall3 := Lib.hid hcall3
        have HI2 := Lib.hid hI2
        have Hblk := Lib.hid hblk
        have Hlj := Lib.hid hlj
        have Hm := Lib.hid hm
        have Hg2 := Lib.hid hg2
        have Hj := Lib.hid hj
        have H5 := Lib.hid h5
        clear hcall3 hI2 hblk hlj hm hg2 hj h5
        go_wp2_with fail
        refine (Hcall3.out).mono ?_
        rintro e w4 ⟨rfl, h4⟩
        go_wp2_with fail
        go_ret2
        exact ShPost.fresh HE.out Hlj.out.symm hgw (Hblk.out.below h4 Hblk.out.lt) (by rw [Hlj.out]; exact Nat.le_refl _) (by omega) (hbw.trans (h4.mono hbw.size))
end Go.Proofs.Ytbnnpkcfifejmaa
/- Layer 7 (conv): the answer's shape: contract. -/
namespace Go.Proofs.Ytbnnpkcfifejmaa
open Go.RowKit

theorem shp_info : (Try.prog.info? 3).map (fun i => (i.zero, i.size, i.bytes)) = some (some (.int .i64 0), 1, 8) := int_info
theorem Od.outs_succ (w x : List Int) (step : Int) (k : Nat) : Od.outs w x step (k + 1) = Od.outs w x step k ++ [(Od.wn w x step k).1] := by simp [Od.outs, List.range_succ]
theorem Od.outs_len (w x : List Int) (step : Int) (k : Nat) : (Od.outs w x step k).length = k + 1 := by simp [Od.outs]
theorem one_row (w : World) (t : TypeId) (n : Int) : (w.alloc (.cells #[.int .i64 n] t)).ownsRow w.heap.size t 1 (.slice (some ⟨w.heap.size, 0, none⟩) 1 1) 1 [.int .i64 n] :=
  ⟨by simp, .inr ⟨w.heap.size, 1, #[.int .i64 n], rfl, Nat.le_refl _, heap_alloc_new w _, Nat.le_refl _, by unfold maxLen; omega, by simp, by simp⟩⟩
theorem own_base {w : World} {B B' e size n : Nat} {v : Value} {xs : List Value} (h : w.ownsRow B e size v n xs) (hB : B' ≤ B) : w.ownsRow B' e size v n xs := by
  refine ⟨h.1, ?_⟩
  rcases h.2 with h1 | ⟨g, cap, cur, h1, h2, h3⟩
  · exact .inl h1
  · exact .inr ⟨g, cap, cur, h1, Nat.le_trans hB h2, h3⟩
theorem own_slice {w : World} {B e n : Nat} {v : Value} {zs : List Int} (h : w.ownsRow B e 1 v n (zs.map (Value.int .i64))) (hn : n = zs.length) (h0 : 0 < n) :
    ∃ g c, v = .slice (some ⟨g, 0, none⟩) n c ∧ B ≤ g ∧ g < w.heap.size ∧ Ints .i64 w (some ⟨g, 0, none⟩) zs ∧ (zs.length ≤ c ∧ c ≤ 9223372036854775807) := by
  subst hn
  rcases h.2 with ⟨rfl, h1⟩ | ⟨g, cap, cur, rfl, hb, hh, r1, r2, r3, r4⟩
  · omega
  · refine ⟨g, cap, rfl, hb, lt_of_block hh, Ints.of_row fun j hj => ?_, r1, by unfold maxLen at r2; omega⟩
    rw [Nat.zero_add, h.cellAt j (by simpa using hj)]
    simp [hj]
set_option maxHeartbeats 4000000 in
theorem conv_shape (A B : Option Addr) (c d : Nat) (ws xs : List Int) (step : Int) (w : World) (hl : ws.length ≤ 17592186043904) (hl' : xs.length ≤ 17592186043904) (hd : xs.length ≤ d) (hd' : d ≤ 9223372036854775807) (hI : Ints .i64 w A ws) (hJ : Ints .i64 w B xs) :
    Calls Try.prog 33 #[.slice A ws.length c, .slice B xs.length d, .int .i64 step] w (ShPost (Od.conv ws xs step) w) := by
  obtain ⟨i0, hi, hz0, hz1, hz2⟩ := info_parts int_info
  have hcall := shape_right A c ws w (by omega) hI
  have hcall2 := fun w1 (h1 : Below w.heap.size w w1) => shape_right B d xs w1 (by omega) (hJ.below h1 (Nat.le_refl _))
  cases hr : Sh.right ws
  · have HE := Lib.hid (show Od.conv ws xs step = ([], 20) by simp [Od.conv, hr])
    rw [hr] at hcall
    have Hr := Lib.hid hr
    have HI := Lib.hid hI
    have HJ := Lib.hid hJ
    have Hcall := Lib.hid hcall
    have Hcall2 := Lib.hid hcall2
    clear hr hI hJ hcall hcall2
    go_enter Try.func33, Try.ntmps33
    go_wp2_with fail
    refine (Hcall.out).mono ?_
    rintro e w1 ⟨rfl, h1⟩
    go_wp2_with fail
    go_ret2
    exact ShPost.fail HE.out h1
  rw [hr] at hcall
  cases hq : Sh.right xs
  · have HE := Lib.hid (show Od.conv ws xs step = ([], 20) by simp [Od.conv, hq])
    rw [hq] at hcall2
    have Hr := Lib.hid hr
    have Hq := Lib.hid hq
    have HI := Lib.hid hI
    have HJ := Lib.hid hJ
    have Hcall := Lib.hid hcall
    have Hcall2 := Lib.hid hcall2
    clear hr hq hI hJ hcall hcall2
    go_enter Try.func33, Try.ntmps33
    go_wp2_with fail
    refine (Hcall.out).mono ?_
    rintro e w1 ⟨rfl, h1⟩
    go_wp2_with fail
    refine (Hcall2.out _ h1).mono ?_
    rintro e w2 ⟨rfl, h2⟩
    go_wp2_with fail
    go_ret2
    exact ShPost.fail HE.out (h1.trans (h2.mono h1.size))
  rw [hq] at hcall2
  obtain ⟨_, a1, a2, a3, -⟩ := Sh.right_mul hr
  obtain ⟨_, b1, b2, b3, -⟩ := Sh.right_mul hq
  have bad : ¬ (2 ≤ xs.length ∧ xs.length ≤ 3 ∧ ws.length = xs.length + 1 ∧ ws.getD 1 0 = xs.getD 0 0) → Od.conv ws xs step = ([], 20) := fun h => by
    unfold Od.conv
    rw [if_neg (by simpa [hr, hq] using h)]
  have good : (2 ≤ xs.length ∧ xs.length ≤ 3 ∧ ws.length = xs.length + 1 ∧ ws.getD 1 0 = xs.getD 0 0) → Od.conv ws xs step = (if (List.range (xs.length - 1)).all (fun i => decide ((Od.wn ws xs step i).2 = 0)) then
      (if Sh.right (Od.outs ws xs step (xs.length - 1)) then (Od.outs ws xs step (xs.length - 1), 0) else ([], 20)) else ([], 11)) := fun h => by
    unfold Od.conv
    rw [if_pos (by simpa [hr, hq] using h)]
  have Hr := Lib.hid hr
  have Hq := Lib.hid hq
  have HI := Lib.hid hI
  have HJ := Lib.hid hJ
  have Hcall := Lib.hid hcall
  have Hcall2 := Lib.hid hcall2
  have Ha3 := Lib.hid a3
  have Hb3 := Lib.hid b3
  have Hgood := Lib.hid good
  clear hr hq hI hJ hcall hcall2 a3 b3 good
  by_cases c1 : xs.length < 2
  · have HE := Lib.hid (bad (by omega))
    clear bad
    go_enter Try.func33, Try.ntmps33
    go_wp2_with fail
    refine (Hcall.out).mono ?_
    rintro e w1 ⟨rfl, h1⟩
    go_wp2_with fail
    refine (Hcall2.out _ h1).mono ?_
    rintro e w2 ⟨rfl, h2⟩
    have d1 : decide ((xs.length : Int) < 2) = true := by simp; omega
    go_wp2_with fail
    go_quiet (fail)
    go_wp2_with fail
    go_ret2
    exact ShPost.fail HE.out (Bdrawn (h1.trans (h2.mono h1.size)) _)
  by_cases c2 : 3 < xs.length
  · have HE := Lib.hid (bad (by omega))
    clear bad
    go_enter Try.func33, Try.ntmps33
    go_wp2_with fail
    refine (Hcall.out).mono ?_
    rintro e w1 ⟨rfl, h1⟩
    go_wp2_with fail
    refine (Hcall2.out _ h1).mono ?_
    rintro e w2 ⟨rfl, h2⟩
    have d1 : decide ((xs.length : Int) < 2) = false := by simp; omega
    have d2 : decide (3 < (xs.length : Int)) = true := by simp; omega
    go_wp2_with fail
    go_quiet (fail)
    go_wp2_with fail
    go_ret2
    exact ShPost.fail HE.out (Bdrawn (h1.trans (h2.mono h1.size)) _)
  by_cases c3 : ws.length = xs.length + 1
  case neg =>
    have HE := Lib.hid (bad (by omega))
    clear bad
    go_enter Try.func33, Try.ntmps33
    go_wp2_with fail
    refine (Hcall.out).mono ?_
    rintro e w1 ⟨rfl, h1⟩
    go_wp2_with fail
    refine (Hcall2.out _ h1).mono ?_
    rintro e w2 ⟨rfl, h2⟩
    have d1 : decide ((xs.length : Int) < 2) = false := by simp; omega
    have d2 : decide (3 < (xs.length : Int)) = false := by simp; omega
    have d0 : IntKind.i64.wrap ((xs.length : Int) + 1) = (xs.length : Int) + 1 := IntWalk.i64_in _ (by omega)
    have d3 : ((ws.length : Int) != (xs.length : Int) + 1) = true := by simp; omega
    clear c3
    go_wp2_with fail
    go_quiet (fail)
    go_wp2_with fail
    go_ret2
    exact ShPost.fail HE.out (Bdrawn (h1.trans (h2.mono h1.size)) _)
  have d1 : decide ((xs.length : Int) < 2) = false := by simp; omega
  have d2 : decide (3 < (xs.length : Int)) = false := by simp; omega
  have d0 : IntKind.i64.wrap ((xs.length : Int) + 1) = (xs.length : Int) + 1 := IntWalk.i64_in _ (by omega)
  have d3 : ((ws.length : Int) != (xs.length : Int) + 1) = false := by simp; omega
  have e1 : (1 : Int) < ws.length := by omega
  have e0 : (0 : Int) < ws.length := by omega
  have f0 : (0 : Int) < xs.length := by omega
  obtain ⟨b, off, rfl, hb, -⟩ := HI.out 0 (by omega)
  obtain ⟨b', off', rfl, hb', -⟩ := HJ.out 0 (by omega)
  have HL := Lib.hid c3
  have n1 : 1 < ws.length := by omega
  have n0 : 0 < ws.length := by omega
  have m0 : 0 < xs.length := by omega
  have hcw : ∀ W, Below w.heap.size w W → ∀ k (hk : k < ws.length), W.cell? ⟨b, off + k, none⟩ = some (.int .i64 ws[k]) := fun W hW k hk => by
    exact (HI.out.below hW (Nat.le_refl _)).cell_at hk
  have hcx : ∀ W, Below w.heap.size w W → ∀ k (hk : k < xs.length), W.cell? ⟨b', off' + k, none⟩ = some (.int .i64 xs[k]) := fun W hW k hk => by
    exact (HJ.out.below hW (Nat.le_refl _)).cell_at hk
  have Hcw := Lib.hid hcw
  have Hcx := Lib.hid hcx
  clear hcw hcx
  clear c3
  by_cases c4 : ws[1] = xs[0]
  case neg =>
    have HE := Lib.hid (bad (by rw [getD_at n1, getD_at m0]; have := HL.out; omega))
    have d4 : (ws[1] != xs[0]) = true := by simp [c4]
    clear bad c4
    go_enter Try.func33, Try.ntmps33
    go_wp2_with fail
    refine (Hcall.out).mono ?_
    rintro e w1 ⟨rfl, h1⟩
    go_wp2_with fail
    refine (Hcall2.out _ h1).mono ?_
    rintro e w2 ⟨rfl, h2⟩
    have hb2 := h1.trans (h2.mono h1.size)
    have x1 := Hcw.out _ hb2 1 n1
    have y0 := Hcx.out _ hb2 0 m0
    rw [Nat.add_zero] at y0
    go_wp2_with fail
    go_quiet (fail)
    go_wp2_with fail
    go_ret2
    exact ShPost.fail HE.out (Bdrawn hb2 _)
  have d4 : (ws[1] != xs[0]) = false := by simp [c4]
  have hgood := Hgood.out ⟨by omega, by omega, HL.out, by rw [getD_at n1, getD_at m0]; exact c4⟩
  have HG := Lib.hid hgood
  clear bad c4 hgood Hgood
  go_enter Try.func33, Try.ntmps33
  go_wp2_with fail
  refine (Hcall.out).mono ?_
  rintro e w1 ⟨rfl, h1⟩
  go_wp2_with fail
  refine (Hcall2.out _ h1).mono ?_
  rintro e w2 ⟨rfl, h2⟩
  have hb2 := h1.trans (h2.mono h1.size)
  have x1 := Hcw.out _ hb2 1 n1
  have y0 := Hcx.out _ hb2 0 m0
  have x0 := Hcw.out _ hb2 0 n0
  rw [Nat.add_zero] at y0 x0
  go_wp2_with fail
  go_quiet (fail)
  have hb3 : Below w.heap.size w (w2.drewN nq) := Bdrawn hb2 _
  generalize w2.drewN nq = w3 at *
  have x0 := Hcw.out _ hb3 0 n0
  rw [Nat.add_zero] at x0
  go_wp2_with fail
  clear x1 y0 x0
  have hown : (w3.alloc (.cells #[.int .i64 ws[0]] 3)).ownsRow w.heap.size 3 1 (.slice (some ⟨w3.heap.size, 0, none⟩) 1 1) (0 + 1) ((Od.outs ws xs step 0).map (Value.int .i64)) := by
    have h := one_row w3 3 ws[0]
    rw [show (Od.outs ws xs step 0).map (Value.int .i64) = [.int .i64 ws[0]] by simp [Od.outs, n0]]
    exact own_base h hb3.size
  have HO := Lib.hid hown
  have hb4 : Below w.heap.size w (w3.alloc (.cells #[.int .i64 ws[0]] 3)) := hb3.alloc hb3.size _
  clear hown
  go_loopw [8, 53] (fun v i wr => ∃ k : Nat, k ≤ xs.length - 1 ∧ i = .int .i64 k ∧ wr.ownsRow w.heap.size 3 1 v (k + 1) ((Od.outs ws xs step k).map (Value.int .i64)) ∧ Below w.heap.size w wr ∧ ∀ j, j < k → (Od.wn ws xs step j).2 = 0) (fun _ i _ => xs.length - (intOf i).toNat)
  case atStart => exact ⟨0, Nat.zero_le _, rfl, HO.out, hb4, fun j h => by omega⟩
  case round =>
    obtain ⟨k, hk, rfl, hown, hbw, hall⟩ := hrel
    have HA := Lib.hid hall
    clear hall HO hb4 hb3 hb2
    by_cases hlt : k < xs.length - 1
    · have k0 : (0 : Int) ≤ k := by omega
      have p1 : k + 1 < xs.length := by omega
      have p2 : k + 2 < ws.length := by have := HL.out; omega
      have k1 : (k : Int) < ((xs.length - 1 : Nat) : Int) := by omega
      have k2 : ((k : Int) + 2) < (ws.length : Int) := by omega
      have w2 : IntKind.i64.wrap ((k : Int) + 2) = (k : Int) + 2 := IntWalk.i64_in _ (by omega)
      have t2 : ((k : Int) + 2).toNat = k + 2 := by omega
      have x1 := Hcx.out _ hbw (k + 1) p1
      have y1 := Hcw.out _ hbw (k + 2) p2
      rw [show off' + (k + 1) = off' + 1 + k by omega] at x1
      have hwn : Od.wn ws xs step k = Od.window xs[k + 1] ws[k + 2] step := by unfold Od.wn; rw [getD_at p1, getD_at p2]
      have HN := Lib.hid hwn
      have hcall := shape_window xs[k + 1] ws[k + 2] step
      rw [← hwn] at hcall
      have Hc := Lib.hid hcall
      clear hcall hwn
      have HW := Lib.hid hown
      clear hown
      by_cases hz : (Od.wn ws xs step k).2 = 0
      · have HZ := Lib.hid hz
        clear hz
        go_wp2_with fail
        refine (Hc.out _).mono ?_
        rintro e w5 ⟨rfl, rfl⟩
        rw [HZ.out]
        have hown := HW.out
        go_wp2_with (at_builtin; refine wpList_append_own _ rfl _ _ 24 rfl w.heap.size 3 i0 (.int .i64 0) 1 8 Try.underlying24 hi hz0 hz1 hz2 rfl (by decide) _ _ _ rfl (hown.alloc _) ⟨wr.heap.size, 0, none⟩ 1 1 [.int .i64 (Od.wn ws xs step k).1] rfl rfl (one_new _ _ _) (by intro u hu; simp at hu; subst hu; rfl) (by unfold maxLen; omega) (by omega) (by have := hbw.size; simp; omega) ?_)
        intro v' w6 hown' hgrow _
        have hb6 : Below w.heap.size w w6 := (hbw.alloc hbw.size _).grown hgrow (by have := hbw.size; simp; omega) (fun j hj => (HW.out.lt j hj).1)
        have HW' := Lib.hid hown'
        clear hown hown' hgrow
        go_wp2_with fail
        go_roundw
        case rel => exact ⟨k + 1, by omega, by go_num, by rw [Od.outs_succ, List.map_append]; exact HW'.out, hb6, fun j hj => by
          by_cases e : j = k
          · subst e; exact HZ.out
          · exact HA.out j (by omega)⟩
        case measure => simp [intOf]; omega
      · have HE := Lib.hid (show Od.conv ws xs step = ([], 11) by
          rw [HG.out, if_neg]
          rw [List.all_eq_true]
          intro h
          have := h k (List.mem_range.2 hlt)
          simp [hz] at this)
        have HZ := Lib.hid (show Od.wn ws xs step k = (0, 11) by rw [HN.out]; exact Od.window_err (by rw [← HN.out]; exact hz))
        clear hz
        go_wp2_with fail
        refine (Hc.out _).mono ?_
        rintro e w5 ⟨rfl, rfl⟩
        rw [HZ.out]
        go_wp2_with fail
        go_ret2
        exact ShPost.fail HE.out hbw
    · obtain rfl : k = xs.length - 1 := by omega
      have k1 : ¬ (((xs.length - 1 : Nat) : Int) < ((xs.length - 1 : Nat) : Int)) := by omega
      have hgo : Od.conv ws xs step = if Sh.right (Od.outs ws xs step (xs.length - 1)) then (Od.outs ws xs step (xs.length - 1), 0) else ([], 20) := by
        rw [HG.out, if_pos]
        rw [List.all_eq_true]
        intro j hj
        simp [HA.out j (List.mem_range.1 hj)]
      have hol := Od.outs_len ws xs step (xs.length - 1)
      rw [show xs.length - 1 + 1 = xs.length by omega] at hown hol
      generalize Od.outs ws xs step (xs.length - 1) = os at *
      obtain ⟨g, c2, rfl, hbg, hgc, hIg, hcc⟩ := own_slice hown hol.symm (by omega)
      have hcall3 := shape_right (some ⟨g, 0, none⟩) c2 os wr (by omega) hIg
      cases h5 : Sh.right os
      · have HE := Lib.hid (show Od.conv ws xs step = ([], 20) by rw [hgo, if_neg (by simp [h5])])
        rw [h5] at hcall3
        have Hcall3 := Lib.hid hcall3
        have HIg := Lib.hid hIg
        have Hgo := Lib.hid hgo
        have Hown := Lib.hid hown
        clear hcall3 hIg hgo hown
        rw [hol] at Hcall3
        clear hol h5
        go_wp2_with fail
        refine (Hcall3.out).mono ?_
        rintro e w4 ⟨rfl, h4⟩
        go_wp2_with fail
        go_ret2
        exact ShPost.fail HE.out (hbw.trans (h4.mono hbw.size))
      · have HE := Lib.hid (show Od.conv ws xs step = (os, 0) by rw [hgo, if_pos h5])
        rw [h5] at hcall3
        have Hcall3 := Lib.hid hcall3
        have HIg := Lib.hid hIg
        have Hgo := Lib.hid hgo
        have Hown := Lib.hid hown
        clear hcall3 hIg hgo hown
        rw [hol] at Hcall3
        have HOL := Lib.hid hol
        clear hol h5
        go_wp2_with fail
        refine (Hcall3.out).mono ?_
        rintro e w4 ⟨rfl, h4⟩
        go_wp2_with fail
        go_ret2
        exact ShPost.mk' HE.out HOL.out.symm (HIg.out.below h4 (Nat.le_refl _)) hcc.1 hcc.2 (fun a h => by injection h with h; subst h; exact hbg) (hbw.trans (h4.mono hbw.size))
end Go.Proofs.Ytbnnpkcfifejmaa
/- Layer 10 (op): the shapes that some kinds answer with: contracts. -/
namespace Go.Proofs.Ytbnnpkcfifejmaa
open Go.RowKit

theorem Shps.cell_at {w : World} {b off j : Nat} {ss : List (List Int)} (h : Shps w (some ⟨b, off, none⟩) ss) (hj : j < ss.length) :
    ∃ S c, w.cell? ⟨b, off + j, none⟩ = some (.slice S ss[j].length c) ∧ Ints .i64 w S ss[j] ∧ ss[j].length ≤ c ∧ c ≤ 9223372036854775807 := by
  obtain ⟨b', off', S, c, e, _, hc, h2⟩ := h j hj
  injection e with e
  injection e with e1 e2
  subst e1 e2
  exact ⟨S, c, hc, h2⟩
theorem gets_at {l : List (List Int)} {k : Nat} (h : k < l.length) : l.getD k [] = l[k] := by rw [List.getD_eq_getElem?_getD, List.getElem?_eq_getElem h]; rfl

set_option maxHeartbeats 4000000 in
theorem op_dense (A B C : Option Addr) (c d f : Nat) (ws bs xs : List Int) (w : World) (hx : xs.length ≤ 17592186043904) (hI : Ints .i64 w A ws) (hJ : Ints .i64 w B bs) (hK : Ints .i64 w C xs) :
    Calls Try.prog 31 #[.slice A ws.length c, .slice B bs.length d, .slice C xs.length f] w (ShPost (Od.dense ws bs xs) w) := by
  have bad : ¬ (ws.length = 2 ∧ bs.length = 1 ∧ bs.getD 0 0 = ws.getD 0 0 ∧ Sh.right xs = true ∧ Safe.prod xs = ws.getD 1 0) → Od.dense ws bs xs = ([], 20) := fun h => by unfold Od.dense; rw [if_neg h]
  have HI := Lib.hid hI
  have HJ := Lib.hid hJ
  have HK := Lib.hid hK
  clear hI hJ hK
  by_cases c1 : ws.length = 2
  case neg =>
    have HE := Lib.hid (bad (by omega))
    have d1 : ((ws.length : Int) != 2) = true := by simp; omega
    clear bad c1
    go_enter Try.func31, Try.ntmps31
    go_wp2_with fail
    go_quiet (fail)
    go_wp2_with fail
    go_ret2
    exact ShPost.fail HE.out (Bdrawn (Below.refl _ _) _)
  by_cases c2 : bs.length = 1
  case neg =>
    have HE := Lib.hid (bad (by omega))
    have d1 : ((ws.length : Int) != 2) = false := by simp; omega
    have d2 : ((bs.length : Int) != 1) = true := by simp; omega
    clear bad c1 c2
    go_enter Try.func31, Try.ntmps31
    go_wp2_with fail
    go_quiet (fail)
    go_wp2_with fail
    go_ret2
    exact ShPost.fail HE.out (Bdrawn (Below.refl _ _) _)
  obtain ⟨b, off, rfl, hb, -⟩ := HI.out 0 (by omega)
  obtain ⟨b', off', rfl, hb', -⟩ := HJ.out 0 (by omega)
  have n0 : 0 < ws.length := by omega
  have n1 : 1 < ws.length := by omega
  have m0 : 0 < bs.length := by omega
  have e0 : (0 : Int) < ws.length := by omega
  have e1 : (1 : Int) < ws.length := by omega
  have f0 : (0 : Int) < bs.length := by omega
  have d1 : ((ws.length : Int) != 2) = false := by simp; omega
  have d2 : ((bs.length : Int) != 1) = false := by simp; omega
  have x0 := HI.out.cell_at n0
  have y0 := HJ.out.cell_at m0
  rw [Nat.add_zero] at x0 y0
  rw [getD_at n0, getD_at m0, getD_at n1] at bad
  have good : bs[0] = ws[0] → Sh.right xs = true → Safe.prod xs = ws[1] → Od.dense ws bs xs = ([ws[0]], 0) := fun h1 h2 h3 => by
    unfold Od.dense
    rw [if_pos ⟨c1, c2, by rw [getD_at n0, getD_at m0]; exact h1, h2, by rw [getD_at n1]; exact h3⟩, getD_at n0]
  have HC1 := Lib.hid c1
  have HC2 := Lib.hid c2
  by_cases c3 : bs[0] = ws[0]
  case neg =>
    have HE := Lib.hid (bad (by simp [c3]))
    have d3 : (bs[0] != ws[0]) = true := by simp [c3]
    clear bad good c1 c2 c3
    go_enter Try.func31, Try.ntmps31
    go_wp2_with fail
    go_quiet (fail)
    go_wp2_with fail
    go_ret2
    exact ShPost.fail HE.out (Bdrawn (Below.refl _ _) _)
  have d3 : (bs[0] != ws[0]) = false := by simp [c3]
  have bad := fun h : ¬ (Sh.right xs = true ∧ Safe.prod xs = ws[1]) => bad (by intro q; exact h ⟨q.2.2.2.1, q.2.2.2.2⟩)
  have good := good c3
  clear c1 c2 c3
  cases hr : Sh.right xs
  · have HE := Lib.hid (bad (by simp [hr]))
    have HS := Lib.hid (show Sh.size xs = (0, 20) by simp [Sh.size, hr])
    clear bad good
    have Hr := Lib.hid hr
    clear hr
    go_enter Try.func31, Try.ntmps31
    go_wp2_with fail
    go_quiet (fail)
    go_wp2_with fail
    refine (shape_size C f xs _ (by omega) (HK.out.drewN _)).mono ?_
    rintro e w1 ⟨rfl, h1⟩
    rw [HS.out]
    go_wp2_with fail
    go_ret2
    exact ShPost.fail HE.out ((Bdrawn (Below.refl _ _) _).trans h1)
  have HS := Lib.hid (show Sh.size xs = (Safe.prod xs, 0) by simp [Sh.size, hr])
  by_cases hp : Safe.prod xs = ws[1]
  · have HE := Lib.hid (good hr hp)
    have d5 : (Safe.prod xs != ws[1]) = false := by simp [hp]
    clear bad good hp
    have Hr := Lib.hid hr
    clear hr
    go_enter Try.func31, Try.ntmps31
    go_wp2_with fail
    go_quiet (fail)
    go_wp2_with fail
    refine (shape_size C f xs _ (by omega) (HK.out.drewN _)).mono ?_
    rintro e w1 ⟨rfl, h1⟩
    rw [HS.out]
    have hb1 : Below w.heap.size w w1 := (Bdrawn (Below.refl _ _) _).trans h1
    have x1 := (HI.out.below hb1 (Nat.le_refl _)).cell_at n1
    have x0 := (HI.out.below hb1 (Nat.le_refl _)).cell_at n0
    rw [Nat.add_zero] at x0
    go_wp2_with fail
    go_ret2
    refine ShPost.fresh (g := w1.heap.size) (t := 3) HE.out (by simp) hb1.size ?_ (by simp) (by omega) (hb1.alloc hb1.size _)
    exact Blk.new _ _ _
  · have HE := Lib.hid (bad (by simp [hp]))
    have d5 : (Safe.prod xs != ws[1]) = true := by simp [hp]
    clear bad good hp
    have Hr := Lib.hid hr
    clear hr
    go_enter Try.func31, Try.ntmps31
    go_wp2_with fail
    go_quiet (fail)
    go_wp2_with fail
    refine (shape_size C f xs _ (by omega) (HK.out.drewN _)).mono ?_
    rintro e w1 ⟨rfl, h1⟩
    rw [HS.out]
    have hb1 : Below w.heap.size w w1 := (Bdrawn (Below.refl _ _) _).trans h1
    have x1 := (HI.out.below hb1 (Nat.le_refl _)).cell_at n1
    go_wp2_with fail
    go_ret2
    exact ShPost.fail HE.out hb1

theorem Od.same_bad {l : List (List Int)} {k : Nat} (hk : k < l.length) (h0 : 0 < l.length) (h : l[k] ≠ l[0]) : Od.same l = ([], 20) := by
  unfold Od.same
  rw [if_neg]
  rw [List.all_eq_true]
  intro q
  have := q l[k] (List.getElem_mem hk)
  rw [gets_at h0] at this
  simp [h] at this
theorem Od.same_good {l : List (List Int)} (h0 : 0 < l.length) (h : ∀ k (hk : k < l.length), l[k] = l[0]) : Od.same l = (l[0], 0) := by
  unfold Od.same
  rw [if_pos, gets_at h0]
  rw [List.all_eq_true]
  intro x hx
  obtain ⟨k, hk, rfl⟩ := List.getElem_of_mem hx
  rw [gets_at h0]
  simp [h k hk]
set_option maxHeartbeats 4000000 in
theorem op_same (A : Option Addr) (c : Nat) (ss : List (List Int)) (w : World) (h0 : 0 < ss.length) (hc : ss.length ≤ c) (hm : c ≤ 9223372036854775807) (hI : Shps w A ss) (hz : ∀ s ∈ ss, s.length ≤ 17592186043904) :
    Calls Try.prog 32 #[.slice A ss.length c] w (ShPost (Od.same ss) w) := by
  obtain ⟨b, off, _, _, rfl, hb, -⟩ := hI 0 h0
  have e0 : (0 : Int) < ss.length := by omega
  have e1 : (1 : Int) ≤ ss.length := by omega
  have HI := Lib.hid hI
  have Hz := Lib.hid hz
  clear hI hz
  by_cases hc1 : c = 1
  · subst hc1
    have h1 : ss.length - 1 = 0 := by omega
    have HE := Lib.hid (Od.same_good h0 fun j hj => by obtain rfl : j = 0 := by omega
                                                       rfl)
    have z0 := Hz.out _ (List.getElem_mem h0)
    obtain ⟨S0, c0, y0, hI0, hc0, hm0⟩ := HI.out.cell_at h0
    rw [Nat.add_zero] at y0
    have HI0 := Lib.hid hI0
    clear hI0
    go_enter Try.func32, Try.ntmps32
    go_wp2_with fail
    go_loopw [9] (fun i wr => wr = w ∧ i = .int .i64 0) (fun _ _ => 0)
    case atStart => exact ⟨rfl, rfl⟩
    case round =>
      obtain ⟨rfl, rfl⟩ := hrel
      go_wp2_with fail
      refine (shape_copy S0 c0 ss[0] _ z0 HI0.out).mono ?_
      rintro e w1 ⟨g, rfl, hg, hB, h1⟩
      go_wp2_with fail
      go_ret2
      exact ShPost.fresh HE.out rfl hg hB (Nat.le_refl _) (by omega) h1
  go_enter Try.func32, Try.ntmps32
  go_wp2_with fail
  go_loopw [9] (fun i wr => ∃ k n : Nat, wr = w.drewN n ∧ k ≤ ss.length - 1 ∧ i = .int .i64 k ∧ ∀ j (hj : j < ss.length), j ≤ k → ss[j] = ss[0]) (fun i _ => ss.length - (intOf i).toNat)
  case atStart => exact ⟨0, 0, rfl, Nat.zero_le _, rfl, fun j hj h => by obtain rfl : j = 0 := by omega
                                                                         rfl⟩
  case round =>
    obtain ⟨k, n, rfl, hk, rfl, hall⟩ := hrel
    have HA := Lib.hid hall
    clear hall
    obtain ⟨S0, c0, y0, hI0, hc0, hm0⟩ := (HI.out.drewN n).cell_at h0
    rw [Nat.add_zero] at y0
    have HI0 := Lib.hid hI0
    clear hI0
    by_cases hlt : k < ss.length - 1
    · have p1 : k + 1 < ss.length := by omega
      have k1 : (k : Int) < ((ss.length - 1 : Nat) : Int) := by omega
      obtain ⟨S1, c1, y1, hI1, hc1, hm1⟩ := (HI.out.drewN n).cell_at p1
      rw [show off + (k + 1) = off + 1 + k by omega] at y1
      have HI1 := Lib.hid hI1
      clear hI1
      have z1 := Hz.out _ (List.getElem_mem p1)
      have z0 := Hz.out _ (List.getElem_mem h0)
      by_cases hq : ss[k + 1] = ss[0]
      · have hb : (ss[k + 1] == ss[0]) = true := by simp [hq]
        have HB := Lib.hid hb
        have HQ := Lib.hid hq
        clear hq hb
        go_wp2_with fail
        refine (shape_equal S1 S0 c1 c0 ss[k + 1] ss[0] _ z1 z0 HI1.out HI0.out).mono ?_
        rintro e w1 ⟨rfl, n1, rfl⟩
        rw [HB.out]
        go_wp2_with fail
        go_roundw
        case rel => exact ⟨k + 1, n + n1, by first | rfl | exact World.drewN_drewN _ _ _, by omega, by go_num, fun j hj h => by
          by_cases e : j = k + 1
          · subst e; exact HQ.out
          · exact HA.out j hj (by omega)⟩
        case measure => simp [intOf]; omega
      · have hb : (ss[k + 1] == ss[0]) = false := by simp [hq]
        have HE := Lib.hid (Od.same_bad p1 h0 hq)
        have HB := Lib.hid hb
        clear hq hb
        go_wp2_with fail
        refine (shape_equal S1 S0 c1 c0 ss[k + 1] ss[0] _ z1 z0 HI1.out HI0.out).mono ?_
        rintro e w1 ⟨rfl, n1, rfl⟩
        rw [HB.out]
        go_wp2_with fail
        go_ret2
        exact ShPost.fail HE.out (Bdrawn (Below.refl _ _) _)
    · obtain rfl : k = ss.length - 1 := by omega
      have k1 : ¬ (((ss.length - 1 : Nat) : Int) < ((ss.length - 1 : Nat) : Int)) := by omega
      have HE := Lib.hid (Od.same_good h0 fun j hj => HA.out j hj (by omega))
      have z0 := Hz.out _ (List.getElem_mem h0)
      go_wp2_with fail
      refine (shape_copy S0 c0 ss[0] _ z0 HI0.out).mono ?_
      rintro e w1 ⟨g, rfl, hg, hB, h1⟩
      go_wp2_with fail
      go_ret2
      exact ShPost.fresh HE.out rfl hg hB (Nat.le_refl _) (by omega) ((Bdrawn (Below.refl _ _) n).trans h1)

set_option maxHeartbeats 4000000 in
theorem op_turned (A B : Option Addr) (c d : Nat) (xs ss : List Int) (w : World) (hx : xs.length ≤ 17592186043904) (hs : ss.length ≤ 17592186043904) (hI : Ints .i64 w A xs) (hJ : Ints .i64 w B ss) :
    Calls Try.prog 37 #[.slice A xs.length c, .slice B ss.length d] w (ShPost (Od.turned xs ss) w) := by
  have HI := Lib.hid hI
  have HJ := Lib.hid hJ
  clear hI hJ
  cases hr : Sh.right xs
  · have HE := Lib.hid (show Od.turned xs ss = ([], 20) by simp [Od.turned, hr])
    have HS := Lib.hid (show Sh.size xs = (0, 20) by simp [Sh.size, hr])
    clear hr
    go_enter Try.func37, Try.ntmps37
    go_wp2_with fail
    refine (shape_size A c xs _ (by omega) HI.out).mono ?_
    rintro e w1 ⟨rfl, h1⟩
    rw [HS.out]
    go_wp2_with fail
    go_ret2
    exact ShPost.fail HE.out h1
  have HS := Lib.hid (show Sh.size xs = (Safe.prod xs, 0) by simp [Sh.size, hr])
  cases hq : Sh.right ss
  · have HE := Lib.hid (show Od.turned xs ss = ([], 20) by simp [Od.turned, hq])
    have HT := Lib.hid (show Sh.size ss = (0, 20) by simp [Sh.size, hq])
    clear hr hq
    go_enter Try.func37, Try.ntmps37
    go_wp2_with fail
    refine (shape_size A c xs _ (by omega) HI.out).mono ?_
    rintro e w1 ⟨rfl, h1⟩
    rw [HS.out]
    go_wp2_with fail
    refine (shape_size B d ss _ (by omega) (HJ.out.below h1 (Nat.le_refl _))).mono ?_
    rintro e w2 ⟨rfl, h2⟩
    rw [HT.out]
    go_wp2_with fail
    go_ret2
    exact ShPost.fail HE.out (h1.trans (h2.mono h1.size))
  have HT := Lib.hid (show Sh.size ss = (Safe.prod ss, 0) by simp [Sh.size, hq])
  by_cases hp : Safe.prod ss = Safe.prod xs
  · have HE := Lib.hid (show Od.turned xs ss = (ss, 0) by simp [Od.turned, hr, hq, hp])
    have d5 : (Safe.prod ss != Safe.prod xs) = false := by simp [hp]
    clear hr hq hp
    go_enter Try.func37, Try.ntmps37
    go_wp2_with fail
    refine (shape_size A c xs _ (by omega) HI.out).mono ?_
    rintro e w1 ⟨rfl, h1⟩
    rw [HS.out]
    go_wp2_with fail
    refine (shape_size B d ss _ (by omega) (HJ.out.below h1 (Nat.le_refl _))).mono ?_
    rintro e w2 ⟨rfl, h2⟩
    have hb2 := h1.trans (h2.mono h1.size)
    rw [HT.out]
    go_wp2_with fail
    refine (shape_copy B d ss _ hs (HJ.out.below hb2 (Nat.le_refl _))).mono ?_
    rintro e w3 ⟨g, rfl, hg, hB, h3⟩
    go_wp2_with fail
    go_ret2
    exact ShPost.fresh HE.out rfl (Nat.le_trans hb2.size hg) hB (Nat.le_refl _) (by omega) (hb2.trans (h3.mono hb2.size))
  · have HE := Lib.hid (show Od.turned xs ss = ([], 20) by simp [Od.turned, hp])
    have d5 : (Safe.prod ss != Safe.prod xs) = true := by simp [hp]
    clear hr hq hp
    go_enter Try.func37, Try.ntmps37
    go_wp2_with fail
    refine (shape_size A c xs _ (by omega) HI.out).mono ?_
    rintro e w1 ⟨rfl, h1⟩
    rw [HS.out]
    go_wp2_with fail
    refine (shape_size B d ss _ (by omega) (HJ.out.below h1 (Nat.le_refl _))).mono ?_
    rintro e w2 ⟨rfl, h2⟩
    rw [HT.out]
    go_wp2_with fail
    go_ret2
    exact ShPost.fail HE.out (h1.trans (h2.mono h1.size))

theorem Od.join_right {s t : List Int} {side : Int} (h : (Od.join s t side).2 = 0) : Sh.right (Od.join s t side).1 = true := by
  unfold Od.join at h ⊢
  split at h
  · rename_i h1
    rw [if_pos h1]
    split at h
    · rename_i h2
      rw [if_pos h2]
      split at h
      · rename_i h3
        rw [if_pos h3]
        simp at h3
        exact h3.2
      · simp at h
    · simp at h
  · simp at h
theorem Od.join_err {s t : List Int} {side : Int} (h : (Od.join s t side).2 ≠ 0) : (Od.join s t side).1 = [] := by
  unfold Od.join at h ⊢
  split
  · split
    · split
      · rename_i h1 h2 h3; simp [h1, h2, h3] at h
      · rfl
    · rfl
  · rfl
set_option maxHeartbeats 4000000 in
theorem op_joined (A : Option Addr) (c : Nat) (side : Int) (ss : List (List Int)) (w : World) (h0 : 0 < ss.length) (hc : ss.length ≤ c) (hm : c ≤ 9223372036854775807) (hI : Shps w A ss) (hz : ∀ s ∈ ss, s.length ≤ 17592186043904) :
    Calls Try.prog 35 #[.int .i64 side, .slice A ss.length c] w (ShPost (Od.joined side ss) w) := by
  obtain ⟨b, off, _, _, rfl, hb, -⟩ := hI 0 h0
  have e0 : (0 : Int) < ss.length := by omega
  have e1 : (1 : Int) ≤ ss.length := by omega
  have z0 := hz _ (List.getElem_mem h0)
  obtain ⟨S0, c0, y0, hI0, hc0, hm0⟩ := hI.cell_at h0
  rw [Nat.add_zero] at y0
  have HI := Lib.hid hI
  have Hz := Lib.hid hz
  have HI0 := Lib.hid hI0
  clear hI hz hI0
  have bad : ss.length = 1 → ¬ (0 ≤ side ∧ side < ss[0].length) → Od.joined side ss = ([], 11) := fun h1 h2 => by
    unfold Od.joined
    rw [if_pos ⟨h1, by rw [gets_at h0]; simp [Od.inR]; omega⟩]
  have good : (ss.length = 1 → 0 ≤ side ∧ side < ss[0].length) → Od.joined side ss = Od.joinAll side ss[0] (ss.drop 1) := fun h => by
    unfold Od.joined
    rw [if_neg, gets_at h0]
    rw [gets_at h0]
    rintro ⟨h1, h2⟩
    simp [Od.inR] at h2
    have := h h1
    omega
  by_cases c1 : ss.length = 1
  · have d1 : ((ss.length : Int) == 1) = true := by simp; omega
    have l0 : ss.length - 1 = 0 := by omega
    have bad := bad c1
    by_cases s1 : side < 0
    · have HE := Lib.hid (bad (by omega))
      clear bad good c1
      go_enter Try.func35, Try.ntmps35
      go_wp2_with fail
      go_ret2
      exact ShPost.fail HE.out (Below.refl _ _)
    · by_cases s2 : (ss[0].length : Int) ≤ side
      · have HE := Lib.hid (bad (by omega))
        clear bad good c1
        go_enter Try.func35, Try.ntmps35
        go_wp2_with fail
        go_ret2
        exact ShPost.fail HE.out (Below.refl _ _)
      · have HE := Lib.hid (show Od.joined side ss = (ss[0], 0) by rw [good (by omega), List.drop_eq_nil_of_le (by omega)]; rfl)
        clear bad good c1
        by_cases hc1 : c = 1
        · subst hc1
          go_enter Try.func35, Try.ntmps35
          go_wp2_with fail
          refine (shape_copy S0 c0 ss[0] _ z0 HI0.out).mono ?_
          rintro e w1 ⟨g, rfl, hg, hB, h1⟩
          have HB := Lib.hid hB
          clear hB y0
          go_wp2_with fail
          go_loopw [6, 33] (fun v i wr => v = .slice (some ⟨g, 0, none⟩) ss[0].length ss[0].length ∧ wr = w1 ∧ i = .int .i64 0) (fun _ _ _ => 0)
          case atStart => exact ⟨rfl, rfl, rfl⟩
          case round =>
            obtain ⟨rfl, rfl, rfl⟩ := hrel
            go_wp2_with fail
            go_ret2
            exact ShPost.fresh HE.out rfl hg HB.out (Nat.le_refl _) (by omega) h1
        · go_enter Try.func35, Try.ntmps35
          go_wp2_with fail
          refine (shape_copy S0 c0 ss[0] _ z0 HI0.out).mono ?_
          rintro e w1 ⟨g, rfl, hg, hB, h1⟩
          have HB := Lib.hid hB
          clear hB y0
          go_wp2_with fail
          go_loopw [6, 33] (fun v i wr => v = .slice (some ⟨g, 0, none⟩) ss[0].length ss[0].length ∧ wr = w1 ∧ i = .int .i64 0) (fun _ _ _ => 0)
          case atStart => exact ⟨rfl, rfl, rfl⟩
          case round =>
            obtain ⟨rfl, rfl, rfl⟩ := hrel
            go_wp2_with fail
            go_ret2
            exact ShPost.fresh HE.out rfl hg HB.out (Nat.le_refl _) (by omega) h1
  · have d1 : ((ss.length : Int) == 1) = false := by simp; omega
    have hc1 : ¬ c = 1 := by omega
    have HG := Lib.hid (good (by omega))
    clear bad good c1
    go_enter Try.func35, Try.ntmps35
    go_wp2_with fail
    refine (shape_copy S0 c0 ss[0] _ z0 HI0.out).mono ?_
    rintro e w1 ⟨g, rfl, hg, hB, h1⟩
    have HB := Lib.hid (show Blk w1 g 3 (ss[0].map (Value.int .i64)).toArray from hB)
    clear hB y0
    go_wp2_with fail
    go_loopw [6, 33] (fun v i wr => ∃ (k : Nat) (cur : List Int) (S : Option Addr) (d : Nat), k ≤ ss.length - 1 ∧ i = .int .i64 k ∧ v = .slice S cur.length d ∧ Ints .i64 wr S cur ∧ cur.length ≤ d ∧ d ≤ 9223372036854775807 ∧ cur.length ≤ 17592186043904 ∧ (∀ a, S = some a → w.heap.size ≤ a.block) ∧ Below w.heap.size w wr ∧ Od.joined side ss = Od.joinAll side cur (ss.drop (k + 1))) (fun _ i _ => ss.length - (intOf i).toNat)
    case atStart => exact ⟨0, ss[0], _, _, Nat.zero_le _, rfl, rfl, Ints.of_row fun j hj => by rw [HB.out.cell]; simp [hj], Nat.le_refl _, by omega, by omega, (fun a h => by injection h with h; subst h; exact hg), h1, HG.out⟩
    case round =>
      obtain ⟨k, cur, S, d, hk, rfl, rfl, hcur, q1, q2, q3, hfr, hbw, hgo⟩ := hrel
      have Hcur := Lib.hid hcur
      have Hgo := Lib.hid hgo
      have Hfr := Lib.hid hfr
      clear hcur hgo hfr
      clear HB
      by_cases hlt : k < ss.length - 1
      · have p1 : k + 1 < ss.length := by omega
        have k1 : (k : Int) < ((ss.length - 1 : Nat) : Int) := by omega
        obtain ⟨S1, c1, y1, hI1, hc1, hm1⟩ := (HI.out.below hbw (Nat.le_refl _)).cell_at p1
        rw [show off + (k + 1) = off + 1 + k by omega] at y1
        have z1 := Hz.out _ (List.getElem_mem p1)
        have hj := shape_join S S1 d c1 cur ss[k + 1] side wr q3 z1 Hcur.out hI1
        have hgo2 : Od.joinAll side cur (ss.drop (k + 1)) = if (Od.join cur ss[k + 1] side).2 = 0 then Od.joinAll side (Od.join cur ss[k + 1] side).1 (ss.drop (k + 1 + 1)) else ([], (Od.join cur ss[k + 1] side).2) := by
          rw [List.drop_eq_getElem_cons p1, Od.joinAll]
        have hright := fun h : (Od.join cur ss[k + 1] side).2 = 0 => Sh.right_mul (Od.join_right (s := cur) (t := ss[k + 1]) (side := side) h)
        have herr := fun h : (Od.join cur ss[k + 1] side).2 ≠ 0 => Od.join_err (s := cur) (t := ss[k + 1]) (side := side) h
        generalize Od.join cur ss[k + 1] side = r at *
        have Hj := Lib.hid hj
        have Hgo2 := Lib.hid hgo2
        have HI1 := Lib.hid hI1
        have Hright := Lib.hid hright
        have Herr := Lib.hid herr
        clear hj hgo2 hI1 hright herr
        go_wp2_with fail
        refine (Hj.out).mono ?_
        rintro e w2 ⟨S2, d2, rfl, hI2, l1, l2, hf2, hb2⟩
        have hbw2 := hbw.trans (hb2.mono hbw.size)
        have HI2 := Lib.hid hI2
        have Hf2 := Lib.hid hf2
        clear hI2 hf2
        by_cases hr : r.2 = 0
        · have d3 : (r.2 != 0) = false := by simp [hr]
          have HR := Lib.hid hr
          clear hr
          go_wp2_with fail
          go_roundw
          case rel => exact ⟨k + 1, r.1, S2, d2, by omega, by go_num, rfl, HI2.out, l1, l2, by have := (Hright.out HR.out).2.1; omega, (fun a h => Nat.le_trans hbw.size (Hf2.out a h)), hbw2, by rw [Hgo.out, Hgo2.out, if_pos HR.out]⟩
          case measure => simp [intOf]; omega
        · have d3 : (r.2 != 0) = true := by simp [hr]
          have HE := Lib.hid (show Od.joined side ss = ([], r.2) by rw [Hgo.out, Hgo2.out, if_neg hr])
          clear hr
          go_wp2_with fail
          go_ret2
          exact ShPost.fail HE.out hbw2
      · obtain rfl : k = ss.length - 1 := by omega
        have k1 : ¬ (((ss.length - 1 : Nat) : Int) < ((ss.length - 1 : Nat) : Int)) := by omega
        have HE := Lib.hid (show Od.joined side ss = (cur, 0) by rw [Hgo.out, List.drop_eq_nil_of_le (by omega)]; rfl)
        go_wp2_with fail
        go_ret2
        exact ShPost.mk' HE.out rfl Hcur.out q1 q2 Hfr.out hbw
end Go.Proofs.Ytbnnpkcfifejmaa

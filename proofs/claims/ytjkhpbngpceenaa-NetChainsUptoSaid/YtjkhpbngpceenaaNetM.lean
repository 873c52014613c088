/- Memory of shapes, ops, nodes and nets: what slices of them read as. No program is named here. -/
import Derived.Test.YtjkhpbngpceenaaNetP
import Derived.Test.YtjkhpbngpceenaaOwn
namespace Go.Proofs.Ytjkhpbngpceenaa
open Go.RowKit

/-- A slice of shapes reads as the list ss. -/
def Shps (w : World) (A : Option Addr) (ss : List (List Int)) : Prop :=
  ∀ j (hj : j < ss.length), ∃ b off S c, A = some ⟨b, off, none⟩ ∧ b < w.heap.size ∧ w.cell? ⟨b, off + j, none⟩ = some (.slice S ss[j].length c) ∧ Ints .i64 w S ss[j] ∧ ss[j].length ≤ c ∧ c ≤ 9223372036854775807
section
variable {w w' : World} {A : Option Addr} {ss : List (List Int)} {B : Nat}
theorem Shps.below (h : Shps w A ss) (hb : Below B w w') (hB : w.heap.size ≤ B) : Shps w' A ss := fun j hj => by
  obtain ⟨b, off, S, c, e, hl, hc, hI, h2⟩ := h j hj
  exact ⟨b, off, S, c, e, Nat.lt_of_lt_of_le hl hb.size, (hb.cell (p := ⟨b, off + j, none⟩) (Nat.lt_of_lt_of_le hl hB)).trans hc, hI.below hb hB, h2⟩
theorem Shps.alloc (h : Shps w A ss) (o : Obj) : Shps (w.alloc o) A ss := h.below ((Below.refl _ _).alloc (Nat.le_refl _) o) (Nat.le_refl _)
theorem Shps.drewN (h : Shps w A ss) (n : Nat) : Shps (w.drewN n) A ss := h
theorem Shps.drew (h : Shps w A ss) : Shps w.drew A ss := h
theorem Shps.nil : Shps w A [] := fun j hj => absurd hj (by simp)
theorem Shps.dropped {b off : Nat} (k : Nat) (h : Shps w (some ⟨b, off, none⟩) ss) : Shps w (some ⟨b, off + k, none⟩) (ss.drop k) := fun j hj => by
  rw [List.length_drop] at hj
  obtain ⟨b', off', S, c, e, hl, hc, hI, h2⟩ := h (k + j) (by omega)
  injection e with e
  injection e with e1 e2
  subst e1 e2
  rw [List.getElem_drop]
  exact ⟨b, off + k, S, c, rfl, hl, by rw [Nat.add_assoc]; exact hc, hI, h2⟩
end

/-- The op's value, its shape at S. -/
def opVal (o : OpD) (S : Option Addr) (c : Nat) : Value := .agg #[.int .i64 o.kind, .int .i64 o.k, .int .i64 o.width, .int .i64 o.step, .int .i64 o.side, .int .i64 o.frm, .int .i64 o.to, .slice S o.s.length c]
/-- All numbers are an int's. -/
def OpD.wide (o : OpD) : Prop := ∀ z ∈ [o.kind, o.k, o.width, o.step, o.side, o.frm, o.to], -9223372036854775808 ≤ z ∧ z ≤ 9223372036854775807

/-- A slice of nodes reads as the list ns. -/
def Nodes (w : World) (A : Option Addr) (ns : List NodeD) : Prop :=
  ∀ j (hj : j < ns.length), ∃ b off S c I d Q q, A = some ⟨b, off, none⟩ ∧ b < w.heap.size ∧
    w.cell? ⟨b, off + j * 10, none⟩ = some (.int .i64 ns[j].op.kind) ∧ w.cell? ⟨b, off + j * 10 + 1, none⟩ = some (.int .i64 ns[j].op.k) ∧ w.cell? ⟨b, off + j * 10 + 2, none⟩ = some (.int .i64 ns[j].op.width) ∧
    w.cell? ⟨b, off + j * 10 + 3, none⟩ = some (.int .i64 ns[j].op.step) ∧ w.cell? ⟨b, off + j * 10 + 4, none⟩ = some (.int .i64 ns[j].op.side) ∧ w.cell? ⟨b, off + j * 10 + 5, none⟩ = some (.int .i64 ns[j].op.frm) ∧
    w.cell? ⟨b, off + j * 10 + 6, none⟩ = some (.int .i64 ns[j].op.to) ∧ w.cell? ⟨b, off + j * 10 + 7, none⟩ = some (.slice S ns[j].op.s.length c) ∧
    w.cell? ⟨b, off + j * 10 + 8, none⟩ = some (.slice I ns[j].ins.length d) ∧ w.cell? ⟨b, off + j * 10 + 9, none⟩ = some (.slice Q ns[j].p.length q) ∧
    (Ints .i64 w S ns[j].op.s ∧ ns[j].op.s.length ≤ c ∧ c ≤ 9223372036854775807) ∧ (Ints .i64 w I ns[j].ins ∧ ns[j].ins.length ≤ d ∧ d ≤ 9223372036854775807) ∧ (Shps w Q ns[j].p ∧ ns[j].p.length ≤ q ∧ q ≤ 9223372036854775807)
theorem Nodes.below {B : Nat} {w w' : World} {A : Option Addr} {ns : List NodeD} (h : Nodes w A ns) (hb : Below B w w') (hB : w.heap.size ≤ B) : Nodes w' A ns := fun j hj => by
  obtain ⟨b, off, S, c, I, d, Q, q, e, hl, c0, c1, c2, c3, c4, c5, c6, c7, c8, c9, ⟨h1, h1'⟩, ⟨h2, h2'⟩, h3, h3'⟩ := h j hj
  have hc : ∀ {k v}, w.cell? ⟨b, k, none⟩ = some v → w'.cell? ⟨b, k, none⟩ = some v := fun {k v} hk => (hb.cell (p := ⟨b, k, none⟩) (Nat.lt_of_lt_of_le hl hB)).trans hk
  exact ⟨b, off, S, c, I, d, Q, q, e, Nat.lt_of_lt_of_le hl hb.size, hc c0, hc c1, hc c2, hc c3, hc c4, hc c5, hc c6, hc c7, hc c8, hc c9, ⟨h1.below hb hB, h1'⟩, ⟨h2.below hb hB, h2'⟩, h3.below hb hB, h3'⟩
theorem Nodes.alloc {w : World} {A : Option Addr} {ns : List NodeD} (h : Nodes w A ns) (o : Obj) : Nodes (w.alloc o) A ns := h.below ((Below.refl _ _).alloc (Nat.le_refl _) o) (Nat.le_refl _)
/-- A net's parts read as n. -/
def NetR (w : World) (A N : Option Addr) (n : NetD) : Prop := Ints .i64 w A n.inn ∧ Nodes w N n.nodes
theorem NetR.below {B : Nat} {w w' : World} {A N : Option Addr} {n : NetD} (h : NetR w A N n) (hb : Below B w w') (hB : w.heap.size ≤ B) : NetR w' A N n := ⟨h.1.below hb hB, h.2.below hb hB⟩

/-- The block g is a row of shapes, none of them in the block itself. -/
def ShpRow (w : World) (g : Nat) (t : TypeId) (sh : List (List Int)) : Prop :=
  ∃ vs : List Value, vs.length = sh.length ∧ Blk w g t vs.toArray ∧ ∀ j (hj : j < sh.length), ∃ S c, vs[j]? = some (.slice S sh[j].length c) ∧ Ints .i64 w S sh[j] ∧ sh[j].length ≤ c ∧ c ≤ 9223372036854775807 ∧ ∀ a, S = some a → a.block ≠ g
section
variable {w w' : World} {g : Nat} {t : TypeId} {sh : List (List Int)} {B : Nat}
theorem ShpRow.lt (h : ShpRow w g t sh) : g < w.heap.size := by obtain ⟨vs, _, hb, _⟩ := h; exact hb.lt
theorem ShpRow.below (h : ShpRow w g t sh) (hb : Below B w w') (hB : w.heap.size ≤ B) : ShpRow w' g t sh := by
  obtain ⟨vs, hl, hk, hv⟩ := h
  refine ⟨vs, hl, hk.below hb (Nat.lt_of_lt_of_le hk.lt hB), fun j hj => ?_⟩
  obtain ⟨S, c, e, hI, h2⟩ := hv j hj
  exact ⟨S, c, e, hI.below hb hB, h2⟩
theorem ShpRow.alloc (h : ShpRow w g t sh) (o : Obj) : ShpRow (w.alloc o) g t sh := h.below ((Below.refl _ _).alloc (Nat.le_refl _) o) (Nat.le_refl _)
theorem ShpRow.drewN (h : ShpRow w g t sh) (n : Nat) : ShpRow (w.drewN n) g t sh := h
theorem ShpRow.at_ (h : ShpRow w g t sh) {j : Nat} (hj : j < sh.length) : ∃ S c, w.cell? ⟨g, j, none⟩ = some (.slice S sh[j].length c) ∧ Ints .i64 w S sh[j] ∧ sh[j].length ≤ c ∧ c ≤ 9223372036854775807 ∧ ∀ a, S = some a → a.block ≠ g := by
  obtain ⟨vs, hl, hk, hv⟩ := h
  obtain ⟨S, c, e, h2⟩ := hv j hj
  exact ⟨S, c, by rw [hk.cell j]; simpa using e, h2⟩
theorem ShpRow.shps (h : ShpRow w g t sh) : Shps w (some ⟨g, 0, none⟩) sh := fun j hj => by
  obtain ⟨S, c, hc, hI, h1, h2, _⟩ := h.at_ hj
  exact ⟨g, 0, S, c, rfl, h.lt, by rw [Nat.zero_add]; exact hc, hI, h1, h2⟩
theorem Ints.set_far {k : IntKind} {A : Option Addr} {zs : List Int} (h : Ints k w A zs) {p : Addr} (hp : ∀ a, A = some a → a.block ≠ p.block) (v : Value) : Ints k (w.setCell p v) A zs := fun j hj => by
  obtain ⟨b, off, e, hl, hc⟩ := h j hj
  refine ⟨b, off, e, by simpa using hl, ?_⟩
  have hne : b ≠ p.block := hp _ e
  exact (World.cell?_of_block (w := w) (a := ⟨b, off + j, none⟩) (Below.heap_setCell w p v b hne)).trans hc
theorem ShpRow.set_ (h : ShpRow w g t sh) {i : Nat} {S : Option Addr} {s : List Int} {c : Nat} (hI : Ints .i64 w S s) (hc : s.length ≤ c) (hm : c ≤ 9223372036854775807) (hS : ∀ a, S = some a → a.block ≠ g) :
    ShpRow (w.setCell ⟨g, i, none⟩ (.slice S s.length c)) g t (sh.set i s) := by
  obtain ⟨vs, hl, hk, hv⟩ := h
  refine ⟨vs.set i (.slice S s.length c), by simp [hl], ?_, fun j hj => ?_⟩
  · have := hk.set_ i (.slice S s.length c)
    simpa using this
  · rw [List.length_set] at hj
    by_cases e : i = j
    · subst e
      refine ⟨S, c, by simp [hl, hj], by simpa using hI.set_far (p := ⟨g, i, none⟩) hS _, by simpa using hc, hm, hS⟩
    · obtain ⟨S', c', e', hI', h1, h2, h3⟩ := hv j hj
      refine ⟨S', c', by simp [List.getElem?_set_ne e, e', List.getElem_set_ne e], ?_, by simpa [List.getElem_set_ne e] using h1, h2, h3⟩
      rw [List.getElem_set_ne e]
      exact hI'.set_far (p := ⟨g, i, none⟩) h3 _
theorem ShpRow.new {n : Nat} (h : Blk w g t (List.replicate n (Value.slice none 0 0)).toArray) : ShpRow w g t (List.replicate n []) :=
  ⟨List.replicate n (.slice none 0 0), by simp, h, fun j hj => ⟨none, 0, by simp at hj; simp [hj], by simp at hj; simp [Ints.nil], by simp, by omega, fun a e => by cases e⟩⟩
end
end Go.Proofs.Ytjkhpbngpceenaa

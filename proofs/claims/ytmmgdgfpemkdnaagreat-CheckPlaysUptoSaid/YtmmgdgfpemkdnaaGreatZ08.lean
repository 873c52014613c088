/- Lemmas for the statements of this seat: contracts of functions and the plain laws. -/
import Derived.Deep.DeepCutAuto
import Derived.Maps.AppendAt
import Derived.StillTailTactics
import Derived.Test.YtmmgdgfpemkdnaaGreatRows
import Derived.Test.YtmmgdgfpemkdnaaGreatZ07
set_option linter.unusedVariables false
/- A net of bounded bulk, come in as an argument, opened. -/
namespace Go.Proofs.YtmmgdgfpemkdnaaGreat
open Go.ChangeShapes Go.WideShapes Go.Deep Go.RowKit

section
variable {H : Type} {enc : TypeId × Value → H} {P : Program} {W : World} {base : Nat} {spare : Nat → Bool} {held : Bool}
theorem bulk_one (d : DataW H) : 1 ≤ Rows.uptoBulk d := by
  cases d with
  | lit l => cases l <;> simp [Rows.uptoBulk]
  | nil => simp [Rows.uptoBulk]
  | ptr d => simp [Rows.uptoBulk]
  | slice elems spare => simp [Rows.uptoBulk]
  | agg parts => simp [Rows.uptoBulk]
  | iface t d => simp [Rows.uptoBulk]
  | map entries => simp [Rows.uptoBulk]
  | held h => simp [Rows.uptoBulk]
theorem bulk_part {d : DataW H} {l : List (DataW H)} (h : d ∈ l) : Rows.uptoBulk d ≤ Rows.uptoBulkAll l := by
  induction l with
  | nil => cases h
  | cons x r ih =>
    simp only [Rows.uptoBulkAll]
    cases List.mem_cons.1 h with
    | inl e => subst e; omega
    | inr e => have := ih e; omega
theorem bulk_len (l : List (DataW H)) : l.length ≤ Rows.uptoBulkAll l := by
  induction l with
  | nil => simp [Rows.uptoBulkAll]
  | cons x r ih => have := bulk_one x; simp only [Rows.uptoBulkAll, List.length_cons]; omega
/-- The elements of a slice, and their bulk. -/
theorem slice_bulk {t e : TypeId} {fuel : Nat} {v : Value} {x : DataW H × List MemPlace} (ht : P.underlying t = some (.slice e)) (h : DataW.trod enc P W base spare held fuel t [v] = some x) (hz : Rows.uptoBulk x.1 ≤ 1048576) :
    v = .slice none 0 0 ∨ ∃ a len cap, v = .slice (some a) len cap ∧ len ≤ cap ∧ cap ≤ maxLen ∧ len ≤ 1048576 ∧
      ∀ i, i < len → ∃ cs' m y, W.cells? base (a.add (i * P.cellsOf e)) (P.cellsOf e) = some cs' ∧ DataW.trod enc P W base spare held m e cs' = some y ∧ Rows.uptoBulk y.1 ≤ 1048576 := by
  rcases open_slice ht h with ⟨hcs, _⟩ | ⟨a, len, cap, m, n, D, Pl, hcs, _, hl, hm, hmm, hx, hi⟩
  · simp at hcs; exact .inl hcs
  · simp at hcs; subst hcs
    right
    have hlm : len ≤ m := by rw [hmm]; split <;> omega
    rw [hx] at hz
    simp only [Rows.uptoBulk] at hz
    refine ⟨a, len, cap, rfl, hl, hm, ?_, fun i hil => ?_⟩
    · have := bulk_len ((List.range len).map D)
      simp at this
      omega
    · obtain ⟨cs', h1, h2⟩ := hi i (by omega)
      refine ⟨cs', n, _, h1, h2, ?_⟩
      have := bulk_part (d := D i) (l := (List.range len).map D) (List.mem_map.2 ⟨i, by simpa using hil, rfl⟩)
      show Rows.uptoBulk (D i) ≤ _
      omega
end

theorem int_one' : Tryz.prog.cellsOf 3 = 1 := by kernel_rfl
theorem shp_one : Tryz.prog.cellsOf 23 = 1 := by kernel_rfl
theorem node_cells : Tryz.prog.cellsOf 67 = 10 := by kernel_rfl

/-- A slice of numbers, of whatever name, with its size. -/
theorem nums_open {H : Type} {enc : TypeId × Value → H} {W : World} {base : Nat} {spare : Nat → Bool} {held : Bool} {t : TypeId} {fuel : Nat} {v : Value} {x : DataW H × List MemPlace} (ht : Tryz.prog.underlying t = some (.slice 3))
    (h : DataW.trod enc Tryz.prog W base spare held fuel t [v] = some x) (hz : Rows.uptoBulk x.1 ≤ 1048576) :
    ∃ A c zs, v = .slice A zs.length c ∧ Ints .i64 W A zs ∧ zs.length ≤ c ∧ c ≤ 9223372036854775807 ∧ zs.length ≤ 1048576 ∧ ∀ z ∈ zs, -9223372036854775808 ≤ z ∧ z ≤ 9223372036854775807 := by
  obtain ⟨A, c, zs, rfl, hl, hc, hI, hw⟩ := ints_open ht Tryz.underlying3 int_one' h
  refine ⟨A, c, zs, rfl, hI, hc, ?_, ?_, fun z hz => wf_bd (hw z hz)⟩
  · rcases slice_bulk ht h hz with e | ⟨a, len, cap, e, _, hm, _⟩
    · injection e with _ _ e; omega
    · injection e with _ _ e; unfold maxLen at hm; omega
  · rcases slice_bulk ht h hz with e | ⟨a, len, cap, e, _, _, hb, _⟩
    · injection e with _ e _; rw [e]; exact Nat.zero_le _
    · have e2 : zs.length = len := by simp at e; exact e.2.1
      rw [e2]
      exact hb
theorem one_list {l : List Value} (h : l.length = 1) : ∃ v, l = [v] := by
  match l, h with
  | [v], _ => exact ⟨v, rfl⟩
theorem choose_list {α : Type} [Inhabited α] {n : Nat} {Q : Nat → α → Prop} (h : ∀ i, i < n → ∃ a, Q i a) : ∃ l : List α, l.length = n ∧ ∀ i (hi : i < l.length), Q i l[i] := by
  obtain ⟨f, hf⟩ := @choose_lt α _ _ _ h
  exact ⟨(List.range n).map f, by simp, fun i hi => by simp at hi; simpa using hf i hi⟩
theorem addr_lit {W : World} {a : Addr} {v : Value} (h : W.cell? a = some v) : ∃ b off, a = ⟨b, off, none⟩ := by
  obtain ⟨b, off, spot⟩ := a
  have hs : spot = none := by simpa using World.cell?_spot h
  subst hs
  exact ⟨b, off, rfl⟩
/-- A slice of shapes. -/
theorem shps_open {H : Type} {enc : TypeId × Value → H} {W : World} {base : Nat} {spare : Nat → Bool} {held : Bool} {fuel : Nat} {v : Value} {x : DataW H × List MemPlace}
    (h : DataW.trod enc Tryz.prog W base spare held fuel 65 [v] = some x) (hz : Rows.uptoBulk x.1 ≤ 1048576) :
    ∃ A c ss, v = .slice A ss.length c ∧ Shps W A ss ∧ ss.length ≤ c ∧ c ≤ 9223372036854775807 ∧ ss.length ≤ 1048576 ∧ ∀ s ∈ ss, s.length ≤ 1048576 ∧ ∀ z ∈ s, -9223372036854775808 ≤ z ∧ z ≤ 9223372036854775807 := by
  rcases slice_bulk Tryz.underlying65 h hz with rfl | ⟨a, len, cap, rfl, hl, hm, hb, hi⟩
  · exact ⟨none, 0, [], rfl, Shps.nil, by simp, by omega, by simp, by simp⟩
  · rw [shp_one] at hi
    have key : ∀ i, i < len → ∃ q : (List Int) × (Option Addr) × Nat, W.cell? (a.add i) = some (.slice q.2.1 q.1.length q.2.2) ∧ Ints .i64 W q.2.1 q.1 ∧ q.1.length ≤ q.2.2 ∧ q.2.2 ≤ 9223372036854775807 ∧ q.1.length ≤ 1048576 ∧ ∀ z ∈ q.1, -9223372036854775808 ≤ z ∧ z ≤ 9223372036854775807 := fun i hil => by
      obtain ⟨cs', m, y, hc, ht, hw⟩ := hi i hil
      obtain ⟨_, hlen, hat⟩ := World.cells?_some hc
      obtain ⟨v, rfl⟩ := one_list hlen
      obtain ⟨A, c, zs, rfl, h1, h2⟩ := nums_open Tryz.underlying23 ht hw
      refine ⟨(zs, A, c), ?_, h1, h2⟩
      have := hat 0 (by omega)
      rw [Nat.mul_one] at this
      simpa [Addr.add] using this
    obtain ⟨L, hL, hq⟩ := choose_list key
    refine ⟨some a, cap, L.map (·.1), by simp [hL], fun j hj => ?_, by simpa [hL] using hl, by unfold maxLen at hm; omega, by simp [hL]; exact hb, fun s hs => ?_⟩
    · rw [List.length_map] at hj
      obtain ⟨h1, h2, h3, h4, _⟩ := hq j hj
      obtain ⟨h0, _⟩ := hq 0 (by omega)
      obtain ⟨b, off, rfl⟩ := addr_lit (show W.cell? a = _ by simpa [Addr.add] using h0)
      rw [add_plain'] at h1
      rw [List.getElem_map]
      exact ⟨b, off, _, _, rfl, World.block_lt_of_cell? _ _ h1, h1, h2, h3, h4⟩
    · obtain ⟨q, hqm, rfl⟩ := List.mem_map.1 hs
      obtain ⟨i, hi, rfl⟩ := List.getElem_of_mem hqm
      exact (hq i hi).2.2.2.2

def OpD.inR (o : OpD) : Prop := o.wide ∧ ∀ z ∈ o.s, -9223372036854775808 ≤ z ∧ z ≤ 9223372036854775807
/-- All numbers are an int's, and all rows could be in memory. -/
def NodeD.fits (v : NodeD) : Prop := v.op.wide ∧ v.op.s.length ≤ 1048576 ∧ v.ins.length ≤ 1048576 ∧ v.p.length ≤ 1048576 ∧ (∀ s ∈ v.p, s.length ≤ 1048576) ∧
  (∀ z ∈ v.op.s, -9223372036854775808 ≤ z ∧ z ≤ 9223372036854775807) ∧ (∀ z ∈ v.ins, -9223372036854775808 ≤ z ∧ z ≤ 9223372036854775807) ∧ ∀ s ∈ v.p, ∀ z ∈ s, -9223372036854775808 ≤ z ∧ z ≤ 9223372036854775807
def NetD.fits (n : NetD) : Prop := n.inn.length ≤ 1048576 ∧ n.nodes.length ≤ 1048576 ∧ (∀ z ∈ n.inn, -9223372036854775808 ≤ z ∧ z ≤ 9223372036854775807) ∧ ∀ v ∈ n.nodes, v.fits

theorem node_under : Tryz.prog.underlying 67 = some (.struct (Tryz.prog.fieldsOf 67)) := by kernel_rfl
theorem node_three : (Tryz.prog.fieldsOf 67).size = 3 := by kernel_rfl
theorem node_types : (Tryz.prog.fieldsOf 67).toList.map (·.type) = [64, 22, 65] := by kernel_rfl
theorem node_f0 : ((Tryz.prog.fieldsOf 67)[0]?).map (fun f => (f.type, f.offset, Tryz.prog.cellsOf f.type)) = some (64, 0, 8) := by kernel_rfl
theorem node_f1 : ((Tryz.prog.fieldsOf 67)[1]?).map (fun f => (f.type, f.offset, Tryz.prog.cellsOf f.type)) = some (22, 8, 1) := by kernel_rfl
theorem node_f2 : ((Tryz.prog.fieldsOf 67)[2]?).map (fun f => (f.type, f.offset, Tryz.prog.cellsOf f.type)) = some (65, 9, 1) := by kernel_rfl
theorem op_under : Tryz.prog.underlying 64 = some (.struct (Tryz.prog.fieldsOf 64)) := by kernel_rfl
theorem op_eight : (Tryz.prog.fieldsOf 64).size = 8 := by kernel_rfl
theorem op_types : (Tryz.prog.fieldsOf 64).toList.map (·.type) = [3, 62, 3, 3, 3, 3, 3, 23] := by kernel_rfl
theorem op_f0 : ((Tryz.prog.fieldsOf 64)[0]?).map (fun f => (f.type, f.offset, Tryz.prog.cellsOf f.type)) = some (3, 0, 1) := by kernel_rfl
theorem op_f1 : ((Tryz.prog.fieldsOf 64)[1]?).map (fun f => (f.type, f.offset, Tryz.prog.cellsOf f.type)) = some (62, 1, 1) := by kernel_rfl
theorem op_f2 : ((Tryz.prog.fieldsOf 64)[2]?).map (fun f => (f.type, f.offset, Tryz.prog.cellsOf f.type)) = some (3, 2, 1) := by kernel_rfl
theorem op_f3 : ((Tryz.prog.fieldsOf 64)[3]?).map (fun f => (f.type, f.offset, Tryz.prog.cellsOf f.type)) = some (3, 3, 1) := by kernel_rfl
theorem op_f4 : ((Tryz.prog.fieldsOf 64)[4]?).map (fun f => (f.type, f.offset, Tryz.prog.cellsOf f.type)) = some (3, 4, 1) := by kernel_rfl
theorem op_f5 : ((Tryz.prog.fieldsOf 64)[5]?).map (fun f => (f.type, f.offset, Tryz.prog.cellsOf f.type)) = some (3, 5, 1) := by kernel_rfl
theorem op_f6 : ((Tryz.prog.fieldsOf 64)[6]?).map (fun f => (f.type, f.offset, Tryz.prog.cellsOf f.type)) = some (3, 6, 1) := by kernel_rfl
theorem op_f7 : ((Tryz.prog.fieldsOf 64)[7]?).map (fun f => (f.type, f.offset, Tryz.prog.cellsOf f.type)) = some (23, 7, 1) := by kernel_rfl
theorem list3 {α : Type} {l : List α} (h : l.length = 3) : ∃ a b c, l = [a, b, c] := by
  match l, h with
  | [a, b, c], _ => exact ⟨a, b, c, rfl⟩
theorem list8 {α : Type} {l : List α} (h : l.length = 8) : ∃ a b c d e f g i, l = [a, b, c, d, e, f, g, i] := by
  match l, h with
  | [a, b, c, d, e, f, g, i], _ => exact ⟨a, b, c, d, e, f, g, i, rfl⟩
theorem list10 {α : Type} {l : List α} (h : l.length = 10) : ∃ a b c d e f g i j k, l = [a, b, c, d, e, f, g, i, j, k] := by
  match l, h with
  | [a, b, c, d, e, f, g, i, j, k], _ => exact ⟨a, b, c, d, e, f, g, i, j, k, rfl⟩
set_option maxRecDepth 100000 in
/-- An op's cells. -/
theorem op_open {H : Type} {enc : TypeId × Value → H} {W : World} {base : Nat} {spare : Nat → Bool} {held : Bool} {fuel : Nat} {v0 v1 v2 v3 v4 v5 v6 v7 : Value} {x : DataW H × List MemPlace}
    (h : DataW.trod enc Tryz.prog W base spare held fuel 64 [v0, v1, v2, v3, v4, v5, v6, v7] = some x) (hz : Rows.uptoBulk x.1 ≤ 1048576) :
    ∃ (o : OpD) (S : Option Addr) (c : Nat), v0 = .int .i64 o.kind ∧ v1 = .int .i64 o.k ∧ v2 = .int .i64 o.width ∧ v3 = .int .i64 o.step ∧ v4 = .int .i64 o.side ∧ v5 = .int .i64 o.frm ∧ v6 = .int .i64 o.to ∧ v7 = .slice S o.s.length c ∧
      Ints .i64 W S o.s ∧ o.s.length ≤ c ∧ c ≤ 9223372036854775807 ∧ o.s.length ≤ 1048576 ∧ o.wide ∧ ∀ z ∈ o.s, -9223372036854775808 ≤ z ∧ z ≤ 9223372036854775807 := by
  obtain ⟨ys, n, _, hx, _, hlen, hg⟩ := DataW.trod_struct op_under h
  rw [op_eight] at hlen
  obtain ⟨y0, y1, y2, y3, y4, y5, y6, y7, rfl⟩ := list8 hlen
  rw [hx] at hz
  obtain ⟨f0, e0, t0⟩ := Option.map_eq_some_iff.1 op_f0
  simp only [Prod.mk.injEq] at t0
  have h0 := hg 0 f0 e0
  rw [t0.2.2, t0.2.1, t0.1] at h0
  simp at h0
  obtain ⟨f1, e1, t1⟩ := Option.map_eq_some_iff.1 op_f1
  simp only [Prod.mk.injEq] at t1
  have h1 := hg 1 f1 e1
  rw [t1.2.2, t1.2.1, t1.1] at h1
  simp at h1
  obtain ⟨f2, e2, t2⟩ := Option.map_eq_some_iff.1 op_f2
  simp only [Prod.mk.injEq] at t2
  have h2 := hg 2 f2 e2
  rw [t2.2.2, t2.2.1, t2.1] at h2
  simp at h2
  obtain ⟨f3, e3, t3⟩ := Option.map_eq_some_iff.1 op_f3
  simp only [Prod.mk.injEq] at t3
  have h3 := hg 3 f3 e3
  rw [t3.2.2, t3.2.1, t3.1] at h3
  simp at h3
  obtain ⟨f4, e4, t4⟩ := Option.map_eq_some_iff.1 op_f4
  simp only [Prod.mk.injEq] at t4
  have h4 := hg 4 f4 e4
  rw [t4.2.2, t4.2.1, t4.1] at h4
  simp at h4
  obtain ⟨f5, e5, t5⟩ := Option.map_eq_some_iff.1 op_f5
  simp only [Prod.mk.injEq] at t5
  have h5 := hg 5 f5 e5
  rw [t5.2.2, t5.2.1, t5.1] at h5
  simp at h5
  obtain ⟨f6, e6, t6⟩ := Option.map_eq_some_iff.1 op_f6
  simp only [Prod.mk.injEq] at t6
  have h6 := hg 6 f6 e6
  rw [t6.2.2, t6.2.1, t6.1] at h6
  simp at h6
  obtain ⟨f7, e7, t7⟩ := Option.map_eq_some_iff.1 op_f7
  simp only [Prod.mk.injEq] at t7
  have h7 := hg 7 f7 e7
  rw [t7.2.2, t7.2.1, t7.1] at h7
  simp at h7
  have hz7 : Rows.uptoBulk y7.1 ≤ 1048576 := by simp [Rows.uptoBulk, Rows.uptoBulkAll] at hz; omega
  obtain ⟨x0, q0, _, w0⟩ := DataW.trod_int Tryz.underlying3 h0
  simp at q0
  subst q0
  obtain ⟨x1, q1, _, w1⟩ := DataW.trod_int Tryz.underlying62 h1
  simp at q1
  subst q1
  obtain ⟨x2, q2, _, w2⟩ := DataW.trod_int Tryz.underlying3 h2
  simp at q2
  subst q2
  obtain ⟨x3, q3, _, w3⟩ := DataW.trod_int Tryz.underlying3 h3
  simp at q3
  subst q3
  obtain ⟨x4, q4, _, w4⟩ := DataW.trod_int Tryz.underlying3 h4
  simp at q4
  subst q4
  obtain ⟨x5, q5, _, w5⟩ := DataW.trod_int Tryz.underlying3 h5
  simp at q5
  subst q5
  obtain ⟨x6, q6, _, w6⟩ := DataW.trod_int Tryz.underlying3 h6
  simp at q6
  subst q6
  obtain ⟨S, c, zs, rfl, hI, h1, h2, h3, h4⟩ := nums_open Tryz.underlying23 h7 hz7
  refine ⟨⟨x0, x1, x2, x3, x4, x5, x6, zs⟩, S, c, rfl, rfl, rfl, rfl, rfl, rfl, rfl, rfl, hI, h1, h2, h3, fun z hz => ?_, h4⟩
  simp at hz
  rcases hz with rfl | rfl | rfl | rfl | rfl | rfl | rfl
  · exact wf_bd w0
  · exact wf_bd w1
  · exact wf_bd w2
  · exact wf_bd w3
  · exact wf_bd w4
  · exact wf_bd w5
  · exact wf_bd w6

/-- What a node's cells read as. -/
structure NodeQ where
  v : NodeD
  S : Option Addr
  c : Nat
  I : Option Addr
  d : Nat
  Q : Option Addr
  q : Nat
instance : Inhabited NodeQ := ⟨⟨Nt.none_, none, 0, none, 0, none, 0⟩⟩
def NodeQ.cells (x : NodeQ) : List Value := [.int .i64 x.v.op.kind, .int .i64 x.v.op.k, .int .i64 x.v.op.width, .int .i64 x.v.op.step, .int .i64 x.v.op.side, .int .i64 x.v.op.frm, .int .i64 x.v.op.to, .slice x.S x.v.op.s.length x.c, .slice x.I x.v.ins.length x.d, .slice x.Q x.v.p.length x.q]
def NodeQ.R (x : NodeQ) (W : World) : Prop := (Ints .i64 W x.S x.v.op.s ∧ x.v.op.s.length ≤ x.c ∧ x.c ≤ 9223372036854775807) ∧ (Ints .i64 W x.I x.v.ins ∧ x.v.ins.length ≤ x.d ∧ x.d ≤ 9223372036854775807) ∧ (Shps W x.Q x.v.p ∧ x.v.p.length ≤ x.q ∧ x.q ≤ 9223372036854775807)
set_option maxRecDepth 100000 in
theorem node_open {H : Type} {enc : TypeId × Value → H} {W : World} {base : Nat} {spare : Nat → Bool} {held : Bool} {fuel : Nat} {cs : List Value} {x : DataW H × List MemPlace} (hcs : cs.length = 10)
    (h : DataW.trod enc Tryz.prog W base spare held fuel 67 cs = some x) (hz : Rows.uptoBulk x.1 ≤ 1048576) :
    ∃ q : NodeQ, cs = q.cells ∧ q.R W ∧ q.v.fits := by
  obtain ⟨v0, v1, v2, v3, v4, v5, v6, v7, v8, v9, rfl⟩ := list10 hcs
  obtain ⟨ys, n, _, hx, _, hlen, hg⟩ := DataW.trod_struct node_under h
  rw [node_three] at hlen
  obtain ⟨y0, y1, y2, rfl⟩ := list3 hlen
  rw [hx] at hz
  obtain ⟨f0, e0, t0⟩ := Option.map_eq_some_iff.1 node_f0
  simp only [Prod.mk.injEq] at t0
  have h0 := hg 0 f0 e0
  rw [t0.2.2, t0.2.1, t0.1] at h0
  simp at h0
  obtain ⟨f1, e1, t1⟩ := Option.map_eq_some_iff.1 node_f1
  simp only [Prod.mk.injEq] at t1
  have h1 := hg 1 f1 e1
  rw [t1.2.2, t1.2.1, t1.1] at h1
  simp at h1
  obtain ⟨f2, e2, t2⟩ := Option.map_eq_some_iff.1 node_f2
  simp only [Prod.mk.injEq] at t2
  have h2 := hg 2 f2 e2
  rw [t2.2.2, t2.2.1, t2.1] at h2
  simp at h2
  have hz0 : Rows.uptoBulk y0.1 ≤ 1048576 := by simp [Rows.uptoBulk, Rows.uptoBulkAll] at hz; omega
  have hz1 : Rows.uptoBulk y1.1 ≤ 1048576 := by simp [Rows.uptoBulk, Rows.uptoBulkAll] at hz; omega
  have hz2 : Rows.uptoBulk y2.1 ≤ 1048576 := by simp [Rows.uptoBulk, Rows.uptoBulkAll] at hz; omega
  obtain ⟨o, S, c, rfl, rfl, rfl, rfl, rfl, rfl, rfl, rfl, a1, a2, a3, a4, a5, a6⟩ := op_open h0 hz0
  obtain ⟨I, d, is, rfl, b1, b2, b3, b4, b5⟩ := nums_open Tryz.underlying22 h1 hz1
  obtain ⟨Q, q, ps, rfl, c1, c2, c3, c4, c5⟩ := shps_open h2 hz2
  exact ⟨⟨⟨o, is, ps⟩, S, c, I, d, Q, q⟩, rfl, ⟨⟨a1, a2, a3⟩, ⟨b1, b2, b3⟩, c1, c2, c3⟩, a5, a4, b4, c4, fun s hs => (c5 s hs).1, a6, b5, fun s hs => (c5 s hs).2⟩
/-- A slice of nodes. -/
theorem nodes_open {H : Type} {enc : TypeId × Value → H} {W : World} {base : Nat} {spare : Nat → Bool} {held : Bool} {fuel : Nat} {v : Value} {x : DataW H × List MemPlace}
    (h : DataW.trod enc Tryz.prog W base spare held fuel 24 [v] = some x) (hz : Rows.uptoBulk x.1 ≤ 1048576) :
    ∃ A c ns, v = .slice A ns.length c ∧ Nodes W A ns ∧ ns.length ≤ c ∧ c ≤ 9223372036854775807 ∧ ns.length ≤ 1048576 ∧ ∀ v ∈ ns, v.fits := by
  rcases slice_bulk Tryz.underlying24 h hz with rfl | ⟨a, len, cap, rfl, hl, hm, hb, hi⟩
  · exact ⟨none, 0, [], rfl, fun j hj => absurd hj (by simp), by simp, by omega, by simp, by simp⟩
  · rw [node_cells] at hi
    have key : ∀ i, i < len → ∃ q : NodeQ, (∀ j, j < 10 → W.cell? ((a.add (i * 10)).add j) = q.cells[j]?) ∧ q.R W ∧ q.v.fits := fun i hil => by
      obtain ⟨cs', m, y, hc, ht, hw⟩ := hi i hil
      obtain ⟨_, hlen, hat⟩ := World.cells?_some hc
      obtain ⟨q, rfl, h1, h2⟩ := node_open hlen ht hw
      exact ⟨q, hat, h1, h2⟩
    obtain ⟨L, hL, hq⟩ := choose_list key
    refine ⟨some a, cap, L.map (·.v), by simp [hL], fun j hj => ?_, by simpa [hL] using hl, by unfold maxLen at hm; omega, by simp [hL]; exact hb, fun s hs => ?_⟩
    · rw [List.length_map] at hj
      obtain ⟨h1, ⟨r1, r2, r3⟩, _⟩ := hq j hj
      obtain ⟨h0, _⟩ := hq 0 (by omega)
      have h00 := h0 0 (by omega)
      obtain ⟨b, off, rfl⟩ := addr_lit (v := .int .i64 L[0].v.op.kind) (show W.cell? a = _ by simpa [Addr.add, NodeQ.cells] using h00)
      simp only [add_plain'] at h1
      rw [List.getElem_map]
      refine ⟨b, off, _, _, _, _, _, _, rfl, World.block_lt_of_cell? _ _ (h1 0 (by omega)), h1 0 (by omega), h1 1 (by omega), h1 2 (by omega), h1 3 (by omega), h1 4 (by omega), h1 5 (by omega), h1 6 (by omega), h1 7 (by omega), h1 8 (by omega), h1 9 (by omega), r1, r2, r3⟩
    · obtain ⟨q, hqm, rfl⟩ := List.mem_map.1 hs
      obtain ⟨i, hi, rfl⟩ := List.getElem_of_mem hqm
      exact (hq i hi).2.2
theorem net_cells : Tryz.prog.cellsOf 26 = 2 := by kernel_rfl
theorem net_under : Tryz.prog.underlying 26 = some (.struct (Tryz.prog.fieldsOf 26)) := by kernel_rfl
theorem net_two : (Tryz.prog.fieldsOf 26).size = 2 := by kernel_rfl
theorem net_types : (Tryz.prog.fieldsOf 26).toList.map (·.type) = [23, 24] := by kernel_rfl
theorem net_f0 : ((Tryz.prog.fieldsOf 26)[0]?).map (fun f => (f.type, f.offset, Tryz.prog.cellsOf f.type)) = some (23, 0, 1) := by kernel_rfl
theorem net_f1 : ((Tryz.prog.fieldsOf 26)[1]?).map (fun f => (f.type, f.offset, Tryz.prog.cellsOf f.type)) = some (24, 1, 1) := by kernel_rfl
theorem list2 {α : Type} {l : List α} (h : l.length = 2) : ∃ a b, l = [a, b] := by
  match l, h with
  | [a, b], _ => exact ⟨a, b, rfl⟩
set_option maxRecDepth 100000 in
/-- A net. -/
theorem net_open {H : Type} {enc : TypeId × Value → H} {W : World} {r : Reach} {b0 base : Nat} {spare : Nat → Bool} {held : Bool} {v : Value} {d : DataW H} {p : List MemPlace}
    (hv : Value.okWide Tryz.prog W r b0 26 v) (h : DataW.Trod enc Tryz.prog W base spare held 26 v d p) (hz : Rows.uptoBulk d ≤ 1048576) :
    ∃ A N c1 c2 n, v = .agg #[.slice A n.inn.length c1, .slice N n.nodes.length c2] ∧ n.inn.length ≤ c1 ∧ c1 ≤ 9223372036854775807 ∧ n.nodes.length ≤ c2 ∧ c2 ≤ 9223372036854775807 ∧ NetR W A N n ∧ n.fits := by
  obtain ⟨cs, rfl, hsz⟩ := okWide_struct net_under hv
  obtain ⟨l⟩ := cs
  match l, hsz.trans net_cells with
  | [v0, v1], _ =>
    obtain ⟨fuel, hf⟩ := h
    obtain ⟨ys, n, _, hx, _, hlen, hg⟩ := DataW.trod_struct net_under hf
    rw [net_two] at hlen
    obtain ⟨y0, y1, rfl⟩ := list2 hlen
    simp only [Prod.mk.injEq, List.map_cons, List.map_nil] at hx
    obtain ⟨rfl, _⟩ := hx
    obtain ⟨f0, e0, t0⟩ := Option.map_eq_some_iff.1 net_f0
    simp only [Prod.mk.injEq] at t0
    have h0 := hg 0 f0 e0
    rw [t0.2.2, t0.2.1, t0.1] at h0
    simp [Value.cells] at h0
    obtain ⟨f1, e1, t1⟩ := Option.map_eq_some_iff.1 net_f1
    simp only [Prod.mk.injEq] at t1
    have h1 := hg 1 f1 e1
    rw [t1.2.2, t1.2.1, t1.1] at h1
    simp [Value.cells] at h1
    have hz0 : Rows.uptoBulk y0.1 ≤ 1048576 := by simp [Rows.uptoBulk, Rows.uptoBulkAll] at hz; omega
    have hz1 : Rows.uptoBulk y1.1 ≤ 1048576 := by simp [Rows.uptoBulk, Rows.uptoBulkAll] at hz; omega
    obtain ⟨A, c1, zs, rfl, a1, a2, a3, a4, a5⟩ := nums_open Tryz.underlying23 h0 hz0
    obtain ⟨N, c2, ns, rfl, b1, b2, b3, b4, b5⟩ := nodes_open h1 hz1
    exact ⟨A, N, c1, c2, ⟨zs, ns⟩, rfl, a2, a3, b2, b3, ⟨a1, b1⟩, a4, b4, a5, b5⟩
theorem NetD.fits.ok {n : NetD} (h : n.fits) : n.ok :=
  ⟨h.1, h.2.1, fun v hv => by
    obtain ⟨h1, h2, h3, h4, h5, h6, h7, h8⟩ := h.2.2.2 v hv
    exact ⟨h1, h2, h3, h4, h5, h7⟩⟩
end Go.Proofs.YtmmgdgfpemkdnaaGreat
/- A code that came in, opened. -/
namespace Go.Proofs.YtmmgdgfpemkdnaaGreat
open Go.ChangeShapes Go.WideShapes Go.Deep Go.RowKit
theorem ins_one : oneCellFields Tryz.prog (Tryz.prog.fieldsOf 46) = true := by kernel_rfl
theorem ins_cells : Tryz.prog.cellsOf 46 = (Tryz.prog.fieldsOf 46).size := by kernel_rfl
theorem ins_under : Tryz.prog.underlying 46 = some (.struct (Tryz.prog.fieldsOf 46)) := by kernel_rfl
theorem ins_two : (Tryz.prog.fieldsOf 46).size = 2 := by kernel_rfl
theorem ins_f0 : ((Tryz.prog.fieldsOf 46)[0]?).map (·.type) = some 3 := by kernel_rfl
theorem ins_f1 : ((Tryz.prog.fieldsOf 46)[1]?).map (·.type) = some 3 := by kernel_rfl

theorem code_came {H : Type} {enc : TypeId × Value → H} {W : World} {base : Nat} {spare : Nat → Bool} {held : Bool} {a : Option Addr} {len cap : Nat} {d : DataW H} {p : List MemPlace}
    (h : DataW.Trod enc Tryz.prog W base spare held 28 (.slice a len cap) d p) :
    ∃ ps : List (Int × Int), ps.length = len ∧ ps.length ≤ 9223372036854775807 ∧ Pairs W a ps ∧ ∀ q ∈ ps, (Lit.int .i64 q.1).wf = true ∧ (Lit.int .i64 q.2).wf = true := by
  obtain ⟨fuel, hf⟩ := h
  rcases open_slice_fields Tryz.underlying28 ins_under ins_one ins_cells hf with ⟨hcs, _⟩ | ⟨x, l, c, m, D, Pl, hcs, _, hl, hm, hmm, _, hi⟩
  · simp [Value.cells] at hcs
    obtain ⟨rfl, rfl, rfl⟩ := hcs
    exact ⟨[], rfl, by simp, Pairs.nil, by simp⟩
  · simp [Value.cells] at hcs
    obtain ⟨rfl, rfl, rfl⟩ := hcs
    rw [ins_two] at hi
    have hlm : len ≤ m := by rw [hmm]; split <;> omega
    obtain ⟨f0, e0, t0⟩ := Option.map_eq_some_iff.1 ins_f0
    obtain ⟨f1, e1, t1⟩ := Option.map_eq_some_iff.1 ins_f1
    have key : ∀ i, i < len → ∃ q : Int × Int, W.cell? (x.add (i * 2)) = some (.int .i64 q.1) ∧ W.cell? (x.add (i * 2 + 1)) = some (.int .i64 q.2) ∧ (Lit.int .i64 q.1).wf = true ∧ (Lit.int .i64 q.2).wf = true := by
      intro i hil
      obtain ⟨ys, n, _, _, _, hf⟩ := hi i (by omega)
      obtain ⟨v0, y0, c0, _, r0⟩ := hf 0 f0 e0
      obtain ⟨v1, y1, c1, _, r1⟩ := hf 1 f1 e1
      rw [t0] at r0
      rw [t1] at r1
      obtain ⟨x0, q0, _, w0⟩ := DataW.trod_int Tryz.underlying3 r0
      obtain ⟨x1, q1, _, w1⟩ := DataW.trod_int Tryz.underlying3 r1
      simp at q0 q1
      subst q0 q1
      exact ⟨(x0, x1), by simpa using c0, c1, w0, w1⟩
    obtain ⟨f, hf⟩ := choose_lt (α := Int × Int) key
    have hget : ∀ k (hk : k < ((List.range len).map f).length), ((List.range len).map f)[k] = f k := by intro k hk; simp
    refine ⟨(List.range len).map f, by simp, by simp; unfold maxLen at hm; omega, ?_, ?_⟩
    · intro k hk
      have hk' : k < len := by simpa using hk
      obtain ⟨b, off, rfl⟩ := plain_row (w := W) (a := x) (v := .int .i64 (f 0).1) (by simpa using (hf 0 (by omega)).1)
      have ⟨c0, c1, _, _⟩ := hf k hk'
      rw [add_plain'] at c0 c1
      rw [hget k hk]
      exact ⟨b, off, rfl, World.block_lt_of_cell? _ _ c0, c0, by rw [Nat.add_assoc]; exact c1⟩
    · intro q hq
      simp only [List.mem_map, List.mem_range] at hq
      obtain ⟨i, hil, rfl⟩ := hq
      exact (hf i hil).2.2
end Go.Proofs.YtmmgdgfpemkdnaaGreat
/- A case of layer 18, come in as an argument, opened. -/
namespace Go.Proofs.YtmmgdgfpemkdnaaGreat
open Go.ChangeShapes Go.WideShapes Go.Deep Go.RowKit
set_option maxRecDepth 100000 in
theorem net_part {H : Type} {enc : TypeId × Value → H} {W : World} {base : Nat} {spare : Nat → Bool} {held : Bool} {fuel : Nat} {v0 v1 : Value} {x : DataW H × List MemPlace}
    (hf : DataW.trod enc Tryz.prog W base spare held fuel 26 [v0, v1] = some x) (hz : Rows.uptoBulk x.1 ≤ 1048576) :
    ∃ A N c1 c2 n, v0 = .slice A n.inn.length c1 ∧ v1 = .slice N n.nodes.length c2 ∧ n.inn.length ≤ c1 ∧ c1 ≤ 9223372036854775807 ∧ n.nodes.length ≤ c2 ∧ c2 ≤ 9223372036854775807 ∧ NetR W A N n ∧ n.fits := by
  obtain ⟨ys, n, _, hx, _, hlen, hg⟩ := DataW.trod_struct net_under hf
  rw [net_two] at hlen
  obtain ⟨y0, y1, rfl⟩ := list2 hlen
  rw [hx] at hz
  obtain ⟨f0, e0, t0⟩ := Option.map_eq_some_iff.1 net_f0
  simp only [Prod.mk.injEq] at t0
  have h0 := hg 0 f0 e0
  rw [t0.2.2, t0.2.1, t0.1] at h0
  simp at h0
  obtain ⟨f1, e1, t1⟩ := Option.map_eq_some_iff.1 net_f1
  simp only [Prod.mk.injEq] at t1
  have h1 := hg 1 f1 e1
  rw [t1.2.2, t1.2.1, t1.1] at h1
  simp at h1
  have hz0 : Rows.uptoBulk y0.1 ≤ 1048576 := by simp [Rows.uptoBulk, Rows.uptoBulkAll] at hz; omega
  have hz1 : Rows.uptoBulk y1.1 ≤ 1048576 := by simp [Rows.uptoBulk, Rows.uptoBulkAll] at hz; omega
  obtain ⟨A, c1, zs, rfl, a1, a2, a3, a4, a5⟩ := nums_open Tryz.underlying23 h0 hz0
  obtain ⟨N, c2, ns, rfl, b1, b2, b3, b4, b5⟩ := nodes_open h1 hz1
  exact ⟨A, N, c1, c2, ⟨zs, ns⟩, rfl, rfl, a2, a3, b2, b3, ⟨a1, b1⟩, a4, b4, a5, b5⟩
theorem code_part {H : Type} {enc : TypeId × Value → H} {W : World} {base : Nat} {spare : Nat → Bool} {held : Bool} {fuel : Nat} {v : Value} {x : DataW H × List MemPlace}
    (hf : DataW.trod enc Tryz.prog W base spare held fuel 28 [v] = some x) (hz : Rows.uptoBulk x.1 ≤ 1048576) :
    ∃ (Q : Option Addr) (q : Nat) (ps : List (Int × Int)), v = .slice Q ps.length q ∧ ps.length ≤ q ∧ q ≤ 9223372036854775807 ∧ ps.length ≤ 1048576 ∧ Pairs W Q ps ∧ ∀ z ∈ ps, (-9223372036854775808 ≤ z.1 ∧ z.1 ≤ 9223372036854775807) ∧ -9223372036854775808 ≤ z.2 ∧ z.2 ≤ 9223372036854775807 := by
  have hs := slice_bulk Tryz.underlying28 hf hz
  obtain ⟨Q, l, q, rfl, hl, hm, hb⟩ : ∃ (Q : Option Addr) (l q : Nat), v = .slice Q l q ∧ l ≤ q ∧ q ≤ maxLen ∧ l ≤ 1048576 := by
    rcases hs with rfl | ⟨a, l, q, rfl, h1, h2, h3, _⟩
    · exact ⟨none, 0, 0, rfl, by omega, by omega, by omega⟩
    · exact ⟨_, _, _, rfl, h1, h2, h3⟩
  obtain ⟨ps, rfl, h1, h2, h3⟩ := code_came ⟨fuel, hf⟩
  exact ⟨Q, q, ps, rfl, hl, hm, hb, h2, fun z hz => ⟨wf_bd (h3 z hz).1, wf_bd (h3 z hz).2⟩⟩
theorem case_cells : Tryz.prog.cellsOf 30 = 4 := by kernel_rfl
theorem case_under : Tryz.prog.underlying 30 = some (.struct (Tryz.prog.fieldsOf 30)) := by kernel_rfl
theorem case_three : (Tryz.prog.fieldsOf 30).size = 3 := by kernel_rfl
theorem case_f0 : ((Tryz.prog.fieldsOf 30)[0]?).map (fun f => (f.type, f.offset, Tryz.prog.cellsOf f.type)) = some (26, 0, 2) := by kernel_rfl
theorem case_f1 : ((Tryz.prog.fieldsOf 30)[1]?).map (fun f => (f.type, f.offset, Tryz.prog.cellsOf f.type)) = some (28, 2, 1) := by kernel_rfl
theorem case_f2 : ((Tryz.prog.fieldsOf 30)[2]?).map (fun f => (f.type, f.offset, Tryz.prog.cellsOf f.type)) = some (3, 3, 1) := by kernel_rfl
set_option maxRecDepth 100000 in
/-- A case. -/
theorem case_open {H : Type} {enc : TypeId × Value → H} {W : World} {r : Reach} {b0 base : Nat} {spare : Nat → Bool} {held : Bool} {v : Value} {d : DataW H} {p : List MemPlace}
    (hv : Value.okWide Tryz.prog W r b0 30 v) (h : DataW.Trod enc Tryz.prog W base spare held 30 v d p) (hz : Rows.uptoBulk d ≤ 1048576) :
    ∃ (A N Q : Option Addr) (c1 c2 q : Nat) (n : NetD) (ps : List (Int × Int)) (cap : Int), v = .agg #[.slice A n.inn.length c1, .slice N n.nodes.length c2, .slice Q ps.length q, .int .i64 cap] ∧
      n.inn.length ≤ c1 ∧ c1 ≤ 9223372036854775807 ∧ n.nodes.length ≤ c2 ∧ c2 ≤ 9223372036854775807 ∧ NetR W A N n ∧ n.fits ∧
      ps.length ≤ q ∧ q ≤ 9223372036854775807 ∧ ps.length ≤ 1048576 ∧ Pairs W Q ps ∧ (∀ z ∈ ps, (-9223372036854775808 ≤ z.1 ∧ z.1 ≤ 9223372036854775807) ∧ -9223372036854775808 ≤ z.2 ∧ z.2 ≤ 9223372036854775807) ∧ -9223372036854775808 ≤ cap ∧ cap ≤ 9223372036854775807 := by
  obtain ⟨cs, rfl, hsz⟩ := okWide_struct case_under hv
  obtain ⟨l⟩ := cs
  match l, hsz.trans case_cells with
  | [v0, v1, v2, v3], _ =>
    obtain ⟨fuel, hf⟩ := h
    obtain ⟨ys, n, _, hx, _, hlen, hg⟩ := DataW.trod_struct case_under hf
    rw [case_three] at hlen
    obtain ⟨y0, y1, y2, rfl⟩ := list3 hlen
    simp only [Prod.mk.injEq, List.map_cons, List.map_nil] at hx
    obtain ⟨rfl, _⟩ := hx
    obtain ⟨f0, e0, t0⟩ := Option.map_eq_some_iff.1 case_f0
    simp only [Prod.mk.injEq] at t0
    have h0 := hg 0 f0 e0
    rw [t0.2.2, t0.2.1, t0.1] at h0
    simp [Value.cells] at h0
    obtain ⟨f1, e1, t1⟩ := Option.map_eq_some_iff.1 case_f1
    simp only [Prod.mk.injEq] at t1
    have h1 := hg 1 f1 e1
    rw [t1.2.2, t1.2.1, t1.1] at h1
    simp [Value.cells] at h1
    obtain ⟨f2, e2, t2⟩ := Option.map_eq_some_iff.1 case_f2
    simp only [Prod.mk.injEq] at t2
    have h2 := hg 2 f2 e2
    rw [t2.2.2, t2.2.1, t2.1] at h2
    simp [Value.cells] at h2
    have hz0 : Rows.uptoBulk y0.1 ≤ 1048576 := by simp [Rows.uptoBulk, Rows.uptoBulkAll] at hz; omega
    have hz1 : Rows.uptoBulk y1.1 ≤ 1048576 := by simp [Rows.uptoBulk, Rows.uptoBulkAll] at hz; omega
    obtain ⟨A, N, c1, c2, m, rfl, rfl, a1, a2, a3, a4, a5, a6⟩ := net_part h0 hz0
    obtain ⟨Q, q, ps, rfl, b1, b2, b3, b4, b5⟩ := code_part h1 hz1
    obtain ⟨x2, q2, _, w2⟩ := DataW.trod_int Tryz.underlying3 h2
    simp at q2
    subst q2
    exact ⟨A, N, Q, c1, c2, q, m, ps, x2, rfl, a1, a2, a3, a4, a5, a6, b1, b2, b3, b4, b5, wf_bd w2⟩
end Go.Proofs.YtmmgdgfpemkdnaaGreat
/- The document's answer for layer 18, in plain Lean: what is there as lists; it tells the same as the rows of bools. -/
namespace Go.Proofs.YtmmgdgfpemkdnaaGreat
structure RfS where
  there : List Int
  saved : List Int
  grads : List Int
  em : Int
  sd : Int
  done : Int
  peak : Int
namespace Rf
def with_ (l : List Int) (z : Int) : List Int := if l.contains z then l else l ++ [z]
def without (l : List Int) (z : Int) : List Int := l.filter fun y => decide (y ≠ z)
def tw (c : CkN) (z : Int) : Int := if z = 0 then 0 else Ck.wd c z
def sumF (f : Int → Int) (l : List Int) : Int := (l.map f).sum
def sum (c : CkN) (x : RfS) : Int := sumF (tw c) x.there + sumF (Ck.wd c) x.grads
def ready (c : CkN) (x : RfS) (id : Int) : Bool := (Ck.insF c id).all fun i => x.there.contains i
def gr (l ins : List Int) : List Int := ins.foldl (fun g i => if i ≠ 0 then with_ g i else g) l
def back (c : CkN) (x : RfS) (id : Int) : Bool := decide (0 ≤ (c.order.length : Int) - 1 - x.done) && decide (c.order.getD ((c.order.length : Int) - 1 - x.done).toNat 0 = id)
def legal (c : CkN) (x : RfS) (k id : Int) : Bool :=
  if k = 1 ∨ k = 2 then (x.saved.contains id == decide (k = 2)) && (!x.there.contains id && ready c x id)
  else if k = 3 then x.there.contains id
  else if k = 4 then x.there.contains c.loss && !decide (x.em = 1)
  else if k = 5 then !decide (x.sd = 1)
  else if k = 6 then x.grads.contains id && (ready c x id && back c x id)
  else true
def step (c : CkN) (x : RfS) (k id : Int) : RfS :=
  if k = 1 ∨ k = 2 then { x with there := with_ x.there id, saved := with_ x.saved id }
  else if k = 3 then { x with there := without x.there id }
  else if k = 4 then { x with em := 1 }
  else if k = 5 then { x with sd := 1, grads := with_ x.grads c.loss }
  else if k = 6 then { x with grads := gr x.grads (Ck.insF c id), done := x.done + 1 }
  else x
def fin (c : CkN) (y : RfS) (k id : Int) : RfS :=
  { y with peak := if y.peak < sum c y then sum c y else y.peak, grads := if k = 6 then without y.grads id else y.grads }
def do_ (c : CkN) (x : RfS) (k id : Int) : RfS × Int :=
  if (c.words.length : Int) ≤ id then (x, 10)
  else if legal c x k id = false then (x, 24)
  else if c.cap < sum c (step c x k id) then (x, 25)
  else (fin c (step c x k id) k id, 0)
def start : RfS := ⟨[0], [], [], 0, 0, 0, 0⟩
def go (c : CkN) : RfS → List (Int × Int) → RfS × Int
  | x, [] => (x, 0)
  | x, i :: r => if (do_ c x i.1 i.2).2 = 0 then go c (do_ c x i.1 i.2).1 r else do_ c x i.1 i.2
end Rf
/-- A row of bools and a list tell the same. -/
structure LRel (L : Nat) (b : List Bool) (l : List Int) : Prop where
  len : b.length = L
  rng : ∀ z ∈ l, 0 ≤ z ∧ z < L
  nod : l.Nodup
  iff : ∀ z : Int, 0 ≤ z → z < L → (Ck.at_ b z = true ↔ z ∈ l)
namespace LRel
variable {L : Nat} {b : List Bool} {l : List Int}
theorem at_ (h : LRel L b l) {z : Int} (h0 : 0 ≤ z) (h1 : z < L) : Ck.at_ b z = l.contains z := by
  have := h.iff z h0 h1
  rw [Bool.eq_iff_iff, this]
  simp
theorem set_at (h : b.length = L) {z y : Int} (h0 : 0 ≤ z) (h1 : z < L) (g0 : 0 ≤ y) (v : Bool) : Ck.at_ (Ck.setB b z v) y = if y = z then v else Ck.at_ b y := by
  unfold Ck.at_ Ck.setB
  rw [List.getD_eq_getElem?_getD, List.getD_eq_getElem?_getD, List.getElem?_set]
  by_cases e : y = z
  · subst e
    have : y.toNat < b.length := by omega
    simp [this]
  · have : ¬ z.toNat = y.toNat := by omega
    rw [if_neg this, if_neg e]
theorem put (h : LRel L b l) {z : Int} (h0 : 0 ≤ z) (h1 : z < L) (hn : z ∉ l) : LRel L (Ck.setB b z true) (l ++ [z]) := by
  refine ⟨by rw [Ck.setB, List.length_set]; exact h.len, fun y hy => ?_, ?_, fun y g0 g1 => ?_⟩
  · rcases List.mem_append.1 hy with hy | hy
    · exact h.rng y hy
    · simp at hy; subst hy; exact ⟨h0, h1⟩
  · rw [List.nodup_append]
    refine ⟨h.nod, by simp, fun a ha b hb e => ?_⟩
    simp at hb; subst hb; subst e; exact hn ha
  · rw [set_at h.len h0 h1 g0]
    by_cases e : y = z
    · subst e; simp
    · rw [if_neg e, h.iff y g0 g1]; simp [e]
theorem with_ (h : LRel L b l) {z : Int} (h0 : 0 ≤ z) (h1 : z < L) : LRel L (Ck.setB b z true) (Rf.with_ l z) := by
  unfold Rf.with_
  split
  · rename_i hc
    have hm : z ∈ l := by simpa using hc
    refine ⟨by rw [Ck.setB, List.length_set]; exact h.len, h.rng, h.nod, fun y g0 g1 => ?_⟩
    rw [set_at h.len h0 h1 g0]
    by_cases e : y = z
    · subst e; simpa using hm
    · rw [if_neg e]; exact h.iff y g0 g1
  · rename_i hc
    exact h.put h0 h1 (by simpa using hc)
theorem without (h : LRel L b l) {z : Int} (h0 : 0 ≤ z) (h1 : z < L) : LRel L (Ck.setB b z false) (Rf.without l z) := by
  refine ⟨by rw [Ck.setB, List.length_set]; exact h.len, fun y hy => h.rng y (List.mem_filter.1 hy).1, h.nod.filter _, fun y g0 g1 => ?_⟩
  rw [set_at h.len h0 h1 g0]
  by_cases e : y = z
  · subst e; simp [Rf.without]
  · rw [if_neg e, h.iff y g0 g1]; simp [Rf.without, e]
theorem sets : ∀ (f : List Int) {b : List Bool} {l : List Int}, LRel L b l → f.Nodup → (∀ z ∈ f, (0 ≤ z ∧ z < L) ∧ z ∉ l) → LRel L (Ck.sets b f) (l ++ f)
  | [], b, l, h, _, _ => by simpa [Ck.sets] using h
  | z :: r, b, l, h, hn, hf => by
    have hz := hf z (by simp)
    rw [List.nodup_cons] at hn
    have hp := h.put hz.1.1 hz.1.2 hz.2
    have := sets r hp hn.2 (fun y hy => by
      have h1 := hf y (by simp [hy])
      refine ⟨h1.1, fun hm => ?_⟩
      rcases List.mem_append.1 hm with hm | hm
      · exact h1.2 hm
      · simp at hm; subst hm; exact hn.1 hy)
    rw [List.append_assoc] at this
    exact this
end LRel
namespace Rf
theorem sumF_snoc (f : Int → Int) (l : List Int) (z : Int) : sumF f (l ++ [z]) = sumF f l + f z := by simp [sumF]
theorem sumF_app (f : Int → Int) (a b : List Int) : sumF f (a ++ b) = sumF f a + sumF f b := by simp [sumF]
theorem sumF_with (f : Int → Int) {l : List Int} {z : Int} (h : z ∉ l) : sumF f (with_ l z) = sumF f l + f z := by
  unfold with_; rw [if_neg (by simpa using h)]; exact sumF_snoc f l z
theorem without_not {l : List Int} {z : Int} (h : z ∉ l) : without l z = l := by
  unfold without
  rw [List.filter_eq_self]
  intro y hy
  simp only [decide_eq_true_eq]
  intro e; subst e; exact h hy
theorem sumF_without (f : Int → Int) : ∀ {l : List Int} {z : Int}, l.Nodup → z ∈ l → sumF f (without l z) = sumF f l - f z
  | y :: r, z, hn, hm => by
    rw [List.nodup_cons] at hn
    by_cases e : y = z
    · subst e
      have : without (y :: r) y = without r y := by simp [without]
      rw [this, without_not hn.1]
      simp [sumF]; omega
    · have hm' : z ∈ r := by
        rcases List.mem_cons.1 hm with e' | h
        · exact absurd e'.symm e
        · exact h
      have e2 : without (y :: r) z = y :: without r z := by simp [without, e]
      have ih := sumF_without f hn.2 hm'
      rw [e2]
      simp only [sumF, List.map_cons, List.sum_cons] at ih ⊢
      omega
theorem length_without : ∀ {l : List Int} {z : Int}, l.Nodup → z ∈ l → (without l z).length + 1 = l.length
  | y :: r, z, hn, hm => by
    rw [List.nodup_cons] at hn
    by_cases e : y = z
    · subst e
      have : without (y :: r) y = without r y := by simp [without]
      rw [this, without_not hn.1]
      simp
    · have hm' : z ∈ r := by
        rcases List.mem_cons.1 hm with e' | h
        · exact absurd e'.symm e
        · exact h
      have e2 : without (y :: r) z = y :: without r z := by simp [without, e]
      have ih := length_without hn.2 hm'
      rw [e2]
      simp only [List.length_cons]
      omega
theorem sumF_nn {f : Int → Int} (h : ∀ z, 0 ≤ f z) : ∀ l : List Int, 0 ≤ sumF f l
  | [] => by simp [sumF]
  | x :: r => by
    have h1 := h x
    have h2 := sumF_nn h r
    simp only [sumF, List.map_cons, List.sum_cons] at h2 ⊢
    omega
theorem sumF_one {f : Int → Int} (h : ∀ z, 0 ≤ f z) {l : List Int} {z : Int} (hz : z ∈ l) : f z ≤ sumF f l := by
  induction l with
  | nil => cases hz
  | cons x r ih =>
    have h1 := h x
    have h2 := sumF_nn h r
    simp only [sumF, List.map_cons, List.sum_cons] at h2 ih ⊢
    rcases List.mem_cons.1 hz with e | hz
    · subst e; omega
    · have := ih hz; omega
/-- A list of different numbers below a bound is short. -/
theorem nodup_len : ∀ (n : Nat) (l : List Int), l.Nodup → (∀ z ∈ l, 0 ≤ z ∧ z < n) → l.length ≤ n
  | 0, l, _, h => by
    match l, h with
    | [], _ => simp
    | x :: r, h => have := h x (by simp); omega
  | n + 1, l, hn, h => by
    by_cases hm : (n : Int) ∈ l
    · have h1 := length_without hn hm
      have := nodup_len n (without l n) (hn.filter _) (fun z hz => by
        have h2 := List.mem_filter.1 hz
        have h3 := h z h2.1
        have h4 := h2.2
        simp only [decide_eq_true_eq] at h4
        omega)
      omega
    · have := nodup_len n l hn (fun z hz => by
        have h3 := h z hz
        have : z ≠ n := fun e => hm (e ▸ hz)
        omega)
      omega
theorem gr_fresh {g : List Bool} {l : List Int} {L : Nat} (h : LRel L g l) : ∀ (ins acc : List Int), (∀ i ∈ ins, 0 ≤ i ∧ i < L) → gr (l ++ acc) ins = l ++ Ck.freshGo g acc ins
  | [], acc, _ => by simp [gr, Ck.freshGo]
  | i :: r, acc, hi => by
    have h1 := hi i (by simp)
    have hr : ∀ i ∈ r, 0 ≤ i ∧ i < L := fun z hz => hi z (by simp [hz])
    have ha := h.at_ h1.1 h1.2
    show gr (if i ≠ 0 then with_ (l ++ acc) i else l ++ acc) r = _
    unfold Ck.freshGo
    by_cases h0 : i = 0
    · rw [if_neg (by simpa using h0), if_neg (by simp [h0])]
      exact gr_fresh h r acc hr
    · rw [if_pos h0]
      unfold with_
      by_cases hl : l.contains i = true
      · have : (l ++ acc).contains i = true := by simp at hl ⊢; exact .inl hl
        rw [if_pos this, if_neg (by rw [ha, hl]; simp)]
        exact gr_fresh h r acc hr
      · by_cases hc : acc.contains i = true
        · have : (l ++ acc).contains i = true := by simp at hc ⊢; exact .inr hc
          rw [if_pos this, if_neg (by rw [hc]; simp)]
          exact gr_fresh h r acc hr
        · have : ¬ (l ++ acc).contains i = true := by simp at hl hc ⊢; exact ⟨hl, hc⟩
          rw [if_neg this, if_pos ⟨h0, by rw [ha]; simpa using hl, by simpa using hc⟩, List.append_assoc]
          exact gr_fresh h r (acc ++ [i]) hr
theorem fresh_facts {g : List Bool} {l : List Int} {L : Nat} (h : LRel L g l) : ∀ (ins acc : List Int), (∀ i ∈ ins, 0 ≤ i ∧ i < L) → acc.Nodup → (∀ z ∈ acc, (0 ≤ z ∧ z < L) ∧ z ∉ l ∧ z ≠ 0) → (Ck.freshGo g acc ins).Nodup ∧ ∀ z ∈ Ck.freshGo g acc ins, (0 ≤ z ∧ z < L) ∧ z ∉ l ∧ z ≠ 0
  | [], acc, _, h1, h2 => ⟨h1, h2⟩
  | i :: r, acc, hi, h1, h2 => by
    have hb := hi i (by simp)
    have hr : ∀ i ∈ r, 0 ≤ i ∧ i < L := fun z hz => hi z (by simp [hz])
    unfold Ck.freshGo
    split
    · rename_i hc
      obtain ⟨c1, c2, c3⟩ := hc
      refine fresh_facts h r _ hr ?_ ?_
      · rw [List.nodup_append]
        refine ⟨h1, by simp, fun a ha b hb e => ?_⟩
        simp at hb; subst hb; subst e; simp at c3; exact c3 ha
      · intro z hz
        rcases List.mem_append.1 hz with hz | hz
        · exact h2 z hz
        · simp at hz; subst hz
          refine ⟨hb, ?_, c1⟩
          rw [h.at_ hb.1 hb.2] at c2
          simpa using c2
    · exact fresh_facts h r acc hr h1 h2
end Rf
end Go.Proofs.YtmmgdgfpemkdnaaGreat
/- The reference of layer 18: Has, with, without: contracts. -/
namespace Go.Proofs.YtmmgdgfpemkdnaaGreat
open Go.RowKit
theorem run_append_nils {P : Program} (w : World) (t ty e : TypeId) (i : TypeInfo) (ht : P.underlying t = some (.slice e)) (hi : P.info? e = some i) (c : Nat) :
    (Builtin.append_ #[t, t] ty #[.slice none 0 0, .slice none 0 c]).run P w = .ok (.slice none 0 0) w := by
  simp [Builtin.append_, run_underlying ht, sizeOf, typeInfo, hi, Builtin.lenOf, Builtin.firstCells]
theorem ints_src {w : World} {A : Option Addr} {zs : List Int} (h : Ints .i64 w A zs) : (A = none ∧ zs = []) ∨ ∃ ad, A = some ad ∧ ∀ (j : Nat) (u : Value), (zs.map (Value.int .i64))[j]? = some u → w.cell? (ad.add j) = some u := by
  rcases A with _ | ad
  · left
    refine ⟨rfl, ?_⟩
    rcases zs with _ | ⟨s, r⟩
    · rfl
    · obtain ⟨_, _, e, _⟩ := h 0 (by simp)
      cases e
  · right
    refine ⟨ad, rfl, fun j u hu => ?_⟩
    have hj : j < zs.length := by
      rcases Nat.lt_or_ge j zs.length with h | h
      · exact h
      · rw [List.getElem?_eq_none (by simpa using h)] at hu; cases hu
    obtain ⟨b, off, e, _, hc⟩ := h j hj
    injection e with e
    subst e
    rw [add_plain', hc]
    simp [hj] at hu ⊢
    exact hu
/-- append of a row of ints onto nothing. -/
theorem wpList_append_ints {P : Program} {ops : Array Oper} {rest : List Oper} {o : Oper} {a : Act} {Q : Exit → Act → World → Prop} {w : World} (hgd : o.guard = none) (s x : Operand) (t : TypeId)
    (ho : o.op = .call { callee := .builtin .append, args := #[s, x], argTypes := #[t, t] })
    (base : Nat) (e : TypeId) (i : TypeInfo) (ht : P.underlying t = some (.slice e)) (hi : P.info? e = some i) (hz : i.zero = some (.int .i64 0)) (hsize : i.size = 1) (hby : i.bytes = 8)
    (hs : a.eval s = .slice none 0 0) (X : Option Addr) (f : Nat) (l : List Int) (hx : a.eval x = .slice X l.length f) (hX : Ints .i64 w X l) (hbase : base ≤ w.heap.size) (hn : l.length ≤ 1000000)
    (h : ∀ v' w', w'.ownsRow base e 1 v' l.length (l.map (Value.int .i64)) → Below w.heap.size w w' → wpList P ops Q rest (a.put o.dst v') w') :
    wpList P ops Q (o :: rest) a w := by
  rcases ints_src hX with ⟨rfl, rfl⟩ | ⟨ad, rfl, hc⟩
  · refine wpList_plain hgd fun K hK => ?_
    unfold Oper.wp execOp
    simp only [ho, resolve, invoke, builtin, Sem.run_bind, Sem.run_pure, Result.andThen_ok, List.map_toArray, List.map_cons, List.map_nil, hs, hx, List.length_nil, run_append_nils w t o.type e i ht hi f]
    exact hK _ _ (h _ w (World.ownsRow_nil w base e 1) (Below.refl _ _))
  · refine wpList_append_own_at w hgd s x t ho base e i (.int .i64 0) 1 8 ht hi hz hsize hby rfl (by decide) (.slice none 0 0) 0 [] hs (World.ownsRow_nil w base e 1) ad l.length f (l.map (Value.int .i64)) hx (by simp) hc (fun u hu => ?_) (by unfold maxLen; omega) (by omega) hbase fun v' w' hown' hgrow _ _ => ?_
    · obtain ⟨z, _, rfl⟩ := List.mem_map.1 hu
      rfl
    · rw [Nat.zero_add] at hown'
      exact h v' w' hown' ((Below.refl _ w).grown hgrow (Nat.le_refl _) (by simp [Value.ownBlock]))
/-- A row of ints that is the call's own. -/
def SortOwn (os : List Int) (w : World) (e : Ending) (w' : World) : Prop :=
  ∃ A c, e = .returned (.slice A os.length c) ∧ Ints .i64 w' A os ∧ (∀ a, A = some a → w.heap.size ≤ a.block) ∧ Below w.heap.size w w'
theorem own_at {w : World} {B e s n m c : Nat} {A : Option Addr} {xs : List Value} (h : w.ownsRow B e s (.slice A m c) n xs) : ∀ a, A = some a → B ≤ a.block := fun a q => (h.lt a.block (by rw [q]; rfl)).1
set_option maxHeartbeats 4000000 in
theorem ref18_has (A : Option Addr) (c : Nat) (zs : List Int) (x : Int) (w : World) (hl : zs.length ≤ 9223372036854775807) (hI : Ints .i64 w A zs) :
    Calls Tryz.prog 22 #[.slice A zs.length c, .int .i64 x] w fun e w' => e = .returned (.bool (hasB zs x)) ∧ w = w' := by
  have HI := Lib.hid hI
  clear hI
  go_enter Tryz.func22, Tryz.ntmps22
  go_wp2_with fail
  go_loop [5] (fun i => ∃ k : Nat, k ≤ zs.length ∧ i = .int .i64 k ∧ (zs.take k).contains x = false) (fun i => zs.length - (intOf i).toNat)
  case atStart => exact ⟨0, Nat.zero_le _, rfl, rfl⟩
  case round =>
    obtain ⟨k, hk, rfl, hno⟩ := hrel
    by_cases hlt : k < zs.length
    · obtain ⟨b, off, rfl, -, hc⟩ := HI.out k hlt
      rw [getD_at hlt] at hc
      by_cases he : zs[k] = x
      · have e1 : (zs[k] == x) = true := by simp [he]
        have HX := Lib.hid (show hasB zs x = true by unfold hasB; rw [List.contains_iff_mem]; rw [← he]; exact List.getElem_mem hlt)
        clear he hno
        go_wp2_with fail
        go_ret
        exact ⟨by rw [HX.out]; rfl, rfl⟩
      · have e1 : (zs[k] == x) = false := by simp [he]
        have HX := Lib.hid (show (zs.take (k + 1)).contains x = false by
          rw [List.take_succ_eq_append_getElem hlt]
          simp at hno
          simp only [List.contains_eq_mem, List.mem_append, decide_eq_false_iff_not, List.mem_singleton]
          intro h
          rcases h with h | h
          · exact hno h
          · exact he h.symm)
        clear he hno
        go_wp2_with fail
        go_round
        case rel => exact ⟨k + 1, by omega, by go_num, HX.out⟩
        case measure => simp [intOf]; omega
    · obtain rfl : k = zs.length := by omega
      rw [List.take_length] at hno
      have HX := Lib.hid (show hasB zs x = false from hno)
      clear hno
      go_wp2_with fail
      go_ret
      exact ⟨by rw [HX.out]; rfl, rfl⟩
set_option maxHeartbeats 4000000 in
set_option maxRecDepth 20000 in
theorem ref18_with (A : Option Addr) (c : Nat) (l : List Int) (z : Int) (w : World) (hl : l.length ≤ 1000) (hI : Ints .i64 w A l) :
    Calls Tryz.prog 37 #[.slice A l.length c, .int .i64 z] w (SortOwn (Rf.with_ l z) w) := by
  obtain ⟨i0, hi, hz0, hz1, hz2⟩ := info_parts int_info
  have HI := Lib.hid hI
  clear hI
  go_enter Tryz.func37, Tryz.ntmps37
  go_wp2_with (at_builtin; refine wpList_append_ints rfl _ _ 22 rfl w.heap.size 3 i0 Tryz.underlying22 hi hz0 hz1 hz2 rfl A c l rfl HI.out (Nat.le_refl _) (by omega) ?_)
  intro v' w1 hown hb1
  obtain ⟨Ao, co, rfl⟩ := own_form hown
  have hI1 := HI.out.below hb1 (Nat.le_refl _)
  have Hown := Lib.hid hown
  have HI1 := Lib.hid hI1
  have Hb1 := Lib.hid hb1
  clear hown hI1 hb1
  go_wp2_with fail
  refine (ref18_has A c l z w1 (by omega) HI1.out).mono ?_
  rintro e w2 ⟨rfl, rfl⟩
  by_cases hh : hasB l z = true
  · have HW := Lib.hid (show Rf.with_ l z = l by unfold Rf.with_; exact if_pos hh)
    obtain ⟨q1, -, -⟩ := own_ints Hown.out
    have q2 := own_at Hown.out
    rw [hh]
    have Hq1 := Lib.hid q1
    have Hq2 := Lib.hid q2
    clear q1 q2
    clear hh
    go_wp2_with fail
    go_ret
    rw [HW.out]
    exact ⟨Ao, co, rfl, Hq1.out, Hq2.out, Hb1.out⟩
  · have HW := Lib.hid (show Rf.with_ l z = l ++ [z] by unfold Rf.with_; exact if_neg hh)
    have hf : hasB l z = false := by simpa using hh
    rw [hf]
    clear hh hf
    have ho := ownsRow_new Hown.out (.cells #[.int .i64 z] 3)
    have hbx2 : Below w.heap.size w (w1.alloc (.cells #[.int .i64 z] 3)) := Hb1.out.alloc Hb1.out.size _
    have HLO := Lib.hid (fun b (hb : (Value.slice Ao l.length co).ownBlock = some b) => (Hown.out.lt b hb).1)
    go_wp2_with (at_builtin; refine wpList_append_own_at _ rfl _ _ 22 rfl w.heap.size 3 i0 (.int .i64 0) 1 8 Tryz.underlying22 hi hz0 hz1 hz2 rfl (by decide) _ _ _ rfl ho ⟨w1.heap.size, 0, none⟩ 1 1 [.int .i64 z] rfl rfl ?c1 (by intro u hu; simp at hu; subst hu; rfl) (by unfold maxLen; omega) (by omega) ?c2 ?_)
    first | (case c1 => exact one_new w1 _ _) | skip
    case c2 => exact hbx2.size
    intro v' w3 hown' hgrow _ hat
    have hb3 : Below w.heap.size w w3 := hbx2.grown hgrow hbx2.size (fun b hb => HLO.out b hb)
    have hown2 : w3.ownsRow w.heap.size 3 1 v' (l ++ [z]).length ((l ++ [z]).map (Value.int .i64)) := by simpa using hown'
    obtain ⟨A3, c3, rfl⟩ := own_form hown2
    obtain ⟨q1, -, -⟩ := own_ints hown2
    have q2 := own_at hown2
    clear hown' hgrow hat ho hbx2 HLO hown2
    have Hq1 := Lib.hid q1
    have Hq2 := Lib.hid q2
    have Hb3 := Lib.hid hb3
    clear q1 q2 hb3
    go_wp2_with fail
    go_ret
    rw [HW.out]
    exact ⟨A3, c3, rfl, Hq1.out, Hq2.out, Hb3.out⟩
theorem Rf.without_take {l : List Int} {z : Int} {k : Nat} (h : k < l.length) : Rf.without (l.take (k + 1)) z = Rf.without (l.take k) z ++ if l[k] = z then [] else [l[k]] := by
  unfold Rf.without
  rw [List.take_succ_eq_append_getElem h, List.filter_append]
  split
  · rename_i e; simp [e]
  · rename_i e; simp [e]
set_option maxHeartbeats 4000000 in
set_option maxRecDepth 20000 in
theorem ref18_without (A : Option Addr) (c : Nat) (l : List Int) (z : Int) (w : World) (hl : l.length ≤ 1000) (hI : Ints .i64 w A l) :
    Calls Tryz.prog 38 #[.slice A l.length c, .int .i64 z] w (SortOwn (Rf.without l z) w) := by
  obtain ⟨i0, hi, hz0, hz1, hz2⟩ := info_parts int_info
  have HI := Lib.hid hI
  clear hI
  go_enter Tryz.func38, Tryz.ntmps38
  go_wp2_with fail
  go_loopw [5, 6] (fun o i wx => ∃ k : Nat, k ≤ l.length ∧ i = .int .i64 (k : Int) ∧ wx.ownsRow w.heap.size 3 1 o (Rf.without (l.take k) z).length ((Rf.without (l.take k) z).map (Value.int .i64)) ∧ Below w.heap.size w wx) (fun _ i _ => l.length - (intOf i).toNat)
  case atStart => exact ⟨0, Nat.zero_le _, rfl, by simpa [Rf.without] using World.ownsRow_nil w w.heap.size 3 1, Below.refl _ _⟩
  case round =>
    obtain ⟨k, hk, rfl, hown, hbx⟩ := hrel
    obtain ⟨Ao, co, rfl⟩ := own_form hown
    by_cases hlt : k < l.length
    · obtain ⟨b, off, rfl, -, hc⟩ := HI.out.below hbx (Nat.le_refl _) k hlt
      rw [getD_at hlt] at hc
      have hsn := Rf.without_take (z := z) hlt
      have hln : (Rf.without (l.take k) z).length ≤ 1000 := by
        have h1 : (Rf.without (l.take k) z).length ≤ (l.take k).length := List.length_filter_le _ _
        simp at h1
        omega
      generalize Rf.without (l.take k) z = r at *
      generalize l[k] = x at *
      by_cases he : x = z
      · have e1 : (x != z) = false := by simp [he]
        rw [if_pos he, List.append_nil] at hsn
        have Hown := Lib.hid hown
        have Hbx := Lib.hid hbx
        have Hsn := Lib.hid hsn
        clear hown hbx hsn
        clear he
        go_wp2_with fail
        go_roundw
        case rel => exact ⟨k + 1, by omega, by go_num, by rw [Hsn.out]; exact Hown.out, Hbx.out⟩
        case measure => simp [intOf]; omega
      · have e1 : (x != z) = true := by simp [he]
        rw [if_neg he] at hsn
        have ho := ownsRow_new hown (.cells #[.int .i64 x] 3)
        have hbx2 : Below w.heap.size w (wr.alloc (.cells #[.int .i64 x] 3)) := hbx.alloc hbx.size _
        have HLO := Lib.hid (fun b (hb : (Value.slice Ao r.length co).ownBlock = some b) => (hown.lt b hb).1)
        have Hown := Lib.hid hown
        have Hbx := Lib.hid hbx
        have Hsn := Lib.hid hsn
        clear hown hbx hsn
        clear he
        go_wp2_with (at_builtin; refine wpList_append_own_at _ rfl _ _ 22 rfl w.heap.size 3 i0 (.int .i64 0) 1 8 Tryz.underlying22 hi hz0 hz1 hz2 rfl (by decide) _ _ _ rfl ho ⟨wr.heap.size, 0, none⟩ 1 1 [.int .i64 x] rfl rfl ?c1 (by intro u hu; simp at hu; subst hu; rfl) (by unfold maxLen; omega) (by omega) ?c2 ?_)
        first | (case c1 => exact one_new wr _ _) | skip
        case c2 => exact hbx2.size
        intro v' w3 hown' hgrow _ hat
        have hb3 : Below w.heap.size w w3 := hbx2.grown hgrow hbx2.size (fun b hb => HLO.out b hb)
        have hown2 : w3.ownsRow w.heap.size 3 1 v' (r ++ [x]).length ((r ++ [x]).map (Value.int .i64)) := by simpa using hown'
        rw [← Hsn.out] at hown2
        have Hown2 := Lib.hid hown2
        have Hb3 := Lib.hid hb3
        clear hown2 hb3
        clear hown' hgrow hat ho hbx2 HLO
        go_wp2_with fail
        go_roundw
        case rel => exact ⟨k + 1, by omega, by go_num, Hown2.out, Hb3.out⟩
        case measure => simp [intOf]; omega
    · obtain rfl : k = l.length := by omega
      rw [List.take_length] at hown
      obtain ⟨q1, -, -⟩ := own_ints hown
      have q2 := own_at hown
      have Hown := Lib.hid hown
      have Hq1 := Lib.hid q1
      have Hq2 := Lib.hid q2
      have Hbx := Lib.hid hbx
      clear hown q1 q2 hbx
      go_wp2_with fail
      go_ret
      rw [List.take_length]
      exact ⟨Ao, co, rfl, Hq1.out, Hq2.out, Hbx.out⟩
end Go.Proofs.YtmmgdgfpemkdnaaGreat
/- The plain law of layer 18: a plan fits into every greater capacity, and into its peak, but not into less. -/
namespace Go.Proofs.YtmmgdgfpemkdnaaGreat
namespace Ck
theorem wd_pos {c : CkN} (h : ∀ z ∈ c.words, 0 ≤ z) (z : Int) : 0 ≤ wd c z := by
  unfold wd
  rw [List.getD_eq_getElem?_getD]
  rcases Nat.lt_or_ge z.toNat c.words.length with hl | hl
  · rw [List.getElem?_eq_getElem hl]
    exact h _ (List.getElem_mem hl)
  · rw [List.getElem?_eq_none hl]
    exact Int.le_refl _
theorem sum_pos {c : CkN} (h : ∀ z ∈ c.words, 0 ≤ z) : ∀ l : List Int, 0 ≤ sumW c l
  | [] => by simp [sumW]
  | x :: r => by
    have h1 := wd_pos h x
    have h2 := sum_pos h r
    simp only [sumW, List.map_cons, List.sum_cons] at h2 ⊢
    omega
theorem more_pos {c : CkN} (h : ∀ z ∈ c.words, 0 ≤ z) (s : CkS) (k id : Int) : 0 ≤ more c s k id := by
  unfold more
  repeat' split
  · exact wd_pos h _
  · exact wd_pos h _
  · exact sum_pos h _
  · exact Int.le_refl _
theorem go_less {c : CkN} (h : ∀ z ∈ c.words, 0 ≤ z) (i : Int × Int) (r : List (Int × Int)) (s : CkS) (hn : s.now = 0) (hp : s.peak = 0) (hg : (go c s (i :: r)).2 = 0) :
    (go (cp c ((go c s (i :: r)).1.peak - 1)) s (i :: r)).2 = 25 := by
  have hd : (do_ c s i.1 i.2).2 = 0 := by
    simp only [go] at hg
    split at hg
    · assumption
    · rename_i h0; exact absurd hg h0
  have e : go c s (i :: r) = go c (do_ c s i.1 i.2).1 r := by simp only [go]; rw [if_pos hd]
  rw [e] at hg ⊢
  have hq := hd
  unfold do_ at hq
  split at hq
  · simp at hq
  · rename_i h1
    split at hq
    · simp at hq
    · rename_i h2
      split at hq
      · simp at hq
      · rename_i h3
        have ea : do_ c s i.1 i.2 = (act c s i.1 i.2 (s.now + more c s i.1 i.2), 0) := by unfold do_; rw [if_neg h1, if_neg h2, if_neg h3]
        have hm := more_pos h s i.1 i.2
        rw [ea] at hg ⊢
        generalize hP : (go c (act c s i.1 i.2 (s.now + more c s i.1 i.2), (0 : Int)).1 r).1.peak = P at *
        by_cases hm2 : P - 1 < s.now + more c s i.1 i.2
        · have hdc : do_ (cp c (P - 1)) s i.1 i.2 = (s, 25) := by
            rw [do_cp, if_neg h1, if_neg h2, if_pos hm2]
          simp only [go]
          rw [hdc, if_neg (by simp)]
        · have hdc : do_ (cp c (P - 1)) s i.1 i.2 = (act c s i.1 i.2 (s.now + more c s i.1 i.2), 0) := by
            rw [do_cp, if_neg h1, if_neg h2, if_neg hm2]
          simp only [go]
          rw [hdc, if_pos rfl]
          obtain ⟨_, _, i3, _⟩ := go_peak c (P - 1) r _ hg
          rw [peak_act] at i3
          exact i3 (by omega) (by omega)
theorem base_cp (n : NetD) (a b : Int) : base n b = cp (base n a) b := rfl
/-- What a run within a cap tells of the other caps. -/
theorem run_caps {n : NetD} {ps : List (Int × Int)} {cap : Int} (hc : 0 ≤ cap) (h : (run n ps cap).2 = 0) :
    (run n ps cap).1.1 ≤ cap ∧ 0 ≤ (run n ps cap).1.1 ∧ (∀ b, (run n ps cap).1.1 ≤ b → run n ps b = run n ps cap) ∧ (run n ps ((run n ps cap).1.1 - 1)).2 = 25 := by
  have hr := h
  unfold run at hr
  split at hr
  · rename_i h0; exact absurd hr h0
  rename_i h0
  split at hr
  · rename_i h1; exact absurd hr h1
  rename_i h1
  split at hr
  · rename_i h2; exact absurd hr h2
  rename_i h2
  split at hr
  · simp at hr
  rename_i h3
  split at hr
  · rename_i h4; exact absurd hr h4
  rename_i h4
  have e : run n ps cap = (((go (base n cap) (start (n.nodes.length + 1)) ps).1.peak, (Cd.costs ps (Nt.costs n)).1, Cd.count 2 ps, max (go (base n cap) (start (n.nodes.length + 1)) ps).1.peak (Safe.max ((Nt.words n).drop 1))), 0) := by
    unfold run; rw [if_neg h0, if_neg h1, if_neg h2, if_neg h3, if_neg h4]
  have h2' : (go (base n cap) (start (n.nodes.length + 1)) ps).2 = 0 := by simpa using h2
  have h0' : Nt.check n = 0 := by simpa using h0
  obtain ⟨g1, _, _, g4⟩ := go_peak (base n cap) 0 ps _ h2'
  have g4 := g4 hc
  have g1 : 0 ≤ (go (base n cap) (start (n.nodes.length + 1)) ps).1.peak := g1
  rw [e]
  refine ⟨g4, g1, fun b hb => ?_, ?_⟩
  · have hgo := (go_peak (base n cap) b ps _ h2').2.1 hb
    unfold run
    rw [base_cp n cap b, hgo, if_neg h0, if_neg h1, if_neg h2]
    have hw : whole (cp (base n cap) b) (go (base n cap) (start (n.nodes.length + 1)) ps).1 = whole (base n cap) (go (base n cap) (start (n.nodes.length + 1)) ps).1 := rfl
    rw [hw, if_neg h3, if_neg h4]
  · have hpos : ∀ z ∈ (base n cap).words, 0 ≤ z := fun z hz => by have := Nt.words_bd h0' z hz; omega
    match ps, h1, h2', h3, hpos with
    | [], _, _, h3, _ => simp [go, whole, start] at h3
    | i :: r, h1, h2', _, hpos =>
      have hl := go_less hpos i r (start (n.nodes.length + 1)) rfl rfl h2'
      show (run n (i :: r) ((go (base n cap) (start (n.nodes.length + 1)) (i :: r)).1.peak - 1)).2 = 25
      generalize (go (base n cap) (start (n.nodes.length + 1)) (i :: r)).1.peak - 1 = b at *
      unfold run
      rw [base_cp n cap b, if_neg h0, if_neg h1, if_pos (by rw [hl]; decide)]
      exact hl
end Ck
end Go.Proofs.YtmmgdgfpemkdnaaGreat
/- The document's answer for layer 18 goes step by step with the program's. -/
namespace Go.Proofs.YtmmgdgfpemkdnaaGreat
/-- What the numbers keep. -/
structure POk (c : CkN) : Prop where
  w : ∀ z ∈ c.words, 1 ≤ z
  loss : 1 ≤ c.loss ∧ c.loss < c.words.length
  ins : ∀ id : Int, 0 ≤ id → id < c.words.length → ∀ i ∈ Ck.insF c id, 0 ≤ i ∧ i < c.words.length
/-- Both tell the same. -/
structure PRel (c : CkN) (s : CkS) (x : RfS) : Prop where
  there : LRel c.words.length s.pres x.there
  saved : LRel c.words.length s.sav x.saved
  grads : LRel c.words.length s.grad x.grads
  sub : ∀ z ∈ x.there, z = 0 ∨ z ∈ x.saved
  gz : (0 : Int) ∉ x.grads
  em : x.em = if s.em then 1 else 0
  sd : x.sd = if s.sd then 1 else 0
  none_ : s.sd = false → x.grads = []
  done : x.done = s.done
  dl : s.done ≤ c.order.length
  now : s.now = Rf.sum c x
  peak : s.peak = x.peak
  np : s.now ≤ s.peak
  cap : 0 < s.now → s.now ≤ c.cap
namespace Rf
variable {c : CkN} {s : CkS} {x : RfS}
theorem mem_with {l : List Int} {y z : Int} : z ∈ with_ l y ↔ z ∈ l ∨ z = y := by
  unfold with_
  split
  · rename_i h
    have : y ∈ l := by simpa using h
    exact ⟨.inl, fun h => h.elim id fun e => e ▸ this⟩
  · simp
theorem mem_without {l : List Int} {y z : Int} : z ∈ without l y ↔ z ∈ l ∧ z ≠ y := by
  unfold without; simp
theorem wd_one (hc : POk c) {z : Int} (h0 : 0 ≤ z) (h1 : z < c.words.length) : 1 ≤ Ck.wd c z := by
  unfold Ck.wd
  have : z.toNat < c.words.length := by omega
  rw [List.getD_eq_getElem?_getD, List.getElem?_eq_getElem this]
  exact hc.w _ (List.getElem_mem this)
theorem wd_nn (hc : POk c) (z : Int) : 0 ≤ Ck.wd c z := Ck.wd_pos (fun z hz => by have := hc.w z hz; omega) z
theorem tw_nn (hc : POk c) (z : Int) : 0 ≤ tw c z := by
  unfold tw
  split
  · exact Int.le_refl _
  · exact wd_nn hc z
theorem tw_pos {z : Int} (h : z ≠ 0) : tw c z = Ck.wd c z := by unfold tw; rw [if_neg h]
theorem right_pos {k id : Int} (h : Cd.right (k, id) = true) (h4 : k ≠ 4) (h5 : k ≠ 5) : 1 ≤ id := by
  unfold Cd.right at h
  simp [h4, h5] at h
  exact h.2.1
theorem right_k {k id : Int} (h : Cd.right (k, id) = true) : 0 ≤ id ∧ (k = 1 ∨ k = 2 ∨ k = 3 ∨ k = 4 ∨ k = 5 ∨ k = 6) := by
  obtain ⟨h1, h2, h3, -⟩ := Cd.right_bd h
  simp only at h1 h2 h3
  omega
theorem ready_same (hc : POk c) (hP : PRel c s x) {id : Int} (h0 : 0 ≤ id) (hid : id < c.words.length) : Ck.ready c s id = ready c x id := by
  have : ∀ l : List Int, (∀ i ∈ l, 0 ≤ i ∧ i < c.words.length) → (l.all fun i => Ck.at_ s.pres i) = l.all fun i => x.there.contains i := by
    intro l
    induction l with
    | nil => intro _; rfl
    | cons a r ih => intro h; rw [List.all_cons, List.all_cons, ih (fun i hi => h i (by simp [hi])), hP.there.at_ (h a (by simp)).1 (h a (by simp)).2]
  exact this _ (hc.ins id h0 hid)
theorem back_same (hP : PRel c s x) (id : Int) : Ck.back c s id = back c x id := by
  unfold Ck.back back
  rw [hP.done, Bool.eq_iff_iff]
  simp only [decide_eq_true_eq, Bool.and_eq_true]
  by_cases hd : s.done < c.order.length
  · have a1 : ((c.order.length : Int) - 1 - (s.done : Int)).toNat = c.order.length - 1 - s.done := by omega
    rw [a1]
    exact ⟨fun h => ⟨by omega, h.2⟩, fun h => ⟨hd, h.2⟩⟩
  · exact ⟨fun h => absurd h.1 hd, fun h => absurd h.1 (by omega)⟩
theorem legal_same (hc : POk c) (hP : PRel c s x) {k id : Int} (hr : Cd.right (k, id) = true) (hid : id < c.words.length) : Ck.legal c s k id = legal c x k id := by
  obtain ⟨h0, hk⟩ := right_k hr
  have e1 := hP.saved.at_ h0 hid
  have e2 := hP.there.at_ h0 hid
  have e3 := hP.grads.at_ h0 hid
  have e4 := ready_same hc hP h0 hid
  have e5 := back_same hP id
  have hsub : id ≠ 0 → x.saved.contains id = false → x.there.contains id = false := fun hz h => by
    rw [Bool.eq_false_iff] at h ⊢
    intro ht
    rcases hP.sub id (by simpa using ht) with e | e
    · exact hz e
    · exact h (by simpa using e)
  rcases hk with rfl | rfl | rfl | rfl | rfl | rfl
  · have hz := right_pos hr (by decide) (by decide)
    show (!Ck.at_ s.sav id && Ck.ready c s id) = ((x.saved.contains id == false) && (!x.there.contains id && ready c x id))
    rw [e1, e4]
    cases hb : x.saved.contains id
    · rw [hsub (by omega) hb]; simp
    · simp
  · show (Ck.at_ s.sav id && (!Ck.at_ s.pres id && Ck.ready c s id)) = ((x.saved.contains id == true) && (!x.there.contains id && ready c x id))
    rw [e1, e2, e4]
    cases x.saved.contains id <;> simp
  · show Ck.at_ s.pres id = x.there.contains id
    exact e2
  · show (Ck.at_ s.pres c.loss && !s.em) = (x.there.contains c.loss && !decide (x.em = 1))
    rw [hP.there.at_ (by have := hc.loss.1; omega) hc.loss.2, hP.em]
    cases s.em <;> simp
  · show (!s.sd) = !decide (x.sd = 1)
    rw [hP.sd]
    cases s.sd <;> simp
  · show (Ck.at_ s.grad id && (Ck.ready c s id && Ck.back c s id)) = (x.grads.contains id && (ready c x id && back c x id))
    rw [e3, e4, e5]
theorem act_same (hc : POk c) (hP : PRel c s x) {k id : Int} (hr : Cd.right (k, id) = true) (hid : id < c.words.length) (hl : legal c x k id = true) :
    (c.cap < s.now + Ck.more c s k id ↔ c.cap < sum c (step c x k id)) ∧ (s.now + Ck.more c s k id ≤ c.cap → PRel c (Ck.act c s k id (s.now + Ck.more c s k id)) (fin c (step c x k id) k id)) := by
  obtain ⟨h0, hk⟩ := right_k hr
  have hnow := hP.now
  unfold sum at hnow
  have mx : ∀ a b n : Int, a = b → max a n = if b < n then n else b := fun a b n e => by subst e; split <;> omega
  have k12 : (k = 1 ∨ k = 2) → (c.cap < s.now + Ck.more c s k id ↔ c.cap < sum c (step c x k id)) ∧ (s.now + Ck.more c s k id ≤ c.cap → PRel c (Ck.act c s k id (s.now + Ck.more c s k id)) (fin c (step c x k id) k id)) := fun h12 => by
    have hz : 1 ≤ id := right_pos hr (by omega) (by omega)
    have hw := wd_nn hc id
    have hnt : id ∉ x.there := by
      unfold legal at hl
      rw [if_pos h12] at hl
      simp at hl
      exact hl.2.1
    have em : Ck.more c s k id = Ck.wd c id := by unfold Ck.more; rw [if_pos h12]
    have es : step c x k id = { x with there := with_ x.there id, saved := with_ x.saved id } := by unfold step; rw [if_pos h12]
    have esum : sum c (step c x k id) = s.now + Ck.wd c id := by
      rw [es]
      show sumF (tw c) (with_ x.there id) + sumF (Ck.wd c) x.grads = _
      rw [sumF_with _ hnt, tw_pos (by omega)]
      omega
    have ea : ∀ n, Ck.act c s k id n = { s with pres := Ck.setB s.pres id true, sav := Ck.setB s.sav id true, now := n, peak := max s.peak n } := fun n => by unfold Ck.act; rw [if_pos h12]
    have ef : fin c (step c x k id) k id = { x with there := with_ x.there id, saved := with_ x.saved id, peak := if x.peak < s.now + Ck.wd c id then s.now + Ck.wd c id else x.peak } := by
      unfold fin
      rw [esum, es, if_neg (by omega)]
    rw [em, esum]
    refine ⟨Iff.rfl, fun hcap => ?_⟩
    rw [ea, ef]
    refine ⟨hP.there.with_ h0 hid, hP.saved.with_ h0 hid, hP.grads, fun z hzm => ?_, hP.gz, hP.em, hP.sd, hP.none_, hP.done, hP.dl, ?_, ?_, ?_, fun _ => hcap⟩
    · rcases mem_with.1 hzm with h | h
      · rcases hP.sub z h with e | e
        · exact .inl e
        · exact .inr (mem_with.2 (.inl e))
      · exact .inr (mem_with.2 (.inr h))
    · show s.now + Ck.wd c id = sumF (tw c) (with_ x.there id) + sumF (Ck.wd c) x.grads
      rw [sumF_with _ hnt, tw_pos (by omega)]
      omega
    · exact mx _ _ _ hP.peak
    · show s.now + Ck.wd c id ≤ max s.peak (s.now + Ck.wd c id)
      omega
  rcases hk with rfl | rfl | rfl | rfl | rfl | rfl
  · exact k12 (.inl rfl)
  · exact k12 (.inr rfl)
  · have hz : 1 ≤ id := right_pos hr (by decide) (by decide)
    have hin : id ∈ x.there := by
      have : x.there.contains id = true := hl
      simpa using this
    have hw := wd_one hc h0 hid
    have h1 := sumF_one (tw_nn hc) hin
    have h2 := sumF_nn (wd_nn hc) x.grads
    rw [tw_pos (by omega)] at h1
    have hcap := hP.cap (by omega)
    have hnp := hP.np
    have e1 : sumF (tw c) (without x.there id) = sumF (tw c) x.there - Ck.wd c id := by rw [sumF_without _ hP.there.nod hin, tw_pos (by omega)]
    have esum : sum c (step c x 3 id) = s.now - Ck.wd c id := by
      show sumF (tw c) (without x.there id) + sumF (Ck.wd c) x.grads = _
      omega
    have em : Ck.more c s 3 id = 0 := rfl
    rw [em, esum]
    refine ⟨⟨fun h => by omega, fun h => by omega⟩, fun _ => ?_⟩
    have ea : Ck.act c s 3 id (s.now + 0) = { s with pres := Ck.setB s.pres id false, now := s.now + 0 - Ck.wd c id, peak := max s.peak (s.now + 0) } := rfl
    have ef : fin c (step c x 3 id) 3 id = { x with there := without x.there id, peak := if x.peak < sum c (step c x 3 id) then sum c (step c x 3 id) else x.peak } := rfl
    rw [ea, ef, esum]
    refine ⟨hP.there.without h0 hid, hP.saved, hP.grads, fun z hzm => hP.sub z (mem_without.1 hzm).1, hP.gz, hP.em, hP.sd, hP.none_, hP.done, hP.dl, ?_, ?_, ?_, fun _ => ?_⟩
    · show s.now + 0 - Ck.wd c id = sumF (tw c) (without x.there id) + sumF (Ck.wd c) x.grads
      omega
    · show max s.peak (s.now + 0) = if x.peak < s.now - Ck.wd c id then s.now - Ck.wd c id else x.peak
      have := hP.peak
      rw [if_neg (by omega)]
      omega
    · show s.now + 0 - Ck.wd c id ≤ max s.peak (s.now + 0)
      omega
    · show s.now + 0 - Ck.wd c id ≤ c.cap
      omega
  · have em : Ck.more c s 4 id = 0 := rfl
    have esum : sum c (step c x 4 id) = s.now := by rw [hP.now]; rfl
    have ef : fin c (step c x 4 id) 4 id = { x with em := 1, peak := if x.peak < sum c (step c x 4 id) then sum c (step c x 4 id) else x.peak } := rfl
    rw [em, ef, esum, Int.add_zero]
    refine ⟨Iff.rfl, fun hcap => ?_⟩
    exact ⟨hP.there, hP.saved, hP.grads, hP.sub, hP.gz, rfl, hP.sd, hP.none_, hP.done, hP.dl, hP.now, mx _ _ _ hP.peak, show s.now ≤ max s.peak s.now by omega, fun _ => hcap⟩
  · have hsd : s.sd = false := by
      have : (!decide (x.sd = 1)) = true := hl
      rw [hP.sd] at this
      cases h : s.sd
      · rfl
      · rw [h] at this; simp at this
    have hg := hP.none_ hsd
    have em : Ck.more c s 5 id = Ck.wd c c.loss := rfl
    have hng : c.loss ∉ x.grads := by rw [hg]; simp
    have esum : sum c (step c x 5 id) = s.now + Ck.wd c c.loss := by
      show sumF (tw c) x.there + sumF (Ck.wd c) (with_ x.grads c.loss) = _
      rw [sumF_with _ hng]
      omega
    have ea : ∀ n, Ck.act c s 5 id n = { s with sd := true, grad := Ck.setB s.grad c.loss true, now := n, peak := max s.peak n } := fun n => rfl
    have ef : fin c (step c x 5 id) 5 id = { x with sd := 1, grads := with_ x.grads c.loss, peak := if x.peak < sum c (step c x 5 id) then sum c (step c x 5 id) else x.peak } := rfl
    have hl0 : 0 ≤ c.loss := by have := hc.loss.1; omega
    rw [em, ea, ef, esum]
    refine ⟨Iff.rfl, fun hcap => ?_⟩
    refine ⟨hP.there, hP.saved, hP.grads.with_ hl0 hc.loss.2, hP.sub, fun hz => ?_, hP.em, rfl, (fun h => by cases h), hP.done, hP.dl, ?_, mx _ _ _ hP.peak, show s.now + Ck.wd c c.loss ≤ max s.peak (s.now + Ck.wd c c.loss) by omega, fun _ => hcap⟩
    · rcases mem_with.1 hz with h | h
      · exact hP.gz h
      · have := hc.loss.1; omega
    · show s.now + Ck.wd c c.loss = sumF (tw c) x.there + sumF (Ck.wd c) (with_ x.grads c.loss)
      rw [sumF_with _ hng]
      omega
  · have hz : 1 ≤ id := right_pos hr (by decide) (by decide)
    have hlg : (x.grads.contains id && (ready c x id && back c x id)) = true := hl
    rw [Bool.and_eq_true, Bool.and_eq_true] at hlg
    obtain ⟨g1, -, g3⟩ := hlg
    have hin : id ∈ x.grads := by simpa using g1
    have hdn : s.done < c.order.length := by
      rw [← back_same hP id] at g3
      unfold Ck.back at g3
      simp only [decide_eq_true_eq] at g3
      exact g3.1
    have hsd : s.sd = true := by
      cases h : s.sd
      · rw [hP.none_ h] at hin; cases hin
      · rfl
    have hi := hc.ins id h0 hid
    have hgr := gr_fresh hP.grads (Ck.insF c id) [] hi
    have hff := fresh_facts hP.grads (Ck.insF c id) [] hi List.nodup_nil (fun z h => by cases h)
    rw [List.append_nil] at hgr
    have hFR : Ck.freshGo s.grad [] (Ck.insF c id) = Ck.fresh c s id := rfl
    rw [hFR] at hgr hff
    have hL := LRel.sets (Ck.fresh c s id) hP.grads hff.1 (fun z h => ⟨(hff.2 z h).1, (hff.2 z h).2.1⟩)
    have em : Ck.more c s 6 id = sumF (Ck.wd c) (Ck.fresh c s id) := rfl
    have esum : sum c (step c x 6 id) = s.now + sumF (Ck.wd c) (Ck.fresh c s id) := by
      show sumF (tw c) x.there + sumF (Ck.wd c) (gr x.grads (Ck.insF c id)) = _
      rw [hgr, sumF_app]
      omega
    have ea : ∀ n, Ck.act c s 6 id n = { s with grad := Ck.setB (Ck.sets s.grad (Ck.fresh c s id)) id false, now := n - Ck.wd c id, peak := max s.peak n, done := s.done + 1 } := fun n => rfl
    have ef : fin c (step c x 6 id) 6 id = { x with grads := without (gr x.grads (Ck.insF c id)) id, done := x.done + 1, peak := if x.peak < sum c (step c x 6 id) then sum c (step c x 6 id) else x.peak } := rfl
    rw [em, ea, ef, esum, hgr]
    have hin2 : id ∈ x.grads ++ Ck.fresh c s id := by simp [hin]
    have hw := wd_nn hc id
    refine ⟨Iff.rfl, fun hcap => ?_⟩
    refine ⟨hP.there, hP.saved, hL.without h0 hid, hP.sub, fun hz0 => ?_, hP.em, hP.sd, (fun h => by rw [hsd] at h; cases h), ?_, ?_, ?_, mx _ _ _ hP.peak, ?_, fun _ => ?_⟩
    · rcases List.mem_append.1 (mem_without.1 hz0).1 with h | h
      · exact hP.gz h
      · exact (hff.2 0 h).2.2 rfl
    · show x.done + 1 = ((s.done + 1 : Nat) : Int)
      rw [hP.done]; omega
    · show s.done + 1 ≤ c.order.length
      omega
    · show s.now + sumF (Ck.wd c) (Ck.fresh c s id) - Ck.wd c id = sumF (tw c) x.there + sumF (Ck.wd c) (without (x.grads ++ Ck.fresh c s id) id)
      rw [sumF_without _ hL.nod hin2, sumF_app]
      omega
    · show s.now + sumF (Ck.wd c) (Ck.fresh c s id) - Ck.wd c id ≤ max s.peak (s.now + sumF (Ck.wd c) (Ck.fresh c s id))
      omega
    · show s.now + sumF (Ck.wd c) (Ck.fresh c s id) - Ck.wd c id ≤ c.cap
      omega
theorem do_same (hc : POk c) (hP : PRel c s x) {k id : Int} (hr : Cd.right (k, id) = true) : (Ck.do_ c s k id).2 = (do_ c x k id).2 ∧ PRel c (Ck.do_ c s k id).1 (do_ c x k id).1 := by
  unfold Ck.do_ do_
  by_cases hid : (c.words.length : Int) ≤ id
  · rw [if_pos (.inr hid), if_pos hid]; exact ⟨rfl, hP⟩
  have hid' : id < c.words.length := by omega
  rw [if_neg (by rw [hr]; simp; omega), if_neg hid, legal_same hc hP hr hid']
  cases hl : legal c x k id
  · simp; exact hP
  rw [if_neg (show ¬ (true = false) by decide), if_neg (show ¬ (true = false) by decide)]
  obtain ⟨h1, h2⟩ := act_same hc hP hr hid' hl
  by_cases hcap : c.cap < s.now + Ck.more c s k id
  · rw [if_pos hcap, if_pos (h1.1 hcap)]; exact ⟨rfl, hP⟩
  · rw [if_neg hcap, if_neg (fun h => hcap (h1.2 h))]; exact ⟨rfl, h2 (by omega)⟩
theorem go_same (hc : POk c) : ∀ {ps : List (Int × Int)} {s : CkS} {x : RfS}, PRel c s x → ps.all Cd.right = true → (Ck.go c s ps).2 = (go c x ps).2 ∧ PRel c (Ck.go c s ps).1 (go c x ps).1
  | [], s, x, hP, _ => ⟨rfl, hP⟩
  | i :: r, s, x, hP, ha => by
    rw [List.all_cons, Bool.and_eq_true] at ha
    obtain ⟨h1, h2⟩ := do_same hc hP (k := i.1) (id := i.2) ha.1
    unfold Ck.go go
    rw [← h1]
    by_cases he : (Ck.do_ c s i.1 i.2).2 = 0
    · rw [if_pos he, if_pos he]; exact go_same hc h2 ha.2
    · rw [if_neg he, if_neg he]; exact ⟨h1, h2⟩
theorem go_snoc (c : CkN) (x : RfS) (a : List (Int × Int)) (i : Int × Int) (h : (go c x a).2 = 0) : go c x (a ++ [i]) = do_ c (go c x a).1 i.1 i.2 := by
  induction a generalizing x with
  | nil =>
    simp only [List.nil_append, go]
    split
    · rename_i h0; rw [← h0]
    · rfl
  | cons y r ih =>
    simp only [List.cons_append, go] at h ⊢
    split
    · rename_i h0; rw [if_pos h0] at h; exact ih _ h
    · rename_i h0; rw [if_neg h0] at h; exact absurd h h0
theorem go_fail (c : CkN) (x : RfS) (a b : List (Int × Int)) (h : (go c x a).2 ≠ 0) : go c x (a ++ b) = go c x a := by
  induction a generalizing x with
  | nil => exact absurd rfl h
  | cons y r ih =>
    simp only [List.cons_append, go] at h ⊢
    split
    · rename_i h0; rw [if_pos h0] at h; exact ih _ h
    · rfl
theorem start_rel (hc : POk c) (hn : 1 ≤ c.words.length) : PRel c (Ck.start c.words.length) start := by
  have hat : ∀ z : Int, Ck.at_ (List.replicate c.words.length false) z = false := fun z => by
    unfold Ck.at_
    rw [List.getD_eq_getElem?_getD]
    rcases Nat.lt_or_ge z.toNat c.words.length with h | h
    · simp [h]
    · simp [h]
  have he : LRel c.words.length (List.replicate c.words.length false) [] := ⟨by simp, (fun z h => by cases h), List.nodup_nil, (fun z _ _ => by rw [hat]; simp)⟩
  have h0 := he.put (z := 0) (by omega) (by omega) (by simp)
  refine ⟨h0, he, he, fun z hz => ?_, by simp [start], rfl, rfl, fun _ => rfl, rfl, Nat.zero_le _, rfl, rfl, Int.le_refl _, fun h => ?_⟩
  · exact .inl (by simpa [start] using hz)
  · exact absurd h (by simp [Ck.start])
end Rf
end Go.Proofs.YtmmgdgfpemkdnaaGreat
/- The reference of layer 18: a state in memory; Sum, ready: contracts. -/
namespace Go.Proofs.YtmmgdgfpemkdnaaGreat
open Go.RowKit
/-- Where a document's state lies: what stays, and what doesn't. -/
structure RfF where
  A : Option Addr
  N : Option Addr
  Wd : Option Addr
  Or : Option Addr
  c : Nat
  d : Nat
  cw : Nat
  co : Nat
structure RfV where
  Th : Option Addr
  Sa : Option Addr
  Gr : Option Addr
  ct : Nat
  cs : Nat
  cg : Nat
def RfF.cells (F : RfF) (V : RfV) (n : NetD) (c : CkN) (x : RfS) : Array Value :=
  #[.slice F.A n.inn.length F.c, .slice F.N n.nodes.length F.d, .slice F.Wd c.words.length F.cw, .slice F.Or c.order.length F.co, .int .i64 c.loss, .int .i64 c.cap, .slice V.Th x.there.length V.ct, .slice V.Sa x.saved.length V.cs, .slice V.Gr x.grads.length V.cg, .int .i64 x.em, .int .i64 x.sd, .int .i64 x.done, .int .i64 x.peak]
structure RfF.Fix (F : RfF) (n : NetD) (c : CkN) (w : World) : Prop where
  net : NetR w F.A F.N n
  words : Ints .i64 w F.Wd c.words
  ord : Ints .i64 w F.Or c.order
structure RfV.At (V : RfV) (x : RfS) (w : World) : Prop where
  there : Ints .i64 w V.Th x.there
  saved : Ints .i64 w V.Sa x.saved
  grads : Ints .i64 w V.Gr x.grads
theorem RfF.Fix.later {F : RfF} {n : NetD} {c : CkN} {w w' : World} (h : F.Fix n c w) (hl : Later w w') : F.Fix n c w' := ⟨h.net.below hl (Nat.le_refl _), h.words.below hl (Nat.le_refl _), h.ord.below hl (Nat.le_refl _)⟩
theorem RfV.At.later {V : RfV} {x : RfS} {w w' : World} (h : V.At x w) (hl : Later w w') : V.At x w' := ⟨h.there.below hl (Nat.le_refl _), h.saved.below hl (Nat.le_refl _), h.grads.below hl (Nat.le_refl _)⟩
/-- The numbers of a right net. -/
structure RfC (n : NetD) (c : CkN) : Prop where
  ok : n.ok
  nl : n.nodes.length ≤ 512
  wl : c.words.length = n.nodes.length + 1
  w : ∀ z ∈ c.words, 1 ≤ z ∧ z ≤ 65536
  ins : ∀ k (h : k < n.nodes.length), Ck.insF c ((k + 1 : Nat) : Int) = n.nodes[k].ins
  rng : ∀ k (h : k < n.nodes.length), ∀ i ∈ n.nodes[k].ins, 0 ≤ i ∧ i < c.words.length
  ol : c.order.length ≤ 512
  loss : 1 ≤ c.loss ∧ c.loss < c.words.length
theorem RfC.pok {n : NetD} {c : CkN} (h : RfC n c) (h0 : Ck.insF c 0 = []) : POk c := by
  refine ⟨fun z hz => (h.w z hz).1, h.loss, fun id i0 i1 i hi => ?_⟩
  obtain ⟨m, rfl⟩ := Int.eq_ofNat_of_zero_le i0
  rcases m with _ | m
  · rw [show ((0 : Nat) : Int) = 0 from rfl, h0] at hi; cases hi
  · have hm : m < n.nodes.length := by have := h.wl; omega
    rw [h.ins m hm] at hi
    exact h.rng m hm i hi
def Rf.Good (L : Nat) (l : List Int) : Prop := l.Nodup ∧ ∀ z ∈ l, 0 ≤ z ∧ z < L
theorem Rf.Good.len {L : Nat} {l : List Int} (h : Rf.Good L l) : l.length ≤ L := Rf.nodup_len L l h.1 h.2
theorem Rf.Good.with_ {L : Nat} {l : List Int} (h : Rf.Good L l) {z : Int} (hz : 0 ≤ z ∧ z < L) : Rf.Good L (Rf.with_ l z) := by
  unfold Rf.with_
  split
  · exact h
  · rename_i hc
    have hn : z ∉ l := by simpa using hc
    refine ⟨?_, fun y hy => ?_⟩
    · rw [List.nodup_append]
      refine ⟨h.1, by simp, fun a ha b hb e => ?_⟩
      simp at hb; subst hb; subst e; exact hn ha
    · rcases List.mem_append.1 hy with hy | hy
      · exact h.2 y hy
      · simp at hy; subst hy; exact hz
theorem Rf.Good.without {L : Nat} {l : List Int} (h : Rf.Good L l) (z : Int) : Rf.Good L (Rf.without l z) := ⟨h.1.filter _, fun y hy => h.2 y (List.mem_filter.1 hy).1⟩
theorem Rf.Good.gr {L : Nat} : ∀ (ins : List Int) {l : List Int}, Rf.Good L l → (∀ i ∈ ins, 0 ≤ i ∧ i < L) → Rf.Good L (Rf.gr l ins)
  | [], _, h, _ => h
  | i :: r, l, h, hi => by
    show Rf.Good L (Rf.gr (if i ≠ 0 then Rf.with_ l i else l) r)
    split
    · exact Rf.Good.gr r (h.with_ (hi i (by simp))) fun z hz => hi z (by simp [hz])
    · exact Rf.Good.gr r h fun z hz => hi z (by simp [hz])
structure Rf.GoodS (c : CkN) (x : RfS) : Prop where
  there : Rf.Good c.words.length x.there
  saved : Rf.Good c.words.length x.saved
  grads : Rf.Good c.words.length x.grads
theorem PRel.good {c : CkN} {s : CkS} {x : RfS} (h : PRel c s x) : Rf.GoodS c x := ⟨⟨h.there.nod, h.there.rng⟩, ⟨h.saved.nod, h.saved.rng⟩, ⟨h.grads.nod, h.grads.rng⟩⟩
theorem Rf.sum_le {f : Int → Int} {B : Int} (h : ∀ z, 0 ≤ f z ∧ f z ≤ B) : ∀ l : List Int, 0 ≤ Rf.sumF f l ∧ Rf.sumF f l ≤ l.length * B
  | [] => by simp [Rf.sumF]
  | x :: r => by
    have h1 := h x
    have h2 := Rf.sum_le h r
    simp only [Rf.sumF, List.map_cons, List.sum_cons, List.length_cons] at h2 ⊢
    rw [show ((r.length + 1 : Nat) : Int) * B = r.length * B + B by rw [Int.natCast_add, Int.add_mul]; simp]
    omega
theorem Rf.wd_le {c : CkN} (h : ∀ z ∈ c.words, 1 ≤ z ∧ z ≤ 65536) (z : Int) : 0 ≤ Ck.wd c z ∧ Ck.wd c z ≤ 65536 := by
  unfold Ck.wd
  rw [List.getD_eq_getElem?_getD]
  rcases Nat.lt_or_ge z.toNat c.words.length with hl | hl
  · rw [List.getElem?_eq_getElem hl]
    have := h _ (List.getElem_mem hl)
    simp only [Option.getD_some]; omega
  · rw [List.getElem?_eq_none hl]; simp
theorem Rf.tw_le {c : CkN} (h : ∀ z ∈ c.words, 1 ≤ z ∧ z ≤ 65536) (z : Int) : 0 ≤ Rf.tw c z ∧ Rf.tw c z ≤ 65536 := by
  unfold Rf.tw
  split
  · omega
  · exact Rf.wd_le h z
theorem Rf.sumF_take (f : Int → Int) {l : List Int} {k : Nat} (h : k < l.length) : Rf.sumF f (l.take (k + 1)) = Rf.sumF f (l.take k) + f l[k] := by
  rw [List.take_succ_eq_append_getElem h, Rf.sumF_snoc]
theorem RfF.cells13 {F : RfF} {V : RfV} {n : NetD} {c : CkN} {x : RfS} {w : World} {g : Nat} {t : TypeId} (h : Blk w g t (F.cells V n c x)) :
    w.cell? ⟨g, 0, none⟩ = some (.slice F.A n.inn.length F.c) ∧ w.cell? ⟨g, 1, none⟩ = some (.slice F.N n.nodes.length F.d) ∧ w.cell? ⟨g, 2, none⟩ = some (.slice F.Wd c.words.length F.cw) ∧ w.cell? ⟨g, 3, none⟩ = some (.slice F.Or c.order.length F.co) ∧ w.cell? ⟨g, 4, none⟩ = some (.int .i64 c.loss) ∧ w.cell? ⟨g, 5, none⟩ = some (.int .i64 c.cap) ∧ w.cell? ⟨g, 6, none⟩ = some (.slice V.Th x.there.length V.ct) ∧ w.cell? ⟨g, 7, none⟩ = some (.slice V.Sa x.saved.length V.cs) ∧ w.cell? ⟨g, 8, none⟩ = some (.slice V.Gr x.grads.length V.cg) ∧ w.cell? ⟨g, 9, none⟩ = some (.int .i64 x.em) ∧ w.cell? ⟨g, 10, none⟩ = some (.int .i64 x.sd) ∧ w.cell? ⟨g, 11, none⟩ = some (.int .i64 x.done) ∧ w.cell? ⟨g, 12, none⟩ = some (.int .i64 x.peak) := by
  refine ⟨?_, ?_, ?_, ?_, ?_, ?_, ?_, ?_, ?_, ?_, ?_, ?_, ?_⟩ <;> rw [h.cell] <;> rfl
set_option maxHeartbeats 8000000 in
set_option maxRecDepth 100000 in
theorem ref18_sum (F : RfF) (V : RfV) (n : NetD) (c : CkN) (x : RfS) (w : World) (hC : RfC n c) (hG : Rf.GoodS c x) (hF : F.Fix n c w) (hV : V.At x w) :
    Calls Tryz.prog 17 #[.agg (F.cells V n c x)] w fun e w' => e = .returned (.int .i64 (Rf.sum c x)) ∧ Later w w' := by
  have hl0 : Later w (w.alloc (.cells (F.cells V n c x) 49)) := (Later.refl w).alloc _
  have hk := Blk.new w 49 (F.cells V n c x)
  have hWI := hF.words.below hl0 (Nat.le_refl _)
  have hTI := hV.there.below hl0 (Nat.le_refl _)
  have hGI := hV.grads.below hl0 (Nat.le_refl _)
  have hT := hG.there
  have hGr := hG.grads
  have hwl := hC.wl
  have hnl := hC.nl
  have hTl : x.there.length ≤ 1000 := by have := hT.len; omega
  have hGl : x.grads.length ≤ 1000 := by have := hGr.len; omega
  have hs1 := fun k => Rf.sum_le (Rf.tw_le hC.w) (x.there.take k)
  have hs2 := fun k => Rf.sum_le (Rf.wd_le hC.w) (x.grads.take k)
  have hs3 := Rf.sum_le (Rf.tw_le hC.w) x.there
  have hwb := Rf.wd_le hC.w
  have hsum : Rf.sum c x = Rf.sumF (Rf.tw c) x.there + Rf.sumF (Ck.wd c) x.grads := rfl
  obtain ⟨-, -, y2, -, -, -, y6, -, y8, -⟩ := RfF.cells13 hk
  have hys := And.intro y2 (And.intro y6 y8)
  clear y2 y6 y8 hC hG hF hV hk
  generalize F.cells V n c x = cs at *
  generalize F.Wd = Wd at *
  generalize V.Th = Th at *
  generalize V.Gr = Gr at *
  generalize Rf.sum c x = sm at *
  generalize x.there = th at *
  generalize x.grads = gr at *
  have Hl0 := Lib.hid hl0
  have HWI := Lib.hid hWI
  have HTI := Lib.hid hTI
  have HGI := Lib.hid hGI
  have Hs1 := Lib.hid hs1
  have Hs2 := Lib.hid hs2
  have Hs3 := Lib.hid hs3
  have Hwb := Lib.hid hwb
  have HT := Lib.hid hT
  have HGr := Lib.hid hGr
  have Hsum := Lib.hid hsum
  have Hwl := Lib.hid hwl
  have Hys := Lib.hid hys
  clear hl0 hWI hTI hGI hs1 hs2 hs3 hwb hT hGr hsum hwl hys
  go_enter Tryz.func17, Tryz.ntmps17
  go_wp2_with fail
  generalize w.alloc (.cells cs 49) = w1 at *
  go_loopw [3, 4] (fun t i wx => ∃ k : Nat, k ≤ th.length ∧ i = .int .i64 (k : Int) ∧ t = .int .i64 (Rf.sumF (Rf.tw c) (th.take k)) ∧ Later w1 wx) (fun _ i _ => th.length - (intOf i).toNat)
  case atStart => exact ⟨0, Nat.zero_le _, rfl, rfl, Later.refl _⟩
  case round =>
    obtain ⟨k, hk, rfl, rfl, hlw⟩ := hrel
    obtain ⟨y2, y6, y8⟩ := Hys.out
    have z2 := hlw.cell y2
    have z6 := hlw.cell y6
    clear y2 y6 y8
    by_cases hlt : k < th.length
    · obtain ⟨b, off, hb, -, hc⟩ := HTI.out.below hlw (Nat.le_refl _) k hlt
      rw [getD_at hlt] at hc
      have hr := HT.out.2 _ (List.getElem_mem hlt)
      have hst := Rf.sumF_take (Rf.tw c) hlt
      have hb1 := Hs1.out k
      have hkl : ((th.take k).length : Int) * 65536 ≤ 1000 * 65536 := Int.mul_le_mul_of_nonneg_right (by simp; omega) (by omega)
      generalize th[k] = z at *
      generalize Rf.sumF (Rf.tw c) (th.take k) = t at *
      subst hb
      have k0 : (k : Int) < (th.length : Int) := by omega
      by_cases hz : z = 0
      · have e1 : (z != 0) = false := by simp [hz]
        have HS := Lib.hid (show Rf.sumF (Rf.tw c) (th.take (k + 1)) = t by rw [hst, hz]; simp [Rf.tw])
        have Hlw := Lib.hid hlw
        clear hlw
        clear hz hst
        go_wp2_with fail
        go_roundw
        case rel => exact ⟨k + 1, by omega, by go_num, by rw [HS.out], Hlw.out⟩
        case measure => simp [intOf]; omega
      · have e1 : (z != 0) = true := by simp [hz]
        have HS := Lib.hid (show Rf.sumF (Rf.tw c) (th.take (k + 1)) = t + Ck.wd c z by rw [hst, Rf.tw_pos hz])
        obtain ⟨zn, rfl⟩ := Int.eq_ofNat_of_zero_le hr.1
        have hzn : zn < c.words.length := by omega
        obtain ⟨b2, o2, hb2, -, hc2⟩ := HWI.out.below hlw (Nat.le_refl _) zn hzn
        subst hb2
        have hwz := Hwb.out zn
        change _ = some (Value.int .i64 (Ck.wd c zn)) at hc2
        generalize Ck.wd c zn = wz at *
        have hwrap : IntKind.i64.wrap (t + wz) = t + wz := IntWalk.i64_in _ (by omega)
        have hlw2 := Lib.hid (fun n => hlw.trans (Later.drewN (Later.refl _) n))
        have k1 : (zn : Int) < (c.words.length : Int) := by omega
        clear hz hst hlw hb1 hkl
        go_wp2_with fail
        go_quiet (fail)
        go_wp2_with fail
        go_roundw
        case rel => exact ⟨k + 1, by omega, by go_num, by rw [HS.out], hlw2.out _⟩
        case measure => simp [intOf]; omega
    · obtain rfl : k = th.length := by omega
      rw [List.take_length]
      have hb0 := Hs3.out
      have hkl0 : (th.length : Int) * 65536 ≤ 1000 * 65536 := Int.mul_le_mul_of_nonneg_right (by omega) (by omega)
      have HSu := Lib.hid Hsum.out
      generalize Rf.sumF (Rf.tw c) th = t0 at *
      have Hlw := Lib.hid hlw
      clear hlw
      go_wp2_with fail
      go_loopw [3, 5] (fun t i wx => ∃ k : Nat, k ≤ gr.length ∧ i = .int .i64 (k : Int) ∧ t = .int .i64 (t0 + Rf.sumF (Ck.wd c) (gr.take k)) ∧ Later w1 wx) (fun _ i _ => gr.length - (intOf i).toNat)
      case atStart => exact ⟨0, Nat.zero_le _, rfl, by simp [Rf.sumF], Hlw.out⟩
      case round =>
        clear z2 z6
        obtain ⟨k, hk, rfl, rfl, hlv⟩ := hrel
        obtain ⟨y2, y6, y8⟩ := Hys.out
        have z2 := hlv.cell y2
        have z8 := hlv.cell y8
        clear y2 y6 y8
        by_cases hlt : k < gr.length
        · obtain ⟨b, off, hb, -, hc⟩ := HGI.out.below hlv (Nat.le_refl _) k hlt
          rw [getD_at hlt] at hc
          have hr := HGr.out.2 _ (List.getElem_mem hlt)
          have hst := Rf.sumF_take (Ck.wd c) hlt
          have hb1 := Hs2.out k
          have hkl : ((gr.take k).length : Int) * 65536 ≤ 1000 * 65536 := Int.mul_le_mul_of_nonneg_right (by simp; omega) (by omega)
          generalize gr[k] = z at *
          generalize Rf.sumF (Ck.wd c) (gr.take k) = t at *
          subst hb
          have k0 : (k : Int) < (gr.length : Int) := by omega
          have HS := Lib.hid hst
          obtain ⟨zn, rfl⟩ := Int.eq_ofNat_of_zero_le hr.1
          have hzn : zn < c.words.length := by omega
          obtain ⟨b2, o2, hb2, -, hc2⟩ := HWI.out.below hlv (Nat.le_refl _) zn hzn
          subst hb2
          have hwz := Hwb.out zn
          change _ = some (Value.int .i64 (Ck.wd c zn)) at hc2
          generalize Ck.wd c zn = wz at *
          have hwrap : IntKind.i64.wrap (t0 + t + wz) = t0 + t + wz := IntWalk.i64_in _ (by omega)
          have HE := Lib.hid (show t0 + (t + wz) = t0 + t + wz by omega)
          have hlw2 := Lib.hid (fun n => hlv.trans (Later.drewN (Later.refl _) n))
          have k1 : (zn : Int) < (c.words.length : Int) := by omega
          clear hst hlv hb1 hkl
          go_wp2_with fail
          go_quiet (fail)
          go_wp2_with fail
          go_roundw
          case rel => exact ⟨k + 1, by omega, by go_num, by rw [HS.out, HE.out], hlw2.out _⟩
          case measure => simp [intOf]; omega
        · obtain rfl : k = gr.length := by omega
          rw [List.take_length]
          have HE := Lib.hid (show sm = t0 + Rf.sumF (Ck.wd c) gr from HSu.out)
          have HL := Lib.hid (Hl0.out.trans hlv)
          have Hlv := Lib.hid hlv
          clear hlv
          go_wp2_with fail
          go_ret
          exact ⟨by rw [HE.out]; rfl, HL.out⟩
set_option maxHeartbeats 8000000 in
set_option maxRecDepth 100000 in
theorem ref18_ready (F : RfF) (V : RfV) (n : NetD) (c : CkN) (x : RfS) (w : World) (hC : RfC n c) (hG : Rf.GoodS c x) (hF : F.Fix n c w) (hV : V.At x w) (m : Nat) (hm : m < n.nodes.length) :
    Calls Tryz.prog 36 #[.agg (F.cells V n c x), .int .i64 ((m + 1 : Nat) : Int)] w fun e w' => e = .returned (.bool (Rf.ready c x ((m + 1 : Nat) : Int))) ∧ Later w w' := by
  have hl0 : Later w (w.alloc (.cells (F.cells V n c x) 49)) := (Later.refl w).alloc _
  have hk := Blk.new w 49 (F.cells V n c x)
  have hTI := hV.there.below hl0 (Nat.le_refl _)
  have hnl := hC.nl
  have hwl := hC.wl
  have hTl : x.there.length ≤ 1000 := by have := hG.there.len; omega
  have hNd := (hF.later hl0).net.2
  have hins := hC.ins m hm
  have hok := hC.ok.2.2 _ (List.getElem_mem hm)
  obtain ⟨-, y1, -, -, -, -, y6, -⟩ := RfF.cells13 hk
  obtain ⟨b, off, S, sc, J, ic, Q, qc, hNe, hNA, -, hI, -⟩ := hNd.at_ hm
  have hil := hok.2.2.1
  have hrd : Rf.ready c x ((m + 1 : Nat) : Int) = n.nodes[m].ins.all fun i => x.there.contains i := by unfold Rf.ready; rw [hins]
  have hm1 : ((m + 1 : Nat) : Int) = (m : Int) + 1 := by omega
  rw [hm1] at hrd ⊢
  generalize n.nodes[m] = v at *
  obtain ⟨⟨-, -, -, -, -, -, -, -, y8, -⟩, -, hIJ, -⟩ := hNA
  have j1 : IntKind.i64.wrap ((m : Int) + 1 - 1) = (m : Int) := by rw [IntWalk.i64_in _ (by omega)]; omega
  have j2 : (m : Int) < n.nodes.length := by omega
  have j0 : (0 : Int) ≤ (m : Int) := by omega
  clear hC hG hF hV hk hNd hins hok hI hm1
  generalize F.cells V n c x = cs at *
  generalize F.N = N at *
  generalize V.Th = Th at *
  generalize Rf.ready c x ((m : Int) + 1) = rv at *
  generalize x.there = th at *
  subst hNe
  have hy6 := y6
  have Hl0 := Lib.hid hl0
  have HTI := Lib.hid hTI
  have HIJ := Lib.hid hIJ
  have Hrd := Lib.hid hrd
  have Hwl := Lib.hid hwl
  have Hy6 := Lib.hid hy6
  clear hl0 hTI hIJ hrd hwl hy6
  go_enter Tryz.func36, Tryz.ntmps36
  go_wp2_with fail
  generalize w.alloc (.cells cs 49) = w1 at *
  go_loopw [6] (fun i wx => ∃ k : Nat, k ≤ v.ins.length ∧ i = .int .i64 (k : Int) ∧ ((v.ins.take k).all fun i => th.contains i) = true ∧ Later w1 wx) (fun i _ => v.ins.length - (intOf i).toNat)
  case atStart => exact ⟨0, Nat.zero_le _, rfl, rfl, Later.refl _⟩
  case round =>
    clear y1 y6 y8
    obtain ⟨k, hk, rfl, hal, hlw⟩ := hrel
    by_cases hlt : k < v.ins.length
    · have z6 := hlw.cell Hy6.out
      obtain ⟨b3, o3, hb3, -, hc3⟩ := HIJ.out.below hlw (Nat.le_refl _) k hlt
      subst hb3
      rw [getD_at hlt] at hc3
      have HT := Lib.hid (List.take_succ_eq_append_getElem hlt)
      have hmem : v.ins[k] ∈ v.ins := List.getElem_mem hlt
      generalize v.ins[k] = u at *
      have HCall := Lib.hid (fun n => ref18_has Th V.ct th u (wr.drewN n) (by omega) ((HTI.out.below hlw (Nat.le_refl _)).drewN n))
      have k0 : (k : Int) < (v.ins.length : Int) := by omega
      have hl2 := Lib.hid (fun n => hlw.trans (Later.drewN (Later.refl _) n))
      by_cases hh : hasB th u = true
      · have HA := Lib.hid (show ((v.ins.take (k + 1)).all fun i => th.contains i) = true by rw [HT.out, List.all_append, hal]; simpa [hasB] using hh)
        rw [hh] at HCall
        clear hh hal hlw hmem
        go_wp2_with fail
        go_quiet ((go_at_call 22; exact quiet_same (HCall.out _)))
        go_wp2_with fail
        go_roundw
        case rel => exact ⟨k + 1, by omega, by go_num, HA.out, hl2.out _⟩
        case measure => simp [intOf]; omega
      · have hf : hasB th u = false := by simpa using hh
        have HE := Lib.hid (show rv = false by
          rw [Hrd.out, List.all_eq_false]
          exact ⟨u, hmem, by rw [show th.contains u = false from hf]; simp⟩)
        rw [hf] at HCall
        clear hh hf hal hlw hmem
        go_wp2_with fail
        go_quiet ((go_at_call 22; exact quiet_same (HCall.out _)))
        go_wp2_with fail
        go_ret
        exact ⟨by rw [HE.out]; rfl, Hl0.out.trans (hl2.out _)⟩
    · obtain rfl : k = v.ins.length := by omega
      rw [List.take_length] at hal
      have HE := Lib.hid (show rv = true by rw [Hrd.out, hal])
      have HL := Lib.hid (Hl0.out.trans hlw)
      clear hal hlw
      go_wp2_with fail
      go_ret
      exact ⟨by rw [HE.out]; rfl, HL.out⟩
end Go.Proofs.YtmmgdgfpemkdnaaGreat
/- The reference of layer 18: Do: contract. Printed by gen/refdo.py. -/
namespace Go.Proofs.YtmmgdgfpemkdnaaGreat
open Go.RowKit
/-- A row that lies in none of the blocks h .. m. -/
def RfRow (h m : Nat) (w : World) (A : Option Addr) (l : List Int) : Prop := Ints .i64 w A l ∧ (l ≠ [] → ∀ a, A = some a → ¬ (h ≤ a.block ∧ a.block ≤ m))
theorem RfRow.later {h m : Nat} {w w' : World} {A : Option Addr} {l : List Int} (k : RfRow h m w A l) (hl : Later w w') : RfRow h m w' A l := ⟨k.1.below hl (Nat.le_refl _), k.2⟩
theorem RfRow.set {h m : Nat} {w : World} {A : Option Addr} {l : List Int} (k : RfRow h m w A l) {g : Nat} (hg : h ≤ g ∧ g ≤ m) (i : Nat) (u : Value) : RfRow h m (w.setCell ⟨g, i, none⟩ u) A l := by
  refine ⟨?_, k.2⟩
  by_cases hl : l = []
  · subst hl; exact fun j hj => absurd hj (by simp)
  · exact ((Fr.refl (fun b => h ≤ b ∧ b ≤ m) w).setCell (p := ⟨g, i, none⟩) (fun _ => hg) u).ints k.1 (fun a e => k.2 hl a e)
theorem RfRow.old {h m : Nat} {w : World} {A : Option Addr} {l : List Int} (k : Ints .i64 w A l) (hh : w.heap.size ≤ h) : RfRow h m w A l := by
  refine ⟨k, fun hl a e q => ?_⟩
  match l, hl with
  | x :: r, _ =>
    obtain ⟨b, off, e2, hb, _⟩ := k 0 (by simp)
    rw [e] at e2
    injection e2 with e2
    subst e2
    simp only at q
    omega
theorem RfRow.new {h m : Nat} {w : World} {A : Option Addr} {l : List Int} (k : Ints .i64 w A l) {B : Nat} (hA : ∀ a, A = some a → B ≤ a.block) (hB : m < B) : RfRow h m w A l :=
  ⟨k, fun _ a e q => by have := hA a e; omega⟩
/-- None of a state's rows lies in the block g. -/
def RfV.Off (V : RfV) (x : RfS) (g : Nat) : Prop := (x.there ≠ [] → ∀ a, V.Th = some a → a.block ≠ g) ∧ (x.saved ≠ [] → ∀ a, V.Sa = some a → a.block ≠ g) ∧ (x.grads ≠ [] → ∀ a, V.Gr = some a → a.block ≠ g)
def zeros13 : Array Value := #[.slice none 0 0, .slice none 0 0, .slice none 0 0, .slice none 0 0, .int .i64 0, .int .i64 0, .slice none 0 0, .slice none 0 0, .slice none 0 0, .int .i64 0, .int .i64 0, .int .i64 0, .int .i64 0]
/-- The three boxes of Do: the state as it was, the result, the state that changes. -/
structure RfB (h g6 g8 : Nat) (F : RfF) (V : RfV) (n : NetD) (c : CkN) (x : RfS) (V2 : RfV) (y : RfS) (w0 w : World) : Prop where
  hh : w0.heap.size ≤ h
  h6 : h < g6
  h8 : g6 < g8
  later : Later w0 w
  b3 : Blk w h 49 (F.cells V n c x)
  b6 : Blk w g6 49 zeros13
  b8 : Blk w g8 49 (F.cells V2 n c y)
  fix : F.Fix n c w0
  old : V.At x w0
  th : RfRow g6 g8 w V2.Th y.there
  sa : RfRow g6 g8 w V2.Sa y.saved
  gr : RfRow g6 g8 w V2.Gr y.grads
  off : ∀ g, g < w0.heap.size → V.Off x g → V2.Off y g
section
variable {h g6 g8 : Nat} {F : RfF} {V V2 : RfV} {n : NetD} {c : CkN} {x y : RfS} {w0 w w' : World}
theorem RfB.to_later (k : RfB h g6 g8 F V n c x V2 y w0 w) (hl : Later w w') : RfB h g6 g8 F V n c x V2 y w0 w' :=
  ⟨k.hh, k.h6, k.h8, k.later.trans hl, hl.blk k.b3, hl.blk k.b6, hl.blk k.b8, k.fix, k.old, k.th.later hl, k.sa.later hl, k.gr.later hl, k.off⟩
theorem RfB.fixw (k : RfB h g6 g8 F V n c x V2 y w0 w) : F.Fix n c w := k.fix.later k.later
theorem RfB.atx (k : RfB h g6 g8 F V n c x V2 y w0 w) : V.At x w := k.old.later k.later
theorem RfB.aty (k : RfB h g6 g8 F V n c x V2 y w0 w) : V2.At y w := ⟨k.th.1, k.sa.1, k.gr.1⟩
theorem RfB.put (k : RfB h g6 g8 F V n c x V2 y w0 w) (i : Nat) (u : Value) : Later w0 (w.setCell ⟨g8, i, none⟩ u) ∧ Blk (w.setCell ⟨g8, i, none⟩ u) h 49 (F.cells V n c x) ∧ Blk (w.setCell ⟨g8, i, none⟩ u) g6 49 zeros13 := by
  have := k.hh
  have := k.h6
  have := k.h8
  exact ⟨k.later.set (p := ⟨g8, i, none⟩) (by simp only; omega) u, k.b3.far (p := ⟨g8, i, none⟩) (by simp only; omega) u, k.b6.far (p := ⟨g8, i, none⟩) (by simp only; omega) u⟩
theorem RfB.there (k : RfB h g6 g8 F V n c x V2 y w0 w) (A : Option Addr) (m : Nat) (l : List Int) (hI : RfRow g6 g8 w A l) (hA : ∀ a, A = some a → g8 < a.block) : RfB h g6 g8 F V n c x { V2 with Th := A, ct := m } { y with there := l } w0 (w.setCell ⟨g8, 6, none⟩ (.slice A l.length m)) :=
  ⟨k.hh, k.h6, k.h8, (k.put 6 _).1, (k.put 6 _).2.1, (k.put 6 _).2.2, k.b8.set_ 6 _, k.fix, k.old, hI.set ⟨Nat.le_of_lt k.h8, Nat.le_refl _⟩ 6 _, k.sa.set ⟨Nat.le_of_lt k.h8, Nat.le_refl _⟩ 6 _, k.gr.set ⟨Nat.le_of_lt k.h8, Nat.le_refl _⟩ 6 _, fun g h q => ⟨(fun _ a e => by have := hA a e; have := k.hh; have := k.h6; have := k.h8; omega), (k.off g h q).2.1, (k.off g h q).2.2⟩⟩
theorem RfB.saved (k : RfB h g6 g8 F V n c x V2 y w0 w) (A : Option Addr) (m : Nat) (l : List Int) (hI : RfRow g6 g8 w A l) (hA : ∀ a, A = some a → g8 < a.block) : RfB h g6 g8 F V n c x { V2 with Sa := A, cs := m } { y with saved := l } w0 (w.setCell ⟨g8, 7, none⟩ (.slice A l.length m)) :=
  ⟨k.hh, k.h6, k.h8, (k.put 7 _).1, (k.put 7 _).2.1, (k.put 7 _).2.2, k.b8.set_ 7 _, k.fix, k.old, k.th.set ⟨Nat.le_of_lt k.h8, Nat.le_refl _⟩ 7 _, hI.set ⟨Nat.le_of_lt k.h8, Nat.le_refl _⟩ 7 _, k.gr.set ⟨Nat.le_of_lt k.h8, Nat.le_refl _⟩ 7 _, fun g h q => ⟨(k.off g h q).1, (fun _ a e => by have := hA a e; have := k.hh; have := k.h6; have := k.h8; omega), (k.off g h q).2.2⟩⟩
theorem RfB.grads (k : RfB h g6 g8 F V n c x V2 y w0 w) (A : Option Addr) (m : Nat) (l : List Int) (hI : RfRow g6 g8 w A l) (hA : ∀ a, A = some a → g8 < a.block) : RfB h g6 g8 F V n c x { V2 with Gr := A, cg := m } { y with grads := l } w0 (w.setCell ⟨g8, 8, none⟩ (.slice A l.length m)) :=
  ⟨k.hh, k.h6, k.h8, (k.put 8 _).1, (k.put 8 _).2.1, (k.put 8 _).2.2, k.b8.set_ 8 _, k.fix, k.old, k.th.set ⟨Nat.le_of_lt k.h8, Nat.le_refl _⟩ 8 _, k.sa.set ⟨Nat.le_of_lt k.h8, Nat.le_refl _⟩ 8 _, hI.set ⟨Nat.le_of_lt k.h8, Nat.le_refl _⟩ 8 _, fun g h q => ⟨(k.off g h q).1, (k.off g h q).2.1, (fun _ a e => by have := hA a e; have := k.hh; have := k.h6; have := k.h8; omega)⟩⟩
theorem RfB.em (k : RfB h g6 g8 F V n c x V2 y w0 w) (z : Int) : RfB h g6 g8 F V n c x V2 { y with em := z } w0 (w.setCell ⟨g8, 9, none⟩ (.int .i64 z)) :=
  ⟨k.hh, k.h6, k.h8, (k.put 9 _).1, (k.put 9 _).2.1, (k.put 9 _).2.2, k.b8.set_ 9 _, k.fix, k.old, k.th.set ⟨Nat.le_of_lt k.h8, Nat.le_refl _⟩ 9 _, k.sa.set ⟨Nat.le_of_lt k.h8, Nat.le_refl _⟩ 9 _, k.gr.set ⟨Nat.le_of_lt k.h8, Nat.le_refl _⟩ 9 _, k.off⟩
theorem RfB.sd (k : RfB h g6 g8 F V n c x V2 y w0 w) (z : Int) : RfB h g6 g8 F V n c x V2 { y with sd := z } w0 (w.setCell ⟨g8, 10, none⟩ (.int .i64 z)) :=
  ⟨k.hh, k.h6, k.h8, (k.put 10 _).1, (k.put 10 _).2.1, (k.put 10 _).2.2, k.b8.set_ 10 _, k.fix, k.old, k.th.set ⟨Nat.le_of_lt k.h8, Nat.le_refl _⟩ 10 _, k.sa.set ⟨Nat.le_of_lt k.h8, Nat.le_refl _⟩ 10 _, k.gr.set ⟨Nat.le_of_lt k.h8, Nat.le_refl _⟩ 10 _, k.off⟩
theorem RfB.done (k : RfB h g6 g8 F V n c x V2 y w0 w) (z : Int) : RfB h g6 g8 F V n c x V2 { y with done := z } w0 (w.setCell ⟨g8, 11, none⟩ (.int .i64 z)) :=
  ⟨k.hh, k.h6, k.h8, (k.put 11 _).1, (k.put 11 _).2.1, (k.put 11 _).2.2, k.b8.set_ 11 _, k.fix, k.old, k.th.set ⟨Nat.le_of_lt k.h8, Nat.le_refl _⟩ 11 _, k.sa.set ⟨Nat.le_of_lt k.h8, Nat.le_refl _⟩ 11 _, k.gr.set ⟨Nat.le_of_lt k.h8, Nat.le_refl _⟩ 11 _, k.off⟩
theorem RfB.peak (k : RfB h g6 g8 F V n c x V2 y w0 w) (z : Int) : RfB h g6 g8 F V n c x V2 { y with peak := z } w0 (w.setCell ⟨g8, 12, none⟩ (.int .i64 z)) :=
  ⟨k.hh, k.h6, k.h8, (k.put 12 _).1, (k.put 12 _).2.1, (k.put 12 _).2.2, k.b8.set_ 12 _, k.fix, k.old, k.th.set ⟨Nat.le_of_lt k.h8, Nat.le_refl _⟩ 12 _, k.sa.set ⟨Nat.le_of_lt k.h8, Nat.le_refl _⟩ 12 _, k.gr.set ⟨Nat.le_of_lt k.h8, Nat.le_refl _⟩ 12 _, k.off⟩
end
theorem frozen13 {w : World} {g : Nat} {t : TypeId} {cs : Array Value} (h : Blk w g t cs) : w.frozen? ⟨g, 0, none⟩ = false ∧ w.frozen? ⟨g, 1, none⟩ = false ∧ w.frozen? ⟨g, 2, none⟩ = false ∧ w.frozen? ⟨g, 3, none⟩ = false ∧ w.frozen? ⟨g, 4, none⟩ = false ∧ w.frozen? ⟨g, 5, none⟩ = false ∧ w.frozen? ⟨g, 6, none⟩ = false ∧ w.frozen? ⟨g, 7, none⟩ = false ∧ w.frozen? ⟨g, 8, none⟩ = false ∧ w.frozen? ⟨g, 9, none⟩ = false ∧ w.frozen? ⟨g, 10, none⟩ = false ∧ w.frozen? ⟨g, 11, none⟩ = false ∧ w.frozen? ⟨g, 12, none⟩ = false :=
  ⟨h.frozen 0, h.frozen 1, h.frozen 2, h.frozen 3, h.frozen 4, h.frozen 5, h.frozen 6, h.frozen 7, h.frozen 8, h.frozen 9, h.frozen 10, h.frozen 11, h.frozen 12⟩
theorem cells_zero13 {w : World} {g : Nat} {t : TypeId} (h : Blk w g t zeros13) : w.cell? ⟨g, 0, none⟩ = some (.slice none 0 0) ∧ w.cell? ⟨g, 1, none⟩ = some (.slice none 0 0) ∧ w.cell? ⟨g, 2, none⟩ = some (.slice none 0 0) ∧ w.cell? ⟨g, 3, none⟩ = some (.slice none 0 0) ∧ w.cell? ⟨g, 4, none⟩ = some (.int .i64 0) ∧ w.cell? ⟨g, 5, none⟩ = some (.int .i64 0) ∧ w.cell? ⟨g, 6, none⟩ = some (.slice none 0 0) ∧ w.cell? ⟨g, 7, none⟩ = some (.slice none 0 0) ∧ w.cell? ⟨g, 8, none⟩ = some (.slice none 0 0) ∧ w.cell? ⟨g, 9, none⟩ = some (.int .i64 0) ∧ w.cell? ⟨g, 10, none⟩ = some (.int .i64 0) ∧ w.cell? ⟨g, 11, none⟩ = some (.int .i64 0) ∧ w.cell? ⟨g, 12, none⟩ = some (.int .i64 0) := by
  refine ⟨?_, ?_, ?_, ?_, ?_, ?_, ?_, ?_, ?_, ?_, ?_, ?_, ?_⟩ <;> rw [h.cell] <;> rfl
theorem later13 {W w : World} {g : Nat} (h : Later W w) (hg : W.heap.size ≤ g) (a0 a1 a2 a3 a4 a5 a6 a7 a8 a9 a10 a11 a12 : Value) : Later W (((((((((((((w.setCell ⟨g, 0, none⟩ a0).setCell ⟨g, 1, none⟩ a1).setCell ⟨g, 2, none⟩ a2).setCell ⟨g, 3, none⟩ a3).setCell ⟨g, 4, none⟩ a4).setCell ⟨g, 5, none⟩ a5).setCell ⟨g, 6, none⟩ a6).setCell ⟨g, 7, none⟩ a7).setCell ⟨g, 8, none⟩ a8).setCell ⟨g, 9, none⟩ a9).setCell ⟨g, 10, none⟩ a10).setCell ⟨g, 11, none⟩ a11).setCell ⟨g, 12, none⟩ a12) :=
  ((((((((((((h.set (p := ⟨g, 0, none⟩) hg a0).set (p := ⟨g, 1, none⟩) hg a1).set (p := ⟨g, 2, none⟩) hg a2).set (p := ⟨g, 3, none⟩) hg a3).set (p := ⟨g, 4, none⟩) hg a4).set (p := ⟨g, 5, none⟩) hg a5).set (p := ⟨g, 6, none⟩) hg a6).set (p := ⟨g, 7, none⟩) hg a7).set (p := ⟨g, 8, none⟩) hg a8).set (p := ⟨g, 9, none⟩) hg a9).set (p := ⟨g, 10, none⟩) hg a10).set (p := ⟨g, 11, none⟩) hg a11).set (p := ⟨g, 12, none⟩) hg a12
theorem RfB.at13 {h g6 g8 : Nat} {F : RfF} {V V2 : RfV} {n : NetD} {c : CkN} {x y : RfS} {w0 w : World} (k : RfB h g6 g8 F V n c x V2 y w0 w) (a0 a1 a2 a3 a4 a5 a6 a7 a8 a9 a10 a11 a12 : Value) : V2.At y (((((((((((((w.setCell ⟨g6, 0, none⟩ a0).setCell ⟨g6, 1, none⟩ a1).setCell ⟨g6, 2, none⟩ a2).setCell ⟨g6, 3, none⟩ a3).setCell ⟨g6, 4, none⟩ a4).setCell ⟨g6, 5, none⟩ a5).setCell ⟨g6, 6, none⟩ a6).setCell ⟨g6, 7, none⟩ a7).setCell ⟨g6, 8, none⟩ a8).setCell ⟨g6, 9, none⟩ a9).setCell ⟨g6, 10, none⟩ a10).setCell ⟨g6, 11, none⟩ a11).setCell ⟨g6, 12, none⟩ a12) ∧ Later w0 (((((((((((((w.setCell ⟨g6, 0, none⟩ a0).setCell ⟨g6, 1, none⟩ a1).setCell ⟨g6, 2, none⟩ a2).setCell ⟨g6, 3, none⟩ a3).setCell ⟨g6, 4, none⟩ a4).setCell ⟨g6, 5, none⟩ a5).setCell ⟨g6, 6, none⟩ a6).setCell ⟨g6, 7, none⟩ a7).setCell ⟨g6, 8, none⟩ a8).setCell ⟨g6, 9, none⟩ a9).setCell ⟨g6, 10, none⟩ a10).setCell ⟨g6, 11, none⟩ a11).setCell ⟨g6, 12, none⟩ a12) := by
  have H : g6 ≤ g6 ∧ g6 ≤ g8 := ⟨Nat.le_refl _, Nat.le_of_lt k.h8⟩
  exact ⟨⟨(((((((((((((k.th.set H 0 a0).set H 1 a1).set H 2 a2).set H 3 a3).set H 4 a4).set H 5 a5).set H 6 a6).set H 7 a7).set H 8 a8).set H 9 a9).set H 10 a10).set H 11 a11).set H 12 a12).1, (((((((((((((k.sa.set H 0 a0).set H 1 a1).set H 2 a2).set H 3 a3).set H 4 a4).set H 5 a5).set H 6 a6).set H 7 a7).set H 8 a8).set H 9 a9).set H 10 a10).set H 11 a11).set H 12 a12).1, (((((((((((((k.gr.set H 0 a0).set H 1 a1).set H 2 a2).set H 3 a3).set H 4 a4).set H 5 a5).set H 6 a6).set H 7 a7).set H 8 a8).set H 9 a9).set H 10 a10).set H 11 a11).set H 12 a12).1⟩, later13 k.later (by have := k.hh; have := k.h6; omega) _ _ _ _ _ _ _ _ _ _ _ _ _⟩
def DoP18 (F : RfF) (V : RfV) (n : NetD) (c : CkN) (x : RfS) (k id : Int) (w : World) (e : Ending) (w' : World) : Prop :=
  ∃ V' : RfV, e = .returned (.tuple #[.agg (F.cells V' n c (Rf.do_ c x k id).1), .int .i64 (Rf.do_ c x k id).2]) ∧ V'.At (Rf.do_ c x k id).1 w' ∧ Later w w' ∧ ∀ g, g < w.heap.size → V.Off x g → V'.Off (Rf.do_ c x k id).1 g
theorem DoP18.of {F : RfF} {V : RfV} {n : NetD} {c : CkN} {x x' : RfS} {k id er : Int} {w w' : World} (V' : RfV) (hd : Rf.do_ c x k id = (x', er)) (hA : V'.At x' w') (hl : Later w w') (ho : ∀ g, g < w.heap.size → V.Off x g → V'.Off x' g) : DoP18 F V n c x k id w (.returned (.tuple #[.agg (F.cells V' n c x'), .int .i64 er])) w' := ⟨V', by rw [hd], by rw [hd]; exact hA, hl, by rw [hd]; exact ho⟩
end Go.Proofs.YtmmgdgfpemkdnaaGreat
/- The reference of layer 18: Do: contract. Printed by gen/refdo2.py. -/
namespace Go.Proofs.YtmmgdgfpemkdnaaGreat
open Go.RowKit
set_option maxHeartbeats 32000000 in
set_option maxRecDepth 100000 in
theorem ref18_do0 (F : RfF) (V : RfV) (n : NetD) (c : CkN) (x : RfS) (w : World) (hC : RfC n c) (hG : Rf.GoodS c x) (hF : F.Fix n c w) (hV : V.At x w) (hdn : 0 ≤ x.done ∧ x.done ≤ 1000) (k id : Int) (hr : Cd.right (k, id) = true) (hbig : (c.words.length : Int) ≤ id) :
    Calls Tryz.prog 13 #[.agg (F.cells V n c x), .int .i64 k, .int .i64 id] w (DoP18 F V n c x k id w) := by
  have hwl := hC.wl
  have hnl := hC.nl
  obtain ⟨hid0, hkd⟩ := Rf.right_k hr
  have hl0 : Later w ((w.alloc (.cells (F.cells V n c x) 49)).alloc (.cells zeros13 49)) := ((Later.refl w).alloc _).alloc _
  have hk3 : Blk ((w.alloc (.cells (F.cells V n c x) 49)).alloc (.cells zeros13 49)) w.heap.size 49 (F.cells V n c x) := (Blk.new _ _ _).alloc _
  have hk6 := Blk.new (w.alloc (.cells (F.cells V n c x) 49)) 49 zeros13
  rw [World.size_alloc] at hk6
  obtain ⟨y0, y1, y2, y3, y4, y5, y6, y7, y8, y9, y10, y11, y12⟩ := RfF.cells13 hk3
  obtain ⟨f0, f1, f2, f3, f4, f5, f6, f7, f8, f9, f10, f11, f12⟩ := frozen13 hk6
  have HB := Lib.hid (show Rf.do_ c x k id = if (c.words.length : Int) ≤ id then (x, 10) else if Rf.legal c x k id = false then (x, 24) else if c.cap < Rf.sum c (Rf.step c x k id) then (x, 25) else (Rf.fin c (Rf.step c x k id) k id, 0) from rfl)
  have HE := Lib.hid (HB.out.trans (if_pos hbig))
  have d1 : decide ((n.nodes.length : Int) < id) = true := by simp; omega
  have HC := Lib.hid hC
  have HG := Lib.hid hG
  have HF := Lib.hid hF
  have HV := Lib.hid hV
  have Hk3 := Lib.hid hk3
  have Hk6 := Lib.hid hk6
  have Hl0 := Lib.hid hl0
  have Hwl := Lib.hid hwl
  clear hC hG hF hV hk3 hk6 hl0 hwl
  clear hbig hr
  unfold zeros13 at *
  go_enter Tryz.func13, Tryz.ntmps13
  go_wp2_with fail
  refine bodyPost_ret (v := .tuple #[.agg (F.cells V n c x), .int .i64 10]) (by simp [results, Tryz.results13, go_sem]; rfl) rfl ?_
  exact DoP18.of V HE.out (HV.out.later (((Later.refl w).alloc _).alloc _)) (((Later.refl w).alloc _).alloc _) (fun _ _ q => q)
end Go.Proofs.YtmmgdgfpemkdnaaGreat
/- The reference of layer 18: Do: contract. Printed by gen/refdo2.py. -/
namespace Go.Proofs.YtmmgdgfpemkdnaaGreat
open Go.RowKit
set_option maxHeartbeats 32000000 in
set_option maxRecDepth 100000 in
theorem ref18_do1 (F : RfF) (V : RfV) (n : NetD) (c : CkN) (x : RfS) (w : World) (hC : RfC n c) (hG : Rf.GoodS c x) (hF : F.Fix n c w) (hV : V.At x w) (hdn : 0 ≤ x.done ∧ x.done ≤ 1000) (id : Int) (hr : Cd.right (1, id) = true) (hbig : ¬ (c.words.length : Int) ≤ id) :
    Calls Tryz.prog 13 #[.agg (F.cells V n c x), .int .i64 1, .int .i64 id] w (DoP18 F V n c x 1 id w) := by
  have hwl := hC.wl
  have hnl := hC.nl
  obtain ⟨hid0, -⟩ := Rf.right_k hr
  have hl0 : Later w ((w.alloc (.cells (F.cells V n c x) 49)).alloc (.cells zeros13 49)) := ((Later.refl w).alloc _).alloc _
  have hk3 : Blk ((w.alloc (.cells (F.cells V n c x) 49)).alloc (.cells zeros13 49)) w.heap.size 49 (F.cells V n c x) := (Blk.new _ _ _).alloc _
  have hk6 := Blk.new (w.alloc (.cells (F.cells V n c x) 49)) 49 zeros13
  rw [World.size_alloc] at hk6
  obtain ⟨y0, y1, y2, y3, y4, y5, y6, y7, y8, y9, y10, y11, y12⟩ := RfF.cells13 hk3
  obtain ⟨f0, f1, f2, f3, f4, f5, f6, f7, f8, f9, f10, f11, f12⟩ := frozen13 hk6
  have HB := Lib.hid (show Rf.do_ c x 1 id = if (c.words.length : Int) ≤ id then (x, 10) else if Rf.legal c x 1 id = false then (x, 24) else if c.cap < Rf.sum c (Rf.step c x 1 id) then (x, 25) else (Rf.fin c (Rf.step c x 1 id) 1 id, 0) from rfl)
  have d1 : decide ((n.nodes.length : Int) < id) = false := by simp; omega
  have hidl : id < c.words.length := by omega
  have HB2 := Lib.hid (HB.out.trans (if_neg hbig))
  clear hbig HB
  have hk8 := Blk.new ((w.alloc (.cells (F.cells V n c x) 49)).alloc (.cells zeros13 49)) 49 (F.cells V n c x)
  rw [World.size_alloc, World.size_alloc] at hk8
  have hB : RfB w.heap.size (w.heap.size + 1) (w.heap.size + 1 + 1) F V n c x V x w (((w.alloc (.cells (F.cells V n c x) 49)).alloc (.cells zeros13 49)).alloc (.cells (F.cells V n c x) 49)) :=
    ⟨Nat.le_refl _, by omega, by omega, hl0.alloc _, hk3.alloc _, hk6.alloc _, hk8, hF, hV, (RfRow.old hV.there (by omega)).later (hl0.alloc _), (RfRow.old hV.saved (by omega)).later (hl0.alloc _), (RfRow.old hV.grads (by omega)).later (hl0.alloc _), fun _ _ q => q⟩
  have hB : RfB w.heap.size (w.heap.size + 1) (w.heap.size + 1 + 1) F V n c x V x w (((w.alloc (.cells (F.cells V n c x) 49)).alloc (.cells zeros13 49)).alloc (.cells #[.slice F.A n.inn.length F.c, .slice F.N n.nodes.length F.d, .slice F.Wd c.words.length F.cw, .slice F.Or c.order.length F.co, .int .i64 c.loss, .int .i64 c.cap, .slice V.Th x.there.length V.ct, .slice V.Sa x.saved.length V.cs, .slice V.Gr x.grads.length V.cg, .int .i64 x.em, .int .i64 x.sd, .int .i64 x.done, .int .i64 x.peak] 49)) := hB
  obtain ⟨g, hg⟩ : ∃ g, w.heap.size = g := ⟨_, rfl⟩
  have hgw : w.heap.size ≤ g := Nat.le_of_eq hg
  unfold zeros13 at *
  have HC := Lib.hid hC
  have HG := Lib.hid hG
  have HF := Lib.hid hF
  have HV := Lib.hid hV
  have Hk3 := Lib.hid hk3
  have Hk6 := Lib.hid hk6
  have Hk8 := Lib.hid hk8
  have Hl0 := Lib.hid hl0
  have Hwl := Lib.hid hwl
  have HB := Lib.hid hB
  have Hg := Lib.hid hg
  clear hC hG hF hV hk3 hk6 hk8 hl0 hwl hB hg
  clear f0 f1 f2 f3 f4 f5 f6 f7 f8 f9 f10 f11 f12
  go_enter Tryz.func13, Tryz.ntmps13
  go_upto_region 4 with fail
  clear y0 y1 y2 y3 y4 y5 y6 y7 y8 y9 y10 y11 y12 Hk3 Hk6 Hk8 Hl0
  generalize (((w.alloc (.cells (F.cells V n c x) 49)).alloc (.cells #[.slice none 0 0, .slice none 0 0, .slice none 0 0, .slice none 0 0, .int .i64 0, .int .i64 0, .slice none 0 0, .slice none 0 0, .slice none 0 0, .int .i64 0, .int .i64 0, .int .i64 0, .int .i64 0] 49)).alloc (.cells #[.slice F.A n.inn.length F.c, .slice F.N n.nodes.length F.d, .slice F.Wd c.words.length F.cw, .slice F.Or c.order.length F.co, .int .i64 c.loss, .int .i64 c.cap, .slice V.Th x.there.length V.ct, .slice V.Sa x.saved.length V.cs, .slice V.Gr x.grads.length V.cg, .int .i64 x.em, .int .i64 x.sd, .int .i64 x.done, .int .i64 x.peak] 49)) = w1 at *
  rw [Hg.out] at HB ⊢
  clear Hg hB
  generalize g + 1 + 1 = g8 at *
  generalize g + 1 = g6 at *
  have hxt : x.there.length ≤ 1000 := by have := HG.out.there.len; have := Hwl.out; omega
  have hxs : x.saved.length ≤ 1000 := by have := HG.out.saved.len; have := Hwl.out; omega
  have hxg : x.grads.length ≤ 1000 := by have := HG.out.grads.len; have := Hwl.out; omega
  clear d1
  have HL := Lib.hid (show Rf.legal c x 1 id = ((hasB x.saved id == false) && (!hasB x.there id && Rf.ready c x id)) from rfl)
  have HGy := Lib.hid (show Rf.GoodS c (Rf.step c x 1 id) from ⟨HG.out.there.with_ ⟨hid0, hidl⟩, HG.out.saved.with_ ⟨hid0, hidl⟩, HG.out.grads⟩)
  have hz := Rf.right_pos hr (by decide) (by decide)
  obtain ⟨m, hm⟩ : ∃ m : Nat, id = ((m + 1 : Nat) : Int) := ⟨(id - 1).toNat, by omega⟩
  have hml : m < n.nodes.length := by have := Hwl.out; omega
  have HRd := Lib.hid (fun (W : World) (h : Later w W) => (show Calls Tryz.prog 36 #[.agg (F.cells V n c x), .int .i64 id] W fun e w' => e = .returned (.bool (Rf.ready c x id)) ∧ Later W w' from by rw [hm]; exact ref18_ready F V n c x W HC.out HG.out (HF.out.later h) (HV.out.later h) m hml))
  clear hm hz
  obtain ⟨-, -, -, -, -, -, y6, y7, -⟩ := RfF.cells13 HB.out.b3
  go_wp2_with fail
  refine (ref18_has V.Sa V.cs x.saved id w1 (by omega) HB.out.atx.saved).mono ?_
  rintro e w2 ⟨rfl, rfl⟩
  generalize hasB x.saved id = b1 at *
  clear y6 y7
  cases b1
  rotate_left
  · have HE := Lib.hid (HB2.out.trans (if_pos (by rw [HL.out]; simp)))
    obtain ⟨y0, y1, y2, y3, y4, y5, y6, y7, y8, y9, y10, y11, y12⟩ := RfF.cells13 HB.out.b3
    obtain ⟨z0, z1, z2, z3, z4, z5, z6, z7, z8, z9, z10, z11, z12⟩ := cells_zero13 HB.out.b6
    obtain ⟨f0, f1, f2, f3, f4, f5, f6, f7, f8, f9, f10, f11, f12⟩ := frozen13 HB.out.b6
    go_wp2_with fail
    refine bodyPost_ret (v := .tuple #[.agg (F.cells V n c x), .int .i64 24]) (by simp [results, Tryz.results13, go_sem, z0, z1, z2, z3, z4, z5, z6, z7, z8, z9, z10, z11, z12]; rfl) rfl ?_
    exact DoP18.of V HE.out (HV.out.later (HB.out.at13 _ _ _ _ _ _ _ _ _ _ _ _ _).2) (HB.out.at13 _ _ _ _ _ _ _ _ _ _ _ _ _).2 (fun _ _ q => q)
  obtain ⟨-, -, -, -, -, -, y6, -⟩ := RfF.cells13 HB.out.b3
  go_wp2_with fail
  refine (ref18_has V.Th V.ct x.there id w1 (by omega) HB.out.atx.there).mono ?_
  rintro e w2 ⟨rfl, rfl⟩
  generalize hasB x.there id = b2 at *
  clear y6
  cases b2
  rotate_left
  · have HE := Lib.hid (HB2.out.trans (if_pos (by rw [HL.out]; simp)))
    obtain ⟨y0, y1, y2, y3, y4, y5, y6, y7, y8, y9, y10, y11, y12⟩ := RfF.cells13 HB.out.b3
    obtain ⟨z0, z1, z2, z3, z4, z5, z6, z7, z8, z9, z10, z11, z12⟩ := cells_zero13 HB.out.b6
    obtain ⟨f0, f1, f2, f3, f4, f5, f6, f7, f8, f9, f10, f11, f12⟩ := frozen13 HB.out.b6
    go_wp2_with fail
    refine bodyPost_ret (v := .tuple #[.agg (F.cells V n c x), .int .i64 24]) (by simp [results, Tryz.results13, go_sem, z0, z1, z2, z3, z4, z5, z6, z7, z8, z9, z10, z11, z12]; rfl) rfl ?_
    exact DoP18.of V HE.out (HV.out.later (HB.out.at13 _ _ _ _ _ _ _ _ _ _ _ _ _).2) (HB.out.at13 _ _ _ _ _ _ _ _ _ _ _ _ _).2 (fun _ _ q => q)
  obtain ⟨y0, y1, y2, y3, y4, y5, y6, y7, y8, y9, y10, y11, y12⟩ := RfF.cells13 HB.out.b3
  go_wp2_with fail
  refine (HRd.out w1 HB.out.later).mono ?_
  rintro e w3 ⟨rfl, hl3⟩
  have HB3 := Lib.hid (HB.out.to_later hl3)
  clear hl3 y0 y1 y2 y3 y4 y5 y6 y7 y8 y9 y10 y11 y12
  generalize Rf.ready c x id = b3 at *
  cases b3
  · have HE := Lib.hid (HB2.out.trans (if_pos (by rw [HL.out]; simp)))
    obtain ⟨y0, y1, y2, y3, y4, y5, y6, y7, y8, y9, y10, y11, y12⟩ := RfF.cells13 HB3.out.b3
    obtain ⟨z0, z1, z2, z3, z4, z5, z6, z7, z8, z9, z10, z11, z12⟩ := cells_zero13 HB3.out.b6
    obtain ⟨f0, f1, f2, f3, f4, f5, f6, f7, f8, f9, f10, f11, f12⟩ := frozen13 HB3.out.b6
    go_wp2_with fail
    refine bodyPost_ret (v := .tuple #[.agg (F.cells V n c x), .int .i64 24]) (by simp [results, Tryz.results13, go_sem, z0, z1, z2, z3, z4, z5, z6, z7, z8, z9, z10, z11, z12]; rfl) rfl ?_
    exact DoP18.of V HE.out (HV.out.later (HB3.out.at13 _ _ _ _ _ _ _ _ _ _ _ _ _).2) (HB3.out.at13 _ _ _ _ _ _ _ _ _ _ _ _ _).2 (fun _ _ q => q)
  have HD := Lib.hid (HB2.out.trans (if_neg (by rw [HL.out]; simp)))
  clear HL HB2 HRd
  obtain ⟨-, -, -, -, -, -, y6, -⟩ := RfF.cells13 HB3.out.b3
  go_upto_region 7 with fail
  go_wp2_with fail
  refine (ref18_with V.Th V.ct x.there id w3 hxt HB3.out.atx.there).mono ?_
  rintro e w4 ⟨A, m1, rfl, hI, hAb, hb4⟩
  have hB4 := HB3.out.to_later (show Later w3 w4 from hb4)
  have hB4' := hB4.there A m1 _ (RfRow.new hI hAb HB3.out.b8.lt) (fun a e => Nat.lt_of_lt_of_le HB3.out.b8.lt (hAb a e))
  clear y6
  obtain ⟨-, -, -, -, -, -, t6, -⟩ := RfF.cells13 hB4.b8
  obtain ⟨-, -, -, -, -, -, q6, -⟩ := frozen13 hB4.b8
  have HB5 := Lib.hid hB4'
  clear hB4 hB4' hI hAb hb4
  go_upto_region 8 with fail
  clear t6 q6
  generalize w4.setCell ⟨g8, 6, none⟩ (.slice A (Rf.with_ x.there id).length m1) = w5 at *
  obtain ⟨-, -, -, -, -, -, -, y7, -⟩ := RfF.cells13 HB5.out.b3
  go_wp2_with fail
  refine (ref18_with V.Sa V.cs x.saved id w5 hxs HB5.out.atx.saved).mono ?_
  rintro e w6 ⟨A2, m2, rfl, hI, hAb, hb4⟩
  have hB4 := HB5.out.to_later (show Later w5 w6 from hb4)
  have hB4' := hB4.saved A2 m2 _ (RfRow.new hI hAb HB5.out.b8.lt) (fun a e => Nat.lt_of_lt_of_le HB5.out.b8.lt (hAb a e))
  clear y7
  obtain ⟨-, -, -, -, -, -, -, t7, -⟩ := RfF.cells13 hB4.b8
  obtain ⟨-, -, -, -, -, -, -, q7, -⟩ := frozen13 hB4.b8
  have HB6 := Lib.hid hB4'
  clear hB4 hB4' hI hAb hb4 HB5
  go_upto_region 33 with fail
  clear t7 q7
  have hB4 := HB6.out
  clear HB6
  have HB5 := Lib.hid (show RfB g g6 g8 F V n c x { V with Th := A, ct := m1, Sa := A2, cs := m2 } (Rf.step c x 1 id) w (w6.setCell ⟨g8, 7, none⟩ (.slice A2 (Rf.with_ x.saved id).length m2)) from hB4)
  clear hB4
  generalize w6.setCell ⟨g8, 7, none⟩ (.slice A2 (Rf.with_ x.saved id).length m2) = w7 at *
  generalize Rf.step c x 1 id = y at *
  obtain ⟨V2, hB5⟩ : ∃ V2, RfB g g6 g8 F V n c x V2 y w w7 := ⟨_, HB5.out⟩
  clear HB5
  have HB5 := Lib.hid hB5
  clear hB5
  obtain ⟨t0, t1, t2, t3, t4, t5, t6, t7, t8, t9, t10, t11, t12⟩ := RfF.cells13 HB5.out.b8
  obtain ⟨q0, q1, q2, q3, q4, q5, q6, q7, q8, q9, q10, q11, q12⟩ := frozen13 HB5.out.b8
  go_wp2_with fail
  refine (ref18_sum F V2 n c y w7 HC.out HGy.out HB5.out.fixw HB5.out.aty).mono ?_
  rintro e w6 ⟨rfl, hl6⟩
  have HB6 := Lib.hid (HB5.out.to_later hl6)
  clear hl6 t0 q0 t1 q1 t2 q2 t3 q3 t4 q4 t5 q5 t6 q6 t7 q7 t8 q8 t9 q9 t10 q10 t11 q11 t12 q12
  have HFn := Lib.hid (show Rf.fin c y 1 id = { y with peak := if y.peak < Rf.sum c y then Rf.sum c y else y.peak, grads := y.grads } from rfl)
  generalize Rf.sum c y = sm at *
  by_cases hcap : c.cap < sm
  · have HE := Lib.hid (HD.out.trans (if_pos hcap))
    have d2 : decide (c.cap < sm) = true := by simpa using hcap
    clear hcap HD
    obtain ⟨y0, y1, y2, y3, y4, y5, y6, y7, y8, y9, y10, y11, y12⟩ := RfF.cells13 HB6.out.b3
    obtain ⟨z0, z1, z2, z3, z4, z5, z6, z7, z8, z9, z10, z11, z12⟩ := cells_zero13 HB6.out.b6
    obtain ⟨f0, f1, f2, f3, f4, f5, f6, f7, f8, f9, f10, f11, f12⟩ := frozen13 HB6.out.b6
    go_wp2_with fail
    refine bodyPost_ret (v := .tuple #[.agg (F.cells V n c x), .int .i64 25]) (by simp [results, Tryz.results13, go_sem, z0, z1, z2, z3, z4, z5, z6, z7, z8, z9, z10, z11, z12]; rfl) rfl ?_
    exact DoP18.of V HE.out (HV.out.later (HB6.out.at13 _ _ _ _ _ _ _ _ _ _ _ _ _).2) (HB6.out.at13 _ _ _ _ _ _ _ _ _ _ _ _ _).2 (fun _ _ q => q)
  have HD2 := Lib.hid (HD.out.trans (if_neg hcap))
  have d2 : decide (c.cap < sm) = false := by simpa using hcap
  clear hcap HD
  by_cases hpk : y.peak < sm
  · have d3 : decide (y.peak < sm) = true := by simpa using hpk
    have HE := Lib.hid (show Rf.do_ c x 1 id = ({ y with peak := sm }, 0) by rw [HD2.out, HFn.out, if_pos hpk])
    clear hpk HD2
    obtain ⟨-, -, -, -, -, y5, -⟩ := RfF.cells13 HB6.out.b3
    obtain ⟨-, -, -, -, -, -, -, -, -, -, -, -, t12⟩ := RfF.cells13 HB6.out.b8
    obtain ⟨-, -, -, -, -, -, -, -, -, -, -, -, q12⟩ := frozen13 HB6.out.b8
    go_upto_region 38 with fail
    have HB7 := Lib.hid (HB6.out.peak sm)
    clear y5 t12 q12
    generalize w6.setCell ⟨g8, 12, none⟩ (.int .i64 sm) = w9 at *
    obtain ⟨z0, z1, z2, z3, z4, z5, z6, z7, z8, z9, z10, z11, z12⟩ := cells_zero13 HB7.out.b6
    obtain ⟨f0, f1, f2, f3, f4, f5, f6, f7, f8, f9, f10, f11, f12⟩ := frozen13 HB7.out.b6
    obtain ⟨t0, t1, t2, t3, t4, t5, t6, t7, t8, t9, t10, t11, t12⟩ := RfF.cells13 HB7.out.b8
    obtain ⟨q0, q1, q2, q3, q4, q5, q6, q7, q8, q9, q10, q11, q12⟩ := frozen13 HB7.out.b8
    go_wp2_with fail
    refine bodyPost_ret (v := .tuple #[.agg (F.cells V2 n c { y with peak := sm }), .int .i64 0]) (by simp [results, Tryz.results13, go_sem, z0, z1, z2, z3, z4, z5, z6, z7, z8, z9, z10, z11, z12]; rfl) rfl ?_
    exact DoP18.of V2 HE.out (HB7.out.at13 _ _ _ _ _ _ _ _ _ _ _ _ _).1 (HB7.out.at13 _ _ _ _ _ _ _ _ _ _ _ _ _).2 HB7.out.off
  · have d3 : decide (y.peak < sm) = false := by simpa using hpk
    have HE := Lib.hid (show Rf.do_ c x 1 id = (y, 0) by rw [HD2.out, HFn.out, if_neg hpk])
    clear hpk HD2
    obtain ⟨-, -, -, -, -, y5, -⟩ := RfF.cells13 HB6.out.b3
    obtain ⟨-, -, -, -, -, -, -, -, -, -, -, -, t12⟩ := RfF.cells13 HB6.out.b8
    go_upto_region 38 with fail
    have HB7 := Lib.hid HB6.out
    clear y5 t12
    obtain ⟨z0, z1, z2, z3, z4, z5, z6, z7, z8, z9, z10, z11, z12⟩ := cells_zero13 HB7.out.b6
    obtain ⟨f0, f1, f2, f3, f4, f5, f6, f7, f8, f9, f10, f11, f12⟩ := frozen13 HB7.out.b6
    obtain ⟨t0, t1, t2, t3, t4, t5, t6, t7, t8, t9, t10, t11, t12⟩ := RfF.cells13 HB7.out.b8
    obtain ⟨q0, q1, q2, q3, q4, q5, q6, q7, q8, q9, q10, q11, q12⟩ := frozen13 HB7.out.b8
    go_wp2_with fail
    refine bodyPost_ret (v := .tuple #[.agg (F.cells V2 n c y), .int .i64 0]) (by simp [results, Tryz.results13, go_sem, z0, z1, z2, z3, z4, z5, z6, z7, z8, z9, z10, z11, z12]; rfl) rfl ?_
    exact DoP18.of V2 HE.out (HB7.out.at13 _ _ _ _ _ _ _ _ _ _ _ _ _).1 (HB7.out.at13 _ _ _ _ _ _ _ _ _ _ _ _ _).2 HB7.out.off
end Go.Proofs.YtmmgdgfpemkdnaaGreat

/- Lemmas for the statements of this seat: contracts of functions and the plain laws. -/
import Derived.BigQuiet
import Derived.Deep.AppendLies
import Derived.Deep.DeepCutAuto
import Derived.Deep.QuietTactic
import Derived.Test.YtjkhpbngpceenaaRows
import Derived.Test.YtjkhpbngpceenaaZ06
set_option linter.unusedVariables false
/- A net of bounded bulk, come in as an argument, opened. -/
namespace Go.Proofs.Ytjkhpbngpceenaa
open Go.ChangeShapes Go.WideShapes Go.Deep Go.RowKit

section
variable {H : Type} {enc : TypeId × Value → H} {P : Program} {W : World} {base : Nat} {spare : Nat → Bool} {held : Bool}
theorem bulk_one (d : DataW H) : 1 ≤ Rows.uptoBulk d := by
  cases d with
  | lit l => cases l <;> simp [Rows.uptoBulk]
  | nil => simp [Rows.uptoBulk]
  | ptr d => simp [Rows.uptoBulk]
  | slice elems spare => simp [Rows.uptoBulk]
  | agg parts => simp [Rows.uptoBulk]
  | iface t d => simp [Rows.uptoBulk]
  | map entries => simp [Rows.uptoBulk]
  | held h => simp [Rows.uptoBulk]
theorem bulk_part {d : DataW H} {l : List (DataW H)} (h : d ∈ l) : Rows.uptoBulk d ≤ Rows.uptoBulkAll l := by
  induction l with
  | nil => cases h
  | cons x r ih =>
    simp only [Rows.uptoBulkAll]
    cases List.mem_cons.1 h with
    | inl e => subst e; omega
    | inr e => have := ih e; omega
theorem bulk_len (l : List (DataW H)) : l.length ≤ Rows.uptoBulkAll l := by
  induction l with
  | nil => simp [Rows.uptoBulkAll]
  | cons x r ih => have := bulk_one x; simp only [Rows.uptoBulkAll, List.length_cons]; omega
/-- The elements of a slice, and their bulk. -/
theorem slice_bulk {t e : TypeId} {fuel : Nat} {v : Value} {x : DataW H × List MemPlace} (ht : P.underlying t = some (.slice e)) (h : DataW.trod enc P W base spare held fuel t [v] = some x) (hz : Rows.uptoBulk x.1 ≤ 1048576) :
    v = .slice none 0 0 ∨ ∃ a len cap, v = .slice (some a) len cap ∧ len ≤ cap ∧ cap ≤ maxLen ∧ len ≤ 1048576 ∧
      ∀ i, i < len → ∃ cs' m y, W.cells? base (a.add (i * P.cellsOf e)) (P.cellsOf e) = some cs' ∧ DataW.trod enc P W base spare held m e cs' = some y ∧ Rows.uptoBulk y.1 ≤ 1048576 := by
  rcases open_slice ht h with ⟨hcs, _⟩ | ⟨a, len, cap, m, n, D, Pl, hcs, _, hl, hm, hmm, hx, hi⟩
  · simp at hcs; exact .inl hcs
  · simp at hcs; subst hcs
    right
    have hlm : len ≤ m := by rw [hmm]; split <;> omega
    rw [hx] at hz
    simp only [Rows.uptoBulk] at hz
    refine ⟨a, len, cap, rfl, hl, hm, ?_, fun i hil => ?_⟩
    · have := bulk_len ((List.range len).map D)
      simp at this
      omega
    · obtain ⟨cs', h1, h2⟩ := hi i (by omega)
      refine ⟨cs', n, _, h1, h2, ?_⟩
      have := bulk_part (d := D i) (l := (List.range len).map D) (List.mem_map.2 ⟨i, by simpa using hil, rfl⟩)
      show Rows.uptoBulk (D i) ≤ _
      omega
end

theorem int_one' : Try.prog.cellsOf 3 = 1 := by kernel_rfl
theorem shp_one : Try.prog.cellsOf 23 = 1 := by kernel_rfl
theorem node_cells : Try.prog.cellsOf 46 = 10 := by kernel_rfl

/-- A slice of numbers, of whatever name, with its size. -/
theorem nums_open {H : Type} {enc : TypeId × Value → H} {W : World} {base : Nat} {spare : Nat → Bool} {held : Bool} {t : TypeId} {fuel : Nat} {v : Value} {x : DataW H × List MemPlace} (ht : Try.prog.underlying t = some (.slice 3))
    (h : DataW.trod enc Try.prog W base spare held fuel t [v] = some x) (hz : Rows.uptoBulk x.1 ≤ 1048576) :
    ∃ A c zs, v = .slice A zs.length c ∧ Ints .i64 W A zs ∧ zs.length ≤ c ∧ c ≤ 9223372036854775807 ∧ zs.length ≤ 1048576 ∧ ∀ z ∈ zs, -9223372036854775808 ≤ z ∧ z ≤ 9223372036854775807 := by
  obtain ⟨A, c, zs, rfl, hl, hc, hI, hw⟩ := ints_open ht Try.underlying3 int_one' h
  refine ⟨A, c, zs, rfl, hI, hc, ?_, ?_, fun z hz => wf_bd (hw z hz)⟩
  · rcases slice_bulk ht h hz with e | ⟨a, len, cap, e, _, hm, _⟩
    · injection e with _ _ e; omega
    · injection e with _ _ e; unfold maxLen at hm; omega
  · rcases slice_bulk ht h hz with e | ⟨a, len, cap, e, _, _, hb, _⟩
    · injection e with _ e _; rw [e]; exact Nat.zero_le _
    · have e2 : zs.length = len := by simp at e; exact e.2.1
      rw [e2]
      exact hb
theorem one_list {l : List Value} (h : l.length = 1) : ∃ v, l = [v] := by
  match l, h with
  | [v], _ => exact ⟨v, rfl⟩
theorem choose_list {α : Type} [Inhabited α] {n : Nat} {Q : Nat → α → Prop} (h : ∀ i, i < n → ∃ a, Q i a) : ∃ l : List α, l.length = n ∧ ∀ i (hi : i < l.length), Q i l[i] := by
  obtain ⟨f, hf⟩ := @choose_lt α _ _ _ h
  exact ⟨(List.range n).map f, by simp, fun i hi => by simp at hi; simpa using hf i hi⟩
theorem addr_lit {W : World} {a : Addr} {v : Value} (h : W.cell? a = some v) : ∃ b off, a = ⟨b, off, none⟩ := by
  obtain ⟨b, off, spot⟩ := a
  have hs : spot = none := by simpa using World.cell?_spot h
  subst hs
  exact ⟨b, off, rfl⟩
/-- A slice of shapes. -/
theorem shps_open {H : Type} {enc : TypeId × Value → H} {W : World} {base : Nat} {spare : Nat → Bool} {held : Bool} {fuel : Nat} {v : Value} {x : DataW H × List MemPlace}
    (h : DataW.trod enc Try.prog W base spare held fuel 44 [v] = some x) (hz : Rows.uptoBulk x.1 ≤ 1048576) :
    ∃ A c ss, v = .slice A ss.length c ∧ Shps W A ss ∧ ss.length ≤ c ∧ c ≤ 9223372036854775807 ∧ ss.length ≤ 1048576 ∧ ∀ s ∈ ss, s.length ≤ 1048576 ∧ ∀ z ∈ s, -9223372036854775808 ≤ z ∧ z ≤ 9223372036854775807 := by
  rcases slice_bulk Try.underlying44 h hz with rfl | ⟨a, len, cap, rfl, hl, hm, hb, hi⟩
  · exact ⟨none, 0, [], rfl, Shps.nil, by simp, by omega, by simp, by simp⟩
  · rw [shp_one] at hi
    have key : ∀ i, i < len → ∃ q : (List Int) × (Option Addr) × Nat, W.cell? (a.add i) = some (.slice q.2.1 q.1.length q.2.2) ∧ Ints .i64 W q.2.1 q.1 ∧ q.1.length ≤ q.2.2 ∧ q.2.2 ≤ 9223372036854775807 ∧ q.1.length ≤ 1048576 ∧ ∀ z ∈ q.1, -9223372036854775808 ≤ z ∧ z ≤ 9223372036854775807 := fun i hil => by
      obtain ⟨cs', m, y, hc, ht, hw⟩ := hi i hil
      obtain ⟨_, hlen, hat⟩ := World.cells?_some hc
      obtain ⟨v, rfl⟩ := one_list hlen
      obtain ⟨A, c, zs, rfl, h1, h2⟩ := nums_open Try.underlying23 ht hw
      refine ⟨(zs, A, c), ?_, h1, h2⟩
      have := hat 0 (by omega)
      rw [Nat.mul_one] at this
      simpa [Addr.add] using this
    obtain ⟨L, hL, hq⟩ := choose_list key
    refine ⟨some a, cap, L.map (·.1), by simp [hL], fun j hj => ?_, by simpa [hL] using hl, by unfold maxLen at hm; omega, by simp [hL]; exact hb, fun s hs => ?_⟩
    · rw [List.length_map] at hj
      obtain ⟨h1, h2, h3, h4, _⟩ := hq j hj
      obtain ⟨h0, _⟩ := hq 0 (by omega)
      obtain ⟨b, off, rfl⟩ := addr_lit (show W.cell? a = _ by simpa [Addr.add] using h0)
      rw [add_plain'] at h1
      rw [List.getElem_map]
      exact ⟨b, off, _, _, rfl, World.block_lt_of_cell? _ _ h1, h1, h2, h3, h4⟩
    · obtain ⟨q, hqm, rfl⟩ := List.mem_map.1 hs
      obtain ⟨i, hi, rfl⟩ := List.getElem_of_mem hqm
      exact (hq i hi).2.2.2.2

def OpD.inR (o : OpD) : Prop := o.wide ∧ ∀ z ∈ o.s, -9223372036854775808 ≤ z ∧ z ≤ 9223372036854775807
/-- All numbers are an int's, and all rows could be in memory. -/
def NodeD.fits (v : NodeD) : Prop := v.op.wide ∧ v.op.s.length ≤ 1048576 ∧ v.ins.length ≤ 1048576 ∧ v.p.length ≤ 1048576 ∧ (∀ s ∈ v.p, s.length ≤ 1048576) ∧
  (∀ z ∈ v.op.s, -9223372036854775808 ≤ z ∧ z ≤ 9223372036854775807) ∧ (∀ z ∈ v.ins, -9223372036854775808 ≤ z ∧ z ≤ 9223372036854775807) ∧ ∀ s ∈ v.p, ∀ z ∈ s, -9223372036854775808 ≤ z ∧ z ≤ 9223372036854775807
def NetD.fits (n : NetD) : Prop := n.inn.length ≤ 1048576 ∧ n.nodes.length ≤ 1048576 ∧ (∀ z ∈ n.inn, -9223372036854775808 ≤ z ∧ z ≤ 9223372036854775807) ∧ ∀ v ∈ n.nodes, v.fits

theorem node_under : Try.prog.underlying 46 = some (.struct (Try.prog.fieldsOf 46)) := by kernel_rfl
theorem node_three : (Try.prog.fieldsOf 46).size = 3 := by kernel_rfl
theorem node_types : (Try.prog.fieldsOf 46).toList.map (·.type) = [43, 22, 44] := by kernel_rfl
theorem node_f0 : ((Try.prog.fieldsOf 46)[0]?).map (fun f => (f.type, f.offset, Try.prog.cellsOf f.type)) = some (43, 0, 8) := by kernel_rfl
theorem node_f1 : ((Try.prog.fieldsOf 46)[1]?).map (fun f => (f.type, f.offset, Try.prog.cellsOf f.type)) = some (22, 8, 1) := by kernel_rfl
theorem node_f2 : ((Try.prog.fieldsOf 46)[2]?).map (fun f => (f.type, f.offset, Try.prog.cellsOf f.type)) = some (44, 9, 1) := by kernel_rfl
theorem op_under : Try.prog.underlying 43 = some (.struct (Try.prog.fieldsOf 43)) := by kernel_rfl
theorem op_eight : (Try.prog.fieldsOf 43).size = 8 := by kernel_rfl
theorem op_types : (Try.prog.fieldsOf 43).toList.map (·.type) = [3, 41, 3, 3, 3, 3, 3, 23] := by kernel_rfl
theorem op_f0 : ((Try.prog.fieldsOf 43)[0]?).map (fun f => (f.type, f.offset, Try.prog.cellsOf f.type)) = some (3, 0, 1) := by kernel_rfl
theorem op_f1 : ((Try.prog.fieldsOf 43)[1]?).map (fun f => (f.type, f.offset, Try.prog.cellsOf f.type)) = some (41, 1, 1) := by kernel_rfl
theorem op_f2 : ((Try.prog.fieldsOf 43)[2]?).map (fun f => (f.type, f.offset, Try.prog.cellsOf f.type)) = some (3, 2, 1) := by kernel_rfl
theorem op_f3 : ((Try.prog.fieldsOf 43)[3]?).map (fun f => (f.type, f.offset, Try.prog.cellsOf f.type)) = some (3, 3, 1) := by kernel_rfl
theorem op_f4 : ((Try.prog.fieldsOf 43)[4]?).map (fun f => (f.type, f.offset, Try.prog.cellsOf f.type)) = some (3, 4, 1) := by kernel_rfl
theorem op_f5 : ((Try.prog.fieldsOf 43)[5]?).map (fun f => (f.type, f.offset, Try.prog.cellsOf f.type)) = some (3, 5, 1) := by kernel_rfl
theorem op_f6 : ((Try.prog.fieldsOf 43)[6]?).map (fun f => (f.type, f.offset, Try.prog.cellsOf f.type)) = some (3, 6, 1) := by kernel_rfl
theorem op_f7 : ((Try.prog.fieldsOf 43)[7]?).map (fun f => (f.type, f.offset, Try.prog.cellsOf f.type)) = some (23, 7, 1) := by kernel_rfl
theorem list3 {α : Type} {l : List α} (h : l.length = 3) : ∃ a b c, l = [a, b, c] := by
  match l, h with
  | [a, b, c], _ => exact ⟨a, b, c, rfl⟩
theorem list8 {α : Type} {l : List α} (h : l.length = 8) : ∃ a b c d e f g i, l = [a, b, c, d, e, f, g, i] := by
  match l, h with
  | [a, b, c, d, e, f, g, i], _ => exact ⟨a, b, c, d, e, f, g, i, rfl⟩
theorem list10 {α : Type} {l : List α} (h : l.length = 10) : ∃ a b c d e f g i j k, l = [a, b, c, d, e, f, g, i, j, k] := by
  match l, h with
  | [a, b, c, d, e, f, g, i, j, k], _ => exact ⟨a, b, c, d, e, f, g, i, j, k, rfl⟩
set_option maxRecDepth 100000 in
/-- An op's cells. -/
theorem op_open {H : Type} {enc : TypeId × Value → H} {W : World} {base : Nat} {spare : Nat → Bool} {held : Bool} {fuel : Nat} {v0 v1 v2 v3 v4 v5 v6 v7 : Value} {x : DataW H × List MemPlace}
    (h : DataW.trod enc Try.prog W base spare held fuel 43 [v0, v1, v2, v3, v4, v5, v6, v7] = some x) (hz : Rows.uptoBulk x.1 ≤ 1048576) :
    ∃ (o : OpD) (S : Option Addr) (c : Nat), v0 = .int .i64 o.kind ∧ v1 = .int .i64 o.k ∧ v2 = .int .i64 o.width ∧ v3 = .int .i64 o.step ∧ v4 = .int .i64 o.side ∧ v5 = .int .i64 o.frm ∧ v6 = .int .i64 o.to ∧ v7 = .slice S o.s.length c ∧
      Ints .i64 W S o.s ∧ o.s.length ≤ c ∧ c ≤ 9223372036854775807 ∧ o.s.length ≤ 1048576 ∧ o.wide ∧ ∀ z ∈ o.s, -9223372036854775808 ≤ z ∧ z ≤ 9223372036854775807 := by
  obtain ⟨ys, n, _, hx, _, hlen, hg⟩ := DataW.trod_struct op_under h
  rw [op_eight] at hlen
  obtain ⟨y0, y1, y2, y3, y4, y5, y6, y7, rfl⟩ := list8 hlen
  rw [hx] at hz
  obtain ⟨f0, e0, t0⟩ := Option.map_eq_some_iff.1 op_f0
  simp only [Prod.mk.injEq] at t0
  have h0 := hg 0 f0 e0
  rw [t0.2.2, t0.2.1, t0.1] at h0
  simp at h0
  obtain ⟨f1, e1, t1⟩ := Option.map_eq_some_iff.1 op_f1
  simp only [Prod.mk.injEq] at t1
  have h1 := hg 1 f1 e1
  rw [t1.2.2, t1.2.1, t1.1] at h1
  simp at h1
  obtain ⟨f2, e2, t2⟩ := Option.map_eq_some_iff.1 op_f2
  simp only [Prod.mk.injEq] at t2
  have h2 := hg 2 f2 e2
  rw [t2.2.2, t2.2.1, t2.1] at h2
  simp at h2
  obtain ⟨f3, e3, t3⟩ := Option.map_eq_some_iff.1 op_f3
  simp only [Prod.mk.injEq] at t3
  have h3 := hg 3 f3 e3
  rw [t3.2.2, t3.2.1, t3.1] at h3
  simp at h3
  obtain ⟨f4, e4, t4⟩ := Option.map_eq_some_iff.1 op_f4
  simp only [Prod.mk.injEq] at t4
  have h4 := hg 4 f4 e4
  rw [t4.2.2, t4.2.1, t4.1] at h4
  simp at h4
  obtain ⟨f5, e5, t5⟩ := Option.map_eq_some_iff.1 op_f5
  simp only [Prod.mk.injEq] at t5
  have h5 := hg 5 f5 e5
  rw [t5.2.2, t5.2.1, t5.1] at h5
  simp at h5
  obtain ⟨f6, e6, t6⟩ := Option.map_eq_some_iff.1 op_f6
  simp only [Prod.mk.injEq] at t6
  have h6 := hg 6 f6 e6
  rw [t6.2.2, t6.2.1, t6.1] at h6
  simp at h6
  obtain ⟨f7, e7, t7⟩ := Option.map_eq_some_iff.1 op_f7
  simp only [Prod.mk.injEq] at t7
  have h7 := hg 7 f7 e7
  rw [t7.2.2, t7.2.1, t7.1] at h7
  simp at h7
  have hz7 : Rows.uptoBulk y7.1 ≤ 1048576 := by simp [Rows.uptoBulk, Rows.uptoBulkAll] at hz; omega
  obtain ⟨x0, q0, _, w0⟩ := DataW.trod_int Try.underlying3 h0
  simp at q0
  subst q0
  obtain ⟨x1, q1, _, w1⟩ := DataW.trod_int Try.underlying41 h1
  simp at q1
  subst q1
  obtain ⟨x2, q2, _, w2⟩ := DataW.trod_int Try.underlying3 h2
  simp at q2
  subst q2
  obtain ⟨x3, q3, _, w3⟩ := DataW.trod_int Try.underlying3 h3
  simp at q3
  subst q3
  obtain ⟨x4, q4, _, w4⟩ := DataW.trod_int Try.underlying3 h4
  simp at q4
  subst q4
  obtain ⟨x5, q5, _, w5⟩ := DataW.trod_int Try.underlying3 h5
  simp at q5
  subst q5
  obtain ⟨x6, q6, _, w6⟩ := DataW.trod_int Try.underlying3 h6
  simp at q6
  subst q6
  obtain ⟨S, c, zs, rfl, hI, h1, h2, h3, h4⟩ := nums_open Try.underlying23 h7 hz7
  refine ⟨⟨x0, x1, x2, x3, x4, x5, x6, zs⟩, S, c, rfl, rfl, rfl, rfl, rfl, rfl, rfl, rfl, hI, h1, h2, h3, fun z hz => ?_, h4⟩
  simp at hz
  rcases hz with rfl | rfl | rfl | rfl | rfl | rfl | rfl
  · exact wf_bd w0
  · exact wf_bd w1
  · exact wf_bd w2
  · exact wf_bd w3
  · exact wf_bd w4
  · exact wf_bd w5
  · exact wf_bd w6

/-- What a node's cells read as. -/
structure NodeQ where
  v : NodeD
  S : Option Addr
  c : Nat
  I : Option Addr
  d : Nat
  Q : Option Addr
  q : Nat
instance : Inhabited NodeQ := ⟨⟨Nt.none_, none, 0, none, 0, none, 0⟩⟩
def NodeQ.cells (x : NodeQ) : List Value := [.int .i64 x.v.op.kind, .int .i64 x.v.op.k, .int .i64 x.v.op.width, .int .i64 x.v.op.step, .int .i64 x.v.op.side, .int .i64 x.v.op.frm, .int .i64 x.v.op.to, .slice x.S x.v.op.s.length x.c, .slice x.I x.v.ins.length x.d, .slice x.Q x.v.p.length x.q]
def NodeQ.R (x : NodeQ) (W : World) : Prop := (Ints .i64 W x.S x.v.op.s ∧ x.v.op.s.length ≤ x.c ∧ x.c ≤ 9223372036854775807) ∧ (Ints .i64 W x.I x.v.ins ∧ x.v.ins.length ≤ x.d ∧ x.d ≤ 9223372036854775807) ∧ (Shps W x.Q x.v.p ∧ x.v.p.length ≤ x.q ∧ x.q ≤ 9223372036854775807)
set_option maxRecDepth 100000 in
theorem node_open {H : Type} {enc : TypeId × Value → H} {W : World} {base : Nat} {spare : Nat → Bool} {held : Bool} {fuel : Nat} {cs : List Value} {x : DataW H × List MemPlace} (hcs : cs.length = 10)
    (h : DataW.trod enc Try.prog W base spare held fuel 46 cs = some x) (hz : Rows.uptoBulk x.1 ≤ 1048576) :
    ∃ q : NodeQ, cs = q.cells ∧ q.R W ∧ q.v.fits := by
  obtain ⟨v0, v1, v2, v3, v4, v5, v6, v7, v8, v9, rfl⟩ := list10 hcs
  obtain ⟨ys, n, _, hx, _, hlen, hg⟩ := DataW.trod_struct node_under h
  rw [node_three] at hlen
  obtain ⟨y0, y1, y2, rfl⟩ := list3 hlen
  rw [hx] at hz
  obtain ⟨f0, e0, t0⟩ := Option.map_eq_some_iff.1 node_f0
  simp only [Prod.mk.injEq] at t0
  have h0 := hg 0 f0 e0
  rw [t0.2.2, t0.2.1, t0.1] at h0
  simp at h0
  obtain ⟨f1, e1, t1⟩ := Option.map_eq_some_iff.1 node_f1
  simp only [Prod.mk.injEq] at t1
  have h1 := hg 1 f1 e1
  rw [t1.2.2, t1.2.1, t1.1] at h1
  simp at h1
  obtain ⟨f2, e2, t2⟩ := Option.map_eq_some_iff.1 node_f2
  simp only [Prod.mk.injEq] at t2
  have h2 := hg 2 f2 e2
  rw [t2.2.2, t2.2.1, t2.1] at h2
  simp at h2
  have hz0 : Rows.uptoBulk y0.1 ≤ 1048576 := by simp [Rows.uptoBulk, Rows.uptoBulkAll] at hz; omega
  have hz1 : Rows.uptoBulk y1.1 ≤ 1048576 := by simp [Rows.uptoBulk, Rows.uptoBulkAll] at hz; omega
  have hz2 : Rows.uptoBulk y2.1 ≤ 1048576 := by simp [Rows.uptoBulk, Rows.uptoBulkAll] at hz; omega
  obtain ⟨o, S, c, rfl, rfl, rfl, rfl, rfl, rfl, rfl, rfl, a1, a2, a3, a4, a5, a6⟩ := op_open h0 hz0
  obtain ⟨I, d, is, rfl, b1, b2, b3, b4, b5⟩ := nums_open Try.underlying22 h1 hz1
  obtain ⟨Q, q, ps, rfl, c1, c2, c3, c4, c5⟩ := shps_open h2 hz2
  exact ⟨⟨⟨o, is, ps⟩, S, c, I, d, Q, q⟩, rfl, ⟨⟨a1, a2, a3⟩, ⟨b1, b2, b3⟩, c1, c2, c3⟩, a5, a4, b4, c4, fun s hs => (c5 s hs).1, a6, b5, fun s hs => (c5 s hs).2⟩
/-- A slice of nodes. -/
theorem nodes_open {H : Type} {enc : TypeId × Value → H} {W : World} {base : Nat} {spare : Nat → Bool} {held : Bool} {fuel : Nat} {v : Value} {x : DataW H × List MemPlace}
    (h : DataW.trod enc Try.prog W base spare held fuel 24 [v] = some x) (hz : Rows.uptoBulk x.1 ≤ 1048576) :
    ∃ A c ns, v = .slice A ns.length c ∧ Nodes W A ns ∧ ns.length ≤ c ∧ c ≤ 9223372036854775807 ∧ ns.length ≤ 1048576 ∧ ∀ v ∈ ns, v.fits := by
  rcases slice_bulk Try.underlying24 h hz with rfl | ⟨a, len, cap, rfl, hl, hm, hb, hi⟩
  · exact ⟨none, 0, [], rfl, fun j hj => absurd hj (by simp), by simp, by omega, by simp, by simp⟩
  · rw [node_cells] at hi
    have key : ∀ i, i < len → ∃ q : NodeQ, (∀ j, j < 10 → W.cell? ((a.add (i * 10)).add j) = q.cells[j]?) ∧ q.R W ∧ q.v.fits := fun i hil => by
      obtain ⟨cs', m, y, hc, ht, hw⟩ := hi i hil
      obtain ⟨_, hlen, hat⟩ := World.cells?_some hc
      obtain ⟨q, rfl, h1, h2⟩ := node_open hlen ht hw
      exact ⟨q, hat, h1, h2⟩
    obtain ⟨L, hL, hq⟩ := choose_list key
    refine ⟨some a, cap, L.map (·.v), by simp [hL], fun j hj => ?_, by simpa [hL] using hl, by unfold maxLen at hm; omega, by simp [hL]; exact hb, fun s hs => ?_⟩
    · rw [List.length_map] at hj
      obtain ⟨h1, ⟨r1, r2, r3⟩, _⟩ := hq j hj
      obtain ⟨h0, _⟩ := hq 0 (by omega)
      have h00 := h0 0 (by omega)
      obtain ⟨b, off, rfl⟩ := addr_lit (v := .int .i64 L[0].v.op.kind) (show W.cell? a = _ by simpa [Addr.add, NodeQ.cells] using h00)
      simp only [add_plain'] at h1
      rw [List.getElem_map]
      refine ⟨b, off, _, _, _, _, _, _, rfl, World.block_lt_of_cell? _ _ (h1 0 (by omega)), h1 0 (by omega), h1 1 (by omega), h1 2 (by omega), h1 3 (by omega), h1 4 (by omega), h1 5 (by omega), h1 6 (by omega), h1 7 (by omega), h1 8 (by omega), h1 9 (by omega), r1, r2, r3⟩
    · obtain ⟨q, hqm, rfl⟩ := List.mem_map.1 hs
      obtain ⟨i, hi, rfl⟩ := List.getElem_of_mem hqm
      exact (hq i hi).2.2
theorem net_cells : Try.prog.cellsOf 26 = 2 := by kernel_rfl
theorem net_under : Try.prog.underlying 26 = some (.struct (Try.prog.fieldsOf 26)) := by kernel_rfl
theorem net_two : (Try.prog.fieldsOf 26).size = 2 := by kernel_rfl
theorem net_types : (Try.prog.fieldsOf 26).toList.map (·.type) = [23, 24] := by kernel_rfl
theorem net_f0 : ((Try.prog.fieldsOf 26)[0]?).map (fun f => (f.type, f.offset, Try.prog.cellsOf f.type)) = some (23, 0, 1) := by kernel_rfl
theorem net_f1 : ((Try.prog.fieldsOf 26)[1]?).map (fun f => (f.type, f.offset, Try.prog.cellsOf f.type)) = some (24, 1, 1) := by kernel_rfl
theorem list2 {α : Type} {l : List α} (h : l.length = 2) : ∃ a b, l = [a, b] := by
  match l, h with
  | [a, b], _ => exact ⟨a, b, rfl⟩
set_option maxRecDepth 100000 in
/-- A net. -/
theorem net_open {H : Type} {enc : TypeId × Value → H} {W : World} {r : Reach} {b0 base : Nat} {spare : Nat → Bool} {held : Bool} {v : Value} {d : DataW H} {p : List MemPlace}
    (hv : Value.okWide Try.prog W r b0 26 v) (h : DataW.Trod enc Try.prog W base spare held 26 v d p) (hz : Rows.uptoBulk d ≤ 1048576) :
    ∃ A N c1 c2 n, v = .agg #[.slice A n.inn.length c1, .slice N n.nodes.length c2] ∧ n.inn.length ≤ c1 ∧ c1 ≤ 9223372036854775807 ∧ n.nodes.length ≤ c2 ∧ c2 ≤ 9223372036854775807 ∧ NetR W A N n ∧ n.fits := by
  obtain ⟨cs, rfl, hsz⟩ := okWide_struct net_under hv
  obtain ⟨l⟩ := cs
  match l, hsz.trans net_cells with
  | [v0, v1], _ =>
    obtain ⟨fuel, hf⟩ := h
    obtain ⟨ys, n, _, hx, _, hlen, hg⟩ := DataW.trod_struct net_under hf
    rw [net_two] at hlen
    obtain ⟨y0, y1, rfl⟩ := list2 hlen
    simp only [Prod.mk.injEq, List.map_cons, List.map_nil] at hx
    obtain ⟨rfl, _⟩ := hx
    obtain ⟨f0, e0, t0⟩ := Option.map_eq_some_iff.1 net_f0
    simp only [Prod.mk.injEq] at t0
    have h0 := hg 0 f0 e0
    rw [t0.2.2, t0.2.1, t0.1] at h0
    simp [Value.cells] at h0
    obtain ⟨f1, e1, t1⟩ := Option.map_eq_some_iff.1 net_f1
    simp only [Prod.mk.injEq] at t1
    have h1 := hg 1 f1 e1
    rw [t1.2.2, t1.2.1, t1.1] at h1
    simp [Value.cells] at h1
    have hz0 : Rows.uptoBulk y0.1 ≤ 1048576 := by simp [Rows.uptoBulk, Rows.uptoBulkAll] at hz; omega
    have hz1 : Rows.uptoBulk y1.1 ≤ 1048576 := by simp [Rows.uptoBulk, Rows.uptoBulkAll] at hz; omega
    obtain ⟨A, c1, zs, rfl, a1, a2, a3, a4, a5⟩ := nums_open Try.underlying23 h0 hz0
    obtain ⟨N, c2, ns, rfl, b1, b2, b3, b4, b5⟩ := nodes_open h1 hz1
    exact ⟨A, N, c1, c2, ⟨zs, ns⟩, rfl, a2, a3, b2, b3, ⟨a1, b1⟩, a4, b4, a5, b5⟩
theorem NetD.fits.ok {n : NetD} (h : n.fits) : n.ok :=
  ⟨h.1, h.2.1, fun v hv => by
    obtain ⟨h1, h2, h3, h4, h5, h6, h7, h8⟩ := h.2.2.2 v hv
    exact ⟨h1, h2, h3, h4, h5, h7⟩⟩
end Go.Proofs.Ytjkhpbngpceenaa
/- The statements' own: a net as the document has it (ref): contract. -/
namespace Go.Proofs.Ytjkhpbngpceenaa
open Go.RowKit
theorem ownsRow_base {w : World} {B B' e s n : Nat} {v : Value} {xs : List Value} (h : w.ownsRow B e s v n xs) (hB : B' ≤ B) : w.ownsRow B' e s v n xs := by
  refine ⟨h.1, ?_⟩
  rcases h.2 with h | ⟨g, cap, cur, h1, h2, h3⟩
  · exact .inl h
  · exact .inr ⟨g, cap, cur, h1, Nat.le_trans hB h2, h3⟩
abbrev RQ := NodeQ × List Value
def RQ.cells (x : RQ) : List Value := x.1.cells
def RQ.Phi (B : Nat) (x : RQ) (W : World) : Prop := W.ownsRow B 22 1 (.slice x.1.Q x.1.v.p.length x.1.q) x.1.v.p.length x.2
def RQ.Good (w : World) (x : RQ) : Prop := (Ints .i64 w x.1.S x.1.v.op.s ∧ x.1.v.op.s.length ≤ x.1.c ∧ x.1.c ≤ 9223372036854775807) ∧ (Ints .i64 w x.1.I x.1.v.ins ∧ x.1.v.ins.length ≤ x.1.d ∧ x.1.d ≤ 9223372036854775807) ∧ RowOf w x.2 x.1.v.p
/-- A row of nodes of the call's own. -/
def RefRow (t : TypeId) (B C : Nat) (w W : World) (v : Value) (ns : List NodeD) : Prop :=
  ∃ L : List RQ, L.map (fun x => x.1.v) = ns ∧ OwnRow B C W t 10 v RQ.cells (RQ.Phi B) L ∧ ∀ x ∈ L, RQ.Good w x
theorem RQ.len (x : RQ) : (RQ.cells x).length = 10 := rfl
theorem RefRow.nil (t : TypeId) (B : Nat) (w W : World) : RefRow t B W.heap.size w W (.slice none 0 0) [] := ⟨[], rfl, OwnRow.nil _ _ _ _ _ _, by simp⟩
theorem RefRow.form {t : TypeId} {B C : Nat} {w W : World} {v : Value} {ns : List NodeD} (h : RefRow t B C w W v ns) : ∃ A c, v = .slice A ns.length c ∧ ns.length ≤ c ∧ (∀ b, v.ownBlock = some b → B ≤ b ∧ b < C) := by
  obtain ⟨L, hL, hO, _⟩ := h
  obtain ⟨A, c, e, hc⟩ := hO.form
  have hl : L.length = ns.length := by rw [← hL]; simp
  rw [hl] at e hc
  exact ⟨A, c, e, hc, fun b hb => ⟨(hO.1.lt b hb).1, hO.2.1 b hb⟩⟩
theorem RefRow.fr {t : TypeId} {B C : Nat} {w W W' : World} {v : Value} {ns : List NodeD} {S : Nat → Prop} (h : RefRow t B C w W v ns) (hf : Fr S W W') (hS : ∀ b, B ≤ b → b < C → ¬ S b) : RefRow t B C w W' v ns := by
  obtain ⟨L, hL, hO, hG⟩ := h
  exact ⟨L, hL, hO.fr hf hS, hG⟩
theorem RefRow.nodes {t : TypeId} {B C : Nat} {w W : World} {v : Value} {ns : List NodeD} (h : RefRow t B C w W v ns) (hb : Below w.heap.size w W) :
    ∃ A c, v = .slice A ns.length c ∧ ns.length ≤ c ∧ c ≤ 9223372036854775807 ∧ Nodes W A ns := by
  obtain ⟨L, rfl, hO, hG⟩ := h
  rw [List.length_map]
  rcases hO.1.2 with ⟨rfl, h0⟩ | ⟨g, cap, cur, rfl, _, hh, hcap, hmax, _⟩
  · have : L = [] := List.eq_nil_of_length_eq_zero h0
    subst this
    exact ⟨none, 0, rfl, by simp, by omega, fun j hj => absurd hj (by simp)⟩
  · refine ⟨_, cap, rfl, hcap, by unfold maxLen at hmax; omega, fun j hj => ?_⟩
    rw [List.length_map] at hj
    obtain ⟨b, cap', e, _, _, _, hc⟩ := hO.at_ (fun x => RQ.len x) hj
    injection e with e _ _
    injection e with e
    injection e with e
    subst e
    obtain ⟨⟨s1, s2, s3⟩, ⟨i1, i2, i3⟩, hrow⟩ := hG L[j] (List.getElem_mem hj)
    have hphi := hO.now L[j] (List.getElem_mem hj)
    obtain ⟨AQ, cQ, eQ, _, hQ, q1, q2⟩ := hrow.shps hphi hb
    injection eQ with e1 _ e2
    rw [List.getElem_map]
    refine ⟨g, 0, L[j].1.S, L[j].1.c, L[j].1.I, L[j].1.d, L[j].1.Q, L[j].1.q, rfl, lt_of_block hh, ?_, ?_, ?_, ?_, ?_, ?_, ?_, ?_, ?_, ?_, ⟨s1.below hb (Nat.le_refl _), s2, s3⟩, ⟨i1.below hb (Nat.le_refl _), i2, i3⟩, by rw [e1]; exact hQ, by rw [e2]; exact q1, by rw [e2]; exact q2⟩
    · have := hc 0 (by omega); simpa [RQ.cells, NodeQ.cells] using this
    · have := hc 1 (by omega); simpa [RQ.cells, NodeQ.cells] using this
    · have := hc 2 (by omega); simpa [RQ.cells, NodeQ.cells] using this
    · have := hc 3 (by omega); simpa [RQ.cells, NodeQ.cells] using this
    · have := hc 4 (by omega); simpa [RQ.cells, NodeQ.cells] using this
    · have := hc 5 (by omega); simpa [RQ.cells, NodeQ.cells] using this
    · have := hc 6 (by omega); simpa [RQ.cells, NodeQ.cells] using this
    · have := hc 7 (by omega); simpa [RQ.cells, NodeQ.cells] using this
    · have := hc 8 (by omega); simpa [RQ.cells, NodeQ.cells] using this
    · have := hc 9 (by omega); simpa [RQ.cells, NodeQ.cells] using this
/-- Behind an append. -/
theorem refrow_push {t : TypeId} {B C : Nat} {w W W' : World} {v v' : Value} {L : List RQ} {x : NodeQ} {vs : List Value} {C2 : Nat} (hO : OwnRow B C W t 10 v RQ.cells (RQ.Phi B) L) (hGL : ∀ x ∈ L, RQ.Good w x) (hC : C ≤ C2) (hB : B ≤ C2)
    (hown : W'.ownsRow B t 10 v' (L.length + 1) (L.flatMap RQ.cells ++ x.cells)) (hg : W.grownBy W' v.ownBlock) (hat : v'.ownBlock = v.ownBlock ∨ v'.ownBlock = some W.heap.size)
    (hx : W.ownsRow C2 22 1 (.slice x.Q x.v.p.length x.q) x.v.p.length vs) (hG : RQ.Good w (x, vs)) : RefRow t B W'.heap.size w W' v' (L.map (fun x => x.1.v) ++ [x.v]) := by
  refine ⟨L ++ [(x, vs)], by simp, ?_, fun y hy => ?_⟩
  · refine hO.push (x := ((x, vs) : RQ)) hown hg hat (F := fun b => (Value.slice x.Q x.v.p.length x.q).ownBlock = some b) (fun W2 h2 => ?_) (fun b hb => ?_)
    · exact ownsRow_heap (ownsRow_base hx hB) h2
    · obtain ⟨h1, h2⟩ := hx.lt b hb
      exact ⟨by omega, h2, fun e => by have := hO.2.1 b e.symm; omega⟩
  · rcases List.mem_append.1 hy with hy | hy
    · exact hGL y hy
    · simp at hy; subst hy; exact hG
def RefNetP (n : NetD) (A : Option Addr) (c : Nat) (w : World) (e : Ending) (w' : World) : Prop :=
  ∃ N' d', e = .returned (.agg #[.slice A n.inn.length c, .slice N' n.nodes.length d']) ∧ NetR w' A N' n ∧ n.nodes.length ≤ d' ∧ d' ≤ 9223372036854775807 ∧ Below w.heap.size w w'
def RInv (tN tR tE : TypeId) (n : NetD) (A N : Option Addr) (c d : Nat) (w : World) (k : Nat) (wx : World) : Prop :=
  Blk wx w.heap.size tN #[.slice A n.inn.length c, .slice N n.nodes.length d] ∧ Blk wx (w.heap.size + 1) tR #[.slice none 0 0, .slice none 0 0] ∧ Below w.heap.size w wx ∧
    ∃ v, Blk wx (w.heap.size + 2) tR #[.slice A n.inn.length c, v] ∧ RefRow tE (w.heap.size + 3) wx.heap.size w wx v (n.nodes.take k)
theorem refnode_info : (Try.prog.info? 74).map (fun i => (i.zero, i.size, i.bytes)) = some (some (.agg #[.int .i64 0, .int .i64 0, .int .i64 0, .int .i64 0, .int .i64 0, .int .i64 0, .int .i64 0, .slice none 0 0, .slice none 0 0, .slice none 0 0]), 10, 128) := by kernel_rfl
set_option maxRecDepth 20000 in
set_option maxHeartbeats 16000000 in
theorem ref_11 (A N : Option Addr) (c d : Nat) (n : NetD) (w : World) (hok : n.ok) (hR : NetR w A N n) :
    Calls Try.prog 13 #[.agg #[.slice A n.inn.length c, .slice N n.nodes.length d]] w (RefNetP n A c w) := by
  obtain ⟨i1, hj, hy0, hy1, hy2⟩ := info_parts shpsT_info
  obtain ⟨i2, hn, hn0, hn1, hn2⟩ := info_parts refnode_info
  have hnl := hok.2.1
  have hbx := below3 w (.cells #[.slice A n.inn.length c, .slice N n.nodes.length d] 26) (.cells #[.slice none 0 0, .slice none 0 0] 37) (.cells #[.slice A n.inn.length c, .slice none 0 0] 37)
  have hk1 := ((Blk.new w 26 #[.slice A n.inn.length c, .slice N n.nodes.length d]).alloc (.cells #[.slice none 0 0, .slice none 0 0] 37)).alloc (.cells #[.slice A n.inn.length c, .slice none 0 0] 37)
  have hk2 := (Blk.new (w.alloc (.cells #[.slice A n.inn.length c, .slice N n.nodes.length d] 26)) 37 #[.slice none 0 0, .slice none 0 0]).alloc (.cells #[.slice A n.inn.length c, .slice none 0 0] 37)
  have hk3 := Blk.new ((w.alloc (.cells #[.slice A n.inn.length c, .slice N n.nodes.length d] 26)).alloc (.cells #[.slice none 0 0, .slice none 0 0] 37)) 37 #[.slice A n.inn.length c, .slice none 0 0]
  rw [World.size_alloc] at hk2
  rw [World.size_alloc, World.size_alloc] at hk3
  have Hok := Lib.hid hok
  have HR := Lib.hid hR
  have Hk1 := Lib.hid hk1
  have Hk2 := Lib.hid hk2
  have Hk3 := Lib.hid hk3
  clear hok hR hk1 hk2 hk3
  go_enter Try.func13, Try.ntmps13
  go_wp2_with fail
  generalize ((w.alloc (.cells #[.slice A n.inn.length c, .slice N n.nodes.length d] 26)).alloc (.cells #[.slice none 0 0, .slice none 0 0] 37)).alloc (.cells #[.slice A n.inn.length c, .slice none 0 0] 37) = w1 at *
  have HI1 := Lib.hid (show RInv 26 37 74 n A N c d w 0 w1 from ⟨Hk1.out, Hk2.out, hbx, _, Hk3.out, by rw [List.take_zero]; exact RefRow.nil _ _ _ _⟩)
  clear Hk1 Hk2 Hk3 hbx
  go_loopw [15] (fun i wx => ∃ k : Nat, k ≤ n.nodes.length ∧ i = .int .i64 (k : Int) ∧ RInv 26 37 74 n A N c d w k wx) (fun i _ => n.nodes.length - (intOf i).toNat)
  case atStart => exact ⟨0, Nat.zero_le _, rfl, HI1.out⟩
  case round =>
    obtain ⟨k, hk, rfl, hb1, hb2, hbw, v0, hb3, hrow⟩ := hrel
    clear HI1
    have hl3 := hb3.lt
    by_cases hlt : k < n.nodes.length
    · obtain ⟨b, off, S, sc, J, ic, Q, qc, rfl, hNA, hs1, hI1, hq1⟩ := HR.out.2.at_ hlt
      have hnok := Hok.out.2.2 _ (List.getElem_mem hlt)
      have htk := List.take_succ_eq_append_getElem hlt
      have hpl := hnok.2.2.2.1
      have hSi := hNA.2.1
      have hJi := hNA.2.2.1
      have hQi := hNA.2.2.2
      generalize n.nodes[k] = v at *
      obtain ⟨⟨y0, y1, y2, y3, y4, y5, y6, y7, y8, y9⟩, -⟩ := hNA.below hbw
      have hkn := (Blk.new wr 46 #[.int .i64 v.op.kind, .int .i64 v.op.k, .int .i64 v.op.width, .int .i64 v.op.step, .int .i64 v.op.side, .int .i64 v.op.frm, .int .i64 v.op.to, .slice S v.op.s.length sc, .slice J v.ins.length ic, .slice Q v.p.length qc]).alloc (.cells #[.int .i64 v.op.kind, .int .i64 v.op.k, .int .i64 v.op.width, .int .i64 v.op.step, .int .i64 v.op.side, .int .i64 v.op.frm, .int .i64 v.op.to, .slice S v.op.s.length sc, .slice J v.ins.length ic, .slice none 0 0] 74)
      have hky := Blk.new (wr.alloc (.cells #[.int .i64 v.op.kind, .int .i64 v.op.k, .int .i64 v.op.width, .int .i64 v.op.step, .int .i64 v.op.side, .int .i64 v.op.frm, .int .i64 v.op.to, .slice S v.op.s.length sc, .slice J v.ins.length ic, .slice Q v.p.length qc] 46)) 74 #[.int .i64 v.op.kind, .int .i64 v.op.k, .int .i64 v.op.width, .int .i64 v.op.step, .int .i64 v.op.side, .int .i64 v.op.frm, .int .i64 v.op.to, .slice S v.op.s.length sc, .slice J v.ins.length ic, .slice none 0 0]
      rw [World.size_alloc] at hky
      have hbn : Below wr.heap.size wr ((wr.alloc (.cells #[.int .i64 v.op.kind, .int .i64 v.op.k, .int .i64 v.op.width, .int .i64 v.op.step, .int .i64 v.op.side, .int .i64 v.op.frm, .int .i64 v.op.to, .slice S v.op.s.length sc, .slice J v.ins.length ic, .slice Q v.p.length qc] 46)).alloc (.cells #[.int .i64 v.op.kind, .int .i64 v.op.k, .int .i64 v.op.width, .int .i64 v.op.step, .int .i64 v.op.side, .int .i64 v.op.frm, .int .i64 v.op.to, .slice S v.op.s.length sc, .slice J v.ins.length ic, .slice none 0 0] 74)) := below2 wr _ _
      have Hb1 := Lib.hid hb1
      have Hb2 := Lib.hid hb2
      have Hb3 := Lib.hid hb3
      have Hrow := Lib.hid hrow
      have HNA := Lib.hid hNA
      have Hnok := Lib.hid hnok
      have Htk := Lib.hid htk
      have HSi := Lib.hid hSi
      have HJi := Lib.hid hJi
      have HQi := Lib.hid hQi
      have Hkn := Lib.hid hkn
      have Hky := Lib.hid hky
      clear hb1 hb2 hb3 hrow hNA hnok htk hSi hJi hQi hkn hky
      go_wp2_with fail
      clear y0 y1 y2 y3 y4 y5 y6 y7 y8 y9
      generalize ((wr.alloc (.cells #[.int .i64 v.op.kind, .int .i64 v.op.k, .int .i64 v.op.width, .int .i64 v.op.step, .int .i64 v.op.side, .int .i64 v.op.frm, .int .i64 v.op.to, .slice S v.op.s.length sc, .slice J v.ins.length ic, .slice Q v.p.length qc] 46)).alloc (.cells #[.int .i64 v.op.kind, .int .i64 v.op.k, .int .i64 v.op.width, .int .i64 v.op.step, .int .i64 v.op.side, .int .i64 v.op.frm, .int .i64 v.op.to, .slice S v.op.s.length sc, .slice J v.ins.length ic, .slice none 0 0] 74)) = w2 at *
      obtain ⟨wo, rfl⟩ : ∃ wo, wo = wr := ⟨wr, rfl⟩
      go_loopw [50] (fun i wx => ∃ (m : Nat) (vs : List Value) (u : Value), m ≤ v.p.length ∧ i = .int .i64 (m : Int) ∧ Blk wx wo.heap.size 46 #[.int .i64 v.op.kind, .int .i64 v.op.k, .int .i64 v.op.width, .int .i64 v.op.step, .int .i64 v.op.side, .int .i64 v.op.frm, .int .i64 v.op.to, .slice S v.op.s.length sc, .slice J v.ins.length ic, .slice Q v.p.length qc] ∧ Blk wx (wo.heap.size + 1) 74 #[.int .i64 v.op.kind, .int .i64 v.op.k, .int .i64 v.op.width, .int .i64 v.op.step, .int .i64 v.op.side, .int .i64 v.op.frm, .int .i64 v.op.to, .slice S v.op.s.length sc, .slice J v.ins.length ic, u] ∧ wx.ownsRow (wo.heap.size + 2) 22 1 u m vs ∧ RowOf w vs (v.p.take m) ∧ Below wo.heap.size wo wx ∧ wo.heap.size + 2 ≤ wx.heap.size) (fun i _ => v.p.length - (intOf i).toNat)
      case atStart => exact ⟨0, [], _, Nat.zero_le _, rfl, Hkn.out, Hky.out, World.ownsRow_nil _ _ _ _, RowOf.nil _, hbn, by have := Hky.out.lt; omega⟩
      case round =>
        obtain ⟨m, vs, u, hm, rfl, hkn, hky, hown, hro, hbx, hsz⟩ := hrel
        clear Hkn Hky
        obtain ⟨A9, c9, rfl⟩ := own_form hown
        by_cases hlm : m < v.p.length
        · have hbwx := hbw.trans (hbx.mono hbw.size)
          obtain ⟨b5, o5, Ss, cs, rfl, -, hcs, hIs, hs5, hs6⟩ := HQi.out m hlm
          have hcs2 := cell_below hbwx hcs
          have hpush := hro.push hIs hs5 hs6
          rw [← List.take_succ_eq_append_getElem hlm] at hpush
          have y9 : wr.cell? ⟨wo.heap.size + 1, 9, none⟩ = some (.slice A9 m c9) := by rw [hky.cell]; rfl
          have f9 := hky.frozen 9
          generalize v.p[m] = t at *
          have ho := ownsRow_new hown (.cells #[.slice Ss t.length cs] 22)
          have hbx2 := hbx.alloc hbx.size (.cells #[.slice Ss t.length cs] 22)
          have hkn2 := hkn.alloc (.cells #[.slice Ss t.length cs] 22)
          have hky2 := hky.alloc (.cells #[.slice Ss t.length cs] 22)
          have hlo : ∀ b, (Value.slice A9 m c9).ownBlock = some b → wo.heap.size + 2 ≤ b := fun b hb => (hown.lt b hb).1
          have Hkn := Lib.hid hkn
          have Hky := Lib.hid hky
          have Hro := Lib.hid hro
          have Hpush := Lib.hid hpush
          have Hkn2 := Lib.hid hkn2
          have Hky2 := Lib.hid hky2
          have Hlo := Lib.hid hlo
          have HIs := Lib.hid hIs
          clear hkn hky hro hpush hkn2 hky2 hlo hIs
          clear hown hcs
          go_wp2_with (at_builtin; refine wpList_append_own_at _ rfl _ _ 32 rfl (wo.heap.size + 2) 22 i1 (.slice none 0 0) 1 24 Try.underlying32 hj hy0 hy1 hy2 rfl (by decide) _ _ _ rfl ho ⟨wr.heap.size, 0, none⟩ 1 1 [.slice Ss t.length cs] rfl rfl ?c1 (by intro u hu; simp at hu; subst hu; rfl) (by unfold maxLen; omega) (by omega) ?c2 ?_)
          first | (case c1 => exact one_new wr _ _) | skip
          case c2 => first | (simp; omega) | omega
          intro v' w3 hown' hgrow _ hat
          obtain ⟨A8, c8, rfl⟩ := own_form hown'
          have hb3 : Below wo.heap.size wo w3 := hbx2.grown hgrow hbx2.size (fun b hb => by have := Hlo.out b hb; omega)
          have hs3 := hgrow.size
          simp at hs3
          have hkn3 := Hkn2.out.grown hgrow (fun e => by have := Hlo.out _ e.symm; omega)
          have hky3 := Hky2.out.grown hgrow (fun e => by have := Hlo.out _ e.symm; omega)
          have y9' : w3.cell? ⟨wo.heap.size + 1, 9, none⟩ = some (.slice A9 m c9) := by rw [hky3.cell]; rfl
          have f9' := hky3.frozen 9
          have HK := Lib.hid (hkn3.far (p := ⟨wo.heap.size + 1, 9, none⟩) (by simp) (.slice A8 (m + 1) c8))
          have hky4 := hky3.set_ 9 (.slice A8 (m + 1) c8)
          have HY := Lib.hid (show Blk (w3.setCell ⟨wo.heap.size + 1, 9, none⟩ (.slice A8 (m + 1) c8)) (wo.heap.size + 1) 74 #[.int .i64 v.op.kind, .int .i64 v.op.k, .int .i64 v.op.width, .int .i64 v.op.step, .int .i64 v.op.side, .int .i64 v.op.frm, .int .i64 v.op.to, .slice S v.op.s.length sc, .slice J v.ins.length ic, .slice A8 (m + 1) c8] from hky4)
          have hb4 := hb3.setCell (p := ⟨wo.heap.size + 1, 9, none⟩) (by simp) (.slice A8 (m + 1) c8)
          have HO3 := Lib.hid (ownsRow_heap (w' := w3.setCell ⟨wo.heap.size + 1, 9, none⟩ (.slice A8 (m + 1) c8)) hown' (fun g hg => Below.heap_setCell w3 _ _ g (by have := (hown'.lt g hg).1; simp; omega)))
          clear hown' hgrow hat ho hbx2 hkn3 hky3 hky4 y9 f9
          go_wp2_with fail
          go_roundw
          case rel => exact ⟨m + 1, _, _, by omega, by go_num, HK.out, HY.out, HO3.out, Hpush.out, hb4, by simp; omega⟩
          case measure => simp [intOf]; omega
        · obtain rfl : m = v.p.length := by omega
          rw [List.take_length] at hro
          have hbwx := hbw.trans (hbx.mono hbw.size)
          obtain ⟨y0, y1, y2, y3, y4, y5, y6, y7, y8, y9⟩ : wr.cell? ⟨wo.heap.size + 1, 0, none⟩ = some (.int .i64 v.op.kind) ∧ wr.cell? ⟨wo.heap.size + 1, 1, none⟩ = some (.int .i64 v.op.k) ∧ wr.cell? ⟨wo.heap.size + 1, 2, none⟩ = some (.int .i64 v.op.width) ∧ wr.cell? ⟨wo.heap.size + 1, 3, none⟩ = some (.int .i64 v.op.step) ∧ wr.cell? ⟨wo.heap.size + 1, 4, none⟩ = some (.int .i64 v.op.side) ∧ wr.cell? ⟨wo.heap.size + 1, 5, none⟩ = some (.int .i64 v.op.frm) ∧ wr.cell? ⟨wo.heap.size + 1, 6, none⟩ = some (.int .i64 v.op.to) ∧ wr.cell? ⟨wo.heap.size + 1, 7, none⟩ = some (.slice S v.op.s.length sc) ∧ wr.cell? ⟨wo.heap.size + 1, 8, none⟩ = some (.slice J v.ins.length ic) ∧ wr.cell? ⟨wo.heap.size + 1, 9, none⟩ = some (.slice A9 v.p.length c9) := ⟨hky.cell 0, hky.cell 1, hky.cell 2, hky.cell 3, hky.cell 4, hky.cell 5, hky.cell 6, hky.cell 7, hky.cell 8, hky.cell 9⟩
          obtain ⟨L, hL, hOL, hGL⟩ := Hrow.out
          obtain ⟨A0, c0, rfl, h00⟩ := hOL.form
          have hkl : L.length = k := by have := congrArg List.length hL; simp at this; omega
          have hb3x := Hb3.out.below hbx (by omega)
          have hb1x := Hb1.out.below hbx (by have := Hb1.out.lt; omega)
          have hb2x := Hb2.out.below hbx (by have := Hb2.out.lt; omega)
          rw [hkl] at h00
          have hfrx : Fr (fun b => wo.heap.size ≤ b) wo wr := Fr.of_below hbx (fun b hb hS => by omega)
          have hOx := (hOL.fr hfrx (fun b h1 h2 h3 => by omega)).fr ((Fr.refl (fun _ => False) wr).alloc (.cells #[.int .i64 v.op.kind, .int .i64 v.op.k, .int .i64 v.op.width, .int .i64 v.op.step, .int .i64 v.op.side, .int .i64 v.op.frm, .int .i64 v.op.to, .slice S v.op.s.length sc, .slice J v.ins.length ic, .slice A9 v.p.length c9] 74)) (fun b h1 h2 h3 => h3)
          have hownx := ownsRow_new hown (.cells #[.int .i64 v.op.kind, .int .i64 v.op.k, .int .i64 v.op.width, .int .i64 v.op.step, .int .i64 v.op.side, .int .i64 v.op.frm, .int .i64 v.op.to, .slice S v.op.s.length sc, .slice J v.ins.length ic, .slice A9 v.p.length c9] 74)
          have hb3y := hb3x.alloc (.cells #[.int .i64 v.op.kind, .int .i64 v.op.k, .int .i64 v.op.width, .int .i64 v.op.step, .int .i64 v.op.side, .int .i64 v.op.frm, .int .i64 v.op.to, .slice S v.op.s.length sc, .slice J v.ins.length ic, .slice A9 v.p.length c9] 74)
          have hb1y := hb1x.alloc (.cells #[.int .i64 v.op.kind, .int .i64 v.op.k, .int .i64 v.op.width, .int .i64 v.op.step, .int .i64 v.op.side, .int .i64 v.op.frm, .int .i64 v.op.to, .slice S v.op.s.length sc, .slice J v.ins.length ic, .slice A9 v.p.length c9] 74)
          have hb2y := hb2x.alloc (.cells #[.int .i64 v.op.kind, .int .i64 v.op.k, .int .i64 v.op.width, .int .i64 v.op.step, .int .i64 v.op.side, .int .i64 v.op.frm, .int .i64 v.op.to, .slice S v.op.s.length sc, .slice J v.ins.length ic, .slice A9 v.p.length c9] 74)
          have hbwy := hbwx.alloc hbwx.size (.cells #[.int .i64 v.op.kind, .int .i64 v.op.k, .int .i64 v.op.width, .int .i64 v.op.step, .int .i64 v.op.side, .int .i64 v.op.frm, .int .i64 v.op.to, .slice S v.op.s.length sc, .slice J v.ins.length ic, .slice A9 v.p.length c9] 74)
          have hd6 := Blk.new wr 74 #[.int .i64 v.op.kind, .int .i64 v.op.k, .int .i64 v.op.width, .int .i64 v.op.step, .int .i64 v.op.side, .int .i64 v.op.frm, .int .i64 v.op.to, .slice S v.op.s.length sc, .slice J v.ins.length ic, .slice A9 v.p.length c9]
          have hlo : ∀ b, (Value.slice A0 L.length c0).ownBlock = some b → w.heap.size + 3 ≤ b := fun b hb => (hOL.1.lt b hb).1
          rw [hkl] at hlo
          have z1 : wr.cell? ⟨w.heap.size + 2, 1, none⟩ = some (.slice A0 k c0) := by rw [hb3x.cell, hkl]; rfl
          have hO1 := hOx.1
          rw [hkl] at hO1
          have Hkn := Lib.hid hkn
          have Hky := Lib.hid hky
          have Hown := Lib.hid hown
          have Hro := Lib.hid hro
          have Hb3x := Lib.hid hb3x
          have Hb1x := Lib.hid hb1x
          have Hb2x := Lib.hid hb2x
          have HOx := Lib.hid hOx
          have Hownx := Lib.hid hownx
          have Hb3y := Lib.hid hb3y
          have Hb1y := Lib.hid hb1y
          have Hb2y := Lib.hid hb2y
          have Hd6 := Lib.hid hd6
          have Hlo := Lib.hid hlo
          have HL := Lib.hid hL
          have HGL := Lib.hid hGL
          have HOL := Lib.hid hOL
          have Hkl := Lib.hid hkl
          have HO1 := Lib.hid hO1
          clear hkn hky hown hro hb3x hb1x hb2x hOx hownx hb3y hb1y hb2y hd6 hlo hL hGL hOL hkl hO1
          clear Hrow Hb1 Hb2 Hb3 hfrx
          go_wp2_with (at_builtin; refine wpList_append_own_at _ rfl _ _ 35 rfl (w.heap.size + 3) 74 i2 (.agg #[.int .i64 0, .int .i64 0, .int .i64 0, .int .i64 0, .int .i64 0, .int .i64 0, .int .i64 0, .slice none 0 0, .slice none 0 0, .slice none 0 0]) 10 128 Try.underlying35 hn hn0 hn1 hn2 rfl (by decide) _ k (L.flatMap RQ.cells) rfl HO1.out ⟨wr.heap.size, 0, none⟩ 1 1 [.int .i64 v.op.kind, .int .i64 v.op.k, .int .i64 v.op.width, .int .i64 v.op.step, .int .i64 v.op.side, .int .i64 v.op.frm, .int .i64 v.op.to, .slice S v.op.s.length sc, .slice J v.ins.length ic, .slice A9 v.p.length c9] rfl rfl ?c1 ?c2 ?c3 ?c4 ?c5 ?_)
          case c1 => exact World.news_of_block (cs := #[.int .i64 v.op.kind, .int .i64 v.op.k, .int .i64 v.op.width, .int .i64 v.op.step, .int .i64 v.op.side, .int .i64 v.op.frm, .int .i64 v.op.to, .slice S v.op.s.length sc, .slice J v.ins.length ic, .slice A9 v.p.length c9]) Hd6.out
          case c2 => intro u hu; simp at hu; rcases hu with rfl | rfl | rfl | rfl | rfl | rfl | rfl | rfl | rfl | rfl <;> rfl
          case c3 => unfold maxLen; omega
          case c4 => omega
          case c5 => simp; omega
          intro v7 w7 hown7 hg7 _ hat7
          obtain ⟨A7, c7, rfl⟩ := own_form hown7
          have hsa : wr.heap.size + 1 = (wr.alloc (.cells #[.int .i64 v.op.kind, .int .i64 v.op.k, .int .i64 v.op.width, .int .i64 v.op.step, .int .i64 v.op.side, .int .i64 v.op.frm, .int .i64 v.op.to, .slice S v.op.s.length sc, .slice J v.ins.length ic, .slice A9 v.p.length c9] 74)).heap.size := by simp
          rw [hsa] at hat7
          clear hsa
          have hkl := Hkl.out
          generalize (wr.alloc (.cells #[.int .i64 v.op.kind, .int .i64 v.op.k, .int .i64 v.op.width, .int .i64 v.op.step, .int .i64 v.op.side, .int .i64 v.op.frm, .int .i64 v.op.to, .slice S v.op.s.length sc, .slice J v.ins.length ic, .slice A9 v.p.length c9] 74)) = w6 at *
          have hg8 := hg7
          rw [← hkl] at hown7 hg8 hat7
          have hpush := refrow_push (x := (⟨v, S, sc, J, ic, A9, c9⟩ : NodeQ)) (vs := vs) HOx.out HGL.out (C2 := wo.heap.size + 2) (by omega) (by omega) hown7 hg8 hat7 Hownx.out ⟨⟨HSi.out, hs1⟩, ⟨HJi.out, hI1⟩, Hro.out⟩
          rw [HL.out] at hpush
          have hpush : RefRow 74 (w.heap.size + 3) w7.heap.size w w7 (.slice A7 (L.length + 1) c7) (n.nodes.take (k + 1)) := by rw [Htk.out]; exact hpush
          rw [hkl] at hpush
          have hb3z := Hb3y.out.grown hg7 (fun e => by have := Hlo.out _ e.symm; omega)
          have hb1z := Hb1y.out.grown hg7 (fun e => by have := Hlo.out _ e.symm; omega)
          have hb2z := Hb2y.out.grown hg7 (fun e => by have := Hlo.out _ e.symm; omega)
          rw [hkl] at hb3z
          have hbwz : Below w.heap.size w w7 := hbwy.grown hg7 hbwy.size (fun b hb => by have := Hlo.out b hb; omega)
          have z1' : w7.cell? ⟨w.heap.size + 2, 1, none⟩ = some (.slice A0 k c0) := by rw [hb3z.cell]; rfl
          have f1' := hb3z.frozen 1
          have hfs : Fr (fun b => b = w.heap.size + 2) w7 (w7.setCell ⟨w.heap.size + 2, 1, none⟩ (.slice A7 (k + 1) c7)) := (Fr.refl (fun b => b = w.heap.size + 2) w7).setCell (p := ⟨w.heap.size + 2, 1, none⟩) (fun _ => rfl) (.slice A7 (k + 1) c7)
          have HP := Lib.hid (hpush.fr hfs (fun b h1 h2 h3 => by omega))
          have H1 := Lib.hid (hfs.blk hb1z (by omega))
          have H2 := Lib.hid (hfs.blk hb2z (by omega))
          have h3 := hb3z.set_ 1 (.slice A7 (k + 1) c7)
          have H3 := Lib.hid (show Blk (w7.setCell ⟨w.heap.size + 2, 1, none⟩ (.slice A7 (k + 1) c7)) (w.heap.size + 2) 37 #[.slice A n.inn.length c, .slice A7 (k + 1) c7] from h3)
          have H4 := Lib.hid (hbwz.setCell (p := ⟨w.heap.size + 2, 1, none⟩) (by simp) (.slice A7 (k + 1) c7))
          clear hown7 hg7 hg8 hat7 hpush hb3z hb1z hb2z hbwz hfs h3 hkl hbwy hbwx
          go_wp2_with fail
          go_roundw
          case rel => exact ⟨k + 1, by omega, by go_num, H1.out, H2.out, H4.out, _, H3.out, by simpa using HP.out⟩
          case measure => simp [intOf]; omega
    · obtain rfl : k = n.nodes.length := by omega
      rw [List.take_length] at hrow
      obtain ⟨N', d', rfl, hd1, hd2, -⟩ := hrow.nodes hbw
      have hfr : Fr (fun b => b = w.heap.size + 1) wr ((wr.setCell ⟨w.heap.size + 1, 0, none⟩ (.slice A n.inn.length c)).setCell ⟨w.heap.size + 1, 1, none⟩ (.slice N' n.nodes.length d')) := ((Fr.refl (fun b => b = w.heap.size + 1) wr).setCell (p := ⟨w.heap.size + 1, 0, none⟩) (fun _ => rfl) _).setCell (p := ⟨w.heap.size + 1, 1, none⟩) (fun _ => rfl) _
      have hbw2 : Below w.heap.size w ((wr.setCell ⟨w.heap.size + 1, 0, none⟩ (.slice A n.inn.length c)).setCell ⟨w.heap.size + 1, 1, none⟩ (.slice N' n.nodes.length d')) := (hbw.setCell (p := ⟨w.heap.size + 1, 0, none⟩) (by simp) _).setCell (p := ⟨w.heap.size + 1, 1, none⟩) (by simp) _
      obtain ⟨N2, d2, e2, -, -, hNodes⟩ := (hrow.fr hfr (fun b h1 h2 h3 => by omega)).nodes hbw2
      injection e2 with e3 _ e4
      subst e3 e4
      have hIn := HR.out.1.below hbw2 (Nat.le_refl _)
      have z0 : wr.cell? ⟨w.heap.size + 2, 0, none⟩ = some (.slice A n.inn.length c) := by rw [hb3.cell]; rfl
      have z1 : wr.cell? ⟨w.heap.size + 2, 1, none⟩ = some (.slice N' n.nodes.length d') := by rw [hb3.cell]; rfl
      have r0 : wr.cell? ⟨w.heap.size + 1, 0, none⟩ = some (.slice none 0 0) := by rw [hb2.cell]; rfl
      have r1 : wr.cell? ⟨w.heap.size + 1, 1, none⟩ = some (.slice none 0 0) := by rw [hb2.cell]; rfl
      have f0 := hb2.frozen 0
      have f1 := hb2.frozen 1
      clear hfr
      have Hb1 := Lib.hid hb1
      have Hb2 := Lib.hid hb2
      have Hb3 := Lib.hid hb3
      have Hrow := Lib.hid hrow
      have HNodes := Lib.hid hNodes
      have HIn := Lib.hid hIn
      clear hb1 hb2 hb3 hrow hNodes hIn
      go_wp2_with fail
      exact bodyPost_ret (v := .agg #[.slice A n.inn.length c, .slice N' n.nodes.length d']) (by simp [results, Try.results13, go_sem, r0, r1]) rfl ⟨N', d', rfl, ⟨HIn.out, HNodes.out⟩, hd1, hd2, hbw2⟩
set_option maxRecDepth 20000 in
set_option maxHeartbeats 16000000 in
theorem ref_13 (A N : Option Addr) (c d : Nat) (n : NetD) (w : World) (hok : n.ok) (hR : NetR w A N n) :
    Calls Try.prog 32 #[.agg #[.slice A n.inn.length c, .slice N n.nodes.length d]] w (RefNetP n A c w) := by
  obtain ⟨i1, hj, hy0, hy1, hy2⟩ := info_parts shpsT_info
  obtain ⟨i2, hn, hn0, hn1, hn2⟩ := info_parts refnode_info
  have hnl := hok.2.1
  have hbx := below3 w (.cells #[.slice A n.inn.length c, .slice N n.nodes.length d] 26) (.cells #[.slice none 0 0, .slice none 0 0] 37) (.cells #[.slice A n.inn.length c, .slice none 0 0] 37)
  have hk1 := ((Blk.new w 26 #[.slice A n.inn.length c, .slice N n.nodes.length d]).alloc (.cells #[.slice none 0 0, .slice none 0 0] 37)).alloc (.cells #[.slice A n.inn.length c, .slice none 0 0] 37)
  have hk2 := (Blk.new (w.alloc (.cells #[.slice A n.inn.length c, .slice N n.nodes.length d] 26)) 37 #[.slice none 0 0, .slice none 0 0]).alloc (.cells #[.slice A n.inn.length c, .slice none 0 0] 37)
  have hk3 := Blk.new ((w.alloc (.cells #[.slice A n.inn.length c, .slice N n.nodes.length d] 26)).alloc (.cells #[.slice none 0 0, .slice none 0 0] 37)) 37 #[.slice A n.inn.length c, .slice none 0 0]
  rw [World.size_alloc] at hk2
  rw [World.size_alloc, World.size_alloc] at hk3
  have Hok := Lib.hid hok
  have HR := Lib.hid hR
  have Hk1 := Lib.hid hk1
  have Hk2 := Lib.hid hk2
  have Hk3 := Lib.hid hk3
  clear hok hR hk1 hk2 hk3
  go_enter Try.func32, Try.ntmps32
  go_wp2_with fail
  generalize ((w.alloc (.cells #[.slice A n.inn.length c, .slice N n.nodes.length d] 26)).alloc (.cells #[.slice none 0 0, .slice none 0 0] 37)).alloc (.cells #[.slice A n.inn.length c, .slice none 0 0] 37) = w1 at *
  have HI1 := Lib.hid (show RInv 26 37 74 n A N c d w 0 w1 from ⟨Hk1.out, Hk2.out, hbx, _, Hk3.out, by rw [List.take_zero]; exact RefRow.nil _ _ _ _⟩)
  clear Hk1 Hk2 Hk3 hbx
  go_loopw [15] (fun i wx => ∃ k : Nat, k ≤ n.nodes.length ∧ i = .int .i64 (k : Int) ∧ RInv 26 37 74 n A N c d w k wx) (fun i _ => n.nodes.length - (intOf i).toNat)
  case atStart => exact ⟨0, Nat.zero_le _, rfl, HI1.out⟩
  case round =>
    obtain ⟨k, hk, rfl, hb1, hb2, hbw, v0, hb3, hrow⟩ := hrel
    clear HI1
    have hl3 := hb3.lt
    by_cases hlt : k < n.nodes.length
    · obtain ⟨b, off, S, sc, J, ic, Q, qc, rfl, hNA, hs1, hI1, hq1⟩ := HR.out.2.at_ hlt
      have hnok := Hok.out.2.2 _ (List.getElem_mem hlt)
      have htk := List.take_succ_eq_append_getElem hlt
      have hpl := hnok.2.2.2.1
      have hSi := hNA.2.1
      have hJi := hNA.2.2.1
      have hQi := hNA.2.2.2
      generalize n.nodes[k] = v at *
      obtain ⟨⟨y0, y1, y2, y3, y4, y5, y6, y7, y8, y9⟩, -⟩ := hNA.below hbw
      have hkn := (Blk.new wr 46 #[.int .i64 v.op.kind, .int .i64 v.op.k, .int .i64 v.op.width, .int .i64 v.op.step, .int .i64 v.op.side, .int .i64 v.op.frm, .int .i64 v.op.to, .slice S v.op.s.length sc, .slice J v.ins.length ic, .slice Q v.p.length qc]).alloc (.cells #[.int .i64 v.op.kind, .int .i64 v.op.k, .int .i64 v.op.width, .int .i64 v.op.step, .int .i64 v.op.side, .int .i64 v.op.frm, .int .i64 v.op.to, .slice S v.op.s.length sc, .slice J v.ins.length ic, .slice none 0 0] 74)
      have hky := Blk.new (wr.alloc (.cells #[.int .i64 v.op.kind, .int .i64 v.op.k, .int .i64 v.op.width, .int .i64 v.op.step, .int .i64 v.op.side, .int .i64 v.op.frm, .int .i64 v.op.to, .slice S v.op.s.length sc, .slice J v.ins.length ic, .slice Q v.p.length qc] 46)) 74 #[.int .i64 v.op.kind, .int .i64 v.op.k, .int .i64 v.op.width, .int .i64 v.op.step, .int .i64 v.op.side, .int .i64 v.op.frm, .int .i64 v.op.to, .slice S v.op.s.length sc, .slice J v.ins.length ic, .slice none 0 0]
      rw [World.size_alloc] at hky
      have hbn : Below wr.heap.size wr ((wr.alloc (.cells #[.int .i64 v.op.kind, .int .i64 v.op.k, .int .i64 v.op.width, .int .i64 v.op.step, .int .i64 v.op.side, .int .i64 v.op.frm, .int .i64 v.op.to, .slice S v.op.s.length sc, .slice J v.ins.length ic, .slice Q v.p.length qc] 46)).alloc (.cells #[.int .i64 v.op.kind, .int .i64 v.op.k, .int .i64 v.op.width, .int .i64 v.op.step, .int .i64 v.op.side, .int .i64 v.op.frm, .int .i64 v.op.to, .slice S v.op.s.length sc, .slice J v.ins.length ic, .slice none 0 0] 74)) := below2 wr _ _
      have Hb1 := Lib.hid hb1
      have Hb2 := Lib.hid hb2
      have Hb3 := Lib.hid hb3
      have Hrow := Lib.hid hrow
      have HNA := Lib.hid hNA
      have Hnok := Lib.hid hnok
      have Htk := Lib.hid htk
      have HSi := Lib.hid hSi
      have HJi := Lib.hid hJi
      have HQi := Lib.hid hQi
      have Hkn := Lib.hid hkn
      have Hky := Lib.hid hky
      clear hb1 hb2 hb3 hrow hNA hnok htk hSi hJi hQi hkn hky
      go_wp2_with fail
      clear y0 y1 y2 y3 y4 y5 y6 y7 y8 y9
      generalize ((wr.alloc (.cells #[.int .i64 v.op.kind, .int .i64 v.op.k, .int .i64 v.op.width, .int .i64 v.op.step, .int .i64 v.op.side, .int .i64 v.op.frm, .int .i64 v.op.to, .slice S v.op.s.length sc, .slice J v.ins.length ic, .slice Q v.p.length qc] 46)).alloc (.cells #[.int .i64 v.op.kind, .int .i64 v.op.k, .int .i64 v.op.width, .int .i64 v.op.step, .int .i64 v.op.side, .int .i64 v.op.frm, .int .i64 v.op.to, .slice S v.op.s.length sc, .slice J v.ins.length ic, .slice none 0 0] 74)) = w2 at *
      obtain ⟨wo, rfl⟩ : ∃ wo, wo = wr := ⟨wr, rfl⟩
      go_loopw [50] (fun i wx => ∃ (m : Nat) (vs : List Value) (u : Value), m ≤ v.p.length ∧ i = .int .i64 (m : Int) ∧ Blk wx wo.heap.size 46 #[.int .i64 v.op.kind, .int .i64 v.op.k, .int .i64 v.op.width, .int .i64 v.op.step, .int .i64 v.op.side, .int .i64 v.op.frm, .int .i64 v.op.to, .slice S v.op.s.length sc, .slice J v.ins.length ic, .slice Q v.p.length qc] ∧ Blk wx (wo.heap.size + 1) 74 #[.int .i64 v.op.kind, .int .i64 v.op.k, .int .i64 v.op.width, .int .i64 v.op.step, .int .i64 v.op.side, .int .i64 v.op.frm, .int .i64 v.op.to, .slice S v.op.s.length sc, .slice J v.ins.length ic, u] ∧ wx.ownsRow (wo.heap.size + 2) 22 1 u m vs ∧ RowOf w vs (v.p.take m) ∧ Below wo.heap.size wo wx ∧ wo.heap.size + 2 ≤ wx.heap.size) (fun i _ => v.p.length - (intOf i).toNat)
      case atStart => exact ⟨0, [], _, Nat.zero_le _, rfl, Hkn.out, Hky.out, World.ownsRow_nil _ _ _ _, RowOf.nil _, hbn, by have := Hky.out.lt; omega⟩
      case round =>
        obtain ⟨m, vs, u, hm, rfl, hkn, hky, hown, hro, hbx, hsz⟩ := hrel
        clear Hkn Hky
        obtain ⟨A9, c9, rfl⟩ := own_form hown
        by_cases hlm : m < v.p.length
        · have hbwx := hbw.trans (hbx.mono hbw.size)
          obtain ⟨b5, o5, Ss, cs, rfl, -, hcs, hIs, hs5, hs6⟩ := HQi.out m hlm
          have hcs2 := cell_below hbwx hcs
          have hpush := hro.push hIs hs5 hs6
          rw [← List.take_succ_eq_append_getElem hlm] at hpush
          have y9 : wr.cell? ⟨wo.heap.size + 1, 9, none⟩ = some (.slice A9 m c9) := by rw [hky.cell]; rfl
          have f9 := hky.frozen 9
          generalize v.p[m] = t at *
          have ho := ownsRow_new hown (.cells #[.slice Ss t.length cs] 22)
          have hbx2 := hbx.alloc hbx.size (.cells #[.slice Ss t.length cs] 22)
          have hkn2 := hkn.alloc (.cells #[.slice Ss t.length cs] 22)
          have hky2 := hky.alloc (.cells #[.slice Ss t.length cs] 22)
          have hlo : ∀ b, (Value.slice A9 m c9).ownBlock = some b → wo.heap.size + 2 ≤ b := fun b hb => (hown.lt b hb).1
          have Hkn := Lib.hid hkn
          have Hky := Lib.hid hky
          have Hro := Lib.hid hro
          have Hpush := Lib.hid hpush
          have Hkn2 := Lib.hid hkn2
          have Hky2 := Lib.hid hky2
          have Hlo := Lib.hid hlo
          have HIs := Lib.hid hIs
          clear hkn hky hro hpush hkn2 hky2 hlo hIs
          clear hown hcs
          go_wp2_with (at_builtin; refine wpList_append_own_at _ rfl _ _ 32 rfl (wo.heap.size + 2) 22 i1 (.slice none 0 0) 1 24 Try.underlying32 hj hy0 hy1 hy2 rfl (by decide) _ _ _ rfl ho ⟨wr.heap.size, 0, none⟩ 1 1 [.slice Ss t.length cs] rfl rfl ?c1 (by intro u hu; simp at hu; subst hu; rfl) (by unfold maxLen; omega) (by omega) ?c2 ?_)
          first | (case c1 => exact one_new wr _ _) | skip
          case c2 => first | (simp; omega) | omega
          intro v' w3 hown' hgrow _ hat
          obtain ⟨A8, c8, rfl⟩ := own_form hown'
          have hb3 : Below wo.heap.size wo w3 := hbx2.grown hgrow hbx2.size (fun b hb => by have := Hlo.out b hb; omega)
          have hs3 := hgrow.size
          simp at hs3
          have hkn3 := Hkn2.out.grown hgrow (fun e => by have := Hlo.out _ e.symm; omega)
          have hky3 := Hky2.out.grown hgrow (fun e => by have := Hlo.out _ e.symm; omega)
          have y9' : w3.cell? ⟨wo.heap.size + 1, 9, none⟩ = some (.slice A9 m c9) := by rw [hky3.cell]; rfl
          have f9' := hky3.frozen 9
          have HK := Lib.hid (hkn3.far (p := ⟨wo.heap.size + 1, 9, none⟩) (by simp) (.slice A8 (m + 1) c8))
          have hky4 := hky3.set_ 9 (.slice A8 (m + 1) c8)
          have HY := Lib.hid (show Blk (w3.setCell ⟨wo.heap.size + 1, 9, none⟩ (.slice A8 (m + 1) c8)) (wo.heap.size + 1) 74 #[.int .i64 v.op.kind, .int .i64 v.op.k, .int .i64 v.op.width, .int .i64 v.op.step, .int .i64 v.op.side, .int .i64 v.op.frm, .int .i64 v.op.to, .slice S v.op.s.length sc, .slice J v.ins.length ic, .slice A8 (m + 1) c8] from hky4)
          have hb4 := hb3.setCell (p := ⟨wo.heap.size + 1, 9, none⟩) (by simp) (.slice A8 (m + 1) c8)
          have HO3 := Lib.hid (ownsRow_heap (w' := w3.setCell ⟨wo.heap.size + 1, 9, none⟩ (.slice A8 (m + 1) c8)) hown' (fun g hg => Below.heap_setCell w3 _ _ g (by have := (hown'.lt g hg).1; simp; omega)))
          clear hown' hgrow hat ho hbx2 hkn3 hky3 hky4 y9 f9
          go_wp2_with fail
          go_roundw
          case rel => exact ⟨m + 1, _, _, by omega, by go_num, HK.out, HY.out, HO3.out, Hpush.out, hb4, by simp; omega⟩
          case measure => simp [intOf]; omega
        · obtain rfl : m = v.p.length := by omega
          rw [List.take_length] at hro
          have hbwx := hbw.trans (hbx.mono hbw.size)
          obtain ⟨y0, y1, y2, y3, y4, y5, y6, y7, y8, y9⟩ : wr.cell? ⟨wo.heap.size + 1, 0, none⟩ = some (.int .i64 v.op.kind) ∧ wr.cell? ⟨wo.heap.size + 1, 1, none⟩ = some (.int .i64 v.op.k) ∧ wr.cell? ⟨wo.heap.size + 1, 2, none⟩ = some (.int .i64 v.op.width) ∧ wr.cell? ⟨wo.heap.size + 1, 3, none⟩ = some (.int .i64 v.op.step) ∧ wr.cell? ⟨wo.heap.size + 1, 4, none⟩ = some (.int .i64 v.op.side) ∧ wr.cell? ⟨wo.heap.size + 1, 5, none⟩ = some (.int .i64 v.op.frm) ∧ wr.cell? ⟨wo.heap.size + 1, 6, none⟩ = some (.int .i64 v.op.to) ∧ wr.cell? ⟨wo.heap.size + 1, 7, none⟩ = some (.slice S v.op.s.length sc) ∧ wr.cell? ⟨wo.heap.size + 1, 8, none⟩ = some (.slice J v.ins.length ic) ∧ wr.cell? ⟨wo.heap.size + 1, 9, none⟩ = some (.slice A9 v.p.length c9) := ⟨hky.cell 0, hky.cell 1, hky.cell 2, hky.cell 3, hky.cell 4, hky.cell 5, hky.cell 6, hky.cell 7, hky.cell 8, hky.cell 9⟩
          obtain ⟨L, hL, hOL, hGL⟩ := Hrow.out
          obtain ⟨A0, c0, rfl, h00⟩ := hOL.form
          have hkl : L.length = k := by have := congrArg List.length hL; simp at this; omega
          have hb3x := Hb3.out.below hbx (by omega)
          have hb1x := Hb1.out.below hbx (by have := Hb1.out.lt; omega)
          have hb2x := Hb2.out.below hbx (by have := Hb2.out.lt; omega)
          rw [hkl] at h00
          have hfrx : Fr (fun b => wo.heap.size ≤ b) wo wr := Fr.of_below hbx (fun b hb hS => by omega)
          have hOx := (hOL.fr hfrx (fun b h1 h2 h3 => by omega)).fr ((Fr.refl (fun _ => False) wr).alloc (.cells #[.int .i64 v.op.kind, .int .i64 v.op.k, .int .i64 v.op.width, .int .i64 v.op.step, .int .i64 v.op.side, .int .i64 v.op.frm, .int .i64 v.op.to, .slice S v.op.s.length sc, .slice J v.ins.length ic, .slice A9 v.p.length c9] 74)) (fun b h1 h2 h3 => h3)
          have hownx := ownsRow_new hown (.cells #[.int .i64 v.op.kind, .int .i64 v.op.k, .int .i64 v.op.width, .int .i64 v.op.step, .int .i64 v.op.side, .int .i64 v.op.frm, .int .i64 v.op.to, .slice S v.op.s.length sc, .slice J v.ins.length ic, .slice A9 v.p.length c9] 74)
          have hb3y := hb3x.alloc (.cells #[.int .i64 v.op.kind, .int .i64 v.op.k, .int .i64 v.op.width, .int .i64 v.op.step, .int .i64 v.op.side, .int .i64 v.op.frm, .int .i64 v.op.to, .slice S v.op.s.length sc, .slice J v.ins.length ic, .slice A9 v.p.length c9] 74)
          have hb1y := hb1x.alloc (.cells #[.int .i64 v.op.kind, .int .i64 v.op.k, .int .i64 v.op.width, .int .i64 v.op.step, .int .i64 v.op.side, .int .i64 v.op.frm, .int .i64 v.op.to, .slice S v.op.s.length sc, .slice J v.ins.length ic, .slice A9 v.p.length c9] 74)
          have hb2y := hb2x.alloc (.cells #[.int .i64 v.op.kind, .int .i64 v.op.k, .int .i64 v.op.width, .int .i64 v.op.step, .int .i64 v.op.side, .int .i64 v.op.frm, .int .i64 v.op.to, .slice S v.op.s.length sc, .slice J v.ins.length ic, .slice A9 v.p.length c9] 74)
          have hbwy := hbwx.alloc hbwx.size (.cells #[.int .i64 v.op.kind, .int .i64 v.op.k, .int .i64 v.op.width, .int .i64 v.op.step, .int .i64 v.op.side, .int .i64 v.op.frm, .int .i64 v.op.to, .slice S v.op.s.length sc, .slice J v.ins.length ic, .slice A9 v.p.length c9] 74)
          have hd6 := Blk.new wr 74 #[.int .i64 v.op.kind, .int .i64 v.op.k, .int .i64 v.op.width, .int .i64 v.op.step, .int .i64 v.op.side, .int .i64 v.op.frm, .int .i64 v.op.to, .slice S v.op.s.length sc, .slice J v.ins.length ic, .slice A9 v.p.length c9]
          have hlo : ∀ b, (Value.slice A0 L.length c0).ownBlock = some b → w.heap.size + 3 ≤ b := fun b hb => (hOL.1.lt b hb).1
          rw [hkl] at hlo
          have z1 : wr.cell? ⟨w.heap.size + 2, 1, none⟩ = some (.slice A0 k c0) := by rw [hb3x.cell, hkl]; rfl
          have hO1 := hOx.1
          rw [hkl] at hO1
          have Hkn := Lib.hid hkn
          have Hky := Lib.hid hky
          have Hown := Lib.hid hown
          have Hro := Lib.hid hro
          have Hb3x := Lib.hid hb3x
          have Hb1x := Lib.hid hb1x
          have Hb2x := Lib.hid hb2x
          have HOx := Lib.hid hOx
          have Hownx := Lib.hid hownx
          have Hb3y := Lib.hid hb3y
          have Hb1y := Lib.hid hb1y
          have Hb2y := Lib.hid hb2y
          have Hd6 := Lib.hid hd6
          have Hlo := Lib.hid hlo
          have HL := Lib.hid hL
          have HGL := Lib.hid hGL
          have HOL := Lib.hid hOL
          have Hkl := Lib.hid hkl
          have HO1 := Lib.hid hO1
          clear hkn hky hown hro hb3x hb1x hb2x hOx hownx hb3y hb1y hb2y hd6 hlo hL hGL hOL hkl hO1
          clear Hrow Hb1 Hb2 Hb3 hfrx
          go_wp2_with (at_builtin; refine wpList_append_own_at _ rfl _ _ 35 rfl (w.heap.size + 3) 74 i2 (.agg #[.int .i64 0, .int .i64 0, .int .i64 0, .int .i64 0, .int .i64 0, .int .i64 0, .int .i64 0, .slice none 0 0, .slice none 0 0, .slice none 0 0]) 10 128 Try.underlying35 hn hn0 hn1 hn2 rfl (by decide) _ k (L.flatMap RQ.cells) rfl HO1.out ⟨wr.heap.size, 0, none⟩ 1 1 [.int .i64 v.op.kind, .int .i64 v.op.k, .int .i64 v.op.width, .int .i64 v.op.step, .int .i64 v.op.side, .int .i64 v.op.frm, .int .i64 v.op.to, .slice S v.op.s.length sc, .slice J v.ins.length ic, .slice A9 v.p.length c9] rfl rfl ?c1 ?c2 ?c3 ?c4 ?c5 ?_)
          case c1 => exact World.news_of_block (cs := #[.int .i64 v.op.kind, .int .i64 v.op.k, .int .i64 v.op.width, .int .i64 v.op.step, .int .i64 v.op.side, .int .i64 v.op.frm, .int .i64 v.op.to, .slice S v.op.s.length sc, .slice J v.ins.length ic, .slice A9 v.p.length c9]) Hd6.out
          case c2 => intro u hu; simp at hu; rcases hu with rfl | rfl | rfl | rfl | rfl | rfl | rfl | rfl | rfl | rfl <;> rfl
          case c3 => unfold maxLen; omega
          case c4 => omega
          case c5 => simp; omega
          intro v7 w7 hown7 hg7 _ hat7
          obtain ⟨A7, c7, rfl⟩ := own_form hown7
          have hsa : wr.heap.size + 1 = (wr.alloc (.cells #[.int .i64 v.op.kind, .int .i64 v.op.k, .int .i64 v.op.width, .int .i64 v.op.step, .int .i64 v.op.side, .int .i64 v.op.frm, .int .i64 v.op.to, .slice S v.op.s.length sc, .slice J v.ins.length ic, .slice A9 v.p.length c9] 74)).heap.size := by simp
          rw [hsa] at hat7
          clear hsa
          have hkl := Hkl.out
          generalize (wr.alloc (.cells #[.int .i64 v.op.kind, .int .i64 v.op.k, .int .i64 v.op.width, .int .i64 v.op.step, .int .i64 v.op.side, .int .i64 v.op.frm, .int .i64 v.op.to, .slice S v.op.s.length sc, .slice J v.ins.length ic, .slice A9 v.p.length c9] 74)) = w6 at *
          have hg8 := hg7
          rw [← hkl] at hown7 hg8 hat7
          have hpush := refrow_push (x := (⟨v, S, sc, J, ic, A9, c9⟩ : NodeQ)) (vs := vs) HOx.out HGL.out (C2 := wo.heap.size + 2) (by omega) (by omega) hown7 hg8 hat7 Hownx.out ⟨⟨HSi.out, hs1⟩, ⟨HJi.out, hI1⟩, Hro.out⟩
          rw [HL.out] at hpush
          have hpush : RefRow 74 (w.heap.size + 3) w7.heap.size w w7 (.slice A7 (L.length + 1) c7) (n.nodes.take (k + 1)) := by rw [Htk.out]; exact hpush
          rw [hkl] at hpush
          have hb3z := Hb3y.out.grown hg7 (fun e => by have := Hlo.out _ e.symm; omega)
          have hb1z := Hb1y.out.grown hg7 (fun e => by have := Hlo.out _ e.symm; omega)
          have hb2z := Hb2y.out.grown hg7 (fun e => by have := Hlo.out _ e.symm; omega)
          rw [hkl] at hb3z
          have hbwz : Below w.heap.size w w7 := hbwy.grown hg7 hbwy.size (fun b hb => by have := Hlo.out b hb; omega)
          have z1' : w7.cell? ⟨w.heap.size + 2, 1, none⟩ = some (.slice A0 k c0) := by rw [hb3z.cell]; rfl
          have f1' := hb3z.frozen 1
          have hfs : Fr (fun b => b = w.heap.size + 2) w7 (w7.setCell ⟨w.heap.size + 2, 1, none⟩ (.slice A7 (k + 1) c7)) := (Fr.refl (fun b => b = w.heap.size + 2) w7).setCell (p := ⟨w.heap.size + 2, 1, none⟩) (fun _ => rfl) (.slice A7 (k + 1) c7)
          have HP := Lib.hid (hpush.fr hfs (fun b h1 h2 h3 => by omega))
          have H1 := Lib.hid (hfs.blk hb1z (by omega))
          have H2 := Lib.hid (hfs.blk hb2z (by omega))
          have h3 := hb3z.set_ 1 (.slice A7 (k + 1) c7)
          have H3 := Lib.hid (show Blk (w7.setCell ⟨w.heap.size + 2, 1, none⟩ (.slice A7 (k + 1) c7)) (w.heap.size + 2) 37 #[.slice A n.inn.length c, .slice A7 (k + 1) c7] from h3)
          have H4 := Lib.hid (hbwz.setCell (p := ⟨w.heap.size + 2, 1, none⟩) (by simp) (.slice A7 (k + 1) c7))
          clear hown7 hg7 hg8 hat7 hpush hb3z hb1z hb2z hbwz hfs h3 hkl hbwy hbwx
          go_wp2_with fail
          go_roundw
          case rel => exact ⟨k + 1, by omega, by go_num, H1.out, H2.out, H4.out, _, H3.out, by simpa using HP.out⟩
          case measure => simp [intOf]; omega
    · obtain rfl : k = n.nodes.length := by omega
      rw [List.take_length] at hrow
      obtain ⟨N', d', rfl, hd1, hd2, -⟩ := hrow.nodes hbw
      have hfr : Fr (fun b => b = w.heap.size + 1) wr ((wr.setCell ⟨w.heap.size + 1, 0, none⟩ (.slice A n.inn.length c)).setCell ⟨w.heap.size + 1, 1, none⟩ (.slice N' n.nodes.length d')) := ((Fr.refl (fun b => b = w.heap.size + 1) wr).setCell (p := ⟨w.heap.size + 1, 0, none⟩) (fun _ => rfl) _).setCell (p := ⟨w.heap.size + 1, 1, none⟩) (fun _ => rfl) _
      have hbw2 : Below w.heap.size w ((wr.setCell ⟨w.heap.size + 1, 0, none⟩ (.slice A n.inn.length c)).setCell ⟨w.heap.size + 1, 1, none⟩ (.slice N' n.nodes.length d')) := (hbw.setCell (p := ⟨w.heap.size + 1, 0, none⟩) (by simp) _).setCell (p := ⟨w.heap.size + 1, 1, none⟩) (by simp) _
      obtain ⟨N2, d2, e2, -, -, hNodes⟩ := (hrow.fr hfr (fun b h1 h2 h3 => by omega)).nodes hbw2
      injection e2 with e3 _ e4
      subst e3 e4
      have hIn := HR.out.1.below hbw2 (Nat.le_refl _)
      have z0 : wr.cell? ⟨w.heap.size + 2, 0, none⟩ = some (.slice A n.inn.length c) := by rw [hb3.cell]; rfl
      have z1 : wr.cell? ⟨w.heap.size + 2, 1, none⟩ = some (.slice N' n.nodes.length d') := by rw [hb3.cell]; rfl
      have r0 : wr.cell? ⟨w.heap.size + 1, 0, none⟩ = some (.slice none 0 0) := by rw [hb2.cell]; rfl
      have r1 : wr.cell? ⟨w.heap.size + 1, 1, none⟩ = some (.slice none 0 0) := by rw [hb2.cell]; rfl
      have f0 := hb2.frozen 0
      have f1 := hb2.frozen 1
      clear hfr
      have Hb1 := Lib.hid hb1
      have Hb2 := Lib.hid hb2
      have Hb3 := Lib.hid hb3
      have Hrow := Lib.hid hrow
      have HNodes := Lib.hid hNodes
      have HIn := Lib.hid hIn
      clear hb1 hb2 hb3 hrow hNodes hIn
      go_wp2_with fail
      exact bodyPost_ret (v := .agg #[.slice A n.inn.length c, .slice N' n.nodes.length d']) (by simp [results, Try.results32, go_sem, r0, r1]) rfl ⟨N', d', rfl, ⟨HIn.out, HNodes.out⟩, hd1, hd2, hbw2⟩
end Go.Proofs.Ytjkhpbngpceenaa
/- Layer 11 (net): Params, and what the statements ask of users: contracts. -/
namespace Go.Proofs.Ytjkhpbngpceenaa
open Go.RowKit
/-- These values are shapes, each in a block of its own. -/
def PList (w : World) (vs : List Value) (ss : List (List Int)) : Prop :=
  vs.length = ss.length ∧ ∀ j (hj : j < ss.length), ∃ h, vs[j]? = some (.slice (some ⟨h, 0, none⟩) ss[j].length ss[j].length) ∧ Blk w h 3 (ss[j].map (Value.int .i64)).toArray
theorem PList.nil (w : World) : PList w [] [] := ⟨rfl, fun j hj => absurd hj (by simp)⟩
theorem PList.append {w : World} {vs vs' : List Value} {ss ss' : List (List Int)} (h : PList w vs ss) (h' : PList w vs' ss') : PList w (vs ++ vs') (ss ++ ss') := by
  refine ⟨by simp [h.1, h'.1], fun j hj => ?_⟩
  by_cases hl : j < ss.length
  · obtain ⟨g, e, hb⟩ := h.2 j hl
    have e2 : (ss ++ ss')[j] = ss[j] := by simp [hl]
    rw [e2]
    exact ⟨g, by rw [List.getElem?_append_left (by rw [h.1]; exact hl)]; exact e, hb⟩
  · have hl2 : j - ss.length < ss'.length := by simp at hj; omega
    obtain ⟨g, e, hb⟩ := h'.2 (j - ss.length) hl2
    have e2 : (ss ++ ss')[j] = ss'[j - ss.length] := by rw [List.getElem_append_right (by omega)]
    rw [e2]
    exact ⟨g, by rw [List.getElem?_append_right (by rw [h.1]; omega), h.1]; exact e, hb⟩
theorem PList.keep {w w' : World} {vs : List Value} {ss : List (List Int)} {T : TypeId} (h : PList w vs ss) (hT : 3 ≠ T) (hk : Keep T w w') : PList w' vs ss :=
  ⟨h.1, fun j hj => by obtain ⟨g, e, hb⟩ := h.2 j hj; exact ⟨g, e, hb.keep hT hk⟩⟩
theorem PList.one {w : World} {vs : List Value} {ss : List (List Int)} (h : PList w vs ss) : ∀ u ∈ vs, u.oneCell' = true := fun u hu => by
  obtain ⟨j, hj, rfl⟩ := List.getElem_of_mem hu
  obtain ⟨g, e, _⟩ := h.2 j (by rw [← h.1]; exact hj)
  rw [List.getElem?_eq_getElem hj] at e
  injection e with e
  rw [e]; rfl
theorem FRow.plist {B : Nat} {w : World} {g : Nat} {t : TypeId} {ss : List (List Int)} (h : FRow B w g t ss) : ∃ vs : List Value, Blk w g t vs.toArray ∧ PList w vs ss := by
  obtain ⟨_, hs, hl, ⟨vs, hvl, hb, hv⟩, hr⟩ := h
  exact ⟨vs, hb, hvl, fun j hj => ⟨hs[j]'(by omega), hv j hj (by omega), (hr j hj (by omega)).2.2⟩⟩
theorem Keep.of_grown {T : TypeId} {w w' : World} {B s n : Nat} {v : Value} {xs : List Value} (h : w.ownsRow B T s v n xs) (hg : w.grownBy w' v.ownBlock) : Keep T w w' := by
  refine ⟨hg.size, fun b cs t hb ht => hg.block b (lt_of_block hb) fun e => ?_⟩
  rcases h.2 with ⟨rfl, _⟩ | ⟨g, cap, cur, rfl, _, hh, _⟩
  · simp [Value.ownBlock] at e
  · simp [Value.ownBlock] at e
    subst e
    rw [hh] at hb
    injection hb with hb
    injection hb with _ hb _
    exact ht hb.symm
theorem news_blk {w : World} {g : Nat} {t : TypeId} {vs : List Value} (h : Blk w g t vs.toArray) : ∀ (j : Nat) (u : Value), vs[j]? = some u → w.cell? (Addr.add ⟨g, 0, none⟩ j) = some u := fun j u hu => by
  have : (Addr.add ⟨g, 0, none⟩ j) = ⟨g, j, none⟩ := by by_cases e : j = 0 <;> simp [Addr.add, e]
  rw [this, h.cell]
  simpa using hu
theorem PList.shps {w : World} {vs : List Value} {ss : List (List Int)} {B n : Nat} {t : TypeId} {v : Value} (h : PList w vs ss) (hown : w.ownsRow B t 1 v n vs) (hs : ∀ s ∈ ss, s.length ≤ 1048576) :
    ∃ A c, v = .slice A ss.length c ∧ n = ss.length ∧ Shps w A ss ∧ ss.length ≤ c ∧ c ≤ 9223372036854775807 := by
  have hn : n = ss.length := by have := hown.1; have := h.1; omega
  subst hn
  rcases hown.2 with ⟨rfl, h0⟩ | ⟨g, cap, cur, rfl, hb, hh, r1, r2, r3, r4⟩
  · have : ss = [] := List.eq_nil_of_length_eq_zero h0
    subst this
    exact ⟨none, 0, rfl, rfl, Shps.nil, by simp, by omega⟩
  · refine ⟨_, cap, rfl, rfl, fun j hj => ?_, r1, by unfold maxLen at r2; omega⟩
    obtain ⟨b, e, hbk⟩ := h.2 j hj
    refine ⟨g, 0, _, _, rfl, lt_of_block hh, by rw [Nat.zero_add, hown.cellAt j (by omega)]; exact e, Ints.of_row fun i hi => ?_, Nat.le_refl _, by have := hs _ (List.getElem_mem hj); omega⟩
    rw [Nat.zero_add, hbk.cell i, getD_at hi]
    simp [hi]
def ParamsP (n : NetD) (w : World) (e : Ending) (w' : World) : Prop :=
  ∃ A c, e = .returned (.slice A (Nt.params n).length c) ∧ Shps w' A (Nt.params n) ∧ (Nt.params n).length ≤ c ∧ c ≤ 9223372036854775807 ∧ Below w.heap.size w w'
theorem params_len {n : NetD} (hok : n.ok) (k : Nat) : ((n.nodes.take k).flatMap (·.p)).length ≤ k * 1048576 := by
  induction k with
  | zero => simp
  | succ k ih =>
    by_cases hk : k < n.nodes.length
    · rw [List.take_succ_eq_append_getElem hk, List.flatMap_append, List.length_append]
      have h1 := (hok.2.2 _ (List.getElem_mem hk)).2.2.2.1
      have e : [n.nodes[k]].flatMap (·.p) = n.nodes[k].p := by simp
      rw [e]; omega
    · rw [List.take_of_length_le (by omega)]
      rw [List.take_of_length_le (by omega)] at ih
      exact Nat.le_trans ih (Nat.mul_le_mul_right _ (Nat.le_succ _))
set_option maxRecDepth 20000 in
set_option maxHeartbeats 8000000 in
theorem net_params (A N : Option Addr) (c d : Nat) (n : NetD) (w : World) (hok : n.ok) (hR : NetR w A N n) :
    Calls Try.prog 25 #[.agg #[.slice A n.inn.length c, .slice N n.nodes.length d]] w (ParamsP n w) := by
  obtain ⟨i0, hi, hz0, hz1, hz2⟩ := info_parts shpT_info
  have hnl := hok.2.1
  have hpl := fun k => params_len hok k
  have hb0 : Later w (w.alloc (.cells #[.slice A n.inn.length c, .slice N n.nodes.length d] 26)) := (Later.refl _).alloc _
  have Hok := Lib.hid hok
  have HR := Lib.hid hR
  have Hpl := Lib.hid hpl
  have Hb0 := Lib.hid hb0
  clear hok hR hpl hb0
  go_enter Try.func25, Try.ntmps25
  go_wp2_with fail
  generalize w.alloc (.cells #[.slice A n.inn.length c, .slice N n.nodes.length d] 26) = w1 at *
  go_loopw [3, 9] (fun o i wx => ∃ (k : Nat) (vs : List Value), k ≤ n.nodes.length ∧ i = .int .i64 (k : Int) ∧ wx.ownsRow w.heap.size 23 1 o ((n.nodes.take k).flatMap (·.p)).length vs ∧ PList wx vs ((n.nodes.take k).flatMap (·.p)) ∧ Below w.heap.size w wx) (fun _ i _ => n.nodes.length - (intOf i).toNat)
  case atStart => exact ⟨0, [], Nat.zero_le _, rfl, by simpa using World.ownsRow_nil w1 w.heap.size 23 1, by simpa using PList.nil w1, Hb0.out⟩
  case round =>
    obtain ⟨k, vs, hk, rfl, hown, hpv, hbw⟩ := hrel
    clear Hb0
    obtain ⟨Ao, co, rfl⟩ := own_form hown
    by_cases hlt : k < n.nodes.length
    · obtain ⟨b, off, S, sc, J, ic, Q, qc, rfl, hNA, -, -, -⟩ := HR.out.2.at_ hlt
      have hnok := Hok.out.2.2 _ (List.getElem_mem hlt)
      have hpl2 := hnok.2.2.2.1
      have hps := hnok.2.2.2.2.1
      have hQi := hNA.2.2.2
      have hlk := Hpl.out k
      have hsn : (n.nodes.take (k + 1)).flatMap (·.p) = (n.nodes.take k).flatMap (·.p) ++ n.nodes[k].p := by rw [List.take_succ_eq_append_getElem hlt, List.flatMap_append]; simp
      have hkb : k * 1048576 ≤ 1048576 * 1048576 := Nat.mul_le_mul_right _ (by omega)
      generalize n.nodes[k] = v at *
      generalize (n.nodes.take k).flatMap (·.p) = ss at *
      obtain ⟨⟨y0, y1, y2, y3, y4, y5, y6, y7, y8, y9⟩, -⟩ := hNA.below hbw
      have hl2 : Later wr (wr.alloc (.cells #[.int .i64 v.op.kind, .int .i64 v.op.k, .int .i64 v.op.width, .int .i64 v.op.step, .int .i64 v.op.side, .int .i64 v.op.frm, .int .i64 v.op.to, .slice S v.op.s.length sc, .slice J v.ins.length ic, .slice Q v.p.length qc] 46)) := (Later.refl wr).alloc _
      have HNA := Lib.hid hNA
      have Hnok := Lib.hid hnok
      have Hps := Lib.hid hps
      have HQi := Lib.hid hQi
      have Hsn := Lib.hid hsn
      have Hown := Lib.hid hown
      have Hpv := Lib.hid hpv
      have Hl2 := Lib.hid hl2
      clear hNA hnok hps hQi hsn hown hpv hl2
      go_wp2_with fail
      clear y0 y1 y2 y3 y4 y5 y6 y7 y8 y9
      generalize wr.alloc (.cells #[.int .i64 v.op.kind, .int .i64 v.op.k, .int .i64 v.op.width, .int .i64 v.op.step, .int .i64 v.op.side, .int .i64 v.op.frm, .int .i64 v.op.to, .slice S v.op.s.length sc, .slice J v.ins.length ic, .slice Q v.p.length qc] 46) = w2 at *
      refine (net_copies Q qc v.p _ hpl2 Hps.out (HQi.out.below (hbw.trans (Below.mono Hl2.out hbw.size)) (Nat.le_refl _))).mono ?_
      rintro e w3 ⟨g, rfl, hF, hb3⟩
      have hl3 := Hl2.out.call hb3
      obtain ⟨ws, hgb, hpw⟩ := hF.plist
      have ho3 := ownsRow_keep (T := 46) Hown.out (by decide) (Keep.of_later hl3)
      have hp3 := Hpv.out.keep (T := 46) (by decide) (Keep.of_later hl3)
      have hwl : ws.length = v.p.length := hpw.1
      have hone := hpw.one
      have hnews := news_blk hgb
      have hbw3 := hbw.trans (Below.mono hl3 hbw.size)
      have hsz3 := hbw3.size
      have HLO := Lib.hid (fun b (hb : (Value.slice Ao ss.length co).ownBlock = some b) => (ho3.lt b hb).1)
      have HF := Lib.hid hF
      have Hl3 := Lib.hid hl3
      have Hp3 := Lib.hid hp3
      have Hpw := Lib.hid hpw
      have Hgb := Lib.hid hgb
      clear hF hl3 hp3 hpw hgb
      clear hb3 Hown Hpv
      go_wp2_with (at_builtin; refine wpList_append_own_at _ rfl _ _ 44 rfl w.heap.size 23 i0 (.slice none 0 0) 1 24 Try.underlying44 hi hz0 hz1 hz2 rfl (by decide) _ _ _ rfl ho3 ⟨g, 0, none⟩ v.p.length v.p.length ws rfl (by rw [hwl]; omega) hnews hone (by unfold maxLen; omega) (by omega) hsz3 ?_)
      intro v' w4 hown' hgrow _ hat
      have hkp : Keep 23 w3 w4 := Keep.of_grown ho3 hgrow
      have hp4 := (Hp3.out.keep (by decide) hkp).append (Hpw.out.keep (by decide) hkp)
      have hb4 : Below w.heap.size w w4 := hbw3.grown hgrow hsz3 (fun b hb => HLO.out b hb)
      rw [show ss.length + v.p.length = (ss ++ v.p).length by simp, ← Hsn.out] at hown'
      rw [← Hsn.out] at hp4
      have Hown' := Lib.hid hown'
      have Hp4 := Lib.hid hp4
      clear hown' hp4
      clear hkp hgrow hat ho3 HLO hnews hone hwl
      go_wp2_with fail
      go_roundw
      case rel => exact ⟨k + 1, vs ++ ws, by omega, by go_num, Hown'.out, Hp4.out, hb4⟩
      case measure => simp [intOf]; omega
    · obtain rfl : k = n.nodes.length := by omega
      rw [List.take_length] at *
      have hps : ∀ s ∈ n.nodes.flatMap (·.p), s.length ≤ 1048576 := fun s hs => by
        obtain ⟨v, hv, hs⟩ := List.mem_flatMap.1 hs
        exact (Hok.out.2.2 v hv).2.2.2.2.1 s hs
      obtain ⟨A', c', e, -, q1, q2, q3⟩ := hpv.shps hown hps
      injection e with e1 e2 e3
      subst e1 e3
      have hdef : Nt.params n = n.nodes.flatMap (·.p) := rfl
      have Hown := Lib.hid hown
      have Hpv := Lib.hid hpv
      have Hps := Lib.hid hps
      have Hq1 := Lib.hid q1
      have Hq2 := Lib.hid q2
      have Hq3 := Lib.hid q3
      have Hdef := Lib.hid hdef
      clear hown hpv hps q1 q2 q3 hdef
      clear e2
      go_wp2_with fail
      go_ret
      exact ⟨Ao, co, by (rw [Hdef.out] <;> rfl), by rw [Hdef.out]; exact Hq1.out, by rw [Hdef.out]; exact Hq2.out, Hq3.out, hbw⟩
set_option maxRecDepth 20000 in
theorem law_uses (v : NodeD) (S J Q : Option Addr) (sc ic qc : Nat) (x : Int) (w : World) (hl : v.ins.length ≤ 1048576) (hI : Ints .i64 w J v.ins) :
    Calls Try.prog 24 #[.agg #[.int .i64 v.op.kind, .int .i64 v.op.k, .int .i64 v.op.width, .int .i64 v.op.step, .int .i64 v.op.side, .int .i64 v.op.frm, .int .i64 v.op.to, .slice S v.op.s.length sc, .slice J v.ins.length ic, .slice Q v.p.length qc], .int .i64 x] w fun e w' => e = .returned (.bool (hasB v.ins x)) ∧ Below w.heap.size w w' := by
  have hb0 : Below w.heap.size w (w.alloc (.cells #[.int .i64 v.op.kind, .int .i64 v.op.k, .int .i64 v.op.width, .int .i64 v.op.step, .int .i64 v.op.side, .int .i64 v.op.frm, .int .i64 v.op.to, .slice S v.op.s.length sc, .slice J v.ins.length ic, .slice Q v.p.length qc] 46)) := (Below.refl _ _).alloc (Nat.le_refl _) _
  have hI1 := hI.alloc (.cells #[.int .i64 v.op.kind, .int .i64 v.op.k, .int .i64 v.op.width, .int .i64 v.op.step, .int .i64 v.op.side, .int .i64 v.op.frm, .int .i64 v.op.to, .slice S v.op.s.length sc, .slice J v.ins.length ic, .slice Q v.p.length qc] 46)
  have HI := Lib.hid hI
  have HI1 := Lib.hid hI1
  clear hI hI1
  go_enter Try.func24, Try.ntmps24
  go_wp2_with fail
  generalize w.alloc (.cells #[.int .i64 v.op.kind, .int .i64 v.op.k, .int .i64 v.op.width, .int .i64 v.op.step, .int .i64 v.op.side, .int .i64 v.op.frm, .int .i64 v.op.to, .slice S v.op.s.length sc, .slice J v.ins.length ic, .slice Q v.p.length qc] 46) = w1 at *
  go_loop [10] (fun i => ∃ k : Nat, k ≤ v.ins.length ∧ i = .int .i64 k ∧ (v.ins.take k).contains x = false) (fun i => v.ins.length - (intOf i).toNat)
  case atStart => exact ⟨0, Nat.zero_le _, rfl, rfl⟩
  case round =>
    obtain ⟨k, hk, rfl, hno⟩ := hrel
    by_cases hlt : k < v.ins.length
    · obtain ⟨b, off, rfl, -, hc⟩ := HI1.out k hlt
      rw [getD_at hlt] at hc
      by_cases he : v.ins[k] = x
      · have e1 : (v.ins[k] == x) = true := by simp [he]
        have HX := Lib.hid (show hasB v.ins x = true by unfold hasB; rw [List.contains_iff_mem]; rw [← he]; exact List.getElem_mem hlt)
        clear he hno
        go_wp2_with fail
        go_ret
        exact ⟨by rw [HX.out]; rfl, hb0⟩
      · have e1 : (v.ins[k] == x) = false := by simp [he]
        have HX := Lib.hid (show (v.ins.take (k + 1)).contains x = false by
          rw [List.take_succ_eq_append_getElem hlt]
          simp at hno
          simp only [List.contains_eq_mem, List.mem_append, decide_eq_false_iff_not, List.mem_singleton]
          intro h
          rcases h with h | h
          · exact hno h
          · exact he h.symm)
        clear he hno
        go_wp2_with fail
        go_round
        case rel => exact ⟨k + 1, by omega, by go_num, HX.out⟩
        case measure => simp [intOf]; omega
    · obtain rfl : k = v.ins.length := by omega
      rw [List.take_length] at hno
      have HX := Lib.hid (show hasB v.ins x = false from hno)
      clear hno
      go_wp2_with fail
      go_ret
      exact ⟨by rw [HX.out]; rfl, hb0⟩
theorem ids_at {n k : Nat} (hk : k < n) : (Kn.ids n)[k]? = some ((k : Int) + 1) := by
  induction n with
  | zero => omega
  | succ n ih =>
    rw [Kn.ids_succ]
    by_cases h : k < n
    · rw [List.getElem?_append_left (by rw [Kn.ids_length]; exact h)]; exact ih h
    · obtain rfl : k = n := by omega
      rw [List.getElem?_append_right (by rw [Kn.ids_length]; exact Nat.le_refl _), Kn.ids_length]; simp
theorem ids_mem {n : Nat} {u : Int} (h : u ∈ Kn.ids n) : 1 ≤ u ∧ u ≤ n := by
  obtain ⟨k, hk, rfl⟩ := List.getElem_of_mem h
  rw [Kn.ids_length] at hk
  have := ids_at hk
  rw [List.getElem?_eq_getElem (by rw [Kn.ids_length]; exact hk)] at this
  injection this with this
  rw [this]; omega
theorem ids_asc (n : Nat) : (Kn.ids n).Pairwise (· < ·) := by
  induction n with
  | zero => exact List.Pairwise.nil
  | succ n ih =>
    rw [Kn.ids_succ, List.pairwise_append]
    exact ⟨ih, List.pairwise_singleton _ _, fun a ha b hb => by have := (ids_mem ha).2; simp at hb; omega⟩
theorem users_mem {n : NetD} {id u : Int} (h : u ∈ Nt.users n id) : 1 ≤ u ∧ u ≤ n.nodes.length ∧ hasB (Nt.insF n.nodes u) id = true := by
  unfold Nt.users at h
  obtain ⟨h1, h2⟩ := List.mem_filter.1 h
  exact ⟨(ids_mem h1).1, (ids_mem h1).2, h2⟩
theorem users_up {n : NetD} {id : Int} {k : Nat} (hk : k < (Nt.users n id).length) : ((Nt.users n id).take k).getLastD 0 < (Nt.users n id)[k] := by
  have hp : (Nt.users n id).Pairwise (· < ·) := (ids_asc _).filter _
  by_cases h0 : k = 0
  · subst h0
    have := (users_mem (List.getElem_mem hk)).1
    simp; omega
  · rw [List.getLastD_eq_getLast?, List.getLast?_take, if_neg h0]
    rw [List.getElem?_eq_getElem (by omega)]
    simp only [Option.some_or, Option.getD_some]
    exact List.pairwise_iff_getElem.1 hp _ _ _ _ (by omega)
theorem users_count (n : NetD) (id : Int) : (Nt.users n id).length = Nt.count n.nodes id := by
  have key : ∀ k, k ≤ n.nodes.length → ((Kn.ids k).filter (fun u => hasB (Nt.insF n.nodes u) id)).length = Nt.count (n.nodes.take k) id := by
    intro k
    induction k with
    | zero => intro _; simp [Kn.ids, Nt.count]
    | succ k ih =>
      intro hk
      rw [users_snoc n id (by omega)]
      unfold Nt.count at ih ⊢
      rw [List.take_succ_eq_append_getElem (by omega), List.filter_append, List.length_append, ← ih (by omega)]
      by_cases h : hasB n.nodes[k].ins id = true
      · have h' : n.nodes[k].ins.contains id = true := h
        rw [if_pos h, List.length_append]
        simp only [List.filter_cons, h', if_true, List.filter_nil, List.length_singleton]
      · have h' : ¬ n.nodes[k].ins.contains id = true := h
        rw [if_neg h]
        simp only [List.filter_cons, h', List.filter_nil]; rfl
  have := key n.nodes.length (Nat.le_refl _)
  rw [List.take_length] at this
  exact this
theorem params_at {n : NetD} {k m : Nat} (hk : k < n.nodes.length) (hm : m < n.nodes[k].p.length) : ((n.nodes.take k).flatMap (·.p)).length + m < (Nt.params n).length ∧ (Nt.params n)[((n.nodes.take k).flatMap (·.p)).length + m]? = some n.nodes[k].p[m] := by
  have e : Nt.params n = (n.nodes.take k).flatMap (·.p) ++ (n.nodes[k].p ++ (n.nodes.drop (k + 1)).flatMap (·.p)) := by
    unfold Nt.params
    conv => lhs; rw [← List.take_append_drop k n.nodes, List.drop_eq_getElem_cons hk, List.flatMap_append, List.flatMap_cons]
  rw [e]
  refine ⟨by simp only [List.length_append]; omega, ?_⟩
  rw [List.getElem?_append_right (by omega), Nat.add_sub_cancel_left, List.getElem?_append_left hm, List.getElem?_eq_getElem hm]
end Go.Proofs.Ytjkhpbngpceenaa
/- The plain law of layers 10 and 13: costs. -/
namespace Go.Proofs.Ytjkhpbngpceenaa
namespace Od
/-- What a right op costs, of parameters p, with the output s. -/
def costV (o : OpD) (p : List (List Int)) (s : List Int) : Int :=
  if o.kind = 8 then Safe.prod (p.getD 0 [])
  else if o.kind = 10 then Safe.prod s * (Safe.prod (p.getD 0 [])).tdiv ((p.getD 0 []).getD 0 0)
  else if o.kind = 11 ∨ o.kind = 12 then Safe.prod s * o.width
  else Safe.prod s
def cost (o : OpD) (p x : List (List Int)) : Int × Int := if (shape o p x).2 = 0 then (costV o p (shape o p x).1, 0) else (0, (shape o p x).2)
theorem shape_good {o : OpD} {p x : List (List Int)} (h : (shape o p x).2 = 0) : right o = true ∧ (p.length : Int) = params o ∧ least o ≤ (x.length : Int) ∧ (∀ s ∈ p, Sh.right s = true) ∧ (∀ s ∈ x, Sh.right s = true) ∧ (byKind o p x).2 = 0 ∧ shape o p x = byKind o p x := by
  obtain ⟨h1, h2, h3, h4, h5, h6, h7⟩ := shape_ok h
  exact ⟨h1, h4, h2, List.all_eq_true.1 h5, List.all_eq_true.1 h6, by rw [← h7]; exact h, h7⟩
theorem mul2 {a b : Int} (ha : 0 ≤ a) (ha2 : a ≤ 65536) (hb : 0 ≤ b) (hb2 : b ≤ 65536) : Safe.mul [a, b] = (a * b, 0) ∧ 0 ≤ a * b ∧ a * b ≤ 4294967296 := by
  have h0 : 0 ≤ a * b := Int.mul_nonneg ha hb
  have h1 : a * b ≤ 65536 * 65536 := Int.le_trans (Int.mul_le_mul_of_nonneg_right ha2 hb) (Int.mul_le_mul_of_nonneg_left hb2 (by omega))
  refine ⟨?_, h0, by omega⟩
  have hp : Safe.prod [a, b] = a * b := by simp [Safe.prod]
  unfold Safe.mul
  rw [if_pos (by simp [Safe.ok]; omega), hp]
  split
  · rw [if_pos (by unfold Safe.top; omega)]
  · rename_i hz
    simp at hz
    by_cases e : a = 0
    · subst e; simp
    · by_cases e2 : b = 0
      · subst e2; simp
      · exact absurd (hz e) e2
theorem window_width {side width step : Int} (h : (window side width step).2 = 0) : 1 ≤ width ∧ width ≤ 1024 := by
  unfold window at h
  split at h
  · rename_i hc; exact (Sh.side_iff _).1 hc.2.1
  · simp at h
/-- The parts of a cost, and their bounds. -/
theorem cost_parts {o : OpD} {p x : List (List Int)} (h : (shape o p x).2 = 0) :
    (o.kind = 8 → 0 < p.length) ∧ (o.kind = 10 → 0 < p.length ∧ 0 < (p.getD 0 []).length ∧ 1 ≤ (p.getD 0 []).getD 0 0 ∧ (p.getD 0 []).getD 0 0 ≤ 1024) ∧ (o.kind = 11 ∨ o.kind = 12 → 1 ≤ o.width ∧ o.width ≤ 1024) := by
  obtain ⟨hr, hp, hx, hpr, hxr, hb, _⟩ := shape_good h
  refine ⟨fun e => ?_, fun e => ?_, fun e => ?_⟩
  · unfold params at hp; rw [if_pos hr, if_pos e] at hp; omega
  · have hl : 0 < p.length := by unfold params at hp; rw [if_pos hr, if_neg (by omega), if_pos (by omega)] at hp; omega
    have e0 : p.getD 0 [] = p[0] := by simp [List.getD_eq_getElem?_getD, hl]
    have h0 := hpr p[0] (List.getElem_mem hl)
    obtain ⟨_, _, h3, h4, _, _⟩ := Sh.right_mul h0
    rw [e0]
    have e1 : p[0].getD 0 0 = p[0][0]'(by omega) := by rw [List.getD_eq_getElem?_getD, List.getElem?_eq_getElem (by omega)]; rfl
    rw [e1]
    have := h4 _ (List.getElem_mem (show 0 < p[0].length by omega))
    exact ⟨hl, by omega, this.1, this.2⟩
  · have : (pool (x.getD 0 []) o.width o.step).2 = 0 := by
      have hb2 := hb
      unfold byKind at hb2
      rw [if_neg (by omega), if_neg (by omega), if_neg (by omega), if_pos e] at hb2
      exact hb2
    unfold pool at this
    split at this
    · split at this
      · rename_i h; exact window_width h
      · simp at this
    · simp at this
theorem prod_right_ {s : List Int} (h : Sh.right s = true) : 1 ≤ Safe.prod s ∧ Safe.prod s ≤ 65536 := by
  obtain ⟨_, _, _, _, h5, h6⟩ := Sh.right_mul h
  exact ⟨h5, h6⟩
theorem costV_bd {o : OpD} {p x : List (List Int)} (h : (shape o p x).2 = 0) : 0 ≤ costV o p (shape o p x).1 ∧ costV o p (shape o p x).1 ≤ 4294967296 := by
  obtain ⟨hr, hp, hx, hpr, hxr, hb, _⟩ := shape_good h
  obtain ⟨h8, h10, h11⟩ := cost_parts h
  have hs := prod_right_ (shape_right h)
  have hp0 : 0 < p.length → 1 ≤ Safe.prod (p.getD 0 []) ∧ Safe.prod (p.getD 0 []) ≤ 65536 := fun hl => by
    have e0 : p.getD 0 [] = p[0] := by simp [List.getD_eq_getElem?_getD, hl]
    rw [e0]; exact prod_right_ (hpr _ (List.getElem_mem hl))
  unfold costV
  split
  · rename_i e; have := hp0 (h8 e); omega
  · split
    · rename_i e
      obtain ⟨a1, a2, a3, a4⟩ := h10 e
      have := hp0 a1
      have q1 : 0 ≤ (Safe.prod (p.getD 0 [])).tdiv ((p.getD 0 []).getD 0 0) := Int.tdiv_nonneg (by omega) (by omega)
      have q2 : (Safe.prod (p.getD 0 [])).tdiv ((p.getD 0 []).getD 0 0) ≤ Safe.prod (p.getD 0 []) := Int.tdiv_le_self _ (by omega)
      exact (mul2 (by omega) hs.2 q1 (by omega)).2
    · split
      · rename_i e
        have := h11 e
        exact (mul2 (by omega) hs.2 (by omega) (by omega)).2
      · omega
end Od
end Go.Proofs.Ytjkhpbngpceenaa
/- Layer 10 (op): Cost; its reference; layer 13's sizes: contracts. -/
namespace Go.Proofs.Ytjkhpbngpceenaa
open Go.RowKit
theorem Sh.size_right {s : List Int} (h : Sh.right s = true) : Sh.size s = (Safe.prod s, 0) := by simp [Sh.size, h]
theorem Sh.prod_bd {s : List Int} (h : Sh.right s = true) : 1 ≤ Safe.prod s ∧ Safe.prod s ≤ 65536 := Od.prod_right_ h
theorem ints_two {w : World} {t : TypeId} (a b : Int) : Ints .i64 (w.alloc (.cells #[.int .i64 a, .int .i64 b] t)) (some ⟨w.heap.size, 0, none⟩) [a, b] := Ints.of_row fun j hj => by
  have hk := Blk.new w t #[.int .i64 a, .int .i64 b]
  have hj2 : j = 0 ∨ j = 1 := by simp at hj; omega
  rcases hj2 with rfl | rfl <;> (rw [hk.cell]; rfl)
set_option maxRecDepth 20000 in
set_option maxHeartbeats 8000000 in
theorem op_cost (o : OpD) (S P X : Option Addr) (c d f : Nat) (p x : List (List Int)) (w : World) (ho : o.s.length ≤ 17592186043904) (hI : Ints .i64 w S o.s) (hP : ShpIn w P d p) (hX : ShpIn w X f x) :
    Calls Try.prog 52 #[.agg #[.int .i64 o.kind, .int .i64 o.k, .int .i64 o.width, .int .i64 o.step, .int .i64 o.side, .int .i64 o.frm, .int .i64 o.to, .slice S o.s.length c], .slice P p.length d, .slice X x.length f] w fun e w' => e = .returned (.tuple #[.int .i64 (Od.cost o p x).1, .int .i64 (Od.cost o p x).2]) ∧ Below w.heap.size w w' := by
  have hk0 := Blk.new w 43 #[.int .i64 o.kind, .int .i64 o.k, .int .i64 o.width, .int .i64 o.step, .int .i64 o.side, .int .i64 o.frm, .int .i64 o.to, .slice S o.s.length c]
  have hl0 : Later w (w.alloc (.cells #[.int .i64 o.kind, .int .i64 o.k, .int .i64 o.width, .int .i64 o.step, .int .i64 o.side, .int .i64 o.frm, .int .i64 o.to, .slice S o.s.length c] 43)) := (Later.refl w).alloc _
  have HI := Lib.hid hI
  have HP := Lib.hid hP
  have HX := Lib.hid hX
  have Hk0 := Lib.hid hk0
  have Hl0 := Lib.hid hl0
  clear hI hP hX hk0 hl0
  go_enter Try.func52, Try.ntmps52
  go_wp2_with fail
  generalize w.alloc (.cells #[.int .i64 o.kind, .int .i64 o.k, .int .i64 o.width, .int .i64 o.step, .int .i64 o.side, .int .i64 o.frm, .int .i64 o.to, .slice S o.s.length c] 43) = w1 at *
  refine (op_shape o S P X c d f p x w1 ho (HI.out.below Hl0.out (Nat.le_refl _)) (HP.out.below Hl0.out (Nat.le_refl _)) (HX.out.below Hl0.out (Nat.le_refl _))).mono ?_
  rintro e w2 ⟨S2, d2, rfl, hI2, h21, h22, -, hb2⟩
  have hl2 := Hl0.out.call hb2
  have hk2 := (show Later w1 w2 from hb2).blk Hk0.out
  have hgood := fun h => @Od.cost_parts o p x h
  have hshr := fun h => @Od.shape_right o p x h
  have hpr := fun h => (@Od.shape_good o p x h).2.2.2.1
  have hcv : Od.cost o p x = if (Od.shape o p x).2 = 0 then (Od.costV o p (Od.shape o p x).1, 0) else (0, (Od.shape o p x).2) := rfl
  clear hb2
  generalize Od.shape o p x = r at *
  by_cases hr : r.2 = 0
  · have hr2 := hshr hr
    obtain ⟨g8, g10, g11⟩ := hgood hr
    have hpr2 := hpr hr
    rw [if_pos hr] at hcv
    have hs := Sh.prod_bd hr2
    have hsz := Sh.size_right hr2
    have hlen := (Sh.right_mul hr2).2.1
    clear hgood hshr hpr
    have HI2 := Lib.hid hI2
    have Hl2 := Lib.hid hl2
    have Hk2 := Lib.hid hk2
    have Hr2 := Lib.hid hr2
    have Hg8 := Lib.hid g8
    have Hg10 := Lib.hid g10
    have Hg11 := Lib.hid g11
    have Hpr2 := Lib.hid hpr2
    have Hcv := Lib.hid hcv
    have Hsz := Lib.hid hsz
    clear hI2 hl2 hk2 hr2 g8 g10 g11 hpr2 hcv hsz
    have q0 : (r.2 != 0) = false := by simp [hr]
    clear hr
    go_wp2_with fail
    refine (shape_size S2 d2 r.1 _ (by omega) HI2.out).mono ?_
    rintro e w3 ⟨rfl, hb3⟩
    rw [Hsz.out]
    have hl3 := Hl2.out.call hb3
    have hk3 := (show Later w2 w3 from hb3).blk Hk2.out
    obtain ⟨y0, -, y2, -, -, -, -, -⟩ := op_cells hk3
    have hP3 := HP.out.below hl3 (Nat.le_refl _)
    clear hb3
    by_cases k8 : o.kind = 8
    · have hv : Od.costV o p r.1 = Safe.prod (p.getD 0 []) := by unfold Od.costV; rw [if_pos k8]
      have hl := Hg8.out k8
      obtain ⟨b, off, S5, d5, rfl, y5, hI5, -, -, l5⟩ := hP3.at_ hl
      have e0 : p.getD 0 [] = p[0] := by simp [List.getD_eq_getElem?_getD, hl]
      have hsz5 := Sh.size_right (Hpr2.out p[0] (List.getElem_mem hl))
      rw [e0] at hv
      rw [hv] at Hcv
      rw [Nat.add_zero] at y5
      rw [k8] at y0
      generalize p[0] = t at *
      have Hl3 := Lib.hid hl3
      have Hk3 := Lib.hid hk3
      have HP3 := Lib.hid hP3
      have HI5 := Lib.hid hI5
      have Hsz5 := Lib.hid hsz5
      have Hv := Lib.hid hv
      clear hl3 hk3 hP3 hI5 hsz5 hv
      go_wp2_with fail
      refine (shape_size S5 d5 t _ (by omega) HI5.out).mono ?_
      rintro e w4 ⟨rfl, hb4⟩
      rw [Hsz5.out]
      have hl4 := Hl3.out.call hb4
      have Hl4 := Lib.hid hl4
      clear hl4
      go_wp2_with fail
      go_ret2
      exact ⟨by (rw [Hcv.out] <;> rfl), Hl4.out⟩
    · by_cases k10 : o.kind = 10
      · obtain ⟨hl, hl2, hm1, hm2⟩ := Hg10.out k10
        obtain ⟨b, off, S5, d5, rfl, y5, hI5, -, -, l5⟩ := hP3.at_ hl
        have e0 : p.getD 0 [] = p[0] := by simp [List.getD_eq_getElem?_getD, hl]
        have hr5 := Hpr2.out p[0] (List.getElem_mem hl)
        have hsz5 := Sh.size_right hr5
        have hbd5 := Sh.prod_bd hr5
        have hv : Od.costV o p r.1 = Safe.prod r.1 * (Safe.prod (p.getD 0 [])).tdiv ((p.getD 0 []).getD 0 0) := by unfold Od.costV; rw [if_neg k8, if_pos k10]
        rw [e0] at hv hl2 hm1 hm2
        rw [hv] at Hcv
        rw [Nat.add_zero] at y5
        rw [k10] at y0
        generalize p[0] = t at *
        have hq1 : 0 ≤ (Safe.prod t).tdiv (t.getD 0 0) := Int.tdiv_nonneg (by omega) (by omega)
        have hq2 : (Safe.prod t).tdiv (t.getD 0 0) ≤ Safe.prod t := Int.tdiv_le_self _ (by omega)
        have hq3 : (Safe.prod t).tdiv (t.getD 0 0) = Safe.prod t / t.getD 0 0 := Int.tdiv_eq_ediv_of_nonneg (by omega)
        have hmul := Od.mul2 (a := Safe.prod r.1) (b := (Safe.prod t).tdiv (t.getD 0 0)) (by omega) (by omega) hq1 (by omega)
        rw [hq3] at hq1 hq2 hmul hv
        have Hl3 := Lib.hid hl3
        have Hk3 := Lib.hid hk3
        have HP3 := Lib.hid hP3
        have HI5 := Lib.hid hI5
        have Hsz5 := Lib.hid hsz5
        have Hv := Lib.hid hv
        have Hmul := Lib.hid hmul
        have Hq3 := Lib.hid hq3
        clear hl3 hk3 hP3 hI5 hsz5 hv hmul hq3
        go_wp2_with fail
        refine (shape_size S5 d5 t _ (by omega) HI5.out).mono ?_
        rintro e w4 ⟨rfl, hb4⟩
        rw [Hsz5.out]
        have hl4 := Hl3.out.call hb4
        have y54 := (show Later w3 w4 from hb4).cell y5
        obtain ⟨b6, o6, rfl, -, y6⟩ := (HI5.out.below hb4 (Nat.le_refl _)) 0 hl2
        rw [Nat.add_zero] at y6
        clear y5 y0 y2 hb4
        generalize t.getD 0 0 = t0 at *
        generalize Safe.prod t = pt at *
        generalize Safe.prod r.1 = pr at *
        have Hl4 := Lib.hid hl4
        clear hl4
        have hl20 : (0 : Int) < (t.length : Int) := by omega
        go_wp2_with fail
        refine (safe_mul (some ⟨w4.heap.size, 0, none⟩) 2 [pr, pt / t0] _ (by simp) (ints_two _ _)).mono ?_
        rintro e w5 ⟨rfl, hb5⟩
        rw [Hmul.out.1]
        have hl5 := (Hl4.out.alloc (.cells #[.int .i64 pr, .int .i64 (pt / t0)] 3)).call hb5
        have Hl5 := Lib.hid hl5
        clear hl5
        go_wp2_with fail
        go_ret2
        exact ⟨by (rw [Hcv.out, Hq3.out] <;> rfl), Hl5.out⟩
      · have n8 : (o.kind == 8) = false := by simpa using k8
        have n10 : (o.kind == 10) = false := by simpa using k10
        by_cases k11 : o.kind = 11 ∨ o.kind = 12
        · obtain ⟨hm1, hm2⟩ := Hg11.out k11
          have hv : Od.costV o p r.1 = Safe.prod r.1 * o.width := by unfold Od.costV; rw [if_neg k8, if_neg k10, if_pos k11]
          rw [hv] at Hcv
          have hmul := Od.mul2 (a := Safe.prod r.1) (b := o.width) (by omega) (by omega) (by omega) (by omega)
          generalize Safe.prod r.1 = pr at *
          have Hl3 := Lib.hid hl3
          have Hk3 := Lib.hid hk3
          have HP3 := Lib.hid hP3
          have Hv := Lib.hid hv
          have Hmul := Lib.hid hmul
          clear hl3 hk3 hP3 hv hmul
          clear k8 k10
          rcases k11 with k11 | k11
          all_goals
            rw [k11] at y0 n8 n10
            go_wp2_with fail
            refine (safe_mul (some ⟨w3.heap.size, 0, none⟩) 2 [pr, o.width] _ (by simp) (ints_two _ _)).mono ?_
            rintro e w5 ⟨rfl, hb5⟩
            rw [Hmul.out.1]
            have hl5 := (Hl3.out.alloc (.cells #[.int .i64 pr, .int .i64 o.width] 3)).call hb5
            have Hl5 := Lib.hid hl5
            clear hl5
            go_wp2_with fail
            go_ret2
            exact ⟨by (rw [Hcv.out] <;> rfl), Hl5.out⟩
        · have hv : Od.costV o p r.1 = Safe.prod r.1 := by unfold Od.costV; rw [if_neg k8, if_neg k10, if_neg k11]
          rw [hv] at Hcv
          have n11 : (o.kind == 11) = false := by simp; omega
          have n12 : (o.kind == 12) = false := by simp; omega
          have Hl3 := Lib.hid hl3
          have Hk3 := Lib.hid hk3
          have HP3 := Lib.hid hP3
          have Hv := Lib.hid hv
          clear hl3 hk3 hP3 hv
          clear k8 k10 k11
          go_wp2_with fail
          go_ret2
          exact ⟨by (rw [Hcv.out] <;> rfl), Hl3.out⟩
  · have q0 : (r.2 != 0) = true := by simp [hr]
    rw [if_neg hr] at hcv
    have HI2 := Lib.hid hI2
    have Hl2 := Lib.hid hl2
    have Hk2 := Lib.hid hk2
    have Hcv := Lib.hid hcv
    clear hI2 hl2 hk2 hcv
    clear hgood hshr hpr hr
    go_wp2_with fail
    go_ret2
    exact ⟨by (rw [Hcv.out] <;> rfl), Hl2.out⟩
set_option maxRecDepth 20000 in
set_option maxHeartbeats 8000000 in
theorem ref10_cost (o : OpD) (S P T : Option Addr) (c d tc : Nat) (p x : List (List Int)) (w : World) (hgood : (Od.shape o p x).2 = 0) (hP : Shps w P p) (hT : Ints .i64 w T (Od.shape o p x).1) :
    Calls Try.prog 54 #[.agg #[.int .i64 o.kind, .int .i64 o.k, .int .i64 o.width, .int .i64 o.step, .int .i64 o.side, .int .i64 o.frm, .int .i64 o.to, .slice S o.s.length c], .slice P p.length d, .slice T (Od.shape o p x).1.length tc] w fun e w' => e = .returned (.int .i64 (Od.costV o p (Od.shape o p x).1)) ∧ Below w.heap.size w w' := by
  have hk0 := Blk.new w 72 #[.int .i64 o.kind, .int .i64 o.k, .int .i64 o.width, .int .i64 o.step, .int .i64 o.side, .int .i64 o.frm, .int .i64 o.to, .slice S o.s.length c]
  have hl0 : Later w (w.alloc (.cells #[.int .i64 o.kind, .int .i64 o.k, .int .i64 o.width, .int .i64 o.step, .int .i64 o.side, .int .i64 o.frm, .int .i64 o.to, .slice S o.s.length c] 72)) := (Later.refl w).alloc _
  obtain ⟨g8, g10, g11⟩ := Od.cost_parts hgood
  have hr2 := Od.shape_right hgood
  have hpr2 := (Od.shape_good hgood).2.2.2.1
  have hcb := Od.costV_bd hgood
  obtain ⟨y0, -, y2, -, -, -, -, -⟩ := op_cells hk0
  have hP1 := hP.below hl0 (Nat.le_refl _)
  have hT1 := hT.below hl0 (Nat.le_refl _)
  generalize (Od.shape o p x).1 = s at *
  have hs := Sh.prod_bd hr2
  have HP := Lib.hid hP
  have HT := Lib.hid hT
  have Hk0 := Lib.hid hk0
  have Hg8 := Lib.hid g8
  have Hg10 := Lib.hid g10
  have Hg11 := Lib.hid g11
  have Hr2 := Lib.hid hr2
  have Hpr2 := Lib.hid hpr2
  have HP1 := Lib.hid hP1
  have HT1 := Lib.hid hT1
  have Hl0 := Lib.hid hl0
  clear hP hT hk0 g8 g10 g11 hr2 hpr2 hP1 hT1 hl0
  clear hgood
  go_enter Try.func54, Try.ntmps54
  go_upto_region 1 with fail
  generalize w.alloc (.cells #[.int .i64 o.kind, .int .i64 o.k, .int .i64 o.width, .int .i64 o.step, .int .i64 o.side, .int .i64 o.frm, .int .i64 o.to, .slice S o.s.length c] 72) = w1 at *
  go_wp2_with fail
  refine (ref03_size T tc s w1 Hr2.out HT1.out).mono ?_
  rintro e w2 ⟨rfl, rfl⟩
  by_cases k8 : o.kind = 8
  · have hv : Od.costV o p s = Safe.prod (p.getD 0 []) := by unfold Od.costV; rw [if_pos k8]
    have hl := Hg8.out k8
    obtain ⟨b, off, S5, d5, rfl, -, y5, hI5, -, -⟩ := HP1.out 0 hl
    have e0 : p.getD 0 [] = p[0] := by simp [List.getD_eq_getElem?_getD, hl]
    have hr5 := Hpr2.out p[0] (List.getElem_mem hl)
    rw [e0] at hv
    rw [Nat.add_zero] at y5
    rw [k8] at y0
    generalize p[0] = t at *
    have HI5 := Lib.hid hI5
    have Hv := Lib.hid hv
    have Hr5 := Lib.hid hr5
    have Hcb := Lib.hid hcb
    clear hI5 hv hr5 hcb
    clear k8
    go_wp2_with fail
    refine (ref03_size S5 d5 t _ Hr5.out HI5.out).mono ?_
    rintro e w4 ⟨rfl, rfl⟩
    go_wp2_with fail
    go_ret
    exact ⟨by (rw [Hv.out] <;> rfl), Hl0.out⟩
  · by_cases k10 : o.kind = 10
    · obtain ⟨hl, hl2, hm1, hm2⟩ := Hg10.out k10
      obtain ⟨b, off, S5, d5, rfl, -, y5, hI5, -, -⟩ := HP1.out 0 hl
      have e0 : p.getD 0 [] = p[0] := by simp [List.getD_eq_getElem?_getD, hl]
      have hr5 := Hpr2.out p[0] (List.getElem_mem hl)
      have hbd5 := Sh.prod_bd hr5
      have hv : Od.costV o p s = Safe.prod s * (Safe.prod (p.getD 0 [])).tdiv ((p.getD 0 []).getD 0 0) := by unfold Od.costV; rw [if_neg k8, if_pos k10]
      rw [e0] at hv hl2 hm1 hm2
      rw [Nat.add_zero] at y5
      rw [k10] at y0
      generalize p[0] = t at *
      have hq1 : 0 ≤ (Safe.prod t).tdiv (t.getD 0 0) := Int.tdiv_nonneg (by omega) (by omega)
      have hq2 : (Safe.prod t).tdiv (t.getD 0 0) ≤ Safe.prod t := Int.tdiv_le_self _ (by omega)
      have hq3 : (Safe.prod t).tdiv (t.getD 0 0) = Safe.prod t / t.getD 0 0 := Int.tdiv_eq_ediv_of_nonneg (by omega)
      rw [hv] at hcb
      obtain ⟨b6, o6, rfl, -, y6⟩ := hI5 0 hl2
      rw [Nat.add_zero] at y6
      have hl20 : (0 : Int) < (t.length : Int) := by omega
      have hl0' : (0 : Int) < (p.length : Int) := by omega
      have hwr : IntKind.i64.wrap (Safe.prod s * (Safe.prod t / t.getD 0 0)) = Safe.prod s * (Safe.prod t / t.getD 0 0) := by rw [← hq3]; exact IntWalk.i64_in _ (by omega)
      have hcall := fun m => ref03_size (some ⟨b6, o6, none⟩) d5 t (w1.drewN m) hr5 hI5
      rw [hq3] at hq1 hq2 hcb hv
      generalize t.getD 0 0 = t0 at *
      generalize Safe.prod t = pt at *
      generalize Safe.prod s = ps at *
      have HI5 := Lib.hid hI5
      have Hv := Lib.hid hv
      have Hr5 := Lib.hid hr5
      have Hcall := Lib.hid hcall
      have Hq3 := Lib.hid hq3
      have Hwr := Lib.hid hwr
      clear hI5 hv hr5 hcall hq3 hwr
      clear k8 k10 hq1 hq2 hcb
      have hwr := Hwr.out
      go_wp2_with fail
      go_quiet ((go_at_call 35; refine (Hcall.out _).mono ?_; rintro e w9 ⟨rfl, rfl⟩; exact ⟨rfl, _, rfl⟩))
      go_wp2_with fail
      go_ret
      exact ⟨by (rw [Hv.out] <;> rfl), Hl0.out.drewN _⟩
    · have n8 : (o.kind == 8) = false := by simpa using k8
      have n10 : (o.kind == 10) = false := by simpa using k10
      by_cases k11 : o.kind = 11 ∨ o.kind = 12
      · obtain ⟨hm1, hm2⟩ := Hg11.out k11
        have hv : Od.costV o p s = Safe.prod s * o.width := by unfold Od.costV; rw [if_neg k8, if_neg k10, if_pos k11]
        rw [hv] at hcb
        have hwr : IntKind.i64.wrap (Safe.prod s * o.width) = Safe.prod s * o.width := IntWalk.i64_in _ (by omega)
        have Hv := Lib.hid hv
        clear hv
        clear k8 k10
        rcases k11 with k11 | k11
        all_goals
          rw [k11] at y0 n8 n10
          go_wp2_with fail
          go_ret
          exact ⟨by (rw [Hv.out] <;> rfl), Hl0.out⟩
      · have hv : Od.costV o p s = Safe.prod s := by unfold Od.costV; rw [if_neg k8, if_neg k10, if_neg k11]
        have n11 : (o.kind == 11) = false := by simp; omega
        have n12 : (o.kind == 12) = false := by simp; omega
        have Hv := Lib.hid hv
        clear hv
        clear k8 k10 k11
        go_wp2_with fail
        go_ret
        exact ⟨by (rw [Hv.out] <;> rfl), Hl0.out⟩
end Go.Proofs.Ytjkhpbngpceenaa
/- The plain law of layer 13: a valid net's shapes do not change by its own nodes; words and costs. -/
namespace Go.Proofs.Ytjkhpbngpceenaa
namespace Nt
/-- What isn't laid stays as it is. -/
theorem lay_keep {ns : List NodeD} : ∀ {a : List Int} {sh : List (List Int)}, (lay ns sh a).2 = 0 → ∀ j : Nat, (∀ u ∈ a, u.toNat ≠ j) → (lay ns sh a).1.getD j [] = sh.getD j []
  | [], sh, _, j, _ => rfl
  | id :: r, sh, h, j, hj => by
    unfold lay at h ⊢
    split at h
    · rename_i h1
      rw [if_pos h1, lay_keep h j (fun u hu => hj u (by simp [hu]))]
      have := hj id (by simp)
      simp only [List.getD_eq_getElem?_getD, List.getElem?_set_ne this]
    · rename_i h1; exact absurd h h1
theorem pick_congr {sh sh' : List (List Int)} {l : List Int} (h : ∀ i ∈ l, sh.getD i.toNat [] = sh'.getD i.toNat []) : pick sh l = pick sh' l := List.map_congr_left h
/-- A valid net's shapes are those that its nodes make of them. -/
theorem shapes_fix {n : NetD} (h : check n = 0) {id : Int} (h1 : 1 ≤ id) (h2 : id ≤ n.nodes.length) : layStep n.nodes (shapes n) id = ((shapes n).getD id.toNat [], 0) := by
  obtain ⟨_, _, hin, hb, hl, hlay, _⟩ := check_ok h
  have hu : id ∈ sorted n.nodes := (Kn.order_full hl id).2 ⟨h1, h2⟩
  obtain ⟨A, B, e⟩ := List.append_of_mem hu
  have hnd : (sorted n.nodes).Nodup := (Kn.go_ok _ _ _).nodup
  have hrg : ∀ u ∈ sorted n.nodes, 1 ≤ u ∧ u ≤ n.nodes.length := Kn.order_rng _ _
  have hbe := Kn.order_behind _ _ e
  have hs : shapes n = (lay n.nodes (start n) (sorted n.nodes)).1 := rfl
  rw [e] at hlay hnd hrg
  have hA : (lay n.nodes (start n) A).2 = 0 := by
    rw [lay_append] at hlay
    split at hlay
    · assumption
    · rename_i q; exact absurd hlay q
  rw [lay_append, if_pos hA, lay] at hlay
  have hS : (layStep n.nodes (lay n.nodes (start n) A).1 id).2 = 0 := by
    split at hlay
    · assumption
    · rename_i q; exact absurd hlay q
  rw [if_pos hS] at hlay
  have hs2 : shapes n = (lay n.nodes ((lay n.nodes (start n) A).1.set id.toNat (layStep n.nodes (lay n.nodes (start n) A).1 id).1) B).1 := by
    rw [hs, e, lay_append, if_pos hA, lay, if_pos hS]
  have hlenA : (lay n.nodes (start n) A).1.length = n.nodes.length + 1 := by rw [lay_len hA]; simp [start]
  have hnA : ∀ j, j ∈ A → j ≠ id ∧ j ∉ B := fun j hj => by
    rw [List.nodup_append] at hnd
    have := hnd.2.2 j hj
    exact ⟨fun e => by subst e; exact this j (by simp) rfl, fun hb => this j (by simp [hb]) rfl⟩
  have hnB : id ∉ B := by
    rw [List.nodup_append] at hnd
    exact (List.nodup_cons.1 hnd.2.1).1
  have hat : (shapes n).getD id.toNat [] = (layStep n.nodes (lay n.nodes (start n) A).1 id).1 := by
    rw [hs2, lay_keep hlay _ (fun u hu => by
      have := hrg u (by simp [hu])
      intro q
      have q : u = id := by omega
      exact hnB (q ▸ hu))]
    rw [List.getD_eq_getElem?_getD, List.getElem?_set_self (by omega)]; rfl
  have hins : ∀ i ∈ insF n.nodes id, (shapes n).getD i.toNat [] = (lay n.nodes (start n) A).1.getD i.toNat [] := fun i hi => by
    have hiA := hbe i hi
    have hi0 : 0 ≤ i ∧ i.toNat ≠ id.toNat := by
      rcases hiA with rfl | hiA
      · omega
      · have := hrg i (by simp [hiA]); have := (hnA i hiA).1; omega
    rw [hs2, lay_keep hlay _ (fun u hu => by
      have := hrg u (by simp [hu])
      intro q
      have q : u = i := by omega
      subst q
      rcases hiA with q | q
      · omega
      · exact (hnA u q).2 hu)]
    rw [List.getD_eq_getElem?_getD, List.getElem?_set_ne (by omega), ← List.getD_eq_getElem?_getD]
  have hstep : layStep n.nodes (shapes n) id = layStep n.nodes (lay n.nodes (start n) A).1 id := by
    have hp := pick_congr hins
    unfold insF at hp
    unfold layStep
    rw [hp]
  rw [hstep, hat]
  exact Prod.ext rfl hS
theorem shapes_zero {n : NetD} (h : check n = 0) : (shapes n).getD 0 [] = n.inn := by
  obtain ⟨_, _, hin, hb, hl, hlay, _⟩ := check_ok h
  have hrg : ∀ u ∈ sorted n.nodes, 1 ≤ u ∧ u ≤ n.nodes.length := Kn.order_rng _ _
  show (lay n.nodes (start n) (sorted n.nodes)).1.getD 0 [] = _
  rw [lay_keep hlay 0 (fun u hu => by have := hrg u hu; omega)]
  rfl
/-- The k-th node's output. -/
theorem shapes_node {n : NetD} (h : check n = 0) {k : Nat} (hk : k < n.nodes.length) : Od.shape n.nodes[k].op n.nodes[k].p (pick (shapes n) n.nodes[k].ins) = ((shapes n).getD (k + 1) [], 0) := by
  have := shapes_fix h (id := (k : Int) + 1) (by omega) (by omega)
  unfold layStep at this
  rw [node_at hk, show ((k : Int) + 1).toNat = k + 1 by omega] at this
  exact this
theorem shapes_all {n : NetD} (h : check n = 0) : ∀ s ∈ shapes n, Sh.right s = true := fun s hs => by
  obtain ⟨j, hj, rfl⟩ := List.getElem_of_mem hs
  have hl := shapes_len h
  have := shapes_good h (j : Int) (by omega) (by omega)
  rw [show ((j : Int)).toNat = j by omega, List.getD_eq_getElem?_getD, List.getElem?_eq_getElem hj] at this
  exact this
theorem params_right {n : NetD} (h : check n = 0) : ∀ s ∈ params n, Sh.right s = true := fun s hs => by
  obtain ⟨v, hv, hs⟩ := List.mem_flatMap.1 hs
  obtain ⟨k, hk, rfl⟩ := List.getElem_of_mem hv
  have := shapes_node h hk
  exact (Od.shape_good (by rw [this])).2.2.2.1 s hs
def words (n : NetD) : List Int := (shapes n).map Safe.prod
/-- The costs of the first k nodes. -/
def costsTo (n : NetD) (k : Nat) : List Int := (List.range k).map fun j => Od.costV (n.nodes.getD j none_).op (n.nodes.getD j none_).p ((shapes n).getD (j + 1) [])
def costs (n : NetD) : List Int := 0 :: costsTo n n.nodes.length
def total (n : NetD) : Int := Safe.sum (costs n)
theorem costsTo_succ {n : NetD} {k : Nat} (hk : k < n.nodes.length) : costsTo n (k + 1) = costsTo n k ++ [Od.costV n.nodes[k].op n.nodes[k].p ((shapes n).getD (k + 1) [])] := by
  unfold costsTo
  rw [List.range_succ, List.map_append]
  have : n.nodes.getD k none_ = n.nodes[k] := by rw [List.getD_eq_getElem?_getD, List.getElem?_eq_getElem hk]; rfl
  simp [hk]
theorem costsTo_len (n : NetD) (k : Nat) : (costsTo n k).length = k := by simp [costsTo]
theorem cost_at {n : NetD} (h : check n = 0) {k : Nat} (hk : k < n.nodes.length) : Od.cost n.nodes[k].op n.nodes[k].p (pick (shapes n) n.nodes[k].ins) = (Od.costV n.nodes[k].op n.nodes[k].p ((shapes n).getD (k + 1) []), 0) := by
  unfold Od.cost
  rw [shapes_node h hk]
  simp
theorem costs_bd {n : NetD} (h : check n = 0) (k : Nat) (hk : k ≤ n.nodes.length) : ∀ x ∈ costsTo n k, 0 ≤ x ∧ x ≤ 4294967296 := fun x hx => by
  unfold costsTo at hx
  obtain ⟨j, hj, rfl⟩ := List.mem_map.1 hx
  rw [List.mem_range] at hj
  have hjl : j < n.nodes.length := by omega
  have e : n.nodes.getD j none_ = n.nodes[j] := by rw [List.getD_eq_getElem?_getD, List.getElem?_eq_getElem hjl]; rfl
  rw [e]
  have hs := shapes_node h hjl
  have := Od.costV_bd (o := n.nodes[j].op) (p := n.nodes[j].p) (x := pick (shapes n) n.nodes[j].ins) (by rw [hs])
  rw [hs] at this
  exact this
theorem sum_bd {B : Int} : ∀ {l : List Int}, (∀ x ∈ l, 0 ≤ x ∧ x ≤ B) → 0 ≤ Safe.sum l ∧ Safe.sum l ≤ l.length * B
  | [], _ => by simp [Safe.sum]
  | a :: r, h => by
    have h1 := h a (by simp)
    have h2 := sum_bd (l := r) (B := B) fun x hx => h x (by simp [hx])
    simp only [Safe.sum, List.length_cons]
    rw [show ((r.length + 1 : Nat) : Int) * B = r.length * B + B by rw [Int.natCast_add, Int.add_mul]; simp]
    omega
theorem total_bd {n : NetD} (h : check n = 0) (hn : n.nodes.length ≤ 200) : 0 ≤ total n ∧ total n ≤ 858993459200 ∧ Safe.add (costs n) = (total n, 0) := by
  have hb := costs_bd h n.nodes.length (Nat.le_refl _)
  have hs := sum_bd hb
  rw [costsTo_len] at hs
  have e : total n = Safe.sum (costsTo n n.nodes.length) := by unfold total costs; rw [Safe.sum]; omega
  have hk : (n.nodes.length : Int) * 4294967296 ≤ 200 * 4294967296 := Int.mul_le_mul_of_nonneg_right (by omega) (by omega)
  refine ⟨by omega, by omega, ?_⟩
  unfold Safe.add
  have hall : (costs n).all Safe.ok = true := by
    rw [List.all_eq_true]
    intro x hx
    rw [Safe.ok_iff]
    rcases List.mem_cons.1 hx with rfl | hx
    · omega
    · have := hb x hx; omega
  rw [if_pos hall, if_pos (by rw [Safe.top_eq]; show total n ≤ _; omega)]
  rfl
theorem words_bd {n : NetD} (h : check n = 0) : ∀ x ∈ words n, 1 ≤ x ∧ x ≤ 65536 := fun x hx => by
  obtain ⟨s, hs, rfl⟩ := List.mem_map.1 hx
  exact Od.prod_right_ (shapes_all h s hs)
theorem words_len {n : NetD} (h : check n = 0) : (words n).length = n.nodes.length + 1 := by rw [words, List.length_map, shapes_len h]
end Nt
end Go.Proofs.Ytjkhpbngpceenaa

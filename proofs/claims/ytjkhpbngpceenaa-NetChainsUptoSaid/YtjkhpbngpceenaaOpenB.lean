/- A net of bounded bulk, come in as an argument, opened. -/
import Derived.Test.YtjkhpbngpceenaaOpen
import Derived.Test.YtjkhpbngpceenaaRows
import Derived.Test.YtjkhpbngpceenaaNetA
namespace Go.Proofs.Ytjkhpbngpceenaa
open Go.ChangeShapes Go.WideShapes Go.Deep Go.RowKit

section
variable {H : Type} {enc : TypeId × Value → H} {P : Program} {W : World} {base : Nat} {spare : Nat → Bool} {held : Bool}
theorem bulk_one (d : DataW H) : 1 ≤ Rows.uptoBulk d := by
  cases d with
  | lit l => cases l <;> simp [Rows.uptoBulk]
  | nil => simp [Rows.uptoBulk]
  | ptr d => simp [Rows.uptoBulk]
  | slice elems spare => simp [Rows.uptoBulk]
  | agg parts => simp [Rows.uptoBulk]
  | iface t d => simp [Rows.uptoBulk]
  | map entries => simp [Rows.uptoBulk]
  | held h => simp [Rows.uptoBulk]
theorem bulk_part {d : DataW H} {l : List (DataW H)} (h : d ∈ l) : Rows.uptoBulk d ≤ Rows.uptoBulkAll l := by
  induction l with
  | nil => cases h
  | cons x r ih =>
    simp only [Rows.uptoBulkAll]
    cases List.mem_cons.1 h with
    | inl e => subst e; omega
    | inr e => have := ih e; omega
theorem bulk_len (l : List (DataW H)) : l.length ≤ Rows.uptoBulkAll l := by
  induction l with
  | nil => simp [Rows.uptoBulkAll]
  | cons x r ih => have := bulk_one x; simp only [Rows.uptoBulkAll, List.length_cons]; omega
/-- The elements of a slice, and their bulk. -/
theorem slice_bulk {t e : TypeId} {fuel : Nat} {v : Value} {x : DataW H × List MemPlace} (ht : P.underlying t = some (.slice e)) (h : DataW.trod enc P W base spare held fuel t [v] = some x) (hz : Rows.uptoBulk x.1 ≤ 1048576) :
    v = .slice none 0 0 ∨ ∃ a len cap, v = .slice (some a) len cap ∧ len ≤ cap ∧ cap ≤ maxLen ∧ len ≤ 1048576 ∧
      ∀ i, i < len → ∃ cs' m y, W.cells? base (a.add (i * P.cellsOf e)) (P.cellsOf e) = some cs' ∧ DataW.trod enc P W base spare held m e cs' = some y ∧ Rows.uptoBulk y.1 ≤ 1048576 := by
  rcases open_slice ht h with ⟨hcs, _⟩ | ⟨a, len, cap, m, n, D, Pl, hcs, _, hl, hm, hmm, hx, hi⟩
  · simp at hcs; exact .inl hcs
  · simp at hcs; subst hcs
    right
    have hlm : len ≤ m := by rw [hmm]; split <;> omega
    rw [hx] at hz
    simp only [Rows.uptoBulk] at hz
    refine ⟨a, len, cap, rfl, hl, hm, ?_, fun i hil => ?_⟩
    · have := bulk_len ((List.range len).map D)
      simp at this
      omega
    · obtain ⟨cs', h1, h2⟩ := hi i (by omega)
      refine ⟨cs', n, _, h1, h2, ?_⟩
      have := bulk_part (d := D i) (l := (List.range len).map D) (List.mem_map.2 ⟨i, by simpa using hil, rfl⟩)
      show Rows.uptoBulk (D i) ≤ _
      omega
end

theorem int_one' : Try.prog.cellsOf 3 = 1 := by kernel_rfl
theorem shp_one : Try.prog.cellsOf 23 = 1 := by kernel_rfl
theorem node_cells : Try.prog.cellsOf 46 = 10 := by kernel_rfl

/-- A slice of numbers, of whatever name, with its size. -/
theorem nums_open {H : Type} {enc : TypeId × Value → H} {W : World} {base : Nat} {spare : Nat → Bool} {held : Bool} {t : TypeId} {fuel : Nat} {v : Value} {x : DataW H × List MemPlace} (ht : Try.prog.underlying t = some (.slice 3))
    (h : DataW.trod enc Try.prog W base spare held fuel t [v] = some x) (hz : Rows.uptoBulk x.1 ≤ 1048576) :
    ∃ A c zs, v = .slice A zs.length c ∧ Ints .i64 W A zs ∧ zs.length ≤ c ∧ c ≤ 9223372036854775807 ∧ zs.length ≤ 1048576 ∧ ∀ z ∈ zs, -9223372036854775808 ≤ z ∧ z ≤ 9223372036854775807 := by
  obtain ⟨A, c, zs, rfl, hl, hc, hI, hw⟩ := ints_open ht Try.underlying3 int_one' h
  refine ⟨A, c, zs, rfl, hI, hc, ?_, ?_, fun z hz => wf_bd (hw z hz)⟩
  · rcases slice_bulk ht h hz with e | ⟨a, len, cap, e, _, hm, _⟩
    · injection e with _ _ e; omega
    · injection e with _ _ e; unfold maxLen at hm; omega
  · rcases slice_bulk ht h hz with e | ⟨a, len, cap, e, _, _, hb, _⟩
    · injection e with _ e _; rw [e]; exact Nat.zero_le _
    · have e2 : zs.length = len := by simp at e; exact e.2.1
      rw [e2]
      exact hb
theorem one_list {l : List Value} (h : l.length = 1) : ∃ v, l = [v] := by
  match l, h with
  | [v], _ => exact ⟨v, rfl⟩
theorem choose_list {α : Type} [Inhabited α] {n : Nat} {Q : Nat → α → Prop} (h : ∀ i, i < n → ∃ a, Q i a) : ∃ l : List α, l.length = n ∧ ∀ i (hi : i < l.length), Q i l[i] := by
  obtain ⟨f, hf⟩ := @choose_lt α _ _ _ h
  exact ⟨(List.range n).map f, by simp, fun i hi => by simp at hi; simpa using hf i hi⟩
theorem addr_lit {W : World} {a : Addr} {v : Value} (h : W.cell? a = some v) : ∃ b off, a = ⟨b, off, none⟩ := by
  obtain ⟨b, off, spot⟩ := a
  have hs : spot = none := by simpa using World.cell?_spot h
  subst hs
  exact ⟨b, off, rfl⟩
/-- A slice of shapes. -/
theorem shps_open {H : Type} {enc : TypeId × Value → H} {W : World} {base : Nat} {spare : Nat → Bool} {held : Bool} {fuel : Nat} {v : Value} {x : DataW H × List MemPlace}
    (h : DataW.trod enc Try.prog W base spare held fuel 44 [v] = some x) (hz : Rows.uptoBulk x.1 ≤ 1048576) :
    ∃ A c ss, v = .slice A ss.length c ∧ Shps W A ss ∧ ss.length ≤ c ∧ c ≤ 9223372036854775807 ∧ ss.length ≤ 1048576 ∧ ∀ s ∈ ss, s.length ≤ 1048576 ∧ ∀ z ∈ s, -9223372036854775808 ≤ z ∧ z ≤ 9223372036854775807 := by
  rcases slice_bulk Try.underlying44 h hz with rfl | ⟨a, len, cap, rfl, hl, hm, hb, hi⟩
  · exact ⟨none, 0, [], rfl, Shps.nil, by simp, by omega, by simp, by simp⟩
  · rw [shp_one] at hi
    have key : ∀ i, i < len → ∃ q : (List Int) × (Option Addr) × Nat, W.cell? (a.add i) = some (.slice q.2.1 q.1.length q.2.2) ∧ Ints .i64 W q.2.1 q.1 ∧ q.1.length ≤ q.2.2 ∧ q.2.2 ≤ 9223372036854775807 ∧ q.1.length ≤ 1048576 ∧ ∀ z ∈ q.1, -9223372036854775808 ≤ z ∧ z ≤ 9223372036854775807 := fun i hil => by
      obtain ⟨cs', m, y, hc, ht, hw⟩ := hi i hil
      obtain ⟨_, hlen, hat⟩ := World.cells?_some hc
      obtain ⟨v, rfl⟩ := one_list hlen
      obtain ⟨A, c, zs, rfl, h1, h2⟩ := nums_open Try.underlying23 ht hw
      refine ⟨(zs, A, c), ?_, h1, h2⟩
      have := hat 0 (by omega)
      rw [Nat.mul_one] at this
      simpa [Addr.add] using this
    obtain ⟨L, hL, hq⟩ := choose_list key
    refine ⟨some a, cap, L.map (·.1), by simp [hL], fun j hj => ?_, by simpa [hL] using hl, by unfold maxLen at hm; omega, by simp [hL]; exact hb, fun s hs => ?_⟩
    · rw [List.length_map] at hj
      obtain ⟨h1, h2, h3, h4, _⟩ := hq j hj
      obtain ⟨h0, _⟩ := hq 0 (by omega)
      obtain ⟨b, off, rfl⟩ := addr_lit (show W.cell? a = _ by simpa [Addr.add] using h0)
      rw [add_plain'] at h1
      rw [List.getElem_map]
      exact ⟨b, off, _, _, rfl, World.block_lt_of_cell? _ _ h1, h1, h2, h3, h4⟩
    · obtain ⟨q, hqm, rfl⟩ := List.mem_map.1 hs
      obtain ⟨i, hi, rfl⟩ := List.getElem_of_mem hqm
      exact (hq i hi).2.2.2.2

def OpD.inR (o : OpD) : Prop := o.wide ∧ ∀ z ∈ o.s, -9223372036854775808 ≤ z ∧ z ≤ 9223372036854775807
/-- All numbers are an int's, and all rows could be in memory. -/
def NodeD.fits (v : NodeD) : Prop := v.op.wide ∧ v.op.s.length ≤ 1048576 ∧ v.ins.length ≤ 1048576 ∧ v.p.length ≤ 1048576 ∧ (∀ s ∈ v.p, s.length ≤ 1048576) ∧
  (∀ z ∈ v.op.s, -9223372036854775808 ≤ z ∧ z ≤ 9223372036854775807) ∧ (∀ z ∈ v.ins, -9223372036854775808 ≤ z ∧ z ≤ 9223372036854775807) ∧ ∀ s ∈ v.p, ∀ z ∈ s, -9223372036854775808 ≤ z ∧ z ≤ 9223372036854775807
def NetD.fits (n : NetD) : Prop := n.inn.length ≤ 1048576 ∧ n.nodes.length ≤ 1048576 ∧ (∀ z ∈ n.inn, -9223372036854775808 ≤ z ∧ z ≤ 9223372036854775807) ∧ ∀ v ∈ n.nodes, v.fits

theorem node_under : Try.prog.underlying 46 = some (.struct (Try.prog.fieldsOf 46)) := by kernel_rfl
theorem node_three : (Try.prog.fieldsOf 46).size = 3 := by kernel_rfl
theorem node_types : (Try.prog.fieldsOf 46).toList.map (·.type) = [43, 22, 44] := by kernel_rfl
theorem node_f0 : ((Try.prog.fieldsOf 46)[0]?).map (fun f => (f.type, f.offset, Try.prog.cellsOf f.type)) = some (43, 0, 8) := by kernel_rfl
theorem node_f1 : ((Try.prog.fieldsOf 46)[1]?).map (fun f => (f.type, f.offset, Try.prog.cellsOf f.type)) = some (22, 8, 1) := by kernel_rfl
theorem node_f2 : ((Try.prog.fieldsOf 46)[2]?).map (fun f => (f.type, f.offset, Try.prog.cellsOf f.type)) = some (44, 9, 1) := by kernel_rfl
theorem op_under : Try.prog.underlying 43 = some (.struct (Try.prog.fieldsOf 43)) := by kernel_rfl
theorem op_eight : (Try.prog.fieldsOf 43).size = 8 := by kernel_rfl
theorem op_types : (Try.prog.fieldsOf 43).toList.map (·.type) = [3, 41, 3, 3, 3, 3, 3, 23] := by kernel_rfl
theorem op_f0 : ((Try.prog.fieldsOf 43)[0]?).map (fun f => (f.type, f.offset, Try.prog.cellsOf f.type)) = some (3, 0, 1) := by kernel_rfl
theorem op_f1 : ((Try.prog.fieldsOf 43)[1]?).map (fun f => (f.type, f.offset, Try.prog.cellsOf f.type)) = some (41, 1, 1) := by kernel_rfl
theorem op_f2 : ((Try.prog.fieldsOf 43)[2]?).map (fun f => (f.type, f.offset, Try.prog.cellsOf f.type)) = some (3, 2, 1) := by kernel_rfl
theorem op_f3 : ((Try.prog.fieldsOf 43)[3]?).map (fun f => (f.type, f.offset, Try.prog.cellsOf f.type)) = some (3, 3, 1) := by kernel_rfl
theorem op_f4 : ((Try.prog.fieldsOf 43)[4]?).map (fun f => (f.type, f.offset, Try.prog.cellsOf f.type)) = some (3, 4, 1) := by kernel_rfl
theorem op_f5 : ((Try.prog.fieldsOf 43)[5]?).map (fun f => (f.type, f.offset, Try.prog.cellsOf f.type)) = some (3, 5, 1) := by kernel_rfl
theorem op_f6 : ((Try.prog.fieldsOf 43)[6]?).map (fun f => (f.type, f.offset, Try.prog.cellsOf f.type)) = some (3, 6, 1) := by kernel_rfl
theorem op_f7 : ((Try.prog.fieldsOf 43)[7]?).map (fun f => (f.type, f.offset, Try.prog.cellsOf f.type)) = some (23, 7, 1) := by kernel_rfl
theorem list3 {α : Type} {l : List α} (h : l.length = 3) : ∃ a b c, l = [a, b, c] := by
  match l, h with
  | [a, b, c], _ => exact ⟨a, b, c, rfl⟩
theorem list8 {α : Type} {l : List α} (h : l.length = 8) : ∃ a b c d e f g i, l = [a, b, c, d, e, f, g, i] := by
  match l, h with
  | [a, b, c, d, e, f, g, i], _ => exact ⟨a, b, c, d, e, f, g, i, rfl⟩
theorem list10 {α : Type} {l : List α} (h : l.length = 10) : ∃ a b c d e f g i j k, l = [a, b, c, d, e, f, g, i, j, k] := by
  match l, h with
  | [a, b, c, d, e, f, g, i, j, k], _ => exact ⟨a, b, c, d, e, f, g, i, j, k, rfl⟩
set_option maxRecDepth 100000 in
/-- An op's cells. -/
theorem op_open {H : Type} {enc : TypeId × Value → H} {W : World} {base : Nat} {spare : Nat → Bool} {held : Bool} {fuel : Nat} {v0 v1 v2 v3 v4 v5 v6 v7 : Value} {x : DataW H × List MemPlace}
    (h : DataW.trod enc Try.prog W base spare held fuel 43 [v0, v1, v2, v3, v4, v5, v6, v7] = some x) (hz : Rows.uptoBulk x.1 ≤ 1048576) :
    ∃ (o : OpD) (S : Option Addr) (c : Nat), v0 = .int .i64 o.kind ∧ v1 = .int .i64 o.k ∧ v2 = .int .i64 o.width ∧ v3 = .int .i64 o.step ∧ v4 = .int .i64 o.side ∧ v5 = .int .i64 o.frm ∧ v6 = .int .i64 o.to ∧ v7 = .slice S o.s.length c ∧
      Ints .i64 W S o.s ∧ o.s.length ≤ c ∧ c ≤ 9223372036854775807 ∧ o.s.length ≤ 1048576 ∧ o.wide ∧ ∀ z ∈ o.s, -9223372036854775808 ≤ z ∧ z ≤ 9223372036854775807 := by
  obtain ⟨ys, n, _, hx, _, hlen, hg⟩ := DataW.trod_struct op_under h
  rw [op_eight] at hlen
  obtain ⟨y0, y1, y2, y3, y4, y5, y6, y7, rfl⟩ := list8 hlen
  rw [hx] at hz
  obtain ⟨f0, e0, t0⟩ := Option.map_eq_some_iff.1 op_f0
  simp only [Prod.mk.injEq] at t0
  have h0 := hg 0 f0 e0
  rw [t0.2.2, t0.2.1, t0.1] at h0
  simp at h0
  obtain ⟨f1, e1, t1⟩ := Option.map_eq_some_iff.1 op_f1
  simp only [Prod.mk.injEq] at t1
  have h1 := hg 1 f1 e1
  rw [t1.2.2, t1.2.1, t1.1] at h1
  simp at h1
  obtain ⟨f2, e2, t2⟩ := Option.map_eq_some_iff.1 op_f2
  simp only [Prod.mk.injEq] at t2
  have h2 := hg 2 f2 e2
  rw [t2.2.2, t2.2.1, t2.1] at h2
  simp at h2
  obtain ⟨f3, e3, t3⟩ := Option.map_eq_some_iff.1 op_f3
  simp only [Prod.mk.injEq] at t3
  have h3 := hg 3 f3 e3
  rw [t3.2.2, t3.2.1, t3.1] at h3
  simp at h3
  obtain ⟨f4, e4, t4⟩ := Option.map_eq_some_iff.1 op_f4
  simp only [Prod.mk.injEq] at t4
  have h4 := hg 4 f4 e4
  rw [t4.2.2, t4.2.1, t4.1] at h4
  simp at h4
  obtain ⟨f5, e5, t5⟩ := Option.map_eq_some_iff.1 op_f5
  simp only [Prod.mk.injEq] at t5
  have h5 := hg 5 f5 e5
  rw [t5.2.2, t5.2.1, t5.1] at h5
  simp at h5
  obtain ⟨f6, e6, t6⟩ := Option.map_eq_some_iff.1 op_f6
  simp only [Prod.mk.injEq] at t6
  have h6 := hg 6 f6 e6
  rw [t6.2.2, t6.2.1, t6.1] at h6
  simp at h6
  obtain ⟨f7, e7, t7⟩ := Option.map_eq_some_iff.1 op_f7
  simp only [Prod.mk.injEq] at t7
  have h7 := hg 7 f7 e7
  rw [t7.2.2, t7.2.1, t7.1] at h7
  simp at h7
  have hz7 : Rows.uptoBulk y7.1 ≤ 1048576 := by simp [Rows.uptoBulk, Rows.uptoBulkAll] at hz; omega
  obtain ⟨x0, q0, _, w0⟩ := DataW.trod_int Try.underlying3 h0
  simp at q0
  subst q0
  obtain ⟨x1, q1, _, w1⟩ := DataW.trod_int Try.underlying41 h1
  simp at q1
  subst q1
  obtain ⟨x2, q2, _, w2⟩ := DataW.trod_int Try.underlying3 h2
  simp at q2
  subst q2
  obtain ⟨x3, q3, _, w3⟩ := DataW.trod_int Try.underlying3 h3
  simp at q3
  subst q3
  obtain ⟨x4, q4, _, w4⟩ := DataW.trod_int Try.underlying3 h4
  simp at q4
  subst q4
  obtain ⟨x5, q5, _, w5⟩ := DataW.trod_int Try.underlying3 h5
  simp at q5
  subst q5
  obtain ⟨x6, q6, _, w6⟩ := DataW.trod_int Try.underlying3 h6
  simp at q6
  subst q6
  obtain ⟨S, c, zs, rfl, hI, h1, h2, h3, h4⟩ := nums_open Try.underlying23 h7 hz7
  refine ⟨⟨x0, x1, x2, x3, x4, x5, x6, zs⟩, S, c, rfl, rfl, rfl, rfl, rfl, rfl, rfl, rfl, hI, h1, h2, h3, fun z hz => ?_, h4⟩
  simp at hz
  rcases hz with rfl | rfl | rfl | rfl | rfl | rfl | rfl
  · exact wf_bd w0
  · exact wf_bd w1
  · exact wf_bd w2
  · exact wf_bd w3
  · exact wf_bd w4
  · exact wf_bd w5
  · exact wf_bd w6

/-- What a node's cells read as. -/
structure NodeQ where
  v : NodeD
  S : Option Addr
  c : Nat
  I : Option Addr
  d : Nat
  Q : Option Addr
  q : Nat
instance : Inhabited NodeQ := ⟨⟨Nt.none_, none, 0, none, 0, none, 0⟩⟩
def NodeQ.cells (x : NodeQ) : List Value := [.int .i64 x.v.op.kind, .int .i64 x.v.op.k, .int .i64 x.v.op.width, .int .i64 x.v.op.step, .int .i64 x.v.op.side, .int .i64 x.v.op.frm, .int .i64 x.v.op.to, .slice x.S x.v.op.s.length x.c, .slice x.I x.v.ins.length x.d, .slice x.Q x.v.p.length x.q]
def NodeQ.R (x : NodeQ) (W : World) : Prop := (Ints .i64 W x.S x.v.op.s ∧ x.v.op.s.length ≤ x.c ∧ x.c ≤ 9223372036854775807) ∧ (Ints .i64 W x.I x.v.ins ∧ x.v.ins.length ≤ x.d ∧ x.d ≤ 9223372036854775807) ∧ (Shps W x.Q x.v.p ∧ x.v.p.length ≤ x.q ∧ x.q ≤ 9223372036854775807)
set_option maxRecDepth 100000 in
theorem node_open {H : Type} {enc : TypeId × Value → H} {W : World} {base : Nat} {spare : Nat → Bool} {held : Bool} {fuel : Nat} {cs : List Value} {x : DataW H × List MemPlace} (hcs : cs.length = 10)
    (h : DataW.trod enc Try.prog W base spare held fuel 46 cs = some x) (hz : Rows.uptoBulk x.1 ≤ 1048576) :
    ∃ q : NodeQ, cs = q.cells ∧ q.R W ∧ q.v.fits := by
  obtain ⟨v0, v1, v2, v3, v4, v5, v6, v7, v8, v9, rfl⟩ := list10 hcs
  obtain ⟨ys, n, _, hx, _, hlen, hg⟩ := DataW.trod_struct node_under h
  rw [node_three] at hlen
  obtain ⟨y0, y1, y2, rfl⟩ := list3 hlen
  rw [hx] at hz
  obtain ⟨f0, e0, t0⟩ := Option.map_eq_some_iff.1 node_f0
  simp only [Prod.mk.injEq] at t0
  have h0 := hg 0 f0 e0
  rw [t0.2.2, t0.2.1, t0.1] at h0
  simp at h0
  obtain ⟨f1, e1, t1⟩ := Option.map_eq_some_iff.1 node_f1
  simp only [Prod.mk.injEq] at t1
  have h1 := hg 1 f1 e1
  rw [t1.2.2, t1.2.1, t1.1] at h1
  simp at h1
  obtain ⟨f2, e2, t2⟩ := Option.map_eq_some_iff.1 node_f2
  simp only [Prod.mk.injEq] at t2
  have h2 := hg 2 f2 e2
  rw [t2.2.2, t2.2.1, t2.1] at h2
  simp at h2
  have hz0 : Rows.uptoBulk y0.1 ≤ 1048576 := by simp [Rows.uptoBulk, Rows.uptoBulkAll] at hz; omega
  have hz1 : Rows.uptoBulk y1.1 ≤ 1048576 := by simp [Rows.uptoBulk, Rows.uptoBulkAll] at hz; omega
  have hz2 : Rows.uptoBulk y2.1 ≤ 1048576 := by simp [Rows.uptoBulk, Rows.uptoBulkAll] at hz; omega
  obtain ⟨o, S, c, rfl, rfl, rfl, rfl, rfl, rfl, rfl, rfl, a1, a2, a3, a4, a5, a6⟩ := op_open h0 hz0
  obtain ⟨I, d, is, rfl, b1, b2, b3, b4, b5⟩ := nums_open Try.underlying22 h1 hz1
  obtain ⟨Q, q, ps, rfl, c1, c2, c3, c4, c5⟩ := shps_open h2 hz2
  exact ⟨⟨⟨o, is, ps⟩, S, c, I, d, Q, q⟩, rfl, ⟨⟨a1, a2, a3⟩, ⟨b1, b2, b3⟩, c1, c2, c3⟩, a5, a4, b4, c4, fun s hs => (c5 s hs).1, a6, b5, fun s hs => (c5 s hs).2⟩
/-- A slice of nodes. -/
theorem nodes_open {H : Type} {enc : TypeId × Value → H} {W : World} {base : Nat} {spare : Nat → Bool} {held : Bool} {fuel : Nat} {v : Value} {x : DataW H × List MemPlace}
    (h : DataW.trod enc Try.prog W base spare held fuel 24 [v] = some x) (hz : Rows.uptoBulk x.1 ≤ 1048576) :
    ∃ A c ns, v = .slice A ns.length c ∧ Nodes W A ns ∧ ns.length ≤ c ∧ c ≤ 9223372036854775807 ∧ ns.length ≤ 1048576 ∧ ∀ v ∈ ns, v.fits := by
  rcases slice_bulk Try.underlying24 h hz with rfl | ⟨a, len, cap, rfl, hl, hm, hb, hi⟩
  · exact ⟨none, 0, [], rfl, fun j hj => absurd hj (by simp), by simp, by omega, by simp, by simp⟩
  · rw [node_cells] at hi
    have key : ∀ i, i < len → ∃ q : NodeQ, (∀ j, j < 10 → W.cell? ((a.add (i * 10)).add j) = q.cells[j]?) ∧ q.R W ∧ q.v.fits := fun i hil => by
      obtain ⟨cs', m, y, hc, ht, hw⟩ := hi i hil
      obtain ⟨_, hlen, hat⟩ := World.cells?_some hc
      obtain ⟨q, rfl, h1, h2⟩ := node_open hlen ht hw
      exact ⟨q, hat, h1, h2⟩
    obtain ⟨L, hL, hq⟩ := choose_list key
    refine ⟨some a, cap, L.map (·.v), by simp [hL], fun j hj => ?_, by simpa [hL] using hl, by unfold maxLen at hm; omega, by simp [hL]; exact hb, fun s hs => ?_⟩
    · rw [List.length_map] at hj
      obtain ⟨h1, ⟨r1, r2, r3⟩, _⟩ := hq j hj
      obtain ⟨h0, _⟩ := hq 0 (by omega)
      have h00 := h0 0 (by omega)
      obtain ⟨b, off, rfl⟩ := addr_lit (v := .int .i64 L[0].v.op.kind) (show W.cell? a = _ by simpa [Addr.add, NodeQ.cells] using h00)
      simp only [add_plain'] at h1
      rw [List.getElem_map]
      refine ⟨b, off, _, _, _, _, _, _, rfl, World.block_lt_of_cell? _ _ (h1 0 (by omega)), h1 0 (by omega), h1 1 (by omega), h1 2 (by omega), h1 3 (by omega), h1 4 (by omega), h1 5 (by omega), h1 6 (by omega), h1 7 (by omega), h1 8 (by omega), h1 9 (by omega), r1, r2, r3⟩
    · obtain ⟨q, hqm, rfl⟩ := List.mem_map.1 hs
      obtain ⟨i, hi, rfl⟩ := List.getElem_of_mem hqm
      exact (hq i hi).2.2
theorem net_cells : Try.prog.cellsOf 26 = 2 := by kernel_rfl
theorem net_under : Try.prog.underlying 26 = some (.struct (Try.prog.fieldsOf 26)) := by kernel_rfl
theorem net_two : (Try.prog.fieldsOf 26).size = 2 := by kernel_rfl
theorem net_types : (Try.prog.fieldsOf 26).toList.map (·.type) = [23, 24] := by kernel_rfl
theorem net_f0 : ((Try.prog.fieldsOf 26)[0]?).map (fun f => (f.type, f.offset, Try.prog.cellsOf f.type)) = some (23, 0, 1) := by kernel_rfl
theorem net_f1 : ((Try.prog.fieldsOf 26)[1]?).map (fun f => (f.type, f.offset, Try.prog.cellsOf f.type)) = some (24, 1, 1) := by kernel_rfl
theorem list2 {α : Type} {l : List α} (h : l.length = 2) : ∃ a b, l = [a, b] := by
  match l, h with
  | [a, b], _ => exact ⟨a, b, rfl⟩
set_option maxRecDepth 100000 in
/-- A net. -/
theorem net_open {H : Type} {enc : TypeId × Value → H} {W : World} {r : Reach} {b0 base : Nat} {spare : Nat → Bool} {held : Bool} {v : Value} {d : DataW H} {p : List MemPlace}
    (hv : Value.okWide Try.prog W r b0 26 v) (h : DataW.Trod enc Try.prog W base spare held 26 v d p) (hz : Rows.uptoBulk d ≤ 1048576) :
    ∃ A N c1 c2 n, v = .agg #[.slice A n.inn.length c1, .slice N n.nodes.length c2] ∧ n.inn.length ≤ c1 ∧ c1 ≤ 9223372036854775807 ∧ n.nodes.length ≤ c2 ∧ c2 ≤ 9223372036854775807 ∧ NetR W A N n ∧ n.fits := by
  obtain ⟨cs, rfl, hsz⟩ := okWide_struct net_under hv
  obtain ⟨l⟩ := cs
  match l, hsz.trans net_cells with
  | [v0, v1], _ =>
    obtain ⟨fuel, hf⟩ := h
    obtain ⟨ys, n, _, hx, _, hlen, hg⟩ := DataW.trod_struct net_under hf
    rw [net_two] at hlen
    obtain ⟨y0, y1, rfl⟩ := list2 hlen
    simp only [Prod.mk.injEq, List.map_cons, List.map_nil] at hx
    obtain ⟨rfl, _⟩ := hx
    obtain ⟨f0, e0, t0⟩ := Option.map_eq_some_iff.1 net_f0
    simp only [Prod.mk.injEq] at t0
    have h0 := hg 0 f0 e0
    rw [t0.2.2, t0.2.1, t0.1] at h0
    simp [Value.cells] at h0
    obtain ⟨f1, e1, t1⟩ := Option.map_eq_some_iff.1 net_f1
    simp only [Prod.mk.injEq] at t1
    have h1 := hg 1 f1 e1
    rw [t1.2.2, t1.2.1, t1.1] at h1
    simp [Value.cells] at h1
    have hz0 : Rows.uptoBulk y0.1 ≤ 1048576 := by simp [Rows.uptoBulk, Rows.uptoBulkAll] at hz; omega
    have hz1 : Rows.uptoBulk y1.1 ≤ 1048576 := by simp [Rows.uptoBulk, Rows.uptoBulkAll] at hz; omega
    obtain ⟨A, c1, zs, rfl, a1, a2, a3, a4, a5⟩ := nums_open Try.underlying23 h0 hz0
    obtain ⟨N, c2, ns, rfl, b1, b2, b3, b4, b5⟩ := nodes_open h1 hz1
    exact ⟨A, N, c1, c2, ⟨zs, ns⟩, rfl, a2, a3, b2, b3, ⟨a1, b1⟩, a4, b4, a5, b5⟩
theorem NetD.fits.ok {n : NetD} (h : n.fits) : n.ok :=
  ⟨h.1, h.2.1, fun v hv => by
    obtain ⟨h1, h2, h3, h4, h5, h6, h7, h8⟩ := h.2.2.2 v hv
    exact ⟨h1, h2, h3, h4, h5, h7⟩⟩
end Go.Proofs.Ytjkhpbngpceenaa

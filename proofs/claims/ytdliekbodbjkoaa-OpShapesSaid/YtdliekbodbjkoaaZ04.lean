/- Lemmas for the statements of this seat: contracts of functions and the plain laws. -/
import Derived.Test.YtdliekbodbjkoaaZ03
set_option linter.unusedVariables false
/- Ops, and shapes of parameters and ins, come in as arguments, opened: no bound on their size. -/
namespace Go.Proofs.Ytdliekbodbjkoaa
open Go.ChangeShapes Go.WideShapes Go.Deep Go.RowKit

section
variable {H : Type} {enc : TypeId × Value → H} {P : Program} {W : World} {base : Nat} {spare : Nat → Bool} {held : Bool}
/-- The elements of a slice. -/
theorem slice_plain {t e : TypeId} {fuel : Nat} {v : Value} {x : DataW H × List MemPlace} (ht : P.underlying t = some (.slice e)) (h : DataW.trod enc P W base spare held fuel t [v] = some x) :
    v = .slice none 0 0 ∨ ∃ a len cap, v = .slice (some a) len cap ∧ len ≤ cap ∧ cap ≤ maxLen ∧
      ∀ i, i < len → ∃ cs' m y, W.cells? base (a.add (i * P.cellsOf e)) (P.cellsOf e) = some cs' ∧ DataW.trod enc P W base spare held m e cs' = some y := by
  rcases open_slice ht h with ⟨hcs, _⟩ | ⟨a, len, cap, m, n, D, Pl, hcs, _, hl, hm, hmm, hx, hi⟩
  · simp at hcs; exact .inl hcs
  · simp at hcs; subst hcs
    right
    have hlm : len ≤ m := by rw [hmm]; split <;> omega
    exact ⟨a, len, cap, rfl, hl, hm, fun i hil => by
      obtain ⟨cs', h1, h2⟩ := hi i (by omega)
      exact ⟨cs', n, _, h1, h2⟩⟩
end
theorem int_one' : Try.prog.cellsOf 3 = 1 := by kernel_rfl
/-- A slice of numbers, of whatever name. -/
theorem nums_open {H : Type} {enc : TypeId × Value → H} {W : World} {base : Nat} {spare : Nat → Bool} {held : Bool} {t : TypeId} {fuel : Nat} {v : Value} {x : DataW H × List MemPlace} (ht : Try.prog.underlying t = some (.slice 3))
    (h : DataW.trod enc Try.prog W base spare held fuel t [v] = some x) :
    ∃ A c zs, v = .slice A zs.length c ∧ Ints .i64 W A zs ∧ zs.length ≤ c ∧ c ≤ 9223372036854775807 ∧ ∀ z ∈ zs, -9223372036854775808 ≤ z ∧ z ≤ 9223372036854775807 := by
  obtain ⟨A, c, zs, rfl, hl, hc, hI, hw⟩ := ints_open ht Try.underlying3 int_one' h
  refine ⟨A, c, zs, rfl, hI, hc, ?_, fun z hz => wf_bd (hw z hz)⟩
  rcases slice_plain ht h with e | ⟨a, len, cap, e, _, hm, _⟩
  · injection e with _ _ e; omega
  · injection e with _ _ e; unfold maxLen at hm; omega
theorem one_list {l : List Value} (h : l.length = 1) : ∃ v, l = [v] := by
  match l, h with
  | [v], _ => exact ⟨v, rfl⟩
theorem choose_list {α : Type} [Inhabited α] {n : Nat} {Q : Nat → α → Prop} (h : ∀ i, i < n → ∃ a, Q i a) : ∃ l : List α, l.length = n ∧ ∀ i (hi : i < l.length), Q i l[i] := by
  obtain ⟨f, hf⟩ := @choose_lt α _ _ _ h
  exact ⟨(List.range n).map f, by simp, fun i hi => by simp at hi; simpa using hf i hi⟩
theorem addr_lit {W : World} {a : Addr} {v : Value} (h : W.cell? a = some v) : ∃ b off, a = ⟨b, off, none⟩ := by
  obtain ⟨b, off, spot⟩ := a
  have hs : spot = none := by simpa using World.cell?_spot h
  subst hs
  exact ⟨b, off, rfl⟩
theorem shp_one : Try.prog.cellsOf 24 = 1 := by kernel_rfl
/-- A slice of shapes. -/
theorem shps_open {H : Type} {enc : TypeId × Value → H} {W : World} {base : Nat} {spare : Nat → Bool} {held : Bool} {fuel : Nat} {v : Value} {x : DataW H × List MemPlace}
    (h : DataW.trod enc Try.prog W base spare held fuel 41 [v] = some x) :
    ∃ A c ss, v = .slice A ss.length c ∧ Shps W A ss ∧ ss.length ≤ c ∧ c ≤ 9223372036854775807 ∧ ∀ s ∈ ss, ∀ z ∈ s, -9223372036854775808 ≤ z ∧ z ≤ 9223372036854775807 := by
  rcases slice_plain Try.underlying41 h with rfl | ⟨a, len, cap, rfl, hl, hm, hi⟩
  · exact ⟨none, 0, [], rfl, Shps.nil, by simp, by omega, by simp⟩
  · rw [shp_one] at hi
    have key : ∀ i, i < len → ∃ q : (List Int) × (Option Addr) × Nat, W.cell? (a.add i) = some (.slice q.2.1 q.1.length q.2.2) ∧ Ints .i64 W q.2.1 q.1 ∧ q.1.length ≤ q.2.2 ∧ q.2.2 ≤ 9223372036854775807 ∧ ∀ z ∈ q.1, -9223372036854775808 ≤ z ∧ z ≤ 9223372036854775807 := fun i hil => by
      obtain ⟨cs', m, y, hc, ht⟩ := hi i hil
      obtain ⟨_, hlen, hat⟩ := World.cells?_some hc
      obtain ⟨v, rfl⟩ := one_list hlen
      obtain ⟨A, c, zs, rfl, h1, h2⟩ := nums_open Try.underlying24 ht
      refine ⟨(zs, A, c), ?_, h1, h2⟩
      have := hat 0 (by omega)
      rw [Nat.mul_one] at this
      simpa [Addr.add] using this
    obtain ⟨L, hL, hq⟩ := choose_list key
    refine ⟨some a, cap, L.map (·.1), by simp [hL], fun j hj => ?_, by simpa [hL] using hl, by unfold maxLen at hm; omega, fun s hs => ?_⟩
    · rw [List.length_map] at hj
      obtain ⟨h1, h2, h3, h4, _⟩ := hq j hj
      obtain ⟨h0, _⟩ := hq 0 (by omega)
      obtain ⟨b, off, rfl⟩ := addr_lit (show W.cell? a = _ by simpa [Addr.add] using h0)
      rw [add_plain'] at h1
      rw [List.getElem_map]
      exact ⟨b, off, _, _, rfl, World.block_lt_of_cell? _ _ h1, h1, h2, h3, h4⟩
    · obtain ⟨q, hqm, rfl⟩ := List.mem_map.1 hs
      obtain ⟨i, hi, rfl⟩ := List.getElem_of_mem hqm
      exact (hq i hi).2.2.2.2
theorem op_under : Try.prog.underlying 26 = some (.struct (Try.prog.fieldsOf 26)) := by kernel_rfl
theorem op_eight : (Try.prog.fieldsOf 26).size = 8 := by kernel_rfl
theorem op_types : (Try.prog.fieldsOf 26).toList.map (·.type) = [3, 22, 3, 3, 3, 3, 3, 24] := by kernel_rfl
theorem op_f0 : ((Try.prog.fieldsOf 26)[0]?).map (fun f => (f.type, f.offset, Try.prog.cellsOf f.type)) = some (3, 0, 1) := by kernel_rfl
theorem op_f1 : ((Try.prog.fieldsOf 26)[1]?).map (fun f => (f.type, f.offset, Try.prog.cellsOf f.type)) = some (22, 1, 1) := by kernel_rfl
theorem op_f2 : ((Try.prog.fieldsOf 26)[2]?).map (fun f => (f.type, f.offset, Try.prog.cellsOf f.type)) = some (3, 2, 1) := by kernel_rfl
theorem op_f3 : ((Try.prog.fieldsOf 26)[3]?).map (fun f => (f.type, f.offset, Try.prog.cellsOf f.type)) = some (3, 3, 1) := by kernel_rfl
theorem op_f4 : ((Try.prog.fieldsOf 26)[4]?).map (fun f => (f.type, f.offset, Try.prog.cellsOf f.type)) = some (3, 4, 1) := by kernel_rfl
theorem op_f5 : ((Try.prog.fieldsOf 26)[5]?).map (fun f => (f.type, f.offset, Try.prog.cellsOf f.type)) = some (3, 5, 1) := by kernel_rfl
theorem op_f6 : ((Try.prog.fieldsOf 26)[6]?).map (fun f => (f.type, f.offset, Try.prog.cellsOf f.type)) = some (3, 6, 1) := by kernel_rfl
theorem op_f7 : ((Try.prog.fieldsOf 26)[7]?).map (fun f => (f.type, f.offset, Try.prog.cellsOf f.type)) = some (24, 7, 1) := by kernel_rfl
theorem list8 {α : Type} {l : List α} (h : l.length = 8) : ∃ a b c d e f g i, l = [a, b, c, d, e, f, g, i] := by
  match l, h with
  | [a, b, c, d, e, f, g, i], _ => exact ⟨a, b, c, d, e, f, g, i, rfl⟩
theorem list10 {α : Type} {l : List α} (h : l.length = 10) : ∃ a b c d e f g i j k, l = [a, b, c, d, e, f, g, i, j, k] := by
  match l, h with
  | [a, b, c, d, e, f, g, i, j, k], _ => exact ⟨a, b, c, d, e, f, g, i, j, k, rfl⟩
theorem op_size : Try.prog.cellsOf 26 = 8 := by kernel_rfl
set_option maxRecDepth 100000 in
/-- An op's cells. -/
theorem op_cells_open {H : Type} {enc : TypeId × Value → H} {W : World} {base : Nat} {spare : Nat → Bool} {held : Bool} {fuel : Nat} {v0 v1 v2 v3 v4 v5 v6 v7 : Value} {x : DataW H × List MemPlace}
    (h : DataW.trod enc Try.prog W base spare held fuel 26 [v0, v1, v2, v3, v4, v5, v6, v7] = some x) :
    ∃ (o : OpD) (S : Option Addr) (c : Nat), v0 = .int .i64 o.kind ∧ v1 = .int .i64 o.k ∧ v2 = .int .i64 o.width ∧ v3 = .int .i64 o.step ∧ v4 = .int .i64 o.side ∧ v5 = .int .i64 o.frm ∧ v6 = .int .i64 o.to ∧ v7 = .slice S o.s.length c ∧
      Ints .i64 W S o.s ∧ o.s.length ≤ c ∧ c ≤ 9223372036854775807 ∧ o.wide ∧ ∀ z ∈ o.s, -9223372036854775808 ≤ z ∧ z ≤ 9223372036854775807 := by
  obtain ⟨ys, n, _, hx, _, hlen, hg⟩ := DataW.trod_struct op_under h
  rw [op_eight] at hlen
  obtain ⟨y0, y1, y2, y3, y4, y5, y6, y7, rfl⟩ := list8 hlen
  obtain ⟨f0, e0, t0⟩ := Option.map_eq_some_iff.1 op_f0
  simp only [Prod.mk.injEq] at t0
  have h0 := hg 0 f0 e0
  rw [t0.2.2, t0.2.1, t0.1] at h0
  simp at h0
  obtain ⟨f1, e1, t1⟩ := Option.map_eq_some_iff.1 op_f1
  simp only [Prod.mk.injEq] at t1
  have h1 := hg 1 f1 e1
  rw [t1.2.2, t1.2.1, t1.1] at h1
  simp at h1
  obtain ⟨f2, e2, t2⟩ := Option.map_eq_some_iff.1 op_f2
  simp only [Prod.mk.injEq] at t2
  have h2 := hg 2 f2 e2
  rw [t2.2.2, t2.2.1, t2.1] at h2
  simp at h2
  obtain ⟨f3, e3, t3⟩ := Option.map_eq_some_iff.1 op_f3
  simp only [Prod.mk.injEq] at t3
  have h3 := hg 3 f3 e3
  rw [t3.2.2, t3.2.1, t3.1] at h3
  simp at h3
  obtain ⟨f4, e4, t4⟩ := Option.map_eq_some_iff.1 op_f4
  simp only [Prod.mk.injEq] at t4
  have h4 := hg 4 f4 e4
  rw [t4.2.2, t4.2.1, t4.1] at h4
  simp at h4
  obtain ⟨f5, e5, t5⟩ := Option.map_eq_some_iff.1 op_f5
  simp only [Prod.mk.injEq] at t5
  have h5 := hg 5 f5 e5
  rw [t5.2.2, t5.2.1, t5.1] at h5
  simp at h5
  obtain ⟨f6, e6, t6⟩ := Option.map_eq_some_iff.1 op_f6
  simp only [Prod.mk.injEq] at t6
  have h6 := hg 6 f6 e6
  rw [t6.2.2, t6.2.1, t6.1] at h6
  simp at h6
  obtain ⟨f7, e7, t7⟩ := Option.map_eq_some_iff.1 op_f7
  simp only [Prod.mk.injEq] at t7
  have h7 := hg 7 f7 e7
  rw [t7.2.2, t7.2.1, t7.1] at h7
  simp at h7
  obtain ⟨x0, q0, _, w0⟩ := DataW.trod_int Try.underlying3 h0
  simp at q0
  subst q0
  obtain ⟨x1, q1, _, w1⟩ := DataW.trod_int Try.underlying22 h1
  simp at q1
  subst q1
  obtain ⟨x2, q2, _, w2⟩ := DataW.trod_int Try.underlying3 h2
  simp at q2
  subst q2
  obtain ⟨x3, q3, _, w3⟩ := DataW.trod_int Try.underlying3 h3
  simp at q3
  subst q3
  obtain ⟨x4, q4, _, w4⟩ := DataW.trod_int Try.underlying3 h4
  simp at q4
  subst q4
  obtain ⟨x5, q5, _, w5⟩ := DataW.trod_int Try.underlying3 h5
  simp at q5
  subst q5
  obtain ⟨x6, q6, _, w6⟩ := DataW.trod_int Try.underlying3 h6
  simp at q6
  subst q6
  obtain ⟨S, c, zs, rfl, hI, h1, h2, h4⟩ := nums_open Try.underlying24 h7
  refine ⟨⟨x0, x1, x2, x3, x4, x5, x6, zs⟩, S, c, rfl, rfl, rfl, rfl, rfl, rfl, rfl, rfl, hI, h1, h2, fun z hz => ?_, h4⟩
  simp at hz
  rcases hz with rfl | rfl | rfl | rfl | rfl | rfl | rfl
  · exact wf_bd w0
  · exact wf_bd w1
  · exact wf_bd w2
  · exact wf_bd w3
  · exact wf_bd w4
  · exact wf_bd w5
  · exact wf_bd w6
set_option maxRecDepth 100000 in
/-- An op. -/
theorem op_open {H : Type} {enc : TypeId × Value → H} {W : World} {r : Reach} {b0 base : Nat} {spare : Nat → Bool} {held : Bool} {v : Value} {d : DataW H} {p : List MemPlace}
    (hv : Value.okWide Try.prog W r b0 26 v) (h : DataW.Trod enc Try.prog W base spare held 26 v d p) :
    ∃ S c o, v = opVal o S c ∧ Ints .i64 W S o.s ∧ o.s.length ≤ c ∧ c ≤ 9223372036854775807 ∧ o.wide := by
  obtain ⟨cs, rfl, hsz⟩ := okWide_struct op_under hv
  obtain ⟨l⟩ := cs
  obtain ⟨v0, v1, v2, v3, v4, v5, v6, v7, rfl⟩ := list8 (hsz.trans op_size)
  obtain ⟨fuel, hf⟩ := h
  obtain ⟨o, S, c, rfl, rfl, rfl, rfl, rfl, rfl, rfl, rfl, h1, h2, h3, h4, _⟩ := op_cells_open hf
  exact ⟨S, c, o, rfl, h1, h2, h3, h4⟩
theorem shs_cells : Try.prog.cellsOf 43 = 10 := by kernel_rfl
theorem shs_under : Try.prog.underlying 43 = some (.struct (Try.prog.fieldsOf 43)) := by kernel_rfl
theorem shs_three : (Try.prog.fieldsOf 43).size = 3 := by kernel_rfl
theorem shs_f0 : ((Try.prog.fieldsOf 43)[0]?).map (fun f => (f.type, f.offset, Try.prog.cellsOf f.type)) = some (26, 0, 8) := by kernel_rfl
theorem shs_f1 : ((Try.prog.fieldsOf 43)[1]?).map (fun f => (f.type, f.offset, Try.prog.cellsOf f.type)) = some (41, 8, 1) := by kernel_rfl
theorem shs_f2 : ((Try.prog.fieldsOf 43)[2]?).map (fun f => (f.type, f.offset, Try.prog.cellsOf f.type)) = some (41, 9, 1) := by kernel_rfl
theorem list3 {α : Type} {l : List α} (h : l.length = 3) : ∃ a b c, l = [a, b, c] := by
  match l, h with
  | [a, b, c], _ => exact ⟨a, b, c, rfl⟩
def shsVal (o : OpD) (S : Option Addr) (c : Nat) (P : Option Addr) (lp d : Nat) (X : Option Addr) (lx f : Nat) : Value := .agg #[.int .i64 o.kind, .int .i64 o.k, .int .i64 o.width, .int .i64 o.step, .int .i64 o.side, .int .i64 o.frm, .int .i64 o.to, .slice S o.s.length c, .slice P lp d, .slice X lx f]
set_option maxRecDepth 100000 in
/-- An op with shapes. -/
theorem shs_open {H : Type} {enc : TypeId × Value → H} {W : World} {r : Reach} {b0 base : Nat} {spare : Nat → Bool} {held : Bool} {v : Value} {d : DataW H} {p : List MemPlace}
    (hv : Value.okWide Try.prog W r b0 43 v) (h : DataW.Trod enc Try.prog W base spare held 43 v d p) :
    ∃ S c o P cp ps X cx xs, v = shsVal o S c P (List.length ps) cp X (List.length xs) cx ∧ Ints .i64 W S o.s ∧ o.s.length ≤ c ∧ c ≤ 9223372036854775807 ∧ o.wide ∧ Shps W P ps ∧ ps.length ≤ cp ∧ cp ≤ 9223372036854775807 ∧ Shps W X xs ∧ xs.length ≤ cx ∧ cx ≤ 9223372036854775807 := by
  obtain ⟨cs, rfl, hsz⟩ := okWide_struct shs_under hv
  obtain ⟨l⟩ := cs
  obtain ⟨v0, v1, v2, v3, v4, v5, v6, v7, v8, v9, rfl⟩ := list10 (hsz.trans shs_cells)
  obtain ⟨fuel, hf⟩ := h
  obtain ⟨ys, n, _, hx, _, hlen, hg⟩ := DataW.trod_struct shs_under hf
  rw [shs_three] at hlen
  obtain ⟨y0, y1, y2, rfl⟩ := list3 hlen
  obtain ⟨f0, e0, t0⟩ := Option.map_eq_some_iff.1 shs_f0
  simp only [Prod.mk.injEq] at t0
  have h0 := hg 0 f0 e0
  rw [t0.2.2, t0.2.1, t0.1] at h0
  simp [Value.cells] at h0
  obtain ⟨f1, e1, t1⟩ := Option.map_eq_some_iff.1 shs_f1
  simp only [Prod.mk.injEq] at t1
  have h1 := hg 1 f1 e1
  rw [t1.2.2, t1.2.1, t1.1] at h1
  simp [Value.cells] at h1
  obtain ⟨f2, e2, t2⟩ := Option.map_eq_some_iff.1 shs_f2
  simp only [Prod.mk.injEq] at t2
  have h2 := hg 2 f2 e2
  rw [t2.2.2, t2.2.1, t2.1] at h2
  simp [Value.cells] at h2
  obtain ⟨o, S, c, rfl, rfl, rfl, rfl, rfl, rfl, rfl, rfl, k1, k2, k3, k4, _⟩ := op_cells_open h0
  obtain ⟨P, cp, ps, rfl, p1, p2, p3, _⟩ := shps_open h1
  obtain ⟨X, cx, xs, rfl, q1, q2, q3, _⟩ := shps_open h2
  exact ⟨S, c, o, P, cp, ps, X, cx, xs, rfl, k1, k2, k3, k4, p1, p2, p3, q1, q2, q3⟩
end Go.Proofs.Ytdliekbodbjkoaa

/- Lemmas for the statements of this seat: contracts of functions and the plain laws. -/
import Derived.Test.YtbnnpkcfifejmaaZ12
set_option linter.unusedVariables false
/- A case of layer 10, come in as an argument, opened. -/
namespace Go.Proofs.Ytbnnpkcfifejmaa
open Go.ChangeShapes Go.WideShapes Go.Deep Go.RowKit
theorem fix_one : Try.prog.cellsOf 22 = 1 := by kernel_rfl
theorem ten_cells : Try.prog.cellsOf 30 = 2 := by kernel_rfl
theorem ten_under : Try.prog.underlying 30 = some (.struct (Try.prog.fieldsOf 30)) := by kernel_rfl
theorem ten_two : (Try.prog.fieldsOf 30).size = 2 := by kernel_rfl
theorem ten_f0 : ((Try.prog.fieldsOf 30)[0]?).map (fun f => (f.type, f.offset, Try.prog.cellsOf f.type)) = some (24, 0, 1) := by kernel_rfl
theorem ten_f1 : ((Try.prog.fieldsOf 30)[1]?).map (fun f => (f.type, f.offset, Try.prog.cellsOf f.type)) = some (28, 1, 1) := by kernel_rfl
/-- A slice of numbers of layer 1, with its size. -/
theorem fixs_open {H : Type} {enc : TypeId × Value → H} {W : World} {base : Nat} {spare : Nat → Bool} {held : Bool} {fuel : Nat} {v : Value} {x : DataW H × List MemPlace}
    (h : DataW.trod enc Try.prog W base spare held fuel 28 [v] = some x) (hz : Rows.uptoBulk x.1 ≤ 1048576) :
    ∃ A c zs, v = .slice A zs.length c ∧ Ints .i64 W A zs ∧ zs.length ≤ c ∧ c ≤ 9223372036854775807 ∧ zs.length ≤ 1048576 ∧ ∀ z ∈ zs, Fx.In z := by
  obtain ⟨A, c, zs, rfl, hl, hc, hI, hw⟩ := ints_open Try.underlying28 Try.underlying22 fix_one h
  refine ⟨A, c, zs, rfl, hI, hc, ?_, ?_, fun z hz => wf_bd (hw z hz)⟩
  · rcases slice_bulk Try.underlying28 h hz with e | ⟨a, len, cap, e, _, hm, _⟩
    · injection e with _ _ e; omega
    · injection e with _ _ e; unfold maxLen at hm; omega
  · rcases slice_bulk Try.underlying28 h hz with e | ⟨a, len, cap, e, _, _, hb, _⟩
    · injection e with _ e _; rw [e]; exact Nat.zero_le _
    · have e2 : zs.length = len := by simp at e; exact e.2.1
      rw [e2]
      exact hb
set_option maxRecDepth 100000 in
/-- A tensor's two cells. -/
theorem ten_open {H : Type} {enc : TypeId × Value → H} {W : World} {base : Nat} {spare : Nat → Bool} {held : Bool} {fuel : Nat} {v0 v1 : Value} {x : DataW H × List MemPlace}
    (hf : DataW.trod enc Try.prog W base spare held fuel 30 [v0, v1] = some x) (hz : Rows.uptoBulk x.1 ≤ 1048576) :
    ∃ (S C : Option Addr) (c d : Nat) (t : Ten), v0 = .slice S t.s.length c ∧ v1 = .slice C t.c.length d ∧ TenIn W S C c d t := by
  obtain ⟨ys, n, _, hx, _, hlen, hg⟩ := DataW.trod_struct ten_under hf
  rw [ten_two] at hlen
  obtain ⟨y0, y1, rfl⟩ := list2 hlen
  rw [hx] at hz
  obtain ⟨f0, e0, t0⟩ := Option.map_eq_some_iff.1 ten_f0
  simp only [Prod.mk.injEq] at t0
  have h0 := hg 0 f0 e0
  rw [t0.2.2, t0.2.1, t0.1] at h0
  simp at h0
  obtain ⟨f1, e1, t1⟩ := Option.map_eq_some_iff.1 ten_f1
  simp only [Prod.mk.injEq] at t1
  have h1 := hg 1 f1 e1
  rw [t1.2.2, t1.2.1, t1.1] at h1
  simp at h1
  have hz0 : Rows.uptoBulk y0.1 ≤ 1048576 := by simp [Rows.uptoBulk, Rows.uptoBulkAll] at hz; omega
  have hz1 : Rows.uptoBulk y1.1 ≤ 1048576 := by simp [Rows.uptoBulk, Rows.uptoBulkAll] at hz; omega
  obtain ⟨S, c, zs, rfl, a1, a2, a3, a4, a5⟩ := nums_open Try.underlying24 h0 hz0
  obtain ⟨C, d, cs, rfl, b1, b2, b3, b4, b5⟩ := fixs_open h1 hz1
  exact ⟨S, C, c, d, ⟨zs, cs⟩, rfl, rfl, ⟨⟨a1, b1⟩, a2, a3, b2, b3, a4, b4, b5⟩⟩
structure TenQ where
  t : Ten
  S : Option Addr
  c : Nat
  C : Option Addr
  d : Nat
instance : Inhabited TenQ := ⟨⟨Ly.none_, none, 0, none, 0⟩⟩
/-- A slice of tensors. -/
theorem tens_open {H : Type} {enc : TypeId × Value → H} {W : World} {base : Nat} {spare : Nat → Bool} {held : Bool} {fuel : Nat} {v : Value} {x : DataW H × List MemPlace}
    (h : DataW.trod enc Try.prog W base spare held fuel 27 [v] = some x) (hz : Rows.uptoBulk x.1 ≤ 1048576) :
    ∃ A c ts, v = .slice A ts.length c ∧ Tns W A ts ∧ ts.length ≤ c ∧ c ≤ 9223372036854775807 ∧ ts.length ≤ 1048576 := by
  rcases slice_bulk Try.underlying27 h hz with rfl | ⟨a, len, cap, rfl, hl, hm, hb, hi⟩
  · exact ⟨none, 0, [], rfl, Tns.nil _ _, by simp, by omega, by simp⟩
  · rw [ten_cells] at hi
    have key : ∀ i, i < len → ∃ q : TenQ, W.cell? ((a.add (i * 2)).add 0) = some (.slice q.S q.t.s.length q.c) ∧ W.cell? ((a.add (i * 2)).add 1) = some (.slice q.C q.t.c.length q.d) ∧ TenIn W q.S q.C q.c q.d q.t := fun i hil => by
      obtain ⟨cs', m, y, hc, ht, hw⟩ := hi i hil
      obtain ⟨_, hlen, hat⟩ := World.cells?_some hc
      obtain ⟨v0, v1, rfl⟩ := list2 hlen
      obtain ⟨S, C, c, d, t, rfl, rfl, hT⟩ := ten_open ht hw
      exact ⟨⟨t, S, c, C, d⟩, hat 0 (by omega), hat 1 (by omega), hT⟩
    obtain ⟨L, hL, hq⟩ := choose_list key
    refine ⟨some a, cap, L.map (·.t), by simp [hL], fun j hj => ?_, by simpa [hL] using hl, by unfold maxLen at hm; omega, by simp [hL]; exact hb⟩
    rw [List.length_map] at hj
    obtain ⟨h1, h2, h3⟩ := hq j hj
    obtain ⟨h0, _, _⟩ := hq 0 (by omega)
    obtain ⟨b, off, rfl⟩ := addr_lit (v := .slice L[0].S L[0].t.s.length L[0].c) (show W.cell? a = _ by simpa [Addr.add] using h0)
    simp only [addr_add, Nat.add_zero] at h1 h2
    rw [List.getElem_map]
    exact ⟨b, off, _, _, _, _, rfl, World.block_lt_of_cell? _ _ h1, h1, h2, h3⟩
theorem gcase_cells : Try.prog.cellsOf 32 = 12 := by kernel_rfl
theorem gcase_under : Try.prog.underlying 32 = some (.struct (Try.prog.fieldsOf 32)) := by kernel_rfl
theorem gcase_four : (Try.prog.fieldsOf 32).size = 4 := by kernel_rfl
theorem gcase_f0 : ((Try.prog.fieldsOf 32)[0]?).map (fun f => (f.type, f.offset, Try.prog.cellsOf f.type)) = some (26, 0, 8) := by kernel_rfl
theorem gcase_f1 : ((Try.prog.fieldsOf 32)[1]?).map (fun f => (f.type, f.offset, Try.prog.cellsOf f.type)) = some (27, 8, 1) := by kernel_rfl
theorem gcase_f2 : ((Try.prog.fieldsOf 32)[2]?).map (fun f => (f.type, f.offset, Try.prog.cellsOf f.type)) = some (27, 9, 1) := by kernel_rfl
theorem gcase_f3 : ((Try.prog.fieldsOf 32)[3]?).map (fun f => (f.type, f.offset, Try.prog.cellsOf f.type)) = some (30, 10, 2) := by kernel_rfl
theorem list4' {α : Type} {l : List α} (h : l.length = 4) : ∃ a b c d, l = [a, b, c, d] := by
  match l, h with
  | [a, b, c, d], _ => exact ⟨a, b, c, d, rfl⟩
theorem list12 {α : Type} {l : List α} (h : l.length = 12) : ∃ a b c d e f g i j k m n, l = [a, b, c, d, e, f, g, i, j, k, m, n] := by
  match l, h with
  | [a, b, c, d, e, f, g, i, j, k, m, n], _ => exact ⟨a, b, c, d, e, f, g, i, j, k, m, n, rfl⟩
def gcaseVal (o : OpD) (S : Option Addr) (c : Nat) (P : Option Addr) (lp cp : Nat) (X : Option Addr) (lx cx : Nat) (GS : Option Addr) (gs gc : Nat) (GC : Option Addr) (gn gd : Nat) : Value :=
  .agg #[.int .i64 o.kind, .int .i64 o.k, .int .i64 o.width, .int .i64 o.step, .int .i64 o.side, .int .i64 o.frm, .int .i64 o.to, .slice S o.s.length c, .slice P lp cp, .slice X lx cx, .slice GS gs gc, .slice GC gn gd]
set_option maxRecDepth 100000 in
/-- A case. -/
theorem gcase_open {H : Type} {enc : TypeId × Value → H} {W : World} {r : Reach} {b0 base : Nat} {spare : Nat → Bool} {held : Bool} {v : Value} {d : DataW H} {p : List MemPlace}
    (hv : Value.okWide Try.prog W r b0 32 v) (h : DataW.Trod enc Try.prog W base spare held 32 v d p) (hz : Rows.uptoBulk d ≤ 1048576) :
    ∃ S c o P cp ps X cx xs GS GC gc gd g, v = gcaseVal o S c P (List.length ps) cp X (List.length xs) cx GS g.s.length gc GC g.c.length gd ∧ Ints .i64 W S o.s ∧ o.s.length ≤ c ∧ c ≤ 9223372036854775807 ∧ o.s.length ≤ 1048576 ∧ o.wide ∧ (∀ z ∈ o.s, -9223372036854775808 ≤ z ∧ z ≤ 9223372036854775807) ∧
      Tns W P ps ∧ ps.length ≤ cp ∧ cp ≤ 9223372036854775807 ∧ ps.length ≤ 1048576 ∧ Tns W X xs ∧ xs.length ≤ cx ∧ cx ≤ 9223372036854775807 ∧ xs.length ≤ 1048576 ∧ TenIn W GS GC gc gd g := by
  obtain ⟨cs, rfl, hsz⟩ := okWide_struct gcase_under hv
  obtain ⟨l⟩ := cs
  obtain ⟨v0, v1, v2, v3, v4, v5, v6, v7, v8, v9, v10, v11, rfl⟩ := list12 (hsz.trans gcase_cells)
  obtain ⟨fuel, hf⟩ := h
  obtain ⟨ys, n, _, hx, _, hlen, hg⟩ := DataW.trod_struct gcase_under hf
  rw [gcase_four] at hlen
  obtain ⟨y0, y1, y2, y3, rfl⟩ := list4' hlen
  simp only [Prod.mk.injEq, List.map_cons, List.map_nil] at hx
  obtain ⟨rfl, _⟩ := hx
  obtain ⟨f0, e0, t0⟩ := Option.map_eq_some_iff.1 gcase_f0
  simp only [Prod.mk.injEq] at t0
  have h0 := hg 0 f0 e0
  rw [t0.2.2, t0.2.1, t0.1] at h0
  simp [Value.cells] at h0
  have hz0 : Rows.uptoBulk y0.1 ≤ 1048576 := by simp [Rows.uptoBulk, Rows.uptoBulkAll] at hz; omega
  obtain ⟨f1, e1, t1⟩ := Option.map_eq_some_iff.1 gcase_f1
  simp only [Prod.mk.injEq] at t1
  have h1 := hg 1 f1 e1
  rw [t1.2.2, t1.2.1, t1.1] at h1
  simp [Value.cells] at h1
  have hz1 : Rows.uptoBulk y1.1 ≤ 1048576 := by simp [Rows.uptoBulk, Rows.uptoBulkAll] at hz; omega
  obtain ⟨f2, e2, t2⟩ := Option.map_eq_some_iff.1 gcase_f2
  simp only [Prod.mk.injEq] at t2
  have h2 := hg 2 f2 e2
  rw [t2.2.2, t2.2.1, t2.1] at h2
  simp [Value.cells] at h2
  have hz2 : Rows.uptoBulk y2.1 ≤ 1048576 := by simp [Rows.uptoBulk, Rows.uptoBulkAll] at hz; omega
  obtain ⟨f3, e3, t3⟩ := Option.map_eq_some_iff.1 gcase_f3
  simp only [Prod.mk.injEq] at t3
  have h3 := hg 3 f3 e3
  rw [t3.2.2, t3.2.1, t3.1] at h3
  simp [Value.cells] at h3
  have hz3 : Rows.uptoBulk y3.1 ≤ 1048576 := by simp [Rows.uptoBulk, Rows.uptoBulkAll] at hz; omega
  obtain ⟨o, S, c, rfl, rfl, rfl, rfl, rfl, rfl, rfl, rfl, a1, a2, a3, a4, a5, a6⟩ := op_open h0 hz0
  obtain ⟨P, cp, ps, rfl, p1, p2, p3, p4⟩ := tens_open h1 hz1
  obtain ⟨X, cx, xs, rfl, q1, q2, q3, q4⟩ := tens_open h2 hz2
  obtain ⟨GS, GC, gc, gd, g, rfl, rfl, hT⟩ := ten_open h3 hz3
  exact ⟨S, c, o, P, cp, ps, X, cx, xs, GS, GC, gc, gd, g, rfl, a1, a2, a3, a4, a5, a6, p1, p2, p3, p4, q1, q2, q3, q4, hT⟩
end Go.Proofs.Ytbnnpkcfifejmaa

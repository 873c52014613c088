/- What was saved, come in as an argument, opened. -/
import Derived.Test.YtjgagbhbgehmpaaOpen
import Derived.Test.YtjgagbhbgehmpaaLKeepEncodes
import Derived.SizedLaws
namespace Go.Proofs.Ytjgagbhbgehmpaa
open Go.ChangeShapes Go.WideShapes Go.Deep Go.RowKit

theorem wf_in {n : Int} (h : (Lit.int .i64 n).wf = true) : Kq.inR n := wf_bd h

theorem ten_one : oneCellFields Try.prog (Try.prog.fieldsOf 48) = true := by kernel_rfl
theorem ten_cells : Try.prog.cellsOf 48 = (Try.prog.fieldsOf 48).size := by kernel_rfl
theorem ten_under : Try.prog.underlying 48 = some (.struct (Try.prog.fieldsOf 48)) := by kernel_rfl
theorem ten_two : (Try.prog.fieldsOf 48).size = 2 := by kernel_rfl
theorem ten_f0 : ((Try.prog.fieldsOf 48)[0]?).map (·.type) = some 45 := by kernel_rfl
theorem ten_f1 : ((Try.prog.fieldsOf 48)[1]?).map (·.type) = some 46 := by kernel_rfl
theorem int_one : Try.prog.cellsOf 3 = 1 := by kernel_rfl
theorem fix_one : Try.prog.cellsOf 52 = 1 := by kernel_rfl
theorem ten_bytes : Try.prog.bytesOf 48 = 48 := by kernel_rfl
theorem met_bytes : Try.prog.bytesOf 54 = 48 := by kernel_rfl

/-- Slices of tensors. -/
theorem tens_open {H : Type} {enc : TypeId × Value → H} {W : World} {base : Nat} {spare : Nat → Bool} {held : Bool} {fuel : Nat} {v : Value} {x : DataW H × List MemPlace}
    (h : DataW.trod enc Try.prog W base spare held fuel 22 [v] = some x) (hz : ∀ n ∈ x.1.weights Try.prog 22, n ≤ reachBytes) :
    ∃ A cap ts, v = .slice A ts.length cap ∧ ts.length ≤ 3000000000000 ∧ Tens W A ts ∧ ∀ t ∈ ts, ∀ z ∈ t.c, Kq.inR z := by
  rcases open_slice_fields Try.underlying22 ten_under ten_one ten_cells h with ⟨hcs, _⟩ | ⟨a, len, cap, m, D, Pl, hcs, _, hl, hm, hmm, hx, hi⟩
  · simp at hcs; subst hcs
    exact ⟨none, 0, [], rfl, by simp, fun j hj => absurd hj (by simp), by simp⟩
  · simp at hcs; subst hcs
    rw [ten_two] at hi
    have hlm : len ≤ m := by rw [hmm]; split <;> omega
    have hlen : len ≤ 3000000000000 := by
      have := hz ((((List.range len).map D).length + ((List.range (m - len)).map fun j => D (len + j)).length) * 48) (by rw [hx]; simp [DataW.weights, Try.underlying22, ten_bytes])
      simp at this
      unfold reachBytes at this
      omega
    obtain ⟨f0, e0, t0⟩ := Option.map_eq_some_iff.1 ten_f0
    obtain ⟨f1, e1, t1⟩ := Option.map_eq_some_iff.1 ten_f1
    have key : ∀ i, i < len → ∃ q : Ten × (Option Addr × Nat) × (Option Addr × Nat), W.cell? (a.add (i * 2)) = some (.slice q.2.1.1 q.1.s.length q.2.1.2) ∧ W.cell? (a.add (i * 2 + 1)) = some (.slice q.2.2.1 q.1.c.length q.2.2.2) ∧ TenR W q.2.1.1 q.2.2.1 q.1 ∧ q.1.s.length ≤ 9223372036854775807 ∧ q.1.c.length ≤ 9223372036854775807 ∧ ∀ z ∈ q.1.c, Kq.inR z := by
      intro i hil
      obtain ⟨ys, n, _, _, _, hf⟩ := hi i (by omega)
      obtain ⟨v0, y0, c0, _, r0⟩ := hf 0 f0 e0
      obtain ⟨v1, y1, c1, _, r1⟩ := hf 1 f1 e1
      rw [t0] at r0
      rw [t1] at r1
      obtain ⟨A0, k0, z0, rfl, b0, _, i0, w0⟩ := ints_open Try.underlying45 Try.underlying3 int_one r0
      obtain ⟨A1, k1, z1, rfl, b1, _, i1, w1⟩ := ints_open Try.underlying46 Try.underlying52 fix_one r1
      exact ⟨(⟨z0, z1⟩, (A0, k0), (A1, k1)), by simpa using c0, c1, ⟨i0, i1⟩, b0, b1, fun z hz => wf_in (w1 z hz)⟩
    obtain ⟨f, hf⟩ := @choose_lt (Ten × (Option Addr × Nat) × (Option Addr × Nat)) ⟨(⟨[], []⟩, (none, 0), (none, 0))⟩ _ _ key
    have hget : ∀ k (hk : k < ((List.range len).map fun i => (f i).1).length), ((List.range len).map fun i => (f i).1)[k] = (f k).1 := by intro k hk; simp
    refine ⟨some a, cap, (List.range len).map fun i => (f i).1, by simp, by simpa using hlen, ?_, ?_⟩
    · intro k hk
      have hk' : k < len := by simpa using hk
      obtain ⟨b, off, rfl⟩ := plain_row (w := W) (a := a) (by simpa using (hf 0 (by omega)).1)
      obtain ⟨c0, c1, hT, l0, l1, _⟩ := hf k hk'
      rw [add_plain'] at c0 c1
      rw [hget k hk]
      exact ⟨b, off, _, _, _, _, rfl, World.block_lt_of_cell? _ _ c0, c0, by rw [Nat.add_assoc]; exact c1, hT, l0, l1⟩
    · intro t ht
      simp only [List.mem_map, List.mem_range] at ht
      obtain ⟨i, hil, rfl⟩ := ht
      exact (hf i hil).2.2.2.2.2

theorem met_one : oneCellFields Try.prog (Try.prog.fieldsOf 54) = true := by kernel_rfl
theorem met_cells : Try.prog.cellsOf 54 = (Try.prog.fieldsOf 54).size := by kernel_rfl
theorem met_under : Try.prog.underlying 54 = some (.struct (Try.prog.fieldsOf 54)) := by kernel_rfl
theorem met_six : (Try.prog.fieldsOf 54).size = 6 := by kernel_rfl
theorem met_f0 : ((Try.prog.fieldsOf 54)[0]?).map (·.type) = some 3 := by kernel_rfl
theorem met_f1 : ((Try.prog.fieldsOf 54)[1]?).map (·.type) = some 3 := by kernel_rfl
theorem met_f2 : ((Try.prog.fieldsOf 54)[2]?).map (·.type) = some 3 := by kernel_rfl
theorem met_f3 : ((Try.prog.fieldsOf 54)[3]?).map (·.type) = some 3 := by kernel_rfl
theorem met_f4 : ((Try.prog.fieldsOf 54)[4]?).map (·.type) = some 52 := by kernel_rfl
theorem met_f5 : ((Try.prog.fieldsOf 54)[5]?).map (·.type) = some 52 := by kernel_rfl
theorem mets_open {H : Type} {enc : TypeId × Value → H} {W : World} {base : Nat} {spare : Nat → Bool} {held : Bool} {fuel : Nat} {v : Value} {x : DataW H × List MemPlace}
    (h : DataW.trod enc Try.prog W base spare held fuel 25 [v] = some x) (hz : ∀ n ∈ x.1.weights Try.prog 25, n ≤ reachBytes) :
    ∃ A cap ms, v = .slice A ms.length cap ∧ ms.length ≤ 3000000000000 ∧ Mets W A ms ∧ ∀ m ∈ ms, ∀ z ∈ m.l, Kq.inR z := by
  rcases open_slice_fields Try.underlying25 met_under met_one met_cells h with ⟨hcs, _⟩ | ⟨a, len, cap, m, D, Pl, hcs, _, hl, hm, hmm, hx, hi⟩
  · simp at hcs; subst hcs
    exact ⟨none, 0, [], rfl, by simp, fun j hj => absurd hj (by simp), by simp⟩
  · simp at hcs; subst hcs
    rw [met_six] at hi
    have hlm : len ≤ m := by rw [hmm]; split <;> omega
    have hlen : len ≤ 3000000000000 := by
      have := hz ((((List.range len).map D).length + ((List.range (m - len)).map fun j => D (len + j)).length) * 48) (by rw [hx]; simp [DataW.weights, Try.underlying25, met_bytes])
      simp at this
      unfold reachBytes at this
      omega
    obtain ⟨f0, e0, t0⟩ := Option.map_eq_some_iff.1 met_f0
    obtain ⟨f1, e1, t1⟩ := Option.map_eq_some_iff.1 met_f1
    obtain ⟨f2, e2, t2⟩ := Option.map_eq_some_iff.1 met_f2
    obtain ⟨f3, e3, t3⟩ := Option.map_eq_some_iff.1 met_f3
    obtain ⟨f4, e4, t4⟩ := Option.map_eq_some_iff.1 met_f4
    obtain ⟨f5, e5, t5⟩ := Option.map_eq_some_iff.1 met_f5
    have key : ∀ i, i < len → ∃ q : Met, W.cell? (a.add (i * 6)) = some (.int .i64 q.a) ∧ W.cell? (a.add (i * 6 + 1)) = some (.int .i64 q.b) ∧ W.cell? (a.add (i * 6 + 2)) = some (.int .i64 q.c) ∧ W.cell? (a.add (i * 6 + 3)) = some (.int .i64 q.d) ∧ W.cell? (a.add (i * 6 + 4)) = some (.int .i64 q.e) ∧ W.cell? (a.add (i * 6 + 5)) = some (.int .i64 q.f) ∧ ∀ z ∈ q.l, Kq.inR z := by
      intro i hil
      obtain ⟨ys, n, _, _, _, hf⟩ := hi i (by omega)
      obtain ⟨v0, y0, c0, _, r0⟩ := hf 0 f0 e0
      obtain ⟨v1, y1, c1, _, r1⟩ := hf 1 f1 e1
      obtain ⟨v2, y2, c2, _, r2⟩ := hf 2 f2 e2
      obtain ⟨v3, y3, c3, _, r3⟩ := hf 3 f3 e3
      obtain ⟨v4, y4, c4, _, r4⟩ := hf 4 f4 e4
      obtain ⟨v5, y5, c5, _, r5⟩ := hf 5 f5 e5
      rw [t0] at r0
      rw [t1] at r1
      rw [t2] at r2
      rw [t3] at r3
      rw [t4] at r4
      rw [t5] at r5
      obtain ⟨x0, q0, _, w0⟩ := DataW.trod_int Try.underlying3 r0
      obtain ⟨x1, q1, _, w1⟩ := DataW.trod_int Try.underlying3 r1
      obtain ⟨x2, q2, _, w2⟩ := DataW.trod_int Try.underlying3 r2
      obtain ⟨x3, q3, _, w3⟩ := DataW.trod_int Try.underlying3 r3
      obtain ⟨x4, q4, _, w4⟩ := DataW.trod_int Try.underlying52 r4
      obtain ⟨x5, q5, _, w5⟩ := DataW.trod_int Try.underlying52 r5
      simp at q0 q1 q2 q3 q4 q5
      subst q0 q1 q2 q3 q4 q5
      refine ⟨⟨x0, x1, x2, x3, x4, x5⟩, by simpa using c0, c1, c2, c3, c4, c5, fun z hz => ?_⟩
      simp [Met.l] at hz
      rcases hz with rfl | rfl | rfl | rfl | rfl | rfl
      · exact wf_in w0
      · exact wf_in w1
      · exact wf_in w2
      · exact wf_in w3
      · exact wf_in w4
      · exact wf_in w5
    obtain ⟨f, hf⟩ := @choose_lt Met ⟨⟨0, 0, 0, 0, 0, 0⟩⟩ _ _ key
    have hget : ∀ k (hk : k < ((List.range len).map f).length), ((List.range len).map f)[k] = f k := by intro k hk; simp
    refine ⟨some a, cap, (List.range len).map f, by simp, by simpa using hlen, ?_, ?_⟩
    · intro k hk
      have hk' : k < len := by simpa using hk
      obtain ⟨b, off, rfl⟩ := plain_row (w := W) (a := a) (by simpa using (hf 0 (by omega)).1)
      obtain ⟨c0, c1, c2, c3, c4, c5, _⟩ := hf k hk'
      rw [add_plain'] at c0 c1 c2 c3 c4 c5
      rw [hget k hk]
      refine ⟨b, off, rfl, World.block_lt_of_cell? _ _ c0, c0, ?_, ?_, ?_, ?_, ?_⟩
      all_goals (rw [Nat.add_assoc]; assumption)
    · intro t ht
      simp only [List.mem_map, List.mem_range] at ht
      obtain ⟨i, hil, rfl⟩ := ht
      exact (hf i hil).2.2.2.2.2.2

theorem sav_cells : Try.prog.cellsOf 27 = 3 := by kernel_rfl
theorem sav_under : Try.prog.underlying 27 = some (.struct (Try.prog.fieldsOf 27)) := by kernel_rfl
theorem sav_two : (Try.prog.fieldsOf 27).size = 2 := by kernel_rfl
theorem sav_f0 : ((Try.prog.fieldsOf 27)[0]?).map (fun f => (f.type, f.offset, Try.prog.cellsOf f.type)) = some (24, 0, 2) := by kernel_rfl
theorem sav_f1 : ((Try.prog.fieldsOf 27)[1]?).map (fun f => (f.type, f.offset, Try.prog.cellsOf f.type)) = some (25, 2, 1) := by kernel_rfl
theorem sav_types : (Try.prog.fieldsOf 27).toList.map (·.type) = [24, 25] := by kernel_rfl
theorem sta_under : Try.prog.underlying 24 = some (.struct (Try.prog.fieldsOf 24)) := by kernel_rfl
theorem sta_two : (Try.prog.fieldsOf 24).size = 2 := by kernel_rfl
theorem sta_f0 : ((Try.prog.fieldsOf 24)[0]?).map (fun f => (f.type, f.offset, Try.prog.cellsOf f.type)) = some (22, 0, 1) := by kernel_rfl
theorem sta_f1 : ((Try.prog.fieldsOf 24)[1]?).map (fun f => (f.type, f.offset, Try.prog.cellsOf f.type)) = some (22, 1, 1) := by kernel_rfl
theorem sta_types : (Try.prog.fieldsOf 24).toList.map (·.type) = [22, 22] := by kernel_rfl
theorem pair_of {α : Type} {l : List α} (h : l.length = 2) : ∃ a b, l = [a, b] := by
  match l, h with
  | [a, b], _ => exact ⟨a, b, rfl⟩
set_option maxRecDepth 100000 in
/-- What was saved. -/
theorem saved_open {H : Type} {enc : TypeId × Value → H} {W : World} {r : Reach} {b0 base : Nat} {spare : Nat → Bool} {held : Bool} {v : Value} {d : DataW H} {p : List MemPlace}
    (hv : Value.okWide Try.prog W r b0 27 v) (h : DataW.Trod enc Try.prog W base spare held 27 v d p) (hz : ∀ n ∈ d.weights Try.prog 27, n ≤ reachBytes) :
    ∃ P V M c1 c2 c3 s, v = .agg #[.slice P s.p.length c1, .slice V s.v.length c2, .slice M s.m.length c3] ∧ s.p.length ≤ 3000000000000 ∧ s.v.length ≤ 3000000000000 ∧ s.m.length ≤ 3000000000000 ∧ SavR W P V M s ∧ s.wide := by
  obtain ⟨cs, rfl, hsz⟩ := okWide_struct sav_under hv
  obtain ⟨l⟩ := cs
  match l, hsz.trans sav_cells with
  | [v0, v1, v2], _ =>
    obtain ⟨fuel, hf⟩ := h
    obtain ⟨ys, n, _, hx, _, hlen, hg⟩ := DataW.trod_struct sav_under hf
    rw [sav_two] at hlen
    obtain ⟨y0, y1, rfl⟩ := pair_of hlen
    simp only [Prod.mk.injEq, List.map_cons, List.map_nil] at hx
    obtain ⟨rfl, _⟩ := hx
    obtain ⟨f0, e0, t0⟩ := Option.map_eq_some_iff.1 sav_f0
    obtain ⟨f1, e1, t1⟩ := Option.map_eq_some_iff.1 sav_f1
    simp only [Prod.mk.injEq] at t0 t1
    obtain ⟨t00, t01, t02⟩ := t0
    obtain ⟨t10, t11, t12⟩ := t1
    have h0 := hg 0 f0 e0
    have h1 := hg 1 f1 e1
    rw [t02, t01, t00] at h0
    rw [t12, t11, t10] at h1
    simp [Value.cells] at h0 h1
    have hz0 : ∀ n ∈ y0.1.weights Try.prog 24, n ≤ reachBytes := fun n hn => hz n (by simp [DataW.weights, sav_under, sav_types, DataW.weightsEach, hn])
    have hz1 : ∀ n ∈ y1.1.weights Try.prog 25, n ≤ reachBytes := fun n hn => hz n (by simp [DataW.weights, sav_under, sav_types, DataW.weightsEach, hn])
    obtain ⟨M, c3, ms, rfl, hml, hM, hMw⟩ := mets_open h1 hz1
    obtain ⟨zs, n2, _, hx2, _, hlen2, hg2⟩ := DataW.trod_struct sta_under h0
    rw [sta_two] at hlen2
    obtain ⟨z0, z1, rfl⟩ := pair_of hlen2
    obtain ⟨g0, i0, u0⟩ := Option.map_eq_some_iff.1 sta_f0
    obtain ⟨g1, i1, u1⟩ := Option.map_eq_some_iff.1 sta_f1
    simp only [Prod.mk.injEq] at u0 u1
    obtain ⟨u00, u01, u02⟩ := u0
    obtain ⟨u10, u11, u12⟩ := u1
    have k0 := hg2 0 g0 i0
    have k1 := hg2 1 g1 i1
    rw [u02, u01, u00] at k0
    rw [u12, u11, u10] at k1
    simp at k0 k1
    rw [hx2] at hz0
    have hy0 : ∀ n ∈ z0.1.weights Try.prog 22, n ≤ reachBytes := fun n hn => hz0 n (by simp [DataW.weights, sta_under, sta_types, DataW.weightsEach, hn])
    have hy1 : ∀ n ∈ z1.1.weights Try.prog 22, n ≤ reachBytes := fun n hn => hz0 n (by simp [DataW.weights, sta_under, sta_types, DataW.weightsEach, hn])
    obtain ⟨P, c1, ps, rfl, hpl, hP, hPw⟩ := tens_open k0 hy0
    obtain ⟨V, c2, vs, rfl, hvl, hV, hVw⟩ := tens_open k1 hy1
    exact ⟨P, V, M, c1, c2, c3, ⟨ps, vs, ms⟩, rfl, hpl, hvl, hml, ⟨hP, hV, hM⟩, hPw, hVw, hMw⟩
end Go.Proofs.Ytjgagbhbgehmpaa

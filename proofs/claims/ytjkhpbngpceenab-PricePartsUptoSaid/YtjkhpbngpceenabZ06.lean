/- Lemmas for the statements of this seat: contracts of functions and the plain laws. -/
import Derived.ChangeSame
import Derived.Deep.DeepCutAuto
import Derived.Deep.Fields
import Derived.Deep.Slices
import Derived.OpenShut
import Derived.ProofKit
import Derived.Test.YtjkhpbngpceenabRows
import Derived.Test.YtjkhpbngpceenabZ05
set_option linter.unusedVariables false
/- Copies of nodes in memory of the call's own: what is kept where. -/
namespace Go.Proofs.Ytjkhpbngpceenab
open Go.RowKit
/-- Blocks of another type than T are as they were. -/
def Keep (T : TypeId) (w w' : World) : Prop := w.heap.size ≤ w'.heap.size ∧ ∀ (b : Nat) (cs : Array Value) (t : TypeId), w.heap[b]? = some (Obj.cells cs t (0, 0)) → t ≠ T → w'.heap[b]? = w.heap[b]?
section
variable {T t : TypeId} {w w' w2 : World} {g B : Nat} {cs : Array Value}
theorem Keep.of_later (h : Later w w') : Keep T w w' := ⟨Below.size h, fun b cs t hb _ => Below.block h b (lt_of_block hb)⟩
theorem Keep.set_ (hb : Blk w g T cs) (i : Nat) (u : Value) : Keep T w (w.setCell ⟨g, i, none⟩ u) := ⟨by simp, fun b cs' t h ht => Below.heap_setCell w _ u b (fun e => by
  have e : b = g := e
  subst e
  unfold Blk at hb
  rw [hb] at h
  injection h with h
  injection h with _ h _
  exact ht h.symm)⟩
theorem Keep.refl (T : TypeId) (w : World) : Keep T w w := ⟨Nat.le_refl _, fun _ _ _ _ _ => rfl⟩
theorem Keep.trans (h : Keep T w w') (k : Keep T w' w2) : Keep T w w2 := ⟨Nat.le_trans h.1 k.1, fun b cs t hb ht => (k.2 b cs t ((h.2 b cs t hb ht).trans hb) ht).trans (h.2 b cs t hb ht)⟩
theorem Blk.keep (hb : Blk w g t cs) (ht : t ≠ T) (h : Keep T w w') : Blk w' g t cs := (h.2 g cs t hb ht).trans hb
theorem ownsRow_keep {e : TypeId} {s n : Nat} {v : Value} {xs : List Value} (h : w.ownsRow B e s v n xs) (ht : e ≠ T) (hk : Keep T w w') : w'.ownsRow B e s v n xs := by
  refine ⟨h.1, ?_⟩
  rcases h.2 with h | ⟨g, cap, cur, rfl, h1, h2, h3⟩
  · exact .inl h
  · exact .inr ⟨g, cap, cur, rfl, h1, (hk.2 g cur e h2 ht).trans h2, h3⟩
theorem FRow.keep {ss : List (List Int)} (h : FRow B w g t ss) (ht : t ≠ T) (hi : 3 ≠ T) (hk : Keep T w w') : FRow B w' g t ss := by
  obtain ⟨hg, hs, hl, ⟨vs, hvl, hb, hv⟩, hr⟩ := h
  exact ⟨hg, hs, hl, ⟨vs, hvl, hb.keep ht hk, hv⟩, fun j hj hj2 => ⟨(hr j hj hj2).1, (hr j hj hj2).2.1, (hr j hj hj2).2.2.keep hi hk⟩⟩
end
/-- A copied node, and where its parts lie. -/
structure CpQ where
  v : NodeD
  S : Nat
  J : Option Addr
  jc : Nat
  Q : Nat
def CpQ.cells (x : CpQ) : List Value := [.int .i64 x.v.op.kind, .int .i64 x.v.op.k, .int .i64 x.v.op.width, .int .i64 x.v.op.step, .int .i64 x.v.op.side, .int .i64 x.v.op.frm, .int .i64 x.v.op.to, .slice (some ⟨x.S, 0, none⟩) x.v.op.s.length x.v.op.s.length, .slice x.J x.v.ins.length x.jc, .slice (some ⟨x.Q, 0, none⟩) x.v.p.length x.v.p.length]
def CpQ.R (B : Nat) (w : World) (x : CpQ) : Prop := B ≤ x.S ∧ Blk w x.S 3 (x.v.op.s.map (Value.int .i64)).toArray ∧ w.ownsRow B 3 1 (.slice x.J x.v.ins.length x.jc) x.v.ins.length (x.v.ins.map (Value.int .i64)) ∧ FRow B w x.Q 23 x.v.p
theorem CpQ.len (x : CpQ) : x.cells.length = 10 := rfl
theorem CpQ.flat (L : List CpQ) : (L.flatMap CpQ.cells).length = L.length * 10 := by
  induction L with
  | nil => rfl
  | cons x r ih => rw [List.flatMap_cons, List.length_append, ih, CpQ.len, List.length_cons]; omega
theorem CpQ.R.keep {B : Nat} {w w' : World} {x : CpQ} {T : TypeId} (h : CpQ.R B w x) (h1 : 3 ≠ T) (h2 : 23 ≠ T) (hk : Keep T w w') : CpQ.R B w' x :=
  ⟨h.1, h.2.1.keep h1 hk, ownsRow_keep h.2.2.1 h1 hk, h.2.2.2.keep h2 h1 hk⟩
theorem CpQ.R.later {B : Nat} {w w' : World} {x : CpQ} (h : CpQ.R B w x) (hk : Later w w') : CpQ.R B w' x := h.keep (T := 46) (by decide) (by decide) (Keep.of_later hk)
/-- The first k nodes are copied into block g, of zc's cells behind them. -/
def CpRow (B : Nat) (wx : World) (g : Nat) (zc : Array Value) (ns : List NodeD) (k : Nat) : Prop :=
  ∃ L : List CpQ, L.map (·.v) = ns.take k ∧ L.length = k ∧ Blk wx g 46 (L.flatMap CpQ.cells ++ zc.toList.drop (k * 10)).toArray ∧ ∀ x ∈ L, CpQ.R B wx x
theorem CpRow.later {B : Nat} {w w' : World} {g : Nat} {zc : Array Value} {ns : List NodeD} {k : Nat} (h : CpRow B w g zc ns k) (hk : Later w w') : CpRow B w' g zc ns k := by
  obtain ⟨L, h1, h2, h3, h4⟩ := h
  exact ⟨L, h1, h2, hk.blk h3, fun x hx => (h4 x hx).later hk⟩
theorem CpRow.keep {B : Nat} {w w' : World} {g : Nat} {zc : Array Value} {ns : List NodeD} {k : Nat} {T : TypeId} (h : CpRow B w g zc ns k) (h1 : 3 ≠ T) (h2 : 23 ≠ T) (h3 : 46 ≠ T) (hk : Keep T w w') : CpRow B w' g zc ns k := by
  obtain ⟨L, l1, l2, l3, l4⟩ := h
  exact ⟨L, l1, l2, l3.keep h3 hk, fun x hx => (l4 x hx).keep h1 h2 hk⟩
theorem ownsRow_low {w : World} {B B' e s n : Nat} {v : Value} {xs : List Value} (h : w.ownsRow B e s v n xs) (hB : B' ≤ B) : w.ownsRow B' e s v n xs := by
  refine ⟨h.1, ?_⟩
  rcases h.2 with h | ⟨g, cap, cur, h1, h2, h3⟩
  · exact .inl h
  · exact .inr ⟨g, cap, cur, h1, Nat.le_trans hB h2, h3⟩
theorem CpQ.R.base {B B' : Nat} {w : World} {x : CpQ} (h : CpQ.R B w x) (hB : B' ≤ B) : CpQ.R B' w x := ⟨Nat.le_trans hB h.1, h.2.1, ownsRow_low h.2.2.1 hB, h.2.2.2.base hB⟩
theorem CpRow.zero {B : Nat} {w : World} {g : Nat} {zc : Array Value} {ns : List NodeD} (h : Blk w g 46 zc) : CpRow B w g zc ns 0 := ⟨[], by simp, rfl, by simpa using h, by simp⟩
/-- Ten cells from place o on. -/
def set10 (w : World) (g o : Nat) (l : List Value) : World := ((((((((((w.setCell ⟨g, o, none⟩ (l.getD 0 undef)).setCell ⟨g, o + 1, none⟩ (l.getD 1 undef)).setCell ⟨g, o + 2, none⟩ (l.getD 2 undef)).setCell ⟨g, o + 3, none⟩ (l.getD 3 undef)).setCell ⟨g, o + 4, none⟩ (l.getD 4 undef)).setCell ⟨g, o + 5, none⟩ (l.getD 5 undef)).setCell ⟨g, o + 6, none⟩ (l.getD 6 undef)).setCell ⟨g, o + 7, none⟩ (l.getD 7 undef)).setCell ⟨g, o + 8, none⟩ (l.getD 8 undef)).setCell ⟨g, o + 9, none⟩ (l.getD 9 undef))
theorem Blk.set10 {w : World} {g : Nat} {t : TypeId} {P R : List Value} {z0 z1 z2 z3 z4 z5 z6 z7 z8 z9 a0 a1 a2 a3 a4 a5 a6 a7 a8 a9 : Value} {o : Nat} (hP : P.length = o) (h : Blk w g t (P ++ z0 :: z1 :: z2 :: z3 :: z4 :: z5 :: z6 :: z7 :: z8 :: z9 :: R).toArray) :
    Blk (Go.Proofs.Ytjkhpbngpceenab.set10 w g o [a0, a1, a2, a3, a4, a5, a6, a7, a8, a9]) g t (P ++ a0 :: a1 :: a2 :: a3 :: a4 :: a5 :: a6 :: a7 :: a8 :: a9 :: R).toArray := by
  subst hP
  have := (((((((((h.set_ P.length a0).set_ (P.length + 1) a1).set_ (P.length + 2) a2).set_ (P.length + 3) a3).set_ (P.length + 4) a4).set_ (P.length + 5) a5).set_ (P.length + 6) a6).set_ (P.length + 7) a7).set_ (P.length + 8) a8).set_ (P.length + 9) a9
  simpa [Go.Proofs.Ytjkhpbngpceenab.set10, List.set_append_right] using this
theorem Keep.set10 {w : World} {g : Nat} {t : TypeId} {cs : Array Value} (h : Blk w g t cs) (o : Nat) (l : List Value) : Keep t w (Go.Proofs.Ytjkhpbngpceenab.set10 w g o l) := by
  unfold Go.Proofs.Ytjkhpbngpceenab.set10
  have s : ∀ {W : World} (hk : Keep t w W) (hc : ∃ cs, Blk W g t cs) (i : Nat) (u : Value), Keep t w (W.setCell ⟨g, i, none⟩ u) ∧ ∃ cs, Blk (W.setCell ⟨g, i, none⟩ u) g t cs := fun hk ⟨cs, hc⟩ i u => ⟨hk.trans (Keep.set_ hc i u), _, hc.set_ i u⟩
  have s0 := s (Keep.refl t w) ⟨_, h⟩ o (l.getD 0 undef)
  have s1 := s s0.1 s0.2 (o + 1) (l.getD 1 undef)
  have s2 := s s1.1 s1.2 (o + 2) (l.getD 2 undef)
  have s3 := s s2.1 s2.2 (o + 3) (l.getD 3 undef)
  have s4 := s s3.1 s3.2 (o + 4) (l.getD 4 undef)
  have s5 := s s4.1 s4.2 (o + 5) (l.getD 5 undef)
  have s6 := s s5.1 s5.2 (o + 6) (l.getD 6 undef)
  have s7 := s s6.1 s6.2 (o + 7) (l.getD 7 undef)
  have s8 := s s7.1 s7.2 (o + 8) (l.getD 8 undef)
  exact (s s8.1 s8.2 (o + 9) (l.getD 9 undef)).1
theorem drop_ten {zs : List Value} {o : Nat} (h : o + 10 ≤ zs.length) : ∃ z0 z1 z2 z3 z4 z5 z6 z7 z8 z9, zs.drop o = z0 :: z1 :: z2 :: z3 :: z4 :: z5 :: z6 :: z7 :: z8 :: z9 :: zs.drop (o + 10) := by
  refine ⟨zs[o], zs[o + 1], zs[o + 2], zs[o + 3], zs[o + 4], zs[o + 5], zs[o + 6], zs[o + 7], zs[o + 8], zs[o + 9], ?_⟩
  iterate 10 rw [List.drop_eq_getElem_cons (by omega)]
/-- The next node's cells are there, and what a copy put there leaves. -/
theorem CpRow.next {B : Nat} {w : World} {g : Nat} {zc : Array Value} {ns : List NodeD} {k : Nat} (h : CpRow B w g zc ns k) (hk : k < ns.length) (hz : zc.size = ns.length * 10) :
    (∃ z0 z1 z2 z3 z4 z5 z6 z7 z8 z9, w.cell? ⟨g, k * 10, none⟩ = some z0 ∧ w.cell? ⟨g, k * 10 + 1, none⟩ = some z1 ∧ w.cell? ⟨g, k * 10 + 2, none⟩ = some z2 ∧ w.cell? ⟨g, k * 10 + 3, none⟩ = some z3 ∧ w.cell? ⟨g, k * 10 + 4, none⟩ = some z4 ∧ w.cell? ⟨g, k * 10 + 5, none⟩ = some z5 ∧ w.cell? ⟨g, k * 10 + 6, none⟩ = some z6 ∧ w.cell? ⟨g, k * 10 + 7, none⟩ = some z7 ∧ w.cell? ⟨g, k * 10 + 8, none⟩ = some z8 ∧ w.cell? ⟨g, k * 10 + 9, none⟩ = some z9) ∧
    (∀ i, w.frozen? ⟨g, i, none⟩ = false) ∧
    ∀ x : CpQ, x.v = ns[k] → CpQ.R B w x → CpRow B (Go.Proofs.Ytjkhpbngpceenab.set10 w g (k * 10) x.cells) g zc ns (k + 1) ∧ Keep 46 w (Go.Proofs.Ytjkhpbngpceenab.set10 w g (k * 10) x.cells) := by
  obtain ⟨L, h1, h2, h3, h4⟩ := h
  obtain ⟨z0, z1, z2, z3, z4, z5, z6, z7, z8, z9, e⟩ := drop_ten (zs := zc.toList) (o := k * 10) (by simp; omega)
  rw [e] at h3
  have hl : (L.flatMap CpQ.cells).length = k * 10 := by rw [CpQ.flat, h2]
  refine ⟨⟨z0, z1, z2, z3, z4, z5, z6, z7, z8, z9, ?_, ?_, ?_, ?_, ?_, ?_, ?_, ?_, ?_, ?_⟩, fun i => h3.frozen i, fun x hx hR => ⟨⟨L ++ [x], ?_, by simp [h2], ?_, fun y hy => ?_⟩, Keep.set10 h3 _ _⟩⟩
  all_goals first | (rw [h3.cell]; simp [← hl]; done) | skip
  · rw [List.map_append, h1, List.take_succ_eq_append_getElem hk, ← hx]; rfl
  · have := Blk.set10 (a0 := .int .i64 x.v.op.kind) (a1 := .int .i64 x.v.op.k) (a2 := .int .i64 x.v.op.width) (a3 := .int .i64 x.v.op.step) (a4 := .int .i64 x.v.op.side) (a5 := .int .i64 x.v.op.frm) (a6 := .int .i64 x.v.op.to) (a7 := .slice (some ⟨x.S, 0, none⟩) x.v.op.s.length x.v.op.s.length) (a8 := .slice x.J x.v.ins.length x.jc) (a9 := .slice (some ⟨x.Q, 0, none⟩) x.v.p.length x.v.p.length) hl h3
    rw [List.flatMap_append, List.append_assoc, show (k + 1) * 10 = k * 10 + 10 by omega]
    exact this
  · have hkp : Keep 46 w (Go.Proofs.Ytjkhpbngpceenab.set10 w g (k * 10) x.cells) := Keep.set10 h3 _ _
    rcases List.mem_append.1 hy with hy | hy
    · exact (h4 y hy).keep (by decide) (by decide) hkp
    · simp at hy; subst hy; exact hR.keep (by decide) (by decide) hkp
theorem Later.set10 {w w1 : World} {g o : Nat} {l : List Value} (h : Later w w1) (hg : w.heap.size ≤ g) : Later w (Go.Proofs.Ytjkhpbngpceenab.set10 w1 g o l) := by
  unfold Go.Proofs.Ytjkhpbngpceenab.set10
  exact (((((((((h.set (p := ⟨g, o, none⟩) hg _).set (p := ⟨g, o + 1, none⟩) hg _).set (p := ⟨g, o + 2, none⟩) hg _).set (p := ⟨g, o + 3, none⟩) hg _).set (p := ⟨g, o + 4, none⟩) hg _).set (p := ⟨g, o + 5, none⟩) hg _).set (p := ⟨g, o + 6, none⟩) hg _).set (p := ⟨g, o + 7, none⟩) hg _).set (p := ⟨g, o + 8, none⟩) hg _).set (p := ⟨g, o + 9, none⟩) hg _
theorem copy_step {B : Nat} {w w1 : World} {g G a r k : Nat} {zc : Array Value} {ns : List NodeD} {cG ca cr : Array Value} {v : NodeD} {h q : Nat} {J : Option Addr} {jc : Nat}
    (hput : ∀ x : CpQ, x.v = v → CpQ.R B w x → CpRow B (Go.Proofs.Ytjkhpbngpceenab.set10 w g (k * 10) x.cells) g zc ns (k + 1) ∧ Keep 46 w (Go.Proofs.Ytjkhpbngpceenab.set10 w g (k * 10) x.cells))
    (hR : CpQ.R B w ⟨v, h, J, jc, q⟩) (hG : Blk w G 26 cG) (ha : Blk w a 3 ca) (hr : Blk w r 26 cr) (hl : Later w1 w) (hg : w1.heap.size ≤ g) :
    CpRow B (Go.Proofs.Ytjkhpbngpceenab.set10 w g (k * 10) (CpQ.cells ⟨v, h, J, jc, q⟩)) g zc ns (k + 1) ∧ Blk (Go.Proofs.Ytjkhpbngpceenab.set10 w g (k * 10) (CpQ.cells ⟨v, h, J, jc, q⟩)) G 26 cG ∧ Blk (Go.Proofs.Ytjkhpbngpceenab.set10 w g (k * 10) (CpQ.cells ⟨v, h, J, jc, q⟩)) a 3 ca ∧
      Blk (Go.Proofs.Ytjkhpbngpceenab.set10 w g (k * 10) (CpQ.cells ⟨v, h, J, jc, q⟩)) r 26 cr ∧ Later w1 (Go.Proofs.Ytjkhpbngpceenab.set10 w g (k * 10) (CpQ.cells ⟨v, h, J, jc, q⟩)) := by
  obtain ⟨h1, h2⟩ := hput _ rfl hR
  exact ⟨h1, hG.keep (by decide) h2, ha.keep (by decide) h2, hr.keep (by decide) h2, hl.set10 hg⟩
/-- A copied row reads as its nodes. -/
theorem CpRow.nodes {B : Nat} {w : World} {g : Nat} {zc : Array Value} {ns : List NodeD} (h : CpRow B w g zc ns ns.length) (hs : ∀ v ∈ ns, v.op.s.length ≤ 1048576 ∧ v.p.length ≤ 1048576 ∧ ∀ s ∈ v.p, s.length ≤ 1048576) : Nodes w (some ⟨g, 0, none⟩) ns := fun j hj => by
  obtain ⟨L, h1, h2, h3, h4⟩ := h
  rw [List.take_length] at h1
  subst h1
  rw [List.length_map] at hj
  have hx := h4 L[j] (List.getElem_mem hj)
  have hsz := hs L[j].v (List.mem_map.2 ⟨_, List.getElem_mem hj, rfl⟩)
  obtain ⟨q1, q2, q3, q4⟩ := hx
  obtain ⟨r1, r2, r3⟩ := own_ints q3
  have hsplit : L = L.take j ++ L[j] :: L.drop (j + 1) := by rw [← List.drop_eq_getElem_cons hj, List.take_append_drop]
  have hfl : ((L.take j).flatMap CpQ.cells).length = j * 10 := by rw [CpQ.flat]; simp; omega
  have hcell : ∀ i, i < 10 → w.cell? ⟨g, j * 10 + i, none⟩ = L[j].cells[i]? := fun i hi => by
    rw [h3.cell]
    conv => lhs; rw [hsplit, List.flatMap_append, List.flatMap_cons, List.append_assoc, List.append_assoc]
    rw [List.getElem?_toArray, List.getElem?_append_right (by omega), hfl, show j * 10 + i - j * 10 = i by omega, List.getElem?_append_left (by rw [CpQ.len]; exact hi)]
  rw [List.getElem_map]
  refine ⟨g, 0, some ⟨L[j].S, 0, none⟩, L[j].v.op.s.length, L[j].J, L[j].jc, some ⟨L[j].Q, 0, none⟩, L[j].v.p.length, rfl, h3.lt, ?_, ?_, ?_, ?_, ?_, ?_, ?_, ?_, ?_, ?_, ⟨?_, Nat.le_refl _, by omega⟩, ⟨r1, r2, r3⟩, ⟨q4.shps (fun s h => by have := hsz.2.2 s h; omega), Nat.le_refl _, by omega⟩⟩
  all_goals first | (rw [Nat.zero_add]; exact hcell 0 (by omega)) | (rw [Nat.zero_add]; exact hcell _ (by omega)) | skip
  exact Ints.of_row fun i hi => by
    rw [Nat.zero_add, q2.cell i, getD_at hi]
    simp [hi]
/-- A copied net. -/
def NetCp (B : Nat) (n : NetD) (e : Ending) (w' : World) : Prop :=
  ∃ a g zc, e = .returned (.agg #[.slice (some ⟨a, 0, none⟩) n.inn.length n.inn.length, .slice (some ⟨g, 0, none⟩) n.nodes.length n.nodes.length]) ∧ B ≤ a ∧ B ≤ g ∧ Blk w' a 3 (n.inn.map (Value.int .i64)).toArray ∧ CpRow B w' g zc n.nodes n.nodes.length
end Go.Proofs.Ytjkhpbngpceenab
/- Layer 13 (price): sizes, Of: contracts. -/
namespace Go.Proofs.Ytjkhpbngpceenab
open Go.RowKit
theorem splice_at {α : Type} (L l : List α) (j : Nat) (hj : l.length ≤ j) : (splice L 0 l)[j]? = L[j]? := by
  unfold splice
  rw [List.take_zero, List.nil_append, List.getElem?_append_right hj, List.getElem?_drop]
  congr 1; omega
def intV (l : List Int) : List Value := l.map (Value.int .i64)
theorem intV_snoc (l : List Int) (x : Int) : intV (l ++ [x]) = intV l ++ [.int .i64 x] := by simp [intV]
theorem intV_len (l : List Int) : (intV l).length = l.length := by simp [intV]
def SizesP (ss : List (List Int)) (w : World) (e : Ending) (w' : World) : Prop :=
  ∃ g, e = .returned (.tuple #[.slice (some ⟨g, 0, none⟩) ss.length ss.length, .int .i64 0]) ∧ w.heap.size ≤ g ∧ Blk w' g 3 (intV (ss.map Safe.prod)).toArray ∧ Below w.heap.size w w'
/-- A row of numbers of the call's own, whose first are known. -/
theorem Blk.splice_set {w : World} {g : Nat} {t : TypeId} {L l : List Value} {o : Nat} (h : Blk w g t (splice L o l).toArray) (hl : o + l.length < L.length) (v : Value) : Blk (w.setCell ⟨g, o + l.length, none⟩ v) g t (splice L o (l ++ [v])).toArray := by
  have := h.set_ (o + l.length) v
  rw [← Go.Proofs.Ytjkhpbngpceenab.splice_set L o l v hl]
  simpa using this
theorem Blk.has {w : World} {g : Nat} {t : TypeId} {L : List Value} {j : Nat} (h : Blk w g t L.toArray) (hj : j < L.length) : ∃ v, w.cell? ⟨g, j, none⟩ = some v := ⟨L[j], by rw [h.cell]; simp⟩
set_option maxRecDepth 20000 in
set_option maxHeartbeats 4000000 in
theorem price_sizes (A : Option Addr) (c : Nat) (ss : List (List Int)) (w : World) (hl : ss.length ≤ 1099511627776) (hr : ∀ s ∈ ss, Sh.right s = true) (hS : Shps w A ss) :
    Calls Try.prog 31 #[.slice A ss.length c] w (SizesP ss w) := by
  obtain ⟨i0, hi, hz0, hz1, hz2⟩ := info_parts int_info
  have Hr := Lib.hid hr
  have HS := Lib.hid hS
  clear hr hS
  go_enter Try.func31, Try.ntmps31
  go_wp2_with (at_make; refine wpList_make_full _ rfl _ _ 22 rfl w.heap.size 3 i0 (.int .i64 0) 1 Try.underlying22 hi hz0 hz1 _ _ _ _ ss.length rfl rfl (by first | rfl | simp | (go_simp; rfl)) (by first | rfl | simp | (go_simp; rfl)) ?b2 ?b3 ?b4 ?_)
  case b2 => rw [hz2]; omega
  case b3 => unfold maxLen; omega
  case b4 => exact Nat.le_refl _
  intro w1 hown hgrow
  have hblk := own_cur hown
  rw [made_one] at hblk
  have hb1 : Below w.heap.size w w1 := (Below.refl _ w).grown hgrow (Nat.le_refl _) (by simp)
  have hm0 : Blk w1 w.heap.size 3 (splice (List.replicate ss.length (Value.int .i64 0)) 0 (intV ((ss.take 0).map Safe.prod))).toArray := by simpa [splice, intV, Blk] using hblk
  have Hm0 := Lib.hid hm0
  clear hm0
  clear hblk hown hgrow
  go_wp2_with fail
  go_loopw [14] (fun i wx => ∃ k : Nat, k ≤ ss.length ∧ i = .int .i64 (k : Int) ∧ Blk wx w.heap.size 3 (splice (List.replicate ss.length (Value.int .i64 0)) 0 (intV ((ss.take k).map Safe.prod))).toArray ∧ Below w.heap.size w wx) (fun i _ => ss.length - (intOf i).toNat)
  case atStart => exact ⟨0, Nat.zero_le _, rfl, Hm0.out, hb1⟩
  case round =>
    obtain ⟨k, hk, rfl, hm, hbw⟩ := hrel
    clear Hm0 hb1
    by_cases hlt : k < ss.length
    · obtain ⟨b, off, S, sc, rfl, -, hc, hI, -⟩ := HS.out k hlt
      have hrs := Hr.out _ (List.getElem_mem hlt)
      have hc2 := cell_below hbw hc
      have hml : (intV ((ss.take k).map Safe.prod)).length = k := by rw [intV_len]; simp; omega
      have hsn : intV ((ss.take (k + 1)).map Safe.prod) = intV ((ss.take k).map Safe.prod) ++ [.int .i64 (Safe.prod ss[k])] := by rw [List.take_succ_eq_append_getElem hlt, List.map_append, List.map_singleton, intV_snoc]
      generalize ss[k] = s at *
      have hsz := Sh.size_right hrs
      have hlen := (Sh.right_mul hrs).2.1
      have hI2 := hI.below hbw (Nat.le_refl _)
      have Hm := Lib.hid hm
      have HI := Lib.hid hI
      have HI2 := Lib.hid hI2
      have Hrs := Lib.hid hrs
      have Hsz := Lib.hid hsz
      have Hml := Lib.hid hml
      have Hsn := Lib.hid hsn
      clear hm hI hI2 hrs hsz hml hsn
      clear hc
      go_wp2_with fail
      refine (shape_size S sc s _ (by omega) HI2.out).mono ?_
      rintro e w2 ⟨rfl, hb2⟩
      rw [Hsz.out]
      have hm2 := Hm.out.below hb2 Hm.out.lt
      have hbw2 := hbw.trans (hb2.mono hbw.size)
      have hm3 := hm2.splice_set (o := 0) (by rw [Hml.out]; simp; omega) (.int .i64 (Safe.prod s))
      rw [Hml.out, Nat.zero_add, ← Hsn.out] at hm3
      obtain ⟨y, hy⟩ := hm2.has (j := k) (by rw [length_splice _ _ _ (by rw [Hml.out]; simp; omega)]; simp; omega)
      have fy := hm2.frozen k
      have hbw3 := hbw2.setCell (p := ⟨w.heap.size, k, none⟩) (by simp) (.int .i64 (Safe.prod s))
      have Hm2 := Lib.hid hm2
      have Hm3 := Lib.hid hm3
      clear hm2 hm3
      clear hc2 hb2
      go_wp2_with fail
      go_roundw
      case rel => exact ⟨k + 1, by omega, by go_num, Hm3.out, hbw3⟩
      case measure => simp [intOf]; omega
    · obtain rfl : k = ss.length := by omega
      rw [List.take_length, splice_full _ _ (by rw [intV_len]; simp)] at hm
      have Hm := Lib.hid hm
      clear hm
      go_wp2_with fail
      go_ret2
      exact ⟨w.heap.size, rfl, Nat.le_refl _, Hm.out, hbw⟩
def OfP (n : NetD) (w : World) (e : Ending) (w' : World) : Prop :=
  Below w.heap.size w w' ∧ ((Nt.check n = 0 ∧ ∃ g g2, e = .returned (.tuple #[.agg #[.slice (some ⟨g, 0, none⟩) (n.nodes.length + 1) (n.nodes.length + 1), .slice (some ⟨g2, 0, none⟩) (n.nodes.length + 1) (n.nodes.length + 1), .int .i64 (Nt.total n)], .int .i64 0]) ∧ Blk w' g 3 (intV (Nt.words n)).toArray ∧ Blk w' g2 3 (intV (Nt.costs n)).toArray) ∨
    (Nt.check n ≠ 0 ∧ e = .returned (.tuple #[.agg #[.slice none 0 0, .slice none 0 0, .int .i64 0], .int .i64 (Nt.check n)])))
theorem costs_splice (n : NetD) (L : List Value) (hL : L.length = n.nodes.length + 1) (h0 : L[0]? = some (.int .i64 0)) : splice L 1 (intV (Nt.costsTo n n.nodes.length)) = intV (Nt.costs n) := by
  unfold splice
  have hd : L.drop (1 + (intV (Nt.costsTo n n.nodes.length)).length) = [] := List.drop_eq_nil_of_le (by rw [intV_len, Nt.costsTo_len]; omega)
  rw [hd, List.append_nil]
  match L, hL, h0 with
  | a :: r, _, h0 =>
    simp at h0
    subst h0
    simp [Nt.costs, intV]
theorem zeros_splice (n : NetD) (k : Nat) : splice (List.replicate k (Value.int .i64 0)) 1 (intV (Nt.costsTo n 0)) = List.replicate k (Value.int .i64 0) := by
  have e : intV (Nt.costsTo n 0) = [] := rfl
  rw [e]
  unfold splice
  rw [List.nil_append, List.length_nil, Nat.add_zero, List.take_append_drop]
theorem gets_at' {sh : List (List Int)} {u : Nat} (h : u < sh.length) : sh.getD u [] = sh[u] := by rw [List.getD_eq_getElem?_getD, List.getElem?_eq_getElem h]; rfl
set_option maxRecDepth 20000 in
set_option maxHeartbeats 16000000 in
theorem price_of (A N : Option Addr) (c d : Nat) (n : NetD) (w : World) (hok : n.ok) (hR : NetR w A N n) (hd : n.nodes.length ≤ d) (hsm : n.nodes.length ≤ 200) :
    Calls Try.prog 16 #[.agg #[.slice A n.inn.length c, .slice N n.nodes.length d]] w (OfP n w) := by
  obtain ⟨i0, hi, hz0, hz1, hz2⟩ := info_parts shpT_info
  obtain ⟨i1, hj, hy0, hy1, hy2⟩ := info_parts int_info
  have hk0 := (Blk.new w 26 #[.slice A n.inn.length c, .slice N n.nodes.length d]).alloc (.cells #[.slice none 0 0, .slice none 0 0, .int .i64 0] 48)
  have hr0 := Blk.new (w.alloc (.cells #[.slice A n.inn.length c, .slice N n.nodes.length d] 26)) 48 #[.slice none 0 0, .slice none 0 0, .int .i64 0]
  rw [World.size_alloc] at hr0
  have hl0 : Later w ((w.alloc (.cells #[.slice A n.inn.length c, .slice N n.nodes.length d] 26)).alloc (.cells #[.slice none 0 0, .slice none 0 0, .int .i64 0] 48)) := ((Later.refl w).alloc _).alloc _
  have HR := Lib.hid hR
  have Hk0 := Lib.hid hk0
  have Hl0 := Lib.hid hl0
  have Hr0 := Lib.hid hr0
  have Hok := Lib.hid hok
  clear hR hk0 hl0 hr0 hok
  go_enter Try.func16, Try.ntmps16
  go_wp2_with fail
  generalize (w.alloc (.cells #[.slice A n.inn.length c, .slice N n.nodes.length d] 26)).alloc (.cells #[.slice none 0 0, .slice none 0 0, .int .i64 0] 48) = w1 at *
  refine (net_shapes A N c d n w1 Hok.out (HR.out.below Hl0.out (Nat.le_refl _)) hd).mono ?_
  rintro e w2 ⟨hb2, ⟨hc, g, rfl, -, hrow⟩ | ⟨hc, rfl⟩⟩
  all_goals
    have hl2 := Hl0.out.call hb2
    have hk2 := (show Later w1 w2 from hb2).blk Hk0.out
    have hr2 := (show Later w1 w2 from hb2).blk Hr0.out
    clear hb2
  rotate_left
  · have q0 : (Nt.check n != 0) = true := by simp [hc]
    have c0 := hr2.cell 0
    have c1 := hr2.cell 1
    have c2 := hr2.cell 2
    have f0 := hr2.frozen 0
    have f1 := hr2.frozen 1
    have f2 := hr2.frozen 2
    simp at c0 c1 c2
    have hr3 := ((hr2.set_ 0 (.slice none 0 0)).set_ 1 (.slice none 0 0)).set_ 2 (.int .i64 0)
    have d0 := hr3.cell 0
    have d1 := hr3.cell 1
    have d2 := hr3.cell 2
    simp at d0 d1 d2
    have hs := hl2.size
    have Hc := Lib.hid hc
    have Hl2 := Lib.hid hl2
    have Hk2 := Lib.hid hk2
    have Hr2 := Lib.hid hr2
    have Hr3 := Lib.hid hr3
    clear hc hl2 hk2 hr2 hr3
    go_wp2_with fail
    refine bodyPost_ret (v := .tuple #[.agg #[.slice none 0 0, .slice none 0 0, .int .i64 0], .int .i64 (Nt.check n)]) (by simp [results, Try.results16, go_sem, d0, d1, d2]) rfl ?_
    exact ⟨((Hl2.out.set (p := ⟨w.heap.size + 1, 0, none⟩) (Nat.le_succ _) _).set (p := ⟨w.heap.size + 1, 1, none⟩) (Nat.le_succ _) _).set (p := ⟨w.heap.size + 1, 2, none⟩) (Nat.le_succ _) _, .inr ⟨Hc.out, rfl⟩⟩
  have hsl := Nt.shapes_len hc
  have hsr := Nt.shapes_all hc
  have hrs := hrow.shps
  have hca := fun k hk => @Nt.cost_at n hc k hk
  have htot := (Nt.total_bd hc hsm).2.2
  have hwd : (Nt.shapes n).map Safe.prod = Nt.words n := rfl
  have hsn := fun k hk => @Nt.costsTo_succ n k hk
  have hcb := Nt.costs_bd hc
  have hbad := Nt.bads_all (Nt.check_ok hc).2.2.2.1
  generalize Nt.shapes n = sh at *
  have Hc := Lib.hid hc
  have Hl2 := Lib.hid hl2
  have Hk2 := Lib.hid hk2
  have Hr2 := Lib.hid hr2
  have Hrow := Lib.hid hrow
  have Hsr := Lib.hid hsr
  have Hrs := Lib.hid hrs
  have Hca := Lib.hid hca
  have Htot := Lib.hid htot
  have Hwd := Lib.hid hwd
  have Hsn := Lib.hid hsn
  have Hcb := Lib.hid hcb
  have Hbad := Lib.hid hbad
  clear hc hl2 hk2 hr2 hrow hsr hrs hca htot hwd hsn hcb hbad
  have hsl2 : sh.length ≤ 201 := by omega
  rw [← hsl]
  have Hsl := Lib.hid hsl
  clear hsl
  go_wp2_with fail
  refine (price_sizes (some ⟨g, 0, none⟩) sh.length sh w2 (by omega) Hsr.out Hrs.out).mono ?_
  rintro e w3 ⟨gw, rfl, hgw, hbw, hb3⟩
  rw [Hwd.out] at hbw
  have hl3 := Hl2.out.call hb3
  have hl23 : Later w2 w3 := hb3
  have hk3 := hl23.blk Hk2.out
  have hr3 := hl23.blk Hr2.out
  have hrow3 := Hrow.out.below hb3 (Nat.le_refl _)
  have x1 : w3.cell? ⟨w.heap.size, 1, none⟩ = some (.slice N n.nodes.length d) := by rw [hk3.cell]; rfl
  have hs3 := hl3.size
  have Hl3 := Lib.hid hl3
  have Hk3 := Lib.hid hk3
  have Hr3 := Lib.hid hr3
  have Hrow3 := Lib.hid hrow3
  have Hbw := Lib.hid hbw
  have Hl23 := Lib.hid hl23
  clear hl3 hk3 hr3 hrow3 hbw hl23
  clear hb3 hgw
  go_wp2_with (at_make; refine wpList_make_full _ rfl _ _ 22 rfl w3.heap.size 3 i1 (.int .i64 0) 1 Try.underlying22 hj hy0 hy1 _ _ _ _ sh.length rfl rfl (by first | rfl | simp | (go_simp; rfl)) (by first | rfl | simp | (go_simp; rfl)) ?b2 ?b3 ?b4 ?_)
  case b2 => rw [hy2]; omega
  case b3 => unfold maxLen; omega
  case b4 => exact Nat.le_refl _
  intro w4 hown hgrow
  have hblk := own_cur hown
  rw [made_one] at hblk
  have hb4 : Below w3.heap.size w3 w4 := (Below.refl _ w3).grown hgrow (Nat.le_refl _) (by simp)
  have hl34 : Later w3 w4 := hb4
  have hm0 : Blk w4 w3.heap.size 3 (splice (List.replicate sh.length (Value.int .i64 0)) 1 (intV (Nt.costsTo n 0))).toArray := by
    rw [zeros_splice]
    exact hblk
  have x1' := hl34.cell x1
  have Hm0 := Lib.hid hm0
  have Hl34 := Lib.hid hl34
  clear hm0 hl34
  clear hblk hown hgrow hb4 x1
  go_wp2_with fail
  go_loopw [40] (fun i wx => ∃ k : Nat, k ≤ n.nodes.length ∧ i = .int .i64 (k : Int) ∧ Blk wx w3.heap.size 3 (splice (List.replicate sh.length (Value.int .i64 0)) 1 (intV (Nt.costsTo n k))).toArray ∧ Later w3 wx) (fun i _ => n.nodes.length - (intOf i).toNat)
  case atStart => exact ⟨0, Nat.zero_le _, rfl, Hm0.out, Hl34.out⟩
  case round =>
    obtain ⟨k, hk, rfl, hm, hlw⟩ := hrel
    clear Hm0 Hl34 x1'
    by_cases hlt : k < n.nodes.length
    · obtain ⟨b, off, S, sc, I, ic, Q, qc, rfl, hNA, hs1, hI1, hq1⟩ := HR.out.2.at_ hlt
      have hnok := Hok.out.2.2 _ (List.getElem_mem hlt)
      have hinr := (Hbad.out _ (List.getElem_mem hlt)).2
      have hcost := Hca.out k hlt
      have hsnk := Hsn.out k hlt
      have hcb1 : 0 ≤ Od.costV n.nodes[k].op n.nodes[k].p (sh.getD (k + 1) []) ∧ Od.costV n.nodes[k].op n.nodes[k].p (sh.getD (k + 1) []) ≤ 4294967296 := Hcb.out (k + 1) (by omega) _ (by rw [hsnk]; simp)
      have hvi := hnok.2.2.1
      have hlw' := Hl3.out.trans hlw
      have hNAw := hNA.below hlw'
      generalize n.nodes[k] = v at *
      generalize Od.costV v.op v.p (sh.getD (k + 1) []) = cv at *
      obtain ⟨⟨y0, y1, y2, y3, y4, y5, y6, y7, y8, y9⟩, -⟩ := hNAw
      have hkn := Blk.new wr 46 #[.int .i64 v.op.kind, .int .i64 v.op.k, .int .i64 v.op.width, .int .i64 v.op.step, .int .i64 v.op.side, .int .i64 v.op.frm, .int .i64 v.op.to, .slice S v.op.s.length sc, .slice I v.ins.length ic, .slice Q v.p.length qc]
      have hln : Later wr (wr.alloc (.cells #[.int .i64 v.op.kind, .int .i64 v.op.k, .int .i64 v.op.width, .int .i64 v.op.step, .int .i64 v.op.side, .int .i64 v.op.frm, .int .i64 v.op.to, .slice S v.op.s.length sc, .slice I v.ins.length ic, .slice Q v.p.length qc] 46)) := (Later.refl wr).alloc _
      have hmn := hm.alloc (.cells #[.int .i64 v.op.kind, .int .i64 v.op.k, .int .i64 v.op.width, .int .i64 v.op.step, .int .i64 v.op.side, .int .i64 v.op.frm, .int .i64 v.op.to, .slice S v.op.s.length sc, .slice I v.ins.length ic, .slice Q v.p.length qc] 46)
      have Hm := Lib.hid hm
      have Hlw := Lib.hid hlw
      have HNA := Lib.hid hNA
      have Hnok := Lib.hid hnok
      have Hinr := Lib.hid hinr
      have Hcost := Lib.hid hcost
      have Hsnk := Lib.hid hsnk
      have Hlw' := Lib.hid hlw'
      have Hkn := Lib.hid hkn
      have Hln := Lib.hid hln
      have Hmn := Lib.hid hmn
      clear hm hlw hNA hnok hinr hcost hsnk hlw' hkn hln hmn
      go_wp2_with (at_make; refine wpList_make_full _ rfl _ _ 44 rfl wr.heap.size 23 i0 (.slice none 0 0) 1 Try.underlying44 hi hz0 hz1 _ _ _ _ v.ins.length rfl rfl (by first | rfl | simp | (go_simp; rfl)) (by first | rfl | simp | (go_simp; rfl)) ?b2 ?b3 ?b4 ?_)
      case b2 => rw [hz2]; omega
      case b3 => unfold maxLen; omega
      case b4 => simp
      intro w5 hown hgrow
      have hblk := own_cur hown
      rw [made_one] at hblk
      have hrow5 : ShpRow w5 (wr.heap.size + 1) 23 (Nt.insMid sh v.ins 0) := by rw [Nt.insMid_zero]; exact ShpRow.new (by simpa [Blk] using hblk)
      have hl5 : Later wr w5 := Below.grown Hln.out hgrow (by simp) (by simp)
      have hkn5 : Blk w5 wr.heap.size 46 #[.int .i64 v.op.kind, .int .i64 v.op.k, .int .i64 v.op.width, .int .i64 v.op.step, .int .i64 v.op.side, .int .i64 v.op.frm, .int .i64 v.op.to, .slice S v.op.s.length sc, .slice I v.ins.length ic, .slice Q v.p.length qc] := Hkn.out.grown hgrow (by simp)
      have z8 : w5.cell? ⟨wr.heap.size, 8, none⟩ = some (.slice I v.ins.length ic) := by rw [hkn5.cell]; rfl
      have Hrow5 := Lib.hid hrow5
      have Hkn5 := Lib.hid hkn5
      have Hl5 := Lib.hid hl5
      clear hrow5 hkn5 hl5
      clear hblk hown hgrow y0 y1 y2 y3 y4 y5 y6 y7 y8 y9 Hln Hkn Hmn
      go_wp2_with fail
      clear z8
      obtain ⟨wo, rfl⟩ : ∃ wo, wo = wr := ⟨wr, rfl⟩
      go_loopw [52] (fun i wx => ∃ m : Nat, m ≤ v.ins.length ∧ i = .int .i64 m ∧ Blk wx wo.heap.size 46 #[.int .i64 v.op.kind, .int .i64 v.op.k, .int .i64 v.op.width, .int .i64 v.op.step, .int .i64 v.op.side, .int .i64 v.op.frm, .int .i64 v.op.to, .slice S v.op.s.length sc, .slice I v.ins.length ic, .slice Q v.p.length qc] ∧ Later wo wx ∧ ShpRow wx (wo.heap.size + 1) 23 (Nt.insMid sh v.ins m)) (fun i _ => v.ins.length - (intOf i).toNat)
      case atStart => exact ⟨0, Nat.zero_le _, rfl, Hkn5.out, Hl5.out, Hrow5.out⟩
      case round =>
        obtain ⟨m, hm, rfl, hknx, hlx, hrx⟩ := hrel
        clear Hkn5 Hrow5 Hl5
        have hNx := HNA.out.below (Hlw'.out.trans hlx)
        have hml := Nt.insMid_len sh v.ins hm
        by_cases hlm : m < v.ins.length
        · obtain ⟨b2, off2, rfl, -, hc2⟩ := hNx.2.2.1 m hlm
          rw [getD_at hlm] at hc2
          have hr2 := Hinr.out _ (List.getElem_mem hlm)
          have HM := Lib.hid (Nt.insMid_succ sh v.ins hlm)
          obtain ⟨u, hu⟩ : ∃ u : Nat, v.ins[m] = u := ⟨v.ins[m].toNat, by omega⟩
          rw [hu] at hc2 hr2
          have hul : u < sh.length := by rw [Hsl.out]; omega
          have hg2 := Hsr.out _ (List.getElem_mem hul)
          obtain ⟨Su, cu, yu, hIu, lu1, lu2, -⟩ := (Hrow3.out.below Hlw.out (Nat.le_refl _)).at_ hul
          obtain ⟨b3, off3, rfl, hb3, -⟩ := hIu 0 (right_short hg2).1
          have yu' := hlx.cell yu
          have hIu' := hIu.below hlx (Nat.le_refl _)
          have hset := hrx.set_ (i := m) hIu' lu1 lu2 (fun a h => by injection h with h; subst h; simp; omega)
          obtain ⟨Sm, cm, ym, -⟩ := hrx.at_ (j := m) (by omega)
          have fm : wr.frozen? ⟨wo.heap.size + 1, m, none⟩ = false := by obtain ⟨vs, _, hk, _⟩ := hrx; exact hk.frozen m
          have HS := Lib.hid (show ShpRow (wr.setCell ⟨wo.heap.size + 1, m, none⟩ (.slice (some ⟨b3, off3, none⟩) sh[u].length cu)) (wo.heap.size + 1) 23 (Nt.insMid sh v.ins (m + 1)) by
            rw [HM.out, hu, show ((u : Int)).toNat = u by omega, gets_at' hul]; exact hset)
          have HKN := Lib.hid (hknx.far (p := ⟨wo.heap.size + 1, m, none⟩) (by simp) (.slice (some ⟨b3, off3, none⟩) sh[u].length cu))
          have HLX := Lib.hid (hlx.set (p := ⟨wo.heap.size + 1, m, none⟩) (Nat.le_succ _) (.slice (some ⟨b3, off3, none⟩) sh[u].length cu))
          have u0 : (0 : Int) ≤ u := by omega
          have u1 : (u : Int) < (sh.length : Int) := by omega
          have m1 : (m : Int) < v.ins.length := by omega
          clear hset hIu hIu' hknx hrx hNx hg2 hu yu hlx
          go_wp2_with fail
          go_roundw
          case rel => exact ⟨m + 1, by omega, by go_num, HKN.out, HLX.out, HS.out⟩
          case measure => simp [intOf]; omega
        · obtain rfl : m = v.ins.length := by omega
          have hpl : (Nt.pick sh v.ins).length = v.ins.length := by simp [Nt.pick]
          rw [Nt.insMid_all] at hrx
          obtain ⟨y0, y1, y2, y3, y4, y5, y6, y7, y9⟩ : wr.cell? ⟨wo.heap.size, 0, none⟩ = some (.int .i64 v.op.kind) ∧ wr.cell? ⟨wo.heap.size, 1, none⟩ = some (.int .i64 v.op.k) ∧ wr.cell? ⟨wo.heap.size, 2, none⟩ = some (.int .i64 v.op.width) ∧ wr.cell? ⟨wo.heap.size, 3, none⟩ = some (.int .i64 v.op.step) ∧ wr.cell? ⟨wo.heap.size, 4, none⟩ = some (.int .i64 v.op.side) ∧ wr.cell? ⟨wo.heap.size, 5, none⟩ = some (.int .i64 v.op.frm) ∧ wr.cell? ⟨wo.heap.size, 6, none⟩ = some (.int .i64 v.op.to) ∧ wr.cell? ⟨wo.heap.size, 7, none⟩ = some (.slice S v.op.s.length sc) ∧ wr.cell? ⟨wo.heap.size, 9, none⟩ = some (.slice Q v.p.length qc) := by
            refine ⟨?_, ?_, ?_, ?_, ?_, ?_, ?_, ?_, ?_⟩
            all_goals (rw [hknx.cell]; rfl)
          have hno := Hnok.out
          have hxr : ∀ s ∈ Nt.pick sh v.ins, s.length ≤ 17592186043904 := fun s hs => by
            obtain ⟨i, hi, rfl⟩ := List.mem_map.1 hs
            have hr := Hinr.out i hi
            have hl : i.toNat < sh.length := by rw [Hsl.out]; omega
            rw [gets_at' hl]
            have := (right_short (Hsr.out _ (List.getElem_mem hl))).2
            omega
          have hcall := op_cost v.op S Q (some ⟨wo.heap.size + 1, 0, none⟩) sc qc v.ins.length v.p (Nt.pick sh v.ins) wr (by have := hno.2.1; omega) hNx.2.1 ⟨hNx.2.2.2, hq1.1, hq1.2, fun s hs => by have := hno.2.2.2.2.1 s hs; omega⟩ ⟨hrx.shps, by omega, by omega, hxr⟩
          rw [hpl, Hcost.out] at hcall
          have Hcall := Lib.hid hcall
          have Hlx := Lib.hid hlx
          clear hcall hlx
          clear hNx hrx hknx hpl hno hxr
          go_wp2_with fail
          clear y0 y1 y2 y3 y4 y5 y6 y7 y9
          refine (Hcall.out).mono ?_
          rintro e w6 ⟨rfl, hb6⟩
          have hlo6 := Hlx.out.call hb6
          have hm6 := hlo6.blk Hm.out
          have hl36 := Hlw.out.trans hlo6
          have hvl : (intV (Nt.costsTo n k)).length = k := by rw [intV_len, Nt.costsTo_len]
          have hslq := Hsl.out
          have hm7 := hm6.splice_set (by rw [hvl, List.length_replicate]; omega) (.int .i64 cv)
          rw [hvl, ← intV_snoc, ← Hsnk.out, show 1 + k = k + 1 by omega] at hm7
          obtain ⟨y, hy⟩ := hm6.has (j := k + 1) (by rw [length_splice _ _ _ (by rw [hvl, List.length_replicate]; omega), List.length_replicate]; omega)
          have fy := hm6.frozen (k + 1)
          have hl37 := hl36.set (p := ⟨w3.heap.size, k + 1, none⟩) (Nat.le_refl _) (.int .i64 cv)
          have k1 : (k : Int) + 1 < (sh.length : Int) := by omega
          have k2 : ((k : Int) + 1).toNat = k + 1 := by omega
          clear hslq hvl hb6
          have Hlo6 := Lib.hid hlo6
          have Hm6 := Lib.hid hm6
          have Hl36 := Lib.hid hl36
          have Hm7 := Lib.hid hm7
          have Hl37 := Lib.hid hl37
          clear hlo6 hm6 hl36 hm7 hl37
          go_wp2_with fail
          go_roundw
          case rel => exact ⟨k + 1, by omega, by go_num, Hm7.out, Hl37.out⟩
          case measure => simp [intOf]; omega
    · obtain rfl : k = n.nodes.length := by omega
      have hslq := Hsl.out
      have hne : (List.replicate sh.length (Value.int .i64 0))[0]? = some (.int .i64 0) := by rw [List.getElem?_replicate, if_pos (by omega)]
      rw [costs_splice n _ (by rw [List.length_replicate]; exact hslq) hne] at hm
      have hcl : (Nt.costs n).length = sh.length := by rw [hslq]; simp [Nt.costs, Nt.costsTo_len]
      have hIc : Ints .i64 wr (some ⟨w3.heap.size, 0, none⟩) (Nt.costs n) := Ints.of_row fun j hj => by
        rw [Nat.zero_add, hm.cell]
        simp [intV, hj]
      have hlr := Hl3.out.trans hlw
      have hcall := safe_add (some ⟨w3.heap.size, 0, none⟩) sh.length (Nt.costs n) wr (by rw [hcl]; omega) hIc
      rw [hcl, Htot.out] at hcall
      clear hslq hne hcl
      have Hm := Lib.hid hm
      have HIc := Lib.hid hIc
      have Hlr := Lib.hid hlr
      have Hcall := Lib.hid hcall
      have Hlw := Lib.hid hlw
      clear hm hIc hlr hcall hlw
      go_wp2_with fail
      refine (Hcall.out).mono ?_
      rintro e w5 ⟨rfl, hb5⟩
      have hl5 := Hlr.out.call hb5
      have hr5 := (Hlw.out.call hb5).blk Hr3.out
      have hm5 := (show Later wr w5 from hb5).blk Hm.out
      have hw5 := (Hlw.out.call hb5).blk Hbw.out
      have c0 := hr5.cell 0
      have c1 := hr5.cell 1
      have c2 := hr5.cell 2
      have f0 := hr5.frozen 0
      have f1 := hr5.frozen 1
      have f2 := hr5.frozen 2
      simp at c0 c1 c2
      have hr6 := ((hr5.set_ 0 (.slice (some ⟨gw, 0, none⟩) sh.length sh.length)).set_ 1 (.slice (some ⟨w3.heap.size, 0, none⟩) sh.length sh.length)).set_ 2 (.int .i64 (Nt.total n))
      have d0 := hr6.cell 0
      have d1 := hr6.cell 1
      have d2 := hr6.cell 2
      simp at d0 d1 d2
      have hkp : Keep 48 w5 (((w5.setCell ⟨w.heap.size + 1, 0, none⟩ (.slice (some ⟨gw, 0, none⟩) sh.length sh.length)).setCell ⟨w.heap.size + 1, 1, none⟩ (.slice (some ⟨w3.heap.size, 0, none⟩) sh.length sh.length)).setCell ⟨w.heap.size + 1, 2, none⟩ (.int .i64 (Nt.total n))) := ((Keep.set_ hr5 0 _).trans (Keep.set_ (hr5.set_ 0 _) 1 _)).trans (Keep.set_ ((hr5.set_ 0 _).set_ 1 _) 2 _)
      have hm6 := hm5.keep (by decide) hkp
      have hw6 := hw5.keep (by decide) hkp
      clear hb5
      have Hl5 := Lib.hid hl5
      have Hr5 := Lib.hid hr5
      have Hm5 := Lib.hid hm5
      have Hw5 := Lib.hid hw5
      have Hr6 := Lib.hid hr6
      have Hkp := Lib.hid hkp
      have Hm6 := Lib.hid hm6
      have Hw6 := Lib.hid hw6
      clear hl5 hr5 hm5 hw5 hr6 hkp hm6 hw6
      go_wp2_with fail
      refine bodyPost_ret (v := .tuple #[.agg #[.slice (some ⟨gw, 0, none⟩) sh.length sh.length, .slice (some ⟨w3.heap.size, 0, none⟩) sh.length sh.length, .int .i64 (Nt.total n)], .int .i64 0]) (by simp [results, Try.results16, go_sem, d0, d1, d2]) rfl ?_
      exact ⟨((Hl5.out.set (p := ⟨w.heap.size + 1, 0, none⟩) (Nat.le_succ _) _).set (p := ⟨w.heap.size + 1, 1, none⟩) (Nat.le_succ _) _).set (p := ⟨w.heap.size + 1, 2, none⟩) (Nat.le_succ _) _, .inl ⟨Hc.out, gw, w3.heap.size, by rw [← Hsl.out], Hw6.out, Hm6.out⟩⟩
end Go.Proofs.Ytjkhpbngpceenab
/- Layer 11 (net): Params, and what the statements ask of users: contracts. -/
namespace Go.Proofs.Ytjkhpbngpceenab
open Go.RowKit
/-- These values are shapes, each in a block of its own. -/
def PList (w : World) (vs : List Value) (ss : List (List Int)) : Prop :=
  vs.length = ss.length ∧ ∀ j (hj : j < ss.length), ∃ h, vs[j]? = some (.slice (some ⟨h, 0, none⟩) ss[j].length ss[j].length) ∧ Blk w h 3 (ss[j].map (Value.int .i64)).toArray
theorem PList.nil (w : World) : PList w [] [] := ⟨rfl, fun j hj => absurd hj (by simp)⟩
theorem PList.append {w : World} {vs vs' : List Value} {ss ss' : List (List Int)} (h : PList w vs ss) (h' : PList w vs' ss') : PList w (vs ++ vs') (ss ++ ss') := by
  refine ⟨by simp [h.1, h'.1], fun j hj => ?_⟩
  by_cases hl : j < ss.length
  · obtain ⟨g, e, hb⟩ := h.2 j hl
    have e2 : (ss ++ ss')[j] = ss[j] := by simp [hl]
    rw [e2]
    exact ⟨g, by rw [List.getElem?_append_left (by rw [h.1]; exact hl)]; exact e, hb⟩
  · have hl2 : j - ss.length < ss'.length := by simp at hj; omega
    obtain ⟨g, e, hb⟩ := h'.2 (j - ss.length) hl2
    have e2 : (ss ++ ss')[j] = ss'[j - ss.length] := by rw [List.getElem_append_right (by omega)]
    rw [e2]
    exact ⟨g, by rw [List.getElem?_append_right (by rw [h.1]; omega), h.1]; exact e, hb⟩
theorem PList.keep {w w' : World} {vs : List Value} {ss : List (List Int)} {T : TypeId} (h : PList w vs ss) (hT : 3 ≠ T) (hk : Keep T w w') : PList w' vs ss :=
  ⟨h.1, fun j hj => by obtain ⟨g, e, hb⟩ := h.2 j hj; exact ⟨g, e, hb.keep hT hk⟩⟩
theorem PList.one {w : World} {vs : List Value} {ss : List (List Int)} (h : PList w vs ss) : ∀ u ∈ vs, u.oneCell' = true := fun u hu => by
  obtain ⟨j, hj, rfl⟩ := List.getElem_of_mem hu
  obtain ⟨g, e, _⟩ := h.2 j (by rw [← h.1]; exact hj)
  rw [List.getElem?_eq_getElem hj] at e
  injection e with e
  rw [e]; rfl
theorem FRow.plist {B : Nat} {w : World} {g : Nat} {t : TypeId} {ss : List (List Int)} (h : FRow B w g t ss) : ∃ vs : List Value, Blk w g t vs.toArray ∧ PList w vs ss := by
  obtain ⟨_, hs, hl, ⟨vs, hvl, hb, hv⟩, hr⟩ := h
  exact ⟨vs, hb, hvl, fun j hj => ⟨hs[j]'(by omega), hv j hj (by omega), (hr j hj (by omega)).2.2⟩⟩
theorem Keep.of_grown {T : TypeId} {w w' : World} {B s n : Nat} {v : Value} {xs : List Value} (h : w.ownsRow B T s v n xs) (hg : w.grownBy w' v.ownBlock) : Keep T w w' := by
  refine ⟨hg.size, fun b cs t hb ht => hg.block b (lt_of_block hb) fun e => ?_⟩
  rcases h.2 with ⟨rfl, _⟩ | ⟨g, cap, cur, rfl, _, hh, _⟩
  · simp [Value.ownBlock] at e
  · simp [Value.ownBlock] at e
    subst e
    rw [hh] at hb
    injection hb with hb
    injection hb with _ hb _
    exact ht hb.symm
theorem news_blk {w : World} {g : Nat} {t : TypeId} {vs : List Value} (h : Blk w g t vs.toArray) : ∀ (j : Nat) (u : Value), vs[j]? = some u → w.cell? (Addr.add ⟨g, 0, none⟩ j) = some u := fun j u hu => by
  have : (Addr.add ⟨g, 0, none⟩ j) = ⟨g, j, none⟩ := by by_cases e : j = 0 <;> simp [Addr.add, e]
  rw [this, h.cell]
  simpa using hu
theorem PList.shps {w : World} {vs : List Value} {ss : List (List Int)} {B n : Nat} {t : TypeId} {v : Value} (h : PList w vs ss) (hown : w.ownsRow B t 1 v n vs) (hs : ∀ s ∈ ss, s.length ≤ 1048576) :
    ∃ A c, v = .slice A ss.length c ∧ n = ss.length ∧ Shps w A ss ∧ ss.length ≤ c ∧ c ≤ 9223372036854775807 := by
  have hn : n = ss.length := by have := hown.1; have := h.1; omega
  subst hn
  rcases hown.2 with ⟨rfl, h0⟩ | ⟨g, cap, cur, rfl, hb, hh, r1, r2, r3, r4⟩
  · have : ss = [] := List.eq_nil_of_length_eq_zero h0
    subst this
    exact ⟨none, 0, rfl, rfl, Shps.nil, by simp, by omega⟩
  · refine ⟨_, cap, rfl, rfl, fun j hj => ?_, r1, by unfold maxLen at r2; omega⟩
    obtain ⟨b, e, hbk⟩ := h.2 j hj
    refine ⟨g, 0, _, _, rfl, lt_of_block hh, by rw [Nat.zero_add, hown.cellAt j (by omega)]; exact e, Ints.of_row fun i hi => ?_, Nat.le_refl _, by have := hs _ (List.getElem_mem hj); omega⟩
    rw [Nat.zero_add, hbk.cell i, getD_at hi]
    simp [hi]
def ParamsP (n : NetD) (w : World) (e : Ending) (w' : World) : Prop :=
  ∃ A c, e = .returned (.slice A (Nt.params n).length c) ∧ Shps w' A (Nt.params n) ∧ (Nt.params n).length ≤ c ∧ c ≤ 9223372036854775807 ∧ Below w.heap.size w w'
theorem params_len {n : NetD} (hok : n.ok) (k : Nat) : ((n.nodes.take k).flatMap (·.p)).length ≤ k * 1048576 := by
  induction k with
  | zero => simp
  | succ k ih =>
    by_cases hk : k < n.nodes.length
    · rw [List.take_succ_eq_append_getElem hk, List.flatMap_append, List.length_append]
      have h1 := (hok.2.2 _ (List.getElem_mem hk)).2.2.2.1
      have e : [n.nodes[k]].flatMap (·.p) = n.nodes[k].p := by simp
      rw [e]; omega
    · rw [List.take_of_length_le (by omega)]
      rw [List.take_of_length_le (by omega)] at ih
      exact Nat.le_trans ih (Nat.mul_le_mul_right _ (Nat.le_succ _))
set_option maxRecDepth 20000 in
set_option maxHeartbeats 8000000 in
theorem net_params (A N : Option Addr) (c d : Nat) (n : NetD) (w : World) (hok : n.ok) (hR : NetR w A N n) :
    Calls Try.prog 35 #[.agg #[.slice A n.inn.length c, .slice N n.nodes.length d]] w (ParamsP n w) := by
  obtain ⟨i0, hi, hz0, hz1, hz2⟩ := info_parts shpT_info
  have hnl := hok.2.1
  have hpl := fun k => params_len hok k
  have hb0 : Later w (w.alloc (.cells #[.slice A n.inn.length c, .slice N n.nodes.length d] 26)) := (Later.refl _).alloc _
  have Hok := Lib.hid hok
  have HR := Lib.hid hR
  have Hpl := Lib.hid hpl
  have Hb0 := Lib.hid hb0
  clear hok hR hpl hb0
  go_enter Try.func35, Try.ntmps35
  go_wp2_with fail
  generalize w.alloc (.cells #[.slice A n.inn.length c, .slice N n.nodes.length d] 26) = w1 at *
  go_loopw [3, 9] (fun o i wx => ∃ (k : Nat) (vs : List Value), k ≤ n.nodes.length ∧ i = .int .i64 (k : Int) ∧ wx.ownsRow w.heap.size 23 1 o ((n.nodes.take k).flatMap (·.p)).length vs ∧ PList wx vs ((n.nodes.take k).flatMap (·.p)) ∧ Below w.heap.size w wx) (fun _ i _ => n.nodes.length - (intOf i).toNat)
  case atStart => exact ⟨0, [], Nat.zero_le _, rfl, by simpa using World.ownsRow_nil w1 w.heap.size 23 1, by simpa using PList.nil w1, Hb0.out⟩
  case round =>
    obtain ⟨k, vs, hk, rfl, hown, hpv, hbw⟩ := hrel
    clear Hb0
    obtain ⟨Ao, co, rfl⟩ := own_form hown
    by_cases hlt : k < n.nodes.length
    · obtain ⟨b, off, S, sc, J, ic, Q, qc, rfl, hNA, -, -, -⟩ := HR.out.2.at_ hlt
      have hnok := Hok.out.2.2 _ (List.getElem_mem hlt)
      have hpl2 := hnok.2.2.2.1
      have hps := hnok.2.2.2.2.1
      have hQi := hNA.2.2.2
      have hlk := Hpl.out k
      have hsn : (n.nodes.take (k + 1)).flatMap (·.p) = (n.nodes.take k).flatMap (·.p) ++ n.nodes[k].p := by rw [List.take_succ_eq_append_getElem hlt, List.flatMap_append]; simp
      have hkb : k * 1048576 ≤ 1048576 * 1048576 := Nat.mul_le_mul_right _ (by omega)
      generalize n.nodes[k] = v at *
      generalize (n.nodes.take k).flatMap (·.p) = ss at *
      obtain ⟨⟨y0, y1, y2, y3, y4, y5, y6, y7, y8, y9⟩, -⟩ := hNA.below hbw
      have hl2 : Later wr (wr.alloc (.cells #[.int .i64 v.op.kind, .int .i64 v.op.k, .int .i64 v.op.width, .int .i64 v.op.step, .int .i64 v.op.side, .int .i64 v.op.frm, .int .i64 v.op.to, .slice S v.op.s.length sc, .slice J v.ins.length ic, .slice Q v.p.length qc] 46)) := (Later.refl wr).alloc _
      have HNA := Lib.hid hNA
      have Hnok := Lib.hid hnok
      have Hps := Lib.hid hps
      have HQi := Lib.hid hQi
      have Hsn := Lib.hid hsn
      have Hown := Lib.hid hown
      have Hpv := Lib.hid hpv
      have Hl2 := Lib.hid hl2
      clear hNA hnok hps hQi hsn hown hpv hl2
      go_wp2_with fail
      clear y0 y1 y2 y3 y4 y5 y6 y7 y8 y9
      generalize wr.alloc (.cells #[.int .i64 v.op.kind, .int .i64 v.op.k, .int .i64 v.op.width, .int .i64 v.op.step, .int .i64 v.op.side, .int .i64 v.op.frm, .int .i64 v.op.to, .slice S v.op.s.length sc, .slice J v.ins.length ic, .slice Q v.p.length qc] 46) = w2 at *
      refine (net_copies Q qc v.p _ hpl2 Hps.out (HQi.out.below (hbw.trans (Below.mono Hl2.out hbw.size)) (Nat.le_refl _))).mono ?_
      rintro e w3 ⟨g, rfl, hF, hb3⟩
      have hl3 := Hl2.out.call hb3
      obtain ⟨ws, hgb, hpw⟩ := hF.plist
      have ho3 := ownsRow_keep (T := 46) Hown.out (by decide) (Keep.of_later hl3)
      have hp3 := Hpv.out.keep (T := 46) (by decide) (Keep.of_later hl3)
      have hwl : ws.length = v.p.length := hpw.1
      have hone := hpw.one
      have hnews := news_blk hgb
      have hbw3 := hbw.trans (Below.mono hl3 hbw.size)
      have hsz3 := hbw3.size
      have HLO := Lib.hid (fun b (hb : (Value.slice Ao ss.length co).ownBlock = some b) => (ho3.lt b hb).1)
      have HF := Lib.hid hF
      have Hl3 := Lib.hid hl3
      have Hp3 := Lib.hid hp3
      have Hpw := Lib.hid hpw
      have Hgb := Lib.hid hgb
      clear hF hl3 hp3 hpw hgb
      clear hb3 Hown Hpv
      go_wp2_with (at_builtin; refine wpList_append_own_at _ rfl _ _ 44 rfl w.heap.size 23 i0 (.slice none 0 0) 1 24 Try.underlying44 hi hz0 hz1 hz2 rfl (by decide) _ _ _ rfl ho3 ⟨g, 0, none⟩ v.p.length v.p.length ws rfl (by rw [hwl]; omega) hnews hone (by unfold maxLen; omega) (by omega) hsz3 ?_)
      intro v' w4 hown' hgrow _ hat
      have hkp : Keep 23 w3 w4 := Keep.of_grown ho3 hgrow
      have hp4 := (Hp3.out.keep (by decide) hkp).append (Hpw.out.keep (by decide) hkp)
      have hb4 : Below w.heap.size w w4 := hbw3.grown hgrow hsz3 (fun b hb => HLO.out b hb)
      rw [show ss.length + v.p.length = (ss ++ v.p).length by simp, ← Hsn.out] at hown'
      rw [← Hsn.out] at hp4
      have Hown' := Lib.hid hown'
      have Hp4 := Lib.hid hp4
      clear hown' hp4
      clear hkp hgrow hat ho3 HLO hnews hone hwl
      go_wp2_with fail
      go_roundw
      case rel => exact ⟨k + 1, vs ++ ws, by omega, by go_num, Hown'.out, Hp4.out, hb4⟩
      case measure => simp [intOf]; omega
    · obtain rfl : k = n.nodes.length := by omega
      rw [List.take_length] at *
      have hps : ∀ s ∈ n.nodes.flatMap (·.p), s.length ≤ 1048576 := fun s hs => by
        obtain ⟨v, hv, hs⟩ := List.mem_flatMap.1 hs
        exact (Hok.out.2.2 v hv).2.2.2.2.1 s hs
      obtain ⟨A', c', e, -, q1, q2, q3⟩ := hpv.shps hown hps
      injection e with e1 e2 e3
      subst e1 e3
      have hdef : Nt.params n = n.nodes.flatMap (·.p) := rfl
      have Hown := Lib.hid hown
      have Hpv := Lib.hid hpv
      have Hps := Lib.hid hps
      have Hq1 := Lib.hid q1
      have Hq2 := Lib.hid q2
      have Hq3 := Lib.hid q3
      have Hdef := Lib.hid hdef
      clear hown hpv hps q1 q2 q3 hdef
      clear e2
      go_wp2_with fail
      go_ret
      exact ⟨Ao, co, by (rw [Hdef.out] <;> rfl), by rw [Hdef.out]; exact Hq1.out, by rw [Hdef.out]; exact Hq2.out, Hq3.out, hbw⟩
theorem ids_at {n k : Nat} (hk : k < n) : (Kn.ids n)[k]? = some ((k : Int) + 1) := by
  induction n with
  | zero => omega
  | succ n ih =>
    rw [Kn.ids_succ]
    by_cases h : k < n
    · rw [List.getElem?_append_left (by rw [Kn.ids_length]; exact h)]; exact ih h
    · obtain rfl : k = n := by omega
      rw [List.getElem?_append_right (by rw [Kn.ids_length]; exact Nat.le_refl _), Kn.ids_length]; simp
theorem ids_mem {n : Nat} {u : Int} (h : u ∈ Kn.ids n) : 1 ≤ u ∧ u ≤ n := by
  obtain ⟨k, hk, rfl⟩ := List.getElem_of_mem h
  rw [Kn.ids_length] at hk
  have := ids_at hk
  rw [List.getElem?_eq_getElem (by rw [Kn.ids_length]; exact hk)] at this
  injection this with this
  rw [this]; omega
theorem ids_asc (n : Nat) : (Kn.ids n).Pairwise (· < ·) := by
  induction n with
  | zero => exact List.Pairwise.nil
  | succ n ih =>
    rw [Kn.ids_succ, List.pairwise_append]
    exact ⟨ih, List.pairwise_singleton _ _, fun a ha b hb => by have := (ids_mem ha).2; simp at hb; omega⟩
theorem users_mem {n : NetD} {id u : Int} (h : u ∈ Nt.users n id) : 1 ≤ u ∧ u ≤ n.nodes.length ∧ hasB (Nt.insF n.nodes u) id = true := by
  unfold Nt.users at h
  obtain ⟨h1, h2⟩ := List.mem_filter.1 h
  exact ⟨(ids_mem h1).1, (ids_mem h1).2, h2⟩
theorem users_up {n : NetD} {id : Int} {k : Nat} (hk : k < (Nt.users n id).length) : ((Nt.users n id).take k).getLastD 0 < (Nt.users n id)[k] := by
  have hp : (Nt.users n id).Pairwise (· < ·) := (ids_asc _).filter _
  by_cases h0 : k = 0
  · subst h0
    have := (users_mem (List.getElem_mem hk)).1
    simp; omega
  · rw [List.getLastD_eq_getLast?, List.getLast?_take, if_neg h0]
    rw [List.getElem?_eq_getElem (by omega)]
    simp only [Option.some_or, Option.getD_some]
    exact List.pairwise_iff_getElem.1 hp _ _ _ _ (by omega)
theorem params_at {n : NetD} {k m : Nat} (hk : k < n.nodes.length) (hm : m < n.nodes[k].p.length) : ((n.nodes.take k).flatMap (·.p)).length + m < (Nt.params n).length ∧ (Nt.params n)[((n.nodes.take k).flatMap (·.p)).length + m]? = some n.nodes[k].p[m] := by
  have e : Nt.params n = (n.nodes.take k).flatMap (·.p) ++ (n.nodes[k].p ++ (n.nodes.drop (k + 1)).flatMap (·.p)) := by
    unfold Nt.params
    conv => lhs; rw [← List.take_append_drop k n.nodes, List.drop_eq_getElem_cons hk, List.flatMap_append, List.flatMap_cons]
  rw [e]
  refine ⟨by simp only [List.length_append]; omega, ?_⟩
  rw [List.getElem?_append_right (by omega), Nat.add_sub_cancel_left, List.getElem?_append_left hm, List.getElem?_eq_getElem hm]
end Go.Proofs.Ytjkhpbngpceenab
/- Layer 13 (price): Peak, Params: contracts. -/
namespace Go.Proofs.Ytjkhpbngpceenab
open Go.RowKit
theorem add_small {l : List Int} (h : ∀ x ∈ l, 0 ≤ x ∧ x ≤ 65536) (hl : l.length ≤ 1000000) : Safe.add l = (Safe.sum l, 0) ∧ 0 ≤ Safe.sum l ∧ Safe.sum l ≤ 65536000000 := by
  have hs := Nt.sum_bd h
  have hb : (l.length : Int) * 65536 ≤ 1000000 * 65536 := Int.mul_le_mul_of_nonneg_right (by omega) (by omega)
  refine ⟨?_, hs.1, by omega⟩
  unfold Safe.add
  have hall : l.all Safe.ok = true := by
    rw [List.all_eq_true]
    intro x hx
    rw [Safe.ok_iff]
    have := h x hx; omega
  rw [if_pos hall, if_pos (by rw [Safe.top_eq]; omega)]
namespace Nt
def peak (n : NetD) : Int := if check n = 0 then Safe.sum (words n) + (Safe.sum (words n) - (words n).getD 0 0) else 0
def parW (n : NetD) : Int := if check n = 0 then Safe.sum ((params n).map Safe.prod) else 0
theorem words_sum {n : NetD} (h : check n = 0) (hn : n.nodes.length ≤ 200) : Safe.add (words n) = (Safe.sum (words n), 0) ∧ 0 ≤ Safe.sum (words n) ∧ Safe.sum (words n) ≤ 65536000000 ∧ 1 ≤ (words n).getD 0 0 ∧ (words n).getD 0 0 ≤ Safe.sum (words n) ∧ 0 < (words n).length := by
  have hl := words_len h
  obtain ⟨h1, h2, h3⟩ := add_small (l := words n) (fun x hx => by have := words_bd h x hx; omega) (by omega)
  have hp : ∀ x ∈ words n, 0 ≤ x ∧ x ≤ 65536 := fun x hx => by have := words_bd h x hx; omega
  have hb := words_bd h
  generalize words n = ws at *
  match ws, hl with
  | a :: r, _ =>
    have ha := hb a (by simp)
    have hr := sum_bd (l := r) (B := 65536) fun x hx => hp x (by simp [hx])
    have e : Safe.sum (a :: r) = a + Safe.sum r := rfl
    refine ⟨h1, h2, h3, ?_, ?_, by simp⟩
    · show 1 ≤ a; omega
    · show a ≤ _; omega
theorem par_len {n : NetD} (h : check n = 0) : ∀ k, k ≤ n.nodes.length → ((n.nodes.take k).flatMap (·.p)).length ≤ 2 * k := by
  intro k
  induction k with
  | zero => intro _; simp
  | succ k ih =>
    intro hk
    have hkl : k < n.nodes.length := by omega
    rw [List.take_succ_eq_append_getElem hkl, List.flatMap_append, List.length_append]
    have e : [n.nodes[k]].flatMap (·.p) = n.nodes[k].p := by simp
    have hs := shapes_node h hkl
    have hp := (Od.shape_good (o := n.nodes[k].op) (p := n.nodes[k].p) (x := pick (shapes n) n.nodes[k].ins) (by rw [hs])).2.1
    have h2 : Od.params n.nodes[k].op ≤ 2 := by
      unfold Od.params
      split
      · split
        · omega
        · split <;> omega
      · omega
    have := ih (by omega)
    rw [e]
    omega
theorem par_sum {n : NetD} (h : check n = 0) (hn : n.nodes.length ≤ 200) : Safe.add ((params n).map Safe.prod) = (Safe.sum ((params n).map Safe.prod), 0) ∧ 0 ≤ Safe.sum ((params n).map Safe.prod) ∧ Safe.sum ((params n).map Safe.prod) ≤ 65536000000 := by
  have hl := par_len h n.nodes.length (Nat.le_refl _)
  rw [List.take_length] at hl
  refine add_small (fun x hx => ?_) (by rw [List.length_map]; show (n.nodes.flatMap (·.p)).length ≤ _; omega)
  obtain ⟨s, hs, rfl⟩ := List.mem_map.1 hx
  have := Od.prod_right_ (params_right h s hs)
  omega
end Nt
theorem Blk.intV_ints {w : World} {g : Nat} {t : TypeId} {l : List Int} (h : Blk w g t (intV l).toArray) : Ints .i64 w (some ⟨g, 0, none⟩) l := Ints.of_row fun j hj => by
  rw [Nat.zero_add, h.cell]
  simp [intV, hj]
set_option maxRecDepth 20000 in
set_option maxHeartbeats 8000000 in
theorem price_peak (A N : Option Addr) (c d : Nat) (n : NetD) (w : World) (hok : n.ok) (hR : NetR w A N n) (hd : n.nodes.length ≤ d) (hsm : n.nodes.length ≤ 200) :
    Calls Try.prog 18 #[.agg #[.slice A n.inn.length c, .slice N n.nodes.length d]] w fun e w' => e = .returned (.tuple #[.int .i64 (Nt.peak n), .int .i64 (Nt.check n)]) ∧ Below w.heap.size w w' := by
  have hl0 : Later w (w.alloc (.cells #[.slice A n.inn.length c, .slice N n.nodes.length d] 26)) := (Later.refl w).alloc _
  have HR := Lib.hid hR
  have Hl0 := Lib.hid hl0
  have Hok := Lib.hid hok
  clear hR hl0 hok
  go_enter Try.func18, Try.ntmps18
  go_wp2_with fail
  generalize w.alloc (.cells #[.slice A n.inn.length c, .slice N n.nodes.length d] 26) = w1 at *
  refine (price_of A N c d n w1 Hok.out (HR.out.below Hl0.out (Nat.le_refl _)) hd hsm).mono ?_
  rintro e w2 ⟨hb2, ⟨hc, g, g2, rfl, hg, -⟩ | ⟨hc, rfl⟩⟩
  all_goals have hl2 := Hl0.out.call hb2
  all_goals clear hb2
  · obtain ⟨a1, a2, a3, a4, a5, a6⟩ := Nt.words_sum hc hsm
    have hwl := Nt.words_len hc
    have hpk : Nt.peak n = Safe.sum (Nt.words n) + (Safe.sum (Nt.words n) - (Nt.words n).getD 0 0) := by unfold Nt.peak; rw [if_pos hc]
    have hck := hc
    have hI := hg.intV_ints
    have hk3 := Blk.new w2 48 #[.slice (some ⟨g, 0, none⟩) (n.nodes.length + 1) (n.nodes.length + 1), .slice (some ⟨g2, 0, none⟩) (n.nodes.length + 1) (n.nodes.length + 1), .int .i64 (Nt.total n)]
    have hl3 := (Later.refl w2).alloc (.cells #[.slice (some ⟨g, 0, none⟩) (n.nodes.length + 1) (n.nodes.length + 1), .slice (some ⟨g2, 0, none⟩) (n.nodes.length + 1) (n.nodes.length + 1), .int .i64 (Nt.total n)] 48)
    have hI3 := hI.alloc (.cells #[.slice (some ⟨g, 0, none⟩) (n.nodes.length + 1) (n.nodes.length + 1), .slice (some ⟨g2, 0, none⟩) (n.nodes.length + 1) (n.nodes.length + 1), .int .i64 (Nt.total n)] 48)
    have hc0 : Hid (Nt.check n = 0) := Lib.hid hc
    clear hc hck hg hI
    generalize Nt.words n = ws at *
    have hcall := safe_add (some ⟨g, 0, none⟩) (n.nodes.length + 1) ws _ (by omega) hI3
    rw [hwl, a1] at hcall
    have hy : ∃ y, ws.getD 0 0 = y := ⟨_, rfl⟩
    obtain ⟨w0, hw0⟩ := hy
    rw [hw0] at a4 a5 hpk
    have ck0 : (Nt.check n == 0) = true := by simp [hc0.out]
    have ckr := hc0.out
    have Hl2 := Lib.hid hl2
    have Hk3 := Lib.hid hk3
    have Hl3 := Lib.hid hl3
    have HI3 := Lib.hid hI3
    have Hcall := Lib.hid hcall
    have Ha1 := Lib.hid a1
    have Hwl := Lib.hid hwl
    have Hpk := Lib.hid hpk
    have Hw0 := Lib.hid hw0
    have Hckr := Lib.hid ckr
    clear hl2 hk3 hl3 hI3 hcall a1 hwl hpk hw0 ckr
    clear ck0
    go_wp2_with fail
    generalize w2.alloc (.cells #[.slice (some ⟨g, 0, none⟩) (n.nodes.length + 1) (n.nodes.length + 1), .slice (some ⟨g2, 0, none⟩) (n.nodes.length + 1) (n.nodes.length + 1), .int .i64 (Nt.total n)] 48) = w3 at *
    refine (Hcall.out).mono ?_
    rintro e w4 ⟨rfl, hb4⟩
    have hl4 := Hl3.out.call hb4
    have hk4 := (show Later w3 w4 from hb4).blk Hk3.out
    have x0 : w4.cell? ⟨w2.heap.size, 0, none⟩ = some (.slice (some ⟨g, 0, none⟩) (n.nodes.length + 1) (n.nodes.length + 1)) := by rw [hk4.cell]; rfl
    have y0 : w4.cell? ⟨g, 0, none⟩ = some (.int .i64 w0) := by
      obtain ⟨b', o', e, -, h⟩ := (HI3.out.below hb4 (Nat.le_refl _)) 0 a6
      injection e with e; injection e with e1 e2; subst e1 e2
      rw [Hw0.out] at h
      exact h
    clear hb4
    generalize Safe.sum ws = S at *
    have hsub : Safe.add [S, S - w0] = (S + (S - w0), 0) := by
      unfold Safe.add
      rw [if_pos (by simp [Safe.ok]; omega), if_pos (by rw [Safe.top_eq]; simp [Safe.sum]; omega)]
      simp [Safe.sum]
    have Hl4 := Lib.hid hl4
    have Hk4 := Lib.hid hk4
    have Hsub := Lib.hid hsub
    clear hl4 hk4 hsub
    go_wp2_with fail
    refine (safe_add (some ⟨w4.heap.size, 0, none⟩) 2 [S, S - w0] _ (by simp) (ints_two _ _)).mono ?_
    rintro e w5 ⟨rfl, hb5⟩
    rw [Hsub.out]
    have hl5 := (Hl2.out.trans (Hl4.out.alloc (.cells #[.int .i64 S, .int .i64 (S - w0)] 3))).call hb5
    have Hl5 := Lib.hid hl5
    clear hl5
    go_wp2_with fail
    go_ret2
    exact ⟨by (rw [Hpk.out, Hckr.out] <;> rfl), Hl5.out⟩
  · have hpk : Nt.peak n = 0 := by unfold Nt.peak; rw [if_neg hc]
    have q0 : (Nt.check n != 0) = true := by simp [hc]
    clear hc
    have Hpk := Lib.hid hpk
    have Hl2 := Lib.hid hl2
    clear hpk hl2
    go_wp2_with fail
    go_ret2
    exact ⟨by (rw [Hpk.out] <;> rfl), Hl2.out.alloc _⟩
set_option maxRecDepth 20000 in
set_option maxHeartbeats 8000000 in
theorem price_params (A N : Option Addr) (c d : Nat) (n : NetD) (w : World) (hok : n.ok) (hR : NetR w A N n) (hd : n.nodes.length ≤ d) (hsm : n.nodes.length ≤ 200) :
    Calls Try.prog 19 #[.agg #[.slice A n.inn.length c, .slice N n.nodes.length d]] w fun e w' => e = .returned (.tuple #[.int .i64 (Nt.parW n), .int .i64 (Nt.check n)]) ∧ Below w.heap.size w w' := by
  have hk0 := Blk.new w 26 #[.slice A n.inn.length c, .slice N n.nodes.length d]
  have hl0 : Later w (w.alloc (.cells #[.slice A n.inn.length c, .slice N n.nodes.length d] 26)) := (Later.refl w).alloc _
  have HR := Lib.hid hR
  have Hl0 := Lib.hid hl0
  have Hok := Lib.hid hok
  have Hk0 := Lib.hid hk0
  clear hR hl0 hok hk0
  go_enter Try.func19, Try.ntmps19
  go_wp2_with fail
  generalize w.alloc (.cells #[.slice A n.inn.length c, .slice N n.nodes.length d] 26) = w1 at *
  refine (net_check A N c d n w1 Hok.out (HR.out.below Hl0.out (Nat.le_refl _)) hd).mono ?_
  rintro e w2 ⟨rfl, hb2⟩
  have hl2 := Hl0.out.call hb2
  have hk2 := (show Later w1 w2 from hb2).blk Hk0.out
  clear hb2
  by_cases hc : Nt.check n = 0
  · have hpw : Nt.parW n = Safe.sum ((Nt.params n).map Safe.prod) := by unfold Nt.parW; rw [if_pos hc]
    have hpr := Nt.params_right hc
    have hps := (Nt.par_sum hc hsm).1
    have hpl := Nt.par_len hc n.nodes.length (Nat.le_refl _)
    rw [List.take_length] at hpl
    replace hpl : (Nt.params n).length ≤ 400 := by show (n.nodes.flatMap (·.p)).length ≤ _; omega
    have x0 : w2.cell? ⟨w.heap.size, 0, none⟩ = some (.slice A n.inn.length c) := by rw [hk2.cell]; rfl
    have x1 : w2.cell? ⟨w.heap.size, 1, none⟩ = some (.slice N n.nodes.length d) := by rw [hk2.cell]; rfl
    have q0 : (Nt.check n != 0) = false := by simp [hc]
    have Hl2 := Lib.hid hl2
    have Hk2 := Lib.hid hk2
    have Hpw := Lib.hid hpw
    have Hpr := Lib.hid hpr
    have Hps := Lib.hid hps
    have Hc := Lib.hid hc
    clear hl2 hk2 hpw hpr hps hc
    go_wp2_with fail
    refine (net_params A N c d n w2 Hok.out (HR.out.below Hl2.out (Nat.le_refl _))).mono ?_
    rintro e w3 ⟨P, pc, rfl, hP, hp1, hp2, hb3⟩
    have hl3 := Hl2.out.call hb3
    clear hb3 x0 x1
    generalize Nt.params n = ps at *
    have Hl3 := Lib.hid hl3
    have HP := Lib.hid hP
    clear hl3 hP
    go_wp2_with fail
    refine (price_sizes P pc ps w3 (by omega) Hpr.out HP.out).mono ?_
    rintro e w4 ⟨g, rfl, -, hg, hb4⟩
    have hl4 := Hl3.out.call hb4
    have hcall := safe_add (some ⟨g, 0, none⟩) ps.length (ps.map Safe.prod) w4 (by rw [List.length_map]; omega) hg.intV_ints
    rw [List.length_map, Hps.out] at hcall
    clear hb4
    have Hl4 := Lib.hid hl4
    have Hg := Lib.hid hg
    have Hcall := Lib.hid hcall
    clear hl4 hg hcall
    go_wp2_with fail
    refine (Hcall.out).mono ?_
    rintro e w5 ⟨rfl, hb5⟩
    have hl5 := Hl4.out.call hb5
    have Hl5 := Lib.hid hl5
    clear hl5
    go_wp2_with fail
    go_ret2
    exact ⟨by (rw [Hpw.out, Hc.out] <;> rfl), Hl5.out⟩
  · have hpw : Nt.parW n = 0 := by unfold Nt.parW; rw [if_neg hc]
    have q0 : (Nt.check n != 0) = true := by simp [hc]
    clear hc
    have Hl2 := Lib.hid hl2
    have Hk2 := Lib.hid hk2
    have Hpw := Lib.hid hpw
    clear hl2 hk2 hpw
    go_wp2_with fail
    go_ret2
    exact ⟨by (rw [Hpw.out] <;> rfl), Hl2.out⟩
end Go.Proofs.Ytjkhpbngpceenab
/- Layer 13 (price): Chain: contract. -/
namespace Go.Proofs.Ytjkhpbngpceenab
open Go.RowKit
namespace Nt
def wAt (n : NetD) (u : Int) : Int := (words n).getD u.toNat 0
def cAt (n : NetD) (u : Int) : Int := (costs n).getD u.toNat 0
def chainW (n : NetD) : List Int := wAt n 0 :: (sorted n.nodes).map (wAt n)
def chainC (n : NetD) : List Int := (sorted n.nodes).map (cAt n)
end Nt
def ChainP (n : NetD) (w : World) (e : Ending) (w' : World) : Prop :=
  Below w.heap.size w w' ∧ ((Nt.check n = 0 ∧ Nt.chain n = true ∧ ∃ A c A2 c2, e = .returned (.tuple #[.slice A (n.nodes.length + 1) c, .slice A2 n.nodes.length c2, .int .i64 0]) ∧ Ints .i64 w' A (Nt.chainW n) ∧ Ints .i64 w' A2 (Nt.chainC n)) ∨
    (Nt.check n = 0 ∧ Nt.chain n = false ∧ e = .returned (.tuple #[.slice none 0 0, .slice none 0 0, .int .i64 27])) ∨
    (Nt.check n ≠ 0 ∧ e = .returned (.tuple #[.slice none 0 0, .slice none 0 0, .int .i64 (Nt.check n)])))
def Apart (v u : Value) : Prop := ∀ b, v.ownBlock = some b → u.ownBlock = some b → False
theorem Apart.symm {v u : Value} (h : Apart v u) : Apart u v := fun b h1 h2 => h b h2 h1
theorem own_other {w w' : World} {B : Nat} {e : TypeId} {s n : Nat} {v u : Value} {xs : List Value} (h : w.ownsRow B e s u n xs) (hg : w.grownBy w' v.ownBlock) (ha : Apart v u) : w'.ownsRow B e s u n xs :=
  ownsRow_heap h fun b hb => hg.block b (h.lt b hb).2 fun e => ha b e.symm hb
theorem Apart.next {w : World} {B : Nat} {e : TypeId} {s n : Nat} {v v' u : Value} {xs : List Value} (ha : Apart v u) (hu : w.ownsRow B e s u n xs) (hat : v'.ownBlock = v.ownBlock ∨ v'.ownBlock = some w.heap.size) : Apart v' u := fun b h1 h2 => by
  rcases hat with h | h
  · exact ha b (h ▸ h1) h2
  · rw [h] at h1
    injection h1 with h1
    have := (hu.lt b h2).2
    omega
set_option maxRecDepth 20000 in
set_option maxHeartbeats 16000000 in
theorem price_chain (A N : Option Addr) (c d : Nat) (n : NetD) (w : World) (hok : n.ok) (hR : NetR w A N n) (hd : n.nodes.length ≤ d) (hsm : n.nodes.length ≤ 200) :
    Calls Try.prog 8 #[.agg #[.slice A n.inn.length c, .slice N n.nodes.length d]] w (ChainP n w) := by
  obtain ⟨i0, hi, hz0, hz1, hz2⟩ := info_parts int_info
  have hk0 := Blk.new w 26 #[.slice A n.inn.length c, .slice N n.nodes.length d]
  have hl0 : Later w (w.alloc (.cells #[.slice A n.inn.length c, .slice N n.nodes.length d] 26)) := (Later.refl w).alloc _
  have HR := Lib.hid hR
  have Hl0 := Lib.hid hl0
  have Hok := Lib.hid hok
  have Hk0 := Lib.hid hk0
  clear hR hl0 hok hk0
  go_enter Try.func8, Try.ntmps8
  go_wp2_with fail
  generalize w.alloc (.cells #[.slice A n.inn.length c, .slice N n.nodes.length d] 26) = w1 at *
  refine (price_of A N c d n w1 Hok.out (HR.out.below Hl0.out (Nat.le_refl _)) hd hsm).mono ?_
  rintro e w2 ⟨hb2, ⟨hc, g, g2, rfl, hg, hg2⟩ | ⟨hc, rfl⟩⟩
  all_goals
    have hl2 := Hl0.out.call hb2
    have hk2 := (show Later w1 w2 from hb2).blk Hk0.out
    clear hb2
  rotate_left
  · have q0 : (Nt.check n != 0) = true := by simp [hc]
    have Hl2 := Lib.hid hl2
    have Hk2 := Lib.hid hk2
    have Hc := Lib.hid hc
    clear hl2 hk2 hc
    go_wp2_with fail
    go_ret3
    exact ⟨Hl2.out.alloc _, .inr (.inr ⟨Hc.out, rfl⟩)⟩
  have hwl := Nt.words_len hc
  have hcl : (Nt.costs n).length = n.nodes.length + 1 := by simp [Nt.costs, Nt.costsTo_len]
  have hx2 : Later w2 (w2.alloc (.cells #[.slice (some ⟨g, 0, none⟩) (n.nodes.length + 1) (n.nodes.length + 1), .slice (some ⟨g2, 0, none⟩) (n.nodes.length + 1) (n.nodes.length + 1), .int .i64 (Nt.total n)] 48)) := (Later.refl w2).alloc _
  have hb3 := Blk.new w2 48 #[.slice (some ⟨g, 0, none⟩) (n.nodes.length + 1) (n.nodes.length + 1), .slice (some ⟨g2, 0, none⟩) (n.nodes.length + 1) (n.nodes.length + 1), .int .i64 (Nt.total n)]
  have hk3 := hx2.blk hk2
  have hg3 := hx2.blk hg
  have hg23 := hx2.blk hg2
  have hl3 := hl2.trans hx2
  have x0 : (w2.alloc (.cells #[.slice (some ⟨g, 0, none⟩) (n.nodes.length + 1) (n.nodes.length + 1), .slice (some ⟨g2, 0, none⟩) (n.nodes.length + 1) (n.nodes.length + 1), .int .i64 (Nt.total n)] 48)).cell? ⟨w.heap.size, 0, none⟩ = some (.slice A n.inn.length c) := by rw [hk3.cell]; rfl
  have x1 : (w2.alloc (.cells #[.slice (some ⟨g, 0, none⟩) (n.nodes.length + 1) (n.nodes.length + 1), .slice (some ⟨g2, 0, none⟩) (n.nodes.length + 1) (n.nodes.length + 1), .int .i64 (Nt.total n)] 48)).cell? ⟨w.heap.size, 1, none⟩ = some (.slice N n.nodes.length d) := by rw [hk3.cell]; rfl
  have q0 : (Nt.check n != 0) = false := by simp [hc]
  have hx0 := Lib.hid x0
  have hx1 := Lib.hid x1
  clear x0 x1
  have Hl2 := Lib.hid hl2
  have Hk2 := Lib.hid hk2
  have Hc := Lib.hid hc
  have Hwl := Lib.hid hwl
  have Hcl := Lib.hid hcl
  have Hx2 := Lib.hid hx2
  have Hb3 := Lib.hid hb3
  have Hk3 := Lib.hid hk3
  have Hg3 := Lib.hid hg3
  have Hg23 := Lib.hid hg23
  have Hl3 := Lib.hid hl3
  have Hg := Lib.hid hg
  have Hg2 := Lib.hid hg2
  clear hl2 hk2 hc hwl hcl hx2 hb3 hk3 hg3 hg23 hl3 hg hg2
  go_upto_region 4 with fail
  generalize w2.alloc (.cells #[.slice (some ⟨g, 0, none⟩) (n.nodes.length + 1) (n.nodes.length + 1), .slice (some ⟨g2, 0, none⟩) (n.nodes.length + 1) (n.nodes.length + 1), .int .i64 (Nt.total n)] 48) = w3 at *
  have x0 := hx0.out
  have x1 := hx1.out
  generalize w2.heap.size = pb at *
  clear hx0 hx1 Hx2 Hg Hg2 Hk2
  go_wp2_with fail
  refine (net_chain A N c d n w3 Hok.out (HR.out.below Hl3.out (Nat.le_refl _)) hd).mono ?_
  rintro e w4 ⟨rfl, hb4⟩
  have h34 : Later w3 w4 := hb4
  have hl4 := Hl3.out.trans h34
  have hk4 := h34.blk Hk3.out
  have y0 := h34.cell x0
  have y1 := h34.cell x1
  clear hb4 x0 x1
  by_cases hch : Nt.chain n = true
  rotate_left
  · have hch : Nt.chain n = false := by simpa using hch
    rw [hch]
    have Hch := Lib.hid hch
    have H34 := Lib.hid h34
    have Hl4 := Lib.hid hl4
    have Hk4 := Lib.hid hk4
    clear hch h34 hl4 hk4
    go_wp2_with fail
    go_ret3
    exact ⟨Hl4.out, .inr (.inl ⟨Hc.out, Hch.out, rfl⟩)⟩
  rw [hch]
  have Hch := Lib.hid hch
  have H34 := Lib.hid h34
  have Hl4 := Lib.hid hl4
  have Hk4 := Lib.hid hk4
  clear hch h34 hl4 hk4
  go_wp2_with fail
  refine (net_order A N c d n w4 Hok.out (HR.out.below Hl4.out (Nat.le_refl _)) hd).mono ?_
  rintro e w5 ⟨hb5, ⟨-, O, oc, rfl, hO, -, -⟩ | ⟨hc', -⟩⟩
  rotate_left
  · exact absurd Hc.out hc'
  have h35 := H34.out.call hb5
  have hl5 := Hl3.out.trans h35
  have hp5 := h35.blk Hb3.out
  have hg5 := h35.blk Hg3.out
  have hg25 := h35.blk Hg23.out
  have hso : (Nt.sorted n.nodes).length = n.nodes.length := (Nt.check_ok Hc.out).2.2.2.2.1
  have hrng : ∀ u ∈ Nt.sorted n.nodes, 1 ≤ u ∧ u ≤ n.nodes.length := Kn.order_rng _ _
  have hcw : Nt.chainW n = Nt.wAt n 0 :: (Nt.sorted n.nodes).map (Nt.wAt n) := rfl
  have hcc : Nt.chainC n = (Nt.sorted n.nodes).map (Nt.cAt n) := rfl
  have hwat : ∀ (W : World), Later w5 W → ∀ u : Nat, u ≤ n.nodes.length → W.cell? ⟨g, u, none⟩ = some (.int .i64 (Nt.wAt n u)) := fun W h u hu => by
    have e : (Nt.words n)[u]? = some (Nt.wAt n u) := by unfold Nt.wAt; rw [Int.toNat_natCast, List.getD_eq_getElem?_getD, List.getElem?_eq_getElem (by rw [Hwl.out]; omega)]; rfl
    rw [(h.blk hg5).cell]; simp [intV, e]
  have hcat : ∀ (W : World), Later w5 W → ∀ u : Nat, u ≤ n.nodes.length → W.cell? ⟨g2, u, none⟩ = some (.int .i64 (Nt.cAt n u)) := fun W h u hu => by
    have e : (Nt.costs n)[u]? = some (Nt.cAt n u) := by unfold Nt.cAt; rw [Int.toNat_natCast, List.getD_eq_getElem?_getD, List.getElem?_eq_getElem (by rw [Hcl.out]; omega)]; rfl
    rw [(h.blk hg25).cell]; simp [intV, e]
  have z0 : w5.cell? ⟨pb, 0, none⟩ = some (.slice (some ⟨g, 0, none⟩) (n.nodes.length + 1) (n.nodes.length + 1)) := by rw [hp5.cell]; rfl
  have z1 : w5.cell? ⟨g, 0, none⟩ = some (.int .i64 (Nt.wAt n 0)) := hwat w5 (Later.refl _) 0 (Nat.zero_le _)
  clear hb5 y0 y1
  generalize Nt.sorted n.nodes = os at *
  have hown0 : (w5.alloc (.cells #[.int .i64 (Nt.wAt n 0)] 3)).ownsRow w5.heap.size 3 1 (.slice (some ⟨w5.heap.size, 0, none⟩) 1 1) (0 + 1) (intV (Nt.wAt n 0 :: (os.take 0).map (Nt.wAt n))) := ⟨rfl, .inr ⟨w5.heap.size, 1, #[.int .i64 (Nt.wAt n 0)], rfl, Nat.le_refl _, heap_alloc_new w5 _, Nat.le_refl _, by decide, rfl, rfl⟩⟩
  have hl5a : Later w5 (w5.alloc (.cells #[.int .i64 (Nt.wAt n 0)] 3)) := (Later.refl w5).alloc _
  have hle : (n.nodes.length : Int) = os.length := by omega
  have hos : os.length ≤ 200 := by omega
  rw [show n.nodes.length + 1 = os.length + 1 by omega] at z0
  have hnn : n.nodes.length = os.length := by omega
  clear hle
  rw [hnn]
  have H35 := Lib.hid h35
  have Hl5 := Lib.hid hl5
  have Hp5 := Lib.hid hp5
  have Hg5 := Lib.hid hg5
  have Hg25 := Lib.hid hg25
  have Hso := Lib.hid hso
  have Hrng := Lib.hid hrng
  have Hcw := Lib.hid hcw
  have Hcc := Lib.hid hcc
  have Hwat := Lib.hid hwat
  have Hcat := Lib.hid hcat
  have Hown0 := Lib.hid hown0
  have Hl5a := Lib.hid hl5a
  have HO := Lib.hid hO
  have Hnn := Lib.hid hnn
  clear h35 hl5 hp5 hg5 hg25 hso hrng hcw hcc hwat hcat hown0 hl5a hO hnn
  go_wp2_with fail
  go_loopw [2, 3, 35] (fun v u i wx => ∃ k : Nat, k ≤ os.length ∧ i = .int .i64 (k : Int) ∧ wx.ownsRow w5.heap.size 3 1 v (k + 1) (intV (Nt.wAt n 0 :: (os.take k).map (Nt.wAt n))) ∧ wx.ownsRow w5.heap.size 3 1 u k (intV ((os.take k).map (Nt.cAt n))) ∧ Apart v u ∧ Later w5 wx) (fun _ _ i _ => os.length - (intOf i).toNat)
  case atStart => exact ⟨0, Nat.zero_le _, rfl, Hown0.out, by simpa [intV] using World.ownsRow_nil _ w5.heap.size 3 1, fun b _ h => by simp [Value.ownBlock] at h, Hl5a.out⟩
  case round =>
    obtain ⟨k, hk, rfl, hov, hou, hap, hlw⟩ := hrel
    obtain ⟨Av, cv, rfl⟩ := own_form hov
    obtain ⟨Au, cu, rfl⟩ := own_form hou
    clear Hown0 Hl5a z1
    by_cases hlt : k < os.length
    · obtain ⟨b, off, rfl, -, hc0⟩ := HO.out k hlt
      rw [getD_at hlt] at hc0
      have hc1 := hlw.cell hc0
      have hr := Hrng.out _ (List.getElem_mem hlt)
      have hs1 : intV (Nt.wAt n 0 :: (os.take (k + 1)).map (Nt.wAt n)) = intV (Nt.wAt n 0 :: (os.take k).map (Nt.wAt n)) ++ [.int .i64 (Nt.wAt n os[k])] := by rw [List.take_succ_eq_append_getElem hlt, List.map_append, List.map_singleton, ← List.cons_append, intV_snoc]
      have hs2 : intV ((os.take (k + 1)).map (Nt.cAt n)) = intV ((os.take k).map (Nt.cAt n)) ++ [.int .i64 (Nt.cAt n os[k])] := by rw [List.take_succ_eq_append_getElem hlt, List.map_append, List.map_singleton, intV_snoc]
      obtain ⟨j, hj⟩ : ∃ j : Nat, os[k] = (j : Int) := ⟨os[k].toNat, by omega⟩
      rw [hj] at hs1 hs2 hc1
      have hjn : j ≤ n.nodes.length := by omega
      have q1 := Hwat.out wr hlw j hjn
      have p0 := hlw.cell z0
      have j0 : (0 : Int) ≤ (j : Int) := by omega
      have hjo : j ≤ os.length := by rw [← Hnn.out]; exact hjn
      have j1 : (j : Int) < (os.length : Int) + 1 := by omega
      generalize Nt.wAt n (j : Int) = wj at *
      have hcj : ∀ (W : World), Later w5 W → W.cell? ⟨g2, j, none⟩ = some (.int .i64 (Nt.cAt n j)) := fun W h => Hcat.out W h j hjn
      generalize Nt.cAt n (j : Int) = cj at *
      generalize intV (Nt.wAt n 0 :: (os.take k).map (Nt.wAt n)) = ws at *
      generalize intV ((os.take k).map (Nt.cAt n)) = cs at *
      have hsz0 := hlw.size
      have Hov := Lib.hid hov
      have Hou := Lib.hid hou
      have Hap := Lib.hid hap
      have Hlw := Lib.hid hlw
      have Hs1 := Lib.hid hs1
      have Hs2 := Lib.hid hs2
      have Hcj := Lib.hid hcj
      clear hov hou hap hlw hs1 hs2 hcj
      clear hc0 hr hj hjn
      have ho := ownsRow_new Hov.out (.cells #[.int .i64 wj] 3)
      have hbx := Hlw.out.alloc (.cells #[.int .i64 wj] 3)
      have hou1 := ownsRow_new Hou.out (.cells #[.int .i64 wj] 3)
      have Hbx := Lib.hid hbx
      have Hou1 := Lib.hid hou1
      clear hbx hou1
      have HLO := Lib.hid (fun b (hb : (Value.slice Av (k + 1) cv).ownBlock = some b) => (Hov.out.lt b hb).1)
      go_wp2_with (at_builtin; refine wpList_append_own_at _ rfl _ _ 22 rfl w5.heap.size 3 i0 (.int .i64 0) 1 8 Try.underlying22 hi hz0 hz1 hz2 rfl (by decide) _ _ _ rfl ho ⟨wr.heap.size, 0, none⟩ 1 1 [.int .i64 wj] rfl rfl ?c1 (by intro u hu; simp at hu; subst hu; rfl) (by unfold maxLen; omega) (by omega) ?c2 ?_)
      first | (case c1 => exact one_new wr _ _) | skip
      case c2 => simp; omega
      intro v' w6 hown' hgrow _ hat
      have hl6 : Later w5 w6 := Below.grown Hbx.out hgrow (by simp; omega) (fun b hb => HLO.out b hb)
      have hou6 := own_other Hou1.out hgrow Hap.out
      have hap6 := Apart.next Hap.out Hou1.out (by rw [World.size_alloc]; exact hat)
      rw [← Hs1.out] at hown'
      obtain ⟨A7, c7, rfl⟩ := own_form hown'
      have q2 := Hcj.out w6 hl6
      have hp6 := hl6.blk Hp5.out
      have p1 : w6.cell? ⟨pb, 1, none⟩ = some (.slice (some ⟨g2, 0, none⟩) (n.nodes.length + 1) (n.nodes.length + 1)) := by rw [hp6.cell]; rfl
      rw [Hnn.out] at p1
      have hsz6 := hl6.size
      clear q1 p0 hgrow hat ho HLO
      have ho2 := ownsRow_new hou6 (.cells #[.int .i64 cj] 3)
      have hbx2 := hl6.alloc (.cells #[.int .i64 cj] 3)
      have hov2 := ownsRow_new hown' (.cells #[.int .i64 cj] 3)
      have HLO2 := Lib.hid (fun b (hb : (Value.slice Au k cu).ownBlock = some b) => (hou6.lt b hb).1)
      have Hl6 := Lib.hid hl6
      have Hap6 := Lib.hid hap6
      have Hown' := Lib.hid hown'
      have Hp6 := Lib.hid hp6
      have Hbx2 := Lib.hid hbx2
      have Hov2 := Lib.hid hov2
      have Hou6 := Lib.hid hou6
      clear hl6 hap6 hown' hp6 hbx2 hov2 hou6
      go_wp2_with (at_builtin; refine wpList_append_own_at _ rfl _ _ 22 rfl w5.heap.size 3 i0 (.int .i64 0) 1 8 Try.underlying22 hi hz0 hz1 hz2 rfl (by decide) _ _ _ rfl ho2 ⟨w6.heap.size, 0, none⟩ 1 1 [.int .i64 cj] rfl rfl ?c1 (by intro u hu; simp at hu; subst hu; rfl) (by unfold maxLen; omega) (by omega) ?c2 ?_)
      first | (case c1 => exact one_new w6 _ _) | skip
      case c2 => simp; omega
      intro u' w7 hown2 hgrow2 _ hat2
      have hl7 : Later w5 w7 := Below.grown Hbx2.out hgrow2 (by simp; omega) (fun b hb => HLO2.out b hb)
      have hov7 := own_other Hov2.out hgrow2 Hap6.out.symm
      have hap7 := (Apart.next Hap6.out.symm Hov2.out (by rw [World.size_alloc]; exact hat2)).symm
      rw [← Hs2.out] at hown2
      have Hl7 := Lib.hid hl7
      have Hov7 := Lib.hid hov7
      have Hap7 := Lib.hid hap7
      have Hown2 := Lib.hid hown2
      clear hl7 hov7 hap7 hown2
      clear q2 p1 hgrow2 hat2 ho2 HLO2
      go_wp2_with fail
      go_roundw
      case rel => exact ⟨k + 1, by omega, by go_num, Hov7.out, Hown2.out, Hap7.out, Hl7.out⟩
      case measure => simp [intOf]; omega
    · obtain rfl : k = os.length := by omega
      rw [List.take_length] at hov hou
      rw [← Hcw.out] at hov
      rw [← Hcc.out] at hou
      have l1 : (Nt.chainW n).length = os.length + 1 := by rw [Hcw.out]; simp
      have l2 : (Nt.chainC n).length = os.length := by rw [Hcc.out]; simp
      have r1 : Ints .i64 wr Av (Nt.chainW n) := by
        rw [← l1] at hov
        exact (own_ints hov).1
      have r2 : Ints .i64 wr Au (Nt.chainC n) := by
        rw [← l2] at hou
        exact (own_ints hou).1
      have hl := Hl5.out.trans hlw
      have Hov := Lib.hid hov
      have Hou := Lib.hid hou
      have Hap := Lib.hid hap
      have Hl1 := Lib.hid l1
      have Hl2 := Lib.hid l2
      have Hr1 := Lib.hid r1
      have Hr2 := Lib.hid r2
      have Hl := Lib.hid hl
      have Hlw := Lib.hid hlw
      clear hov hou hap l1 l2 r1 r2 hl hlw
      clear z0
      go_wp2_with fail
      go_ret3
      exact ⟨Hl.out, .inl ⟨Hc.out, Hch.out, Av, cv, Au, cu, by (rw [Hnn.out] <;> rfl), Hr1.out, Hr2.out⟩⟩
end Go.Proofs.Ytjkhpbngpceenab
/- Layer 13's statements: the fixed answer. -/
namespace Go.Proofs.Ytjkhpbngpceenab
open Go.RowKit
def ap0 : NetD := ⟨[3], [⟨⟨8, 0, 0, 0, 0, 0, 0, []⟩, [0], [[2, 3], [2]]⟩, ⟨⟨12, 0, 2, 1, 0, 0, 0, []⟩, [1], []⟩]⟩
def ap1 : NetD := ⟨[], []⟩
theorem ap0_check : Nt.check ap0 = 0 := by decide +kernel
theorem ap1_check : Nt.check ap1 = 12 := by decide +kernel
theorem ap0_words : Nt.words ap0 = [3, 2, 1] := by decide +kernel
theorem ap0_costs : Nt.costs ap0 = [0, 6, 2] := by decide +kernel
theorem ap0_total : Nt.total ap0 = 8 := by decide +kernel
theorem ap0_chain : Nt.chain ap0 = true := by decide +kernel
theorem ap0_cw : Nt.chainW ap0 = [3, 2, 1] := by decide +kernel
theorem ap0_cc : Nt.chainC ap0 = [6, 2] := by decide +kernel
theorem ap0_peak : Nt.peak ap0 = 9 := by decide +kernel
theorem ap0_par : Nt.parW ap0 = 8 := by decide +kernel
theorem ap0_ok : ap0.ok := by
  refine ⟨by decide, by decide, fun v hv => ?_⟩
  simp [ap0] at hv
  rcases hv with rfl | rfl <;> exact ⟨by intro z hz; simp at hz; omega, by decide, by decide, by decide, by intro s hs; simp at hs; try (rcases hs with rfl | rfl <;> simp), by intro z hz; simp at hz; omega⟩
theorem ap0_len : ap0.nodes.length ≤ 2 := by decide
theorem ap0_small : ap0.nodes.length ≤ 200 := by decide
theorem ap1_ok : ap1.ok := ⟨by decide, by decide, fun v hv => by simp [ap1] at hv⟩
theorem Blk.intsL {w : World} {g : Nat} {t : TypeId} (l : List Int) (h : Blk w g t (l.map (Value.int .i64)).toArray) : Ints .i64 w (some ⟨g, 0, none⟩) l := Ints.of_row fun j hj => by
  rw [Nat.zero_add, h.cell]
  simp [hj]
theorem ap0_net {W : World} {p q r s h m g : Nat} (hp : Blk W p 3 #[.int .i64 3]) (hq : Blk W q 3 #[.int .i64 0]) (hr : Blk W r 3 #[.int .i64 2, .int .i64 3]) (hs : Blk W s 3 #[.int .i64 2])
    (hh : Blk W h 23 #[.slice (some ⟨r, 0, none⟩) 2 2, .slice (some ⟨s, 0, none⟩) 1 1]) (hm : Blk W m 3 #[.int .i64 1])
    (hg : Blk W g 46 #[.int .i64 8, .int .i64 0, .int .i64 0, .int .i64 0, .int .i64 0, .int .i64 0, .int .i64 0, .slice none 0 0, .slice (some ⟨q, 0, none⟩) 1 1, .slice (some ⟨h, 0, none⟩) 2 2, .int .i64 12, .int .i64 0, .int .i64 2, .int .i64 1, .int .i64 0, .int .i64 0, .int .i64 0, .slice none 0 0, .slice (some ⟨m, 0, none⟩) 1 1, .slice none 0 0]) :
    NetR W (some ⟨p, 0, none⟩) (some ⟨g, 0, none⟩) ap0 := by
  refine ⟨hp.intsL [3], fun j hj => ?_⟩
  have hj2 : j = 0 ∨ j = 1 := by simp [ap0] at hj; omega
  rcases hj2 with rfl | rfl
  · refine ⟨g, 0, none, 0, some ⟨q, 0, none⟩, 1, some ⟨h, 0, none⟩, 2, rfl, hg.lt, hg.cell 0, hg.cell 1, hg.cell 2, hg.cell 3, hg.cell 4, hg.cell 5, hg.cell 6, hg.cell 7, hg.cell 8, hg.cell 9, ⟨Ints.nil, by simp [ap0], by omega⟩, ⟨hq.intsL [0], by simp [ap0], by omega⟩, fun k hk => ?_, by simp [ap0], by omega⟩
    have hk2 : k = 0 ∨ k = 1 := by simp [ap0] at hk; omega
    rcases hk2 with rfl | rfl
    · exact ⟨h, 0, some ⟨r, 0, none⟩, 2, rfl, hh.lt, hh.cell 0, hr.intsL [2, 3], by simp [ap0], by omega⟩
    · exact ⟨h, 0, some ⟨s, 0, none⟩, 1, rfl, hh.lt, hh.cell 1, hs.intsL [2], by simp [ap0], by omega⟩
  · exact ⟨g, 0, none, 0, some ⟨m, 0, none⟩, 1, none, 0, rfl, hg.lt, hg.cell 10, hg.cell 11, hg.cell 12, hg.cell 13, hg.cell 14, hg.cell 15, hg.cell 16, hg.cell 17, hg.cell 18, hg.cell 19, ⟨Ints.nil, by simp [ap0], by omega⟩, ⟨hm.intsL [1], by simp [ap0], by omega⟩, Shps.nil, by simp [ap0], by omega⟩
theorem ap_start (w : World) : NetR ((((((((w.alloc (.cells #[.int .i64 3] 3)).alloc (.cells #[.int .i64 0] 3)).alloc (.cells #[.int .i64 2, .int .i64 3] 3)).alloc (.cells #[.int .i64 2] 3)).alloc (.cells #[.slice (some ⟨w.heap.size + 1 + 1, 0, none⟩) 2 2, .slice (some ⟨w.heap.size + 1 + 1 + 1, 0, none⟩) 1 1] 23)).alloc (.cells #[.int .i64 1] 3)).alloc (.cells #[.int .i64 8, .int .i64 0, .int .i64 0, .int .i64 0, .int .i64 0, .int .i64 0, .int .i64 0, .slice none 0 0, .slice (some ⟨w.heap.size + 1, 0, none⟩) 1 1, .slice (some ⟨w.heap.size + 1 + 1 + 1 + 1, 0, none⟩) 2 2, .int .i64 12, .int .i64 0, .int .i64 2, .int .i64 1, .int .i64 0, .int .i64 0, .int .i64 0, .slice none 0 0, .slice (some ⟨w.heap.size + 1 + 1 + 1 + 1 + 1, 0, none⟩) 1 1, .slice none 0 0] 46)).alloc (.cells #[.slice (some ⟨w.heap.size, 0, none⟩) 1 1, .slice (some ⟨w.heap.size + 1 + 1 + 1 + 1 + 1 + 1, 0, none⟩) 2 2] 26)) (some ⟨w.heap.size, 0, none⟩) (some ⟨w.heap.size + 1 + 1 + 1 + 1 + 1 + 1, 0, none⟩) ap0 ∧ Blk ((((((((w.alloc (.cells #[.int .i64 3] 3)).alloc (.cells #[.int .i64 0] 3)).alloc (.cells #[.int .i64 2, .int .i64 3] 3)).alloc (.cells #[.int .i64 2] 3)).alloc (.cells #[.slice (some ⟨w.heap.size + 1 + 1, 0, none⟩) 2 2, .slice (some ⟨w.heap.size + 1 + 1 + 1, 0, none⟩) 1 1] 23)).alloc (.cells #[.int .i64 1] 3)).alloc (.cells #[.int .i64 8, .int .i64 0, .int .i64 0, .int .i64 0, .int .i64 0, .int .i64 0, .int .i64 0, .slice none 0 0, .slice (some ⟨w.heap.size + 1, 0, none⟩) 1 1, .slice (some ⟨w.heap.size + 1 + 1 + 1 + 1, 0, none⟩) 2 2, .int .i64 12, .int .i64 0, .int .i64 2, .int .i64 1, .int .i64 0, .int .i64 0, .int .i64 0, .slice none 0 0, .slice (some ⟨w.heap.size + 1 + 1 + 1 + 1 + 1, 0, none⟩) 1 1, .slice none 0 0] 46)).alloc (.cells #[.slice (some ⟨w.heap.size, 0, none⟩) 1 1, .slice (some ⟨w.heap.size + 1 + 1 + 1 + 1 + 1 + 1, 0, none⟩) 2 2] 26)) (w.heap.size + 1 + 1 + 1 + 1 + 1 + 1 + 1) 26 #[.slice (some ⟨w.heap.size, 0, none⟩) 1 1, .slice (some ⟨w.heap.size + 1 + 1 + 1 + 1 + 1 + 1, 0, none⟩) 2 2] ∧ Later w ((((((((w.alloc (.cells #[.int .i64 3] 3)).alloc (.cells #[.int .i64 0] 3)).alloc (.cells #[.int .i64 2, .int .i64 3] 3)).alloc (.cells #[.int .i64 2] 3)).alloc (.cells #[.slice (some ⟨w.heap.size + 1 + 1, 0, none⟩) 2 2, .slice (some ⟨w.heap.size + 1 + 1 + 1, 0, none⟩) 1 1] 23)).alloc (.cells #[.int .i64 1] 3)).alloc (.cells #[.int .i64 8, .int .i64 0, .int .i64 0, .int .i64 0, .int .i64 0, .int .i64 0, .int .i64 0, .slice none 0 0, .slice (some ⟨w.heap.size + 1, 0, none⟩) 1 1, .slice (some ⟨w.heap.size + 1 + 1 + 1 + 1, 0, none⟩) 2 2, .int .i64 12, .int .i64 0, .int .i64 2, .int .i64 1, .int .i64 0, .int .i64 0, .int .i64 0, .slice none 0 0, .slice (some ⟨w.heap.size + 1 + 1 + 1 + 1 + 1, 0, none⟩) 1 1, .slice none 0 0] 46)).alloc (.cells #[.slice (some ⟨w.heap.size, 0, none⟩) 1 1, .slice (some ⟨w.heap.size + 1 + 1 + 1 + 1 + 1 + 1, 0, none⟩) 2 2] 26)) := by
  have k0 := (((((((Blk.new w 3 #[.int .i64 3]).alloc (.cells #[.int .i64 0] 3)).alloc (.cells #[.int .i64 2, .int .i64 3] 3)).alloc (.cells #[.int .i64 2] 3)).alloc (.cells #[.slice (some ⟨w.heap.size + 1 + 1, 0, none⟩) 2 2, .slice (some ⟨w.heap.size + 1 + 1 + 1, 0, none⟩) 1 1] 23)).alloc (.cells #[.int .i64 1] 3)).alloc (.cells #[.int .i64 8, .int .i64 0, .int .i64 0, .int .i64 0, .int .i64 0, .int .i64 0, .int .i64 0, .slice none 0 0, .slice (some ⟨w.heap.size + 1, 0, none⟩) 1 1, .slice (some ⟨w.heap.size + 1 + 1 + 1 + 1, 0, none⟩) 2 2, .int .i64 12, .int .i64 0, .int .i64 2, .int .i64 1, .int .i64 0, .int .i64 0, .int .i64 0, .slice none 0 0, .slice (some ⟨w.heap.size + 1 + 1 + 1 + 1 + 1, 0, none⟩) 1 1, .slice none 0 0] 46)).alloc (.cells #[.slice (some ⟨w.heap.size, 0, none⟩) 1 1, .slice (some ⟨w.heap.size + 1 + 1 + 1 + 1 + 1 + 1, 0, none⟩) 2 2] 26)
  have k1 := ((((((Blk.new (w.alloc (.cells #[.int .i64 3] 3)) 3 #[.int .i64 0]).alloc (.cells #[.int .i64 2, .int .i64 3] 3)).alloc (.cells #[.int .i64 2] 3)).alloc (.cells #[.slice (some ⟨w.heap.size + 1 + 1, 0, none⟩) 2 2, .slice (some ⟨w.heap.size + 1 + 1 + 1, 0, none⟩) 1 1] 23)).alloc (.cells #[.int .i64 1] 3)).alloc (.cells #[.int .i64 8, .int .i64 0, .int .i64 0, .int .i64 0, .int .i64 0, .int .i64 0, .int .i64 0, .slice none 0 0, .slice (some ⟨w.heap.size + 1, 0, none⟩) 1 1, .slice (some ⟨w.heap.size + 1 + 1 + 1 + 1, 0, none⟩) 2 2, .int .i64 12, .int .i64 0, .int .i64 2, .int .i64 1, .int .i64 0, .int .i64 0, .int .i64 0, .slice none 0 0, .slice (some ⟨w.heap.size + 1 + 1 + 1 + 1 + 1, 0, none⟩) 1 1, .slice none 0 0] 46)).alloc (.cells #[.slice (some ⟨w.heap.size, 0, none⟩) 1 1, .slice (some ⟨w.heap.size + 1 + 1 + 1 + 1 + 1 + 1, 0, none⟩) 2 2] 26)
  have k2 := (((((Blk.new ((w.alloc (.cells #[.int .i64 3] 3)).alloc (.cells #[.int .i64 0] 3)) 3 #[.int .i64 2, .int .i64 3]).alloc (.cells #[.int .i64 2] 3)).alloc (.cells #[.slice (some ⟨w.heap.size + 1 + 1, 0, none⟩) 2 2, .slice (some ⟨w.heap.size + 1 + 1 + 1, 0, none⟩) 1 1] 23)).alloc (.cells #[.int .i64 1] 3)).alloc (.cells #[.int .i64 8, .int .i64 0, .int .i64 0, .int .i64 0, .int .i64 0, .int .i64 0, .int .i64 0, .slice none 0 0, .slice (some ⟨w.heap.size + 1, 0, none⟩) 1 1, .slice (some ⟨w.heap.size + 1 + 1 + 1 + 1, 0, none⟩) 2 2, .int .i64 12, .int .i64 0, .int .i64 2, .int .i64 1, .int .i64 0, .int .i64 0, .int .i64 0, .slice none 0 0, .slice (some ⟨w.heap.size + 1 + 1 + 1 + 1 + 1, 0, none⟩) 1 1, .slice none 0 0] 46)).alloc (.cells #[.slice (some ⟨w.heap.size, 0, none⟩) 1 1, .slice (some ⟨w.heap.size + 1 + 1 + 1 + 1 + 1 + 1, 0, none⟩) 2 2] 26)
  have k3 := ((((Blk.new (((w.alloc (.cells #[.int .i64 3] 3)).alloc (.cells #[.int .i64 0] 3)).alloc (.cells #[.int .i64 2, .int .i64 3] 3)) 3 #[.int .i64 2]).alloc (.cells #[.slice (some ⟨w.heap.size + 1 + 1, 0, none⟩) 2 2, .slice (some ⟨w.heap.size + 1 + 1 + 1, 0, none⟩) 1 1] 23)).alloc (.cells #[.int .i64 1] 3)).alloc (.cells #[.int .i64 8, .int .i64 0, .int .i64 0, .int .i64 0, .int .i64 0, .int .i64 0, .int .i64 0, .slice none 0 0, .slice (some ⟨w.heap.size + 1, 0, none⟩) 1 1, .slice (some ⟨w.heap.size + 1 + 1 + 1 + 1, 0, none⟩) 2 2, .int .i64 12, .int .i64 0, .int .i64 2, .int .i64 1, .int .i64 0, .int .i64 0, .int .i64 0, .slice none 0 0, .slice (some ⟨w.heap.size + 1 + 1 + 1 + 1 + 1, 0, none⟩) 1 1, .slice none 0 0] 46)).alloc (.cells #[.slice (some ⟨w.heap.size, 0, none⟩) 1 1, .slice (some ⟨w.heap.size + 1 + 1 + 1 + 1 + 1 + 1, 0, none⟩) 2 2] 26)
  have k4 := (((Blk.new ((((w.alloc (.cells #[.int .i64 3] 3)).alloc (.cells #[.int .i64 0] 3)).alloc (.cells #[.int .i64 2, .int .i64 3] 3)).alloc (.cells #[.int .i64 2] 3)) 23 #[.slice (some ⟨w.heap.size + 1 + 1, 0, none⟩) 2 2, .slice (some ⟨w.heap.size + 1 + 1 + 1, 0, none⟩) 1 1]).alloc (.cells #[.int .i64 1] 3)).alloc (.cells #[.int .i64 8, .int .i64 0, .int .i64 0, .int .i64 0, .int .i64 0, .int .i64 0, .int .i64 0, .slice none 0 0, .slice (some ⟨w.heap.size + 1, 0, none⟩) 1 1, .slice (some ⟨w.heap.size + 1 + 1 + 1 + 1, 0, none⟩) 2 2, .int .i64 12, .int .i64 0, .int .i64 2, .int .i64 1, .int .i64 0, .int .i64 0, .int .i64 0, .slice none 0 0, .slice (some ⟨w.heap.size + 1 + 1 + 1 + 1 + 1, 0, none⟩) 1 1, .slice none 0 0] 46)).alloc (.cells #[.slice (some ⟨w.heap.size, 0, none⟩) 1 1, .slice (some ⟨w.heap.size + 1 + 1 + 1 + 1 + 1 + 1, 0, none⟩) 2 2] 26)
  have k5 := ((Blk.new (((((w.alloc (.cells #[.int .i64 3] 3)).alloc (.cells #[.int .i64 0] 3)).alloc (.cells #[.int .i64 2, .int .i64 3] 3)).alloc (.cells #[.int .i64 2] 3)).alloc (.cells #[.slice (some ⟨w.heap.size + 1 + 1, 0, none⟩) 2 2, .slice (some ⟨w.heap.size + 1 + 1 + 1, 0, none⟩) 1 1] 23)) 3 #[.int .i64 1]).alloc (.cells #[.int .i64 8, .int .i64 0, .int .i64 0, .int .i64 0, .int .i64 0, .int .i64 0, .int .i64 0, .slice none 0 0, .slice (some ⟨w.heap.size + 1, 0, none⟩) 1 1, .slice (some ⟨w.heap.size + 1 + 1 + 1 + 1, 0, none⟩) 2 2, .int .i64 12, .int .i64 0, .int .i64 2, .int .i64 1, .int .i64 0, .int .i64 0, .int .i64 0, .slice none 0 0, .slice (some ⟨w.heap.size + 1 + 1 + 1 + 1 + 1, 0, none⟩) 1 1, .slice none 0 0] 46)).alloc (.cells #[.slice (some ⟨w.heap.size, 0, none⟩) 1 1, .slice (some ⟨w.heap.size + 1 + 1 + 1 + 1 + 1 + 1, 0, none⟩) 2 2] 26)
  have k6 := (Blk.new ((((((w.alloc (.cells #[.int .i64 3] 3)).alloc (.cells #[.int .i64 0] 3)).alloc (.cells #[.int .i64 2, .int .i64 3] 3)).alloc (.cells #[.int .i64 2] 3)).alloc (.cells #[.slice (some ⟨w.heap.size + 1 + 1, 0, none⟩) 2 2, .slice (some ⟨w.heap.size + 1 + 1 + 1, 0, none⟩) 1 1] 23)).alloc (.cells #[.int .i64 1] 3)) 46 #[.int .i64 8, .int .i64 0, .int .i64 0, .int .i64 0, .int .i64 0, .int .i64 0, .int .i64 0, .slice none 0 0, .slice (some ⟨w.heap.size + 1, 0, none⟩) 1 1, .slice (some ⟨w.heap.size + 1 + 1 + 1 + 1, 0, none⟩) 2 2, .int .i64 12, .int .i64 0, .int .i64 2, .int .i64 1, .int .i64 0, .int .i64 0, .int .i64 0, .slice none 0 0, .slice (some ⟨w.heap.size + 1 + 1 + 1 + 1 + 1, 0, none⟩) 1 1, .slice none 0 0]).alloc (.cells #[.slice (some ⟨w.heap.size, 0, none⟩) 1 1, .slice (some ⟨w.heap.size + 1 + 1 + 1 + 1 + 1 + 1, 0, none⟩) 2 2] 26)
  have k7 := Blk.new (((((((w.alloc (.cells #[.int .i64 3] 3)).alloc (.cells #[.int .i64 0] 3)).alloc (.cells #[.int .i64 2, .int .i64 3] 3)).alloc (.cells #[.int .i64 2] 3)).alloc (.cells #[.slice (some ⟨w.heap.size + 1 + 1, 0, none⟩) 2 2, .slice (some ⟨w.heap.size + 1 + 1 + 1, 0, none⟩) 1 1] 23)).alloc (.cells #[.int .i64 1] 3)).alloc (.cells #[.int .i64 8, .int .i64 0, .int .i64 0, .int .i64 0, .int .i64 0, .int .i64 0, .int .i64 0, .slice none 0 0, .slice (some ⟨w.heap.size + 1, 0, none⟩) 1 1, .slice (some ⟨w.heap.size + 1 + 1 + 1 + 1, 0, none⟩) 2 2, .int .i64 12, .int .i64 0, .int .i64 2, .int .i64 1, .int .i64 0, .int .i64 0, .int .i64 0, .slice none 0 0, .slice (some ⟨w.heap.size + 1 + 1 + 1 + 1 + 1, 0, none⟩) 1 1, .slice none 0 0] 46)) 26 #[.slice (some ⟨w.heap.size, 0, none⟩) 1 1, .slice (some ⟨w.heap.size + 1 + 1 + 1 + 1 + 1 + 1, 0, none⟩) 2 2]
  simp only [World.size_alloc] at k1 k2 k3 k4 k5 k6 k7
  exact ⟨ap0_net k0 k1 k2 k3 k4 k5 k6, k7, (((((((((Later.refl w).alloc _).alloc _).alloc _).alloc _).alloc _).alloc _).alloc _).alloc _)⟩
set_option maxHeartbeats 8000000 in
set_option maxRecDepth 100000 in
theorem awake13 (w : World) : Calls Try.prog 7 #[] w fun e w' => e = .returned (.bool true) ∧ Below w.heap.size w w' := by
  obtain ⟨hR1, hk1, hl1⟩ := ap_start w
  have HR1 := Lib.hid hR1
  have Hk1 := Lib.hid hk1
  have Hl1 := Lib.hid hl1
  clear hR1 hk1 hl1
  go_enter Try.func7, Try.ntmps7
  go_wp2_with fail
  generalize ((((((((w.alloc (.cells #[.int .i64 3] 3)).alloc (.cells #[.int .i64 0] 3)).alloc (.cells #[.int .i64 2, .int .i64 3] 3)).alloc (.cells #[.int .i64 2] 3)).alloc (.cells #[.slice (some ⟨w.heap.size + 1 + 1, 0, none⟩) 2 2, .slice (some ⟨w.heap.size + 1 + 1 + 1, 0, none⟩) 1 1] 23)).alloc (.cells #[.int .i64 1] 3)).alloc (.cells #[.int .i64 8, .int .i64 0, .int .i64 0, .int .i64 0, .int .i64 0, .int .i64 0, .int .i64 0, .slice none 0 0, .slice (some ⟨w.heap.size + 1, 0, none⟩) 1 1, .slice (some ⟨w.heap.size + 1 + 1 + 1 + 1, 0, none⟩) 2 2, .int .i64 12, .int .i64 0, .int .i64 2, .int .i64 1, .int .i64 0, .int .i64 0, .int .i64 0, .slice none 0 0, .slice (some ⟨w.heap.size + 1 + 1 + 1 + 1 + 1, 0, none⟩) 1 1, .slice none 0 0] 46)).alloc (.cells #[.slice (some ⟨w.heap.size, 0, none⟩) 1 1, .slice (some ⟨w.heap.size + 1 + 1 + 1 + 1 + 1 + 1, 0, none⟩) 2 2] 26)) = W1 at *
  have hR1 := HR1.out
  have hk1 := Hk1.out
  have hl1 := Hl1.out
  generalize w.heap.size + 1 + 1 + 1 + 1 + 1 + 1 + 1 = b at *
  generalize w.heap.size + 1 + 1 + 1 + 1 + 1 + 1 = q at *
  clear HR1 Hk1 Hl1
  have hcall : Calls Try.prog 16 #[.agg #[.slice (some ⟨w.heap.size, 0, none⟩) 1 1, .slice (some ⟨q, 0, none⟩) 2 2]] W1 (OfP ap0 W1) := price_of (some ⟨w.heap.size, 0, none⟩) (some ⟨q, 0, none⟩) 1 2 ap0 W1 ap0_ok hR1 ap0_len ap0_small
  refine hcall.mono ?_
  intro e W2 hof
  obtain ⟨hb2, hq⟩ := hof
  rcases hq with ⟨_, g1, g2, rfl, hg1, hg2⟩ | ⟨hne, _⟩
  rotate_left
  · exact absurd ap0_check hne
  rw [ap0_words] at hg1
  rw [ap0_costs] at hg2
  rw [ap0_total, show ap0.nodes.length = 2 from rfl]
  have h2 : Later W1 (W2.alloc (.cells #[.slice (some ⟨g1, 0, none⟩) 3 3, .slice (some ⟨g2, 0, none⟩) 3 3, .int .i64 8] 48)) := (show Later W1 W2 from hb2).alloc _
  have hg1 := hg1.alloc (.cells #[.slice (some ⟨g1, 0, none⟩) 3 3, .slice (some ⟨g2, 0, none⟩) 3 3, .int .i64 8] 48)
  have hg2 := hg2.alloc (.cells #[.slice (some ⟨g1, 0, none⟩) 3 3, .slice (some ⟨g2, 0, none⟩) 3 3, .int .i64 8] 48)
  have hpx := Blk.new W2 48 #[.slice (some ⟨g1, 0, none⟩) 3 3, .slice (some ⟨g2, 0, none⟩) 3 3, .int .i64 8]
  have hk2 := h2.blk hk1
  have c0 := hk2.cell 0
  have c1 := hk2.cell 1
  simp at c0 c1
  have HR1 := Lib.hid hR1
  have Hk1 := Lib.hid hk1
  have Hl1 := Lib.hid hl1
  have H2 := Lib.hid h2
  have Hg1 := Lib.hid hg1
  have Hg2 := Lib.hid hg2
  have Hpx := Lib.hid hpx
  have Hk2 := Lib.hid hk2
  have Hc0 := Lib.hid c0
  have Hc1 := Lib.hid c1
  clear hR1 hk1 hl1 h2 hg1 hg2 hpx hk2 c0 c1
  clear hb2
  go_upto_region 3 with fail
  generalize W2.alloc (.cells #[.slice (some ⟨g1, 0, none⟩) 3 3, .slice (some ⟨g2, 0, none⟩) 3 3, .int .i64 8] 48) = W3 at *
  generalize W2.heap.size = pb at *
  have c0 := Hc0.out
  have c1 := Hc1.out
  clear Hc0 Hc1
  go_wp2_with fail
  refine (price_chain _ _ 1 2 ap0 W3 ap0_ok (HR1.out.below H2.out (Nat.le_refl _)) ap0_len ap0_small).mono ?_
  rintro e W4 ⟨hb4, ⟨-, -, A, ac, A2, ac2, rfl, hA, hA2⟩ | ⟨-, hch, -⟩ | ⟨hne, -⟩⟩
  rotate_left
  · rw [ap0_chain] at hch; cases hch
  · exact absurd ap0_check hne
  rw [ap0_cw] at hA
  rw [show ap0.nodes.length = 2 from rfl]
  have h34 : Later W3 W4 := hb4
  have d0 := h34.cell c0
  have d1 := h34.cell c1
  have H34 := Lib.hid h34
  have HA := Lib.hid hA
  have HA2 := Lib.hid hA2
  clear h34 hA hA2
  clear hb4 c0 c1
  go_wp2_with fail
  refine (price_peak _ _ 1 2 ap0 W4 ap0_ok (HR1.out.below (H2.out.trans H34.out) (Nat.le_refl _)) ap0_len ap0_small).mono ?_
  rintro e W5 ⟨rfl, hb5⟩
  rw [ap0_peak, ap0_check]
  have h45 : Later W4 W5 := hb5
  have c0 := h45.cell d0
  have c1 := h45.cell d1
  have H45 := Lib.hid h45
  clear h45
  clear hb5 d0 d1
  go_wp2_with fail
  refine (price_params _ _ 1 2 ap0 W5 ap0_ok (HR1.out.below ((H2.out.trans H34.out).trans H45.out) (Nat.le_refl _)) ap0_len ap0_small).mono ?_
  rintro e W6 ⟨rfl, hb6⟩
  rw [ap0_par, ap0_check]
  have h56 : Later W5 W6 := hb6
  have H56 := Lib.hid h56
  clear h56
  clear hb6 c0 c1
  go_wp2_with fail
  refine (price_of none none 0 0 ap1 W6 ap1_ok ⟨Ints.nil, fun j hj => by simp [ap1] at hj⟩ (by decide) (by decide)).mono ?_
  rintro e W7 ⟨hb7, ⟨hz, -⟩ | ⟨-, rfl⟩⟩
  · rw [ap1_check] at hz; cases hz
  rw [ap1_check]
  have h67 : Later W6 (W7.alloc (.cells #[.slice none 0 0, .slice none 0 0, .int .i64 0] 48)) := (show Later W6 W7 from hb7).alloc _
  have h38 := ((H34.out.trans H45.out).trans H56.out).trans h67
  have h48 := (H45.out.trans H56.out).trans h67
  have hp8 := h38.blk Hpx.out
  have c0 := hp8.cell 0
  have c1 := hp8.cell 1
  have c2 := hp8.cell 2
  simp at c0 c1 c2
  have H67 := Lib.hid h67
  have H38 := Lib.hid h38
  have H48 := Lib.hid h48
  have Hp8 := Lib.hid hp8
  have Hc0 := Lib.hid c0
  have Hc1 := Lib.hid c1
  have Hc2 := Lib.hid c2
  clear h67 h38 h48 hp8 c0 c1 c2
  clear hb7
  go_upto_region 7 with fail
  generalize W7.alloc (.cells #[.slice none 0 0, .slice none 0 0, .int .i64 0] 48) = W8 at *
  have c0 := Hc0.out
  have c1 := Hc1.out
  have c2 := Hc2.out
  have hl8 := (Hl1.out.trans H2.out).trans H38.out
  have hI1 := (H38.out.blk Hg1.out).intsL [3, 2, 1]
  have hI2 := (H38.out.blk Hg2.out).intsL [0, 6, 2]
  have hA8 := HA.out.below H48.out (Nat.le_refl _)
  clear Hc0 Hc1 Hc2
  have HI1 := Lib.hid hI1
  have HI2 := Lib.hid hI2
  have HA8 := Lib.hid hA8
  have Hl8 := Lib.hid hl8
  clear hI1 hI2 hA8 hl8
  go_wp2_with fail
  have hJ := (Blk.new W8 3 #[.int .i64 3, .int .i64 2, .int .i64 1]).intsL [3, 2, 1]
  refine (ref03_same (some ⟨g1, 0, none⟩) (some ⟨W8.heap.size, 0, none⟩) 3 3 [3, 2, 1] [3, 2, 1] _ (by decide) (by decide) (HI1.out.alloc _) hJ).mono ?_
  rintro e W9 ⟨rfl, k9, rfl⟩
  rw [decide_eq_true rfl]
  have h89 : Later W8 ((W8.alloc (.cells #[.int .i64 3, .int .i64 2, .int .i64 1] 3)).drewN k9) := ((Later.refl W8).alloc _).drewN k9
  have e0 := h89.cell c0
  have e1 := h89.cell c1
  have e2 := h89.cell c2
  generalize (W8.alloc (.cells #[.int .i64 3, .int .i64 2, .int .i64 1] 3)).drewN k9 = W9 at *
  have H89 := Lib.hid h89
  clear h89
  clear hJ c0 c1 c2
  go_wp2_with fail
  have hJ := (Blk.new W9 3 #[.int .i64 0, .int .i64 6, .int .i64 2]).intsL [0, 6, 2]
  refine (ref03_same (some ⟨g2, 0, none⟩) (some ⟨W9.heap.size, 0, none⟩) 3 3 [0, 6, 2] [0, 6, 2] _ (by decide) (by decide) ((HI2.out.below H89.out (Nat.le_refl _)).alloc _) hJ).mono ?_
  rintro e W10 ⟨rfl, k10, rfl⟩
  rw [decide_eq_true rfl]
  have h90 : Later W9 ((W9.alloc (.cells #[.int .i64 0, .int .i64 6, .int .i64 2] 3)).drewN k10) := ((Later.refl W9).alloc _).drewN k10
  have c0 := h90.cell e0
  have c2 := h90.cell e2
  generalize (W9.alloc (.cells #[.int .i64 0, .int .i64 6, .int .i64 2] 3)).drewN k10 = W10 at *
  have H90 := Lib.hid h90
  clear h90
  clear hJ e0 e1 e2
  go_wp2_with fail
  refine (ref03_same A (some ⟨g1, 0, none⟩) ac 3 [3, 2, 1] [3, 2, 1] _ (by decide) (by decide) (HA8.out.below (H89.out.trans H90.out) (Nat.le_refl _)) (HI1.out.below (H89.out.trans H90.out) (Nat.le_refl _))).mono ?_
  rintro e W11 ⟨rfl, k11, rfl⟩
  rw [decide_eq_true rfl]
  have hl := ((Hl8.out.trans H89.out).trans H90.out).drewN k11
  have Hl := Lib.hid hl
  clear hl
  go_wp2_with fail
  go_ret
  exact ⟨rfl, Hl.out⟩
end Go.Proofs.Ytjkhpbngpceenab
/- Arguments that came in, opened: slices of structs. After the guide's own lemma on slices of structs. No program is named here. -/
namespace Go.Proofs.Ytjkhpbngpceenab
open Go.ChangeShapes Go.WideShapes Go.Deep Go.RowKit
section
variable {H : Type} {enc : TypeId × Value → H} {P : Program} {w : World} {base : Nat} {spare : Nat → Bool} {held : Bool}
theorem open_slice_fields {t e : TypeId} {fs : Array Field} {fuel : Nat} {cs : List Value} {x : DataW H × List MemPlace} (ht : P.underlying t = some (.slice e)) (he : P.underlying e = some (.struct fs))
    (hone : oneCellFields P fs = true) (hC : P.cellsOf e = fs.size) (h : DataW.trod enc P w base spare held fuel t cs = some x) :
    (cs = [.slice none 0 0] ∧ x = (.nil, [])) ∨
    ∃ (a : Addr) (len cap m : Nat) (D : Nat → DataW H) (Pl : Nat → List MemPlace), cs = [.slice (some a) len cap] ∧ base ≤ a.block ∧ len ≤ cap ∧ cap ≤ maxLen ∧ m = (if spare a.block then cap else len) ∧
      x = (.slice ((List.range len).map D) ((List.range (m - len)).map fun j => D (len + j)), MemPlace.row a (m * fs.size) ++ (List.range m).flatMap Pl) ∧
      ∀ i, i < m → ∃ (ys : List (DataW H × List MemPlace)) (n : Nat), D i = .agg (ys.map (·.1)) ∧ Pl i = ys.flatMap (·.2) ∧ ys.length = fs.size ∧
        ∀ (j : Nat) (f : Field), fs[j]? = some f → ∃ (v : Value) (y : DataW H × List MemPlace), w.cell? (a.add (i * fs.size + j)) = some v ∧ ys[j]? = some y ∧ DataW.trod enc P w base spare held n f.type [v] = some y := by
  rcases open_slice ht h with h0 | ⟨a, len, cap, m, n, D, Pl, hcs, hb, hl, hm, hmm, hx, hi⟩
  · exact .inl h0
  · refine .inr ⟨a, len, cap, m, D, Pl, hcs, hb, hl, hm, hmm, by rw [hC] at hx; exact hx, fun i him => ?_⟩
    obtain ⟨cs', hc, ht'⟩ := hi i him
    rw [hC] at hc
    obtain ⟨ys, n', hn', hy, hlen, hyl, hf⟩ := DataW.trod_struct he ht'
    obtain ⟨_, hcl, hat⟩ := World.cells?_some hc
    simp only [Prod.mk.injEq] at hy
    refine ⟨ys, n', hy.1, hy.2, hyl, fun j f hj => ?_⟩
    obtain ⟨ho, hk⟩ := hone_of hone j f hj
    have hjl : j < fs.size := (Array.getElem?_eq_some_iff.1 hj).1
    have hcell := hat j hjl
    have hv : cs'[j]? = some (cs'[j]'(by omega)) := List.getElem?_eq_getElem (by omega)
    have h1 := hf j f hj
    rw [ho, hk] at h1
    have hone' : (cs'.drop j).take 1 = [cs'[j]'(by omega)] := by
      rw [List.drop_eq_getElem_cons (by omega)]
      rfl
    rw [hone'] at h1
    have hys : ys[j]? = some (ys[j]'(by omega)) := List.getElem?_eq_getElem (by omega)
    refine ⟨_, _, ?_, hys, h1.trans hys⟩
    rw [← Go.Deep.add_add, hcell, hv]
end

/-- The address of a row whose first cell is there is a plain one. -/
theorem plain_row {w : World} {a : Addr} {v : Value} (h : w.cell? (a.add 0) = some v) : ∃ b off, a = ⟨b, off, none⟩ := by
  obtain ⟨b, off, spot⟩ := a
  have hs : spot = none := by simpa [Addr.add] using World.cell?_spot h
  subst hs
  exact ⟨b, off, rfl⟩
theorem add_plain' (b off j : Nat) : (⟨b, off, none⟩ : Addr).add j = ⟨b, off + j, none⟩ := by
  unfold Addr.add; split <;> simp_all
section
variable {H : Type} {enc : TypeId × Value → H} {P : Program} {w : World} {base : Nat} {spare : Nat → Bool} {held : Bool}
/-- A slice of integers. -/
theorem ints_open {t e : TypeId} {k : IntKind} {fuel : Nat} {v : Value} {x : DataW H × List MemPlace} (ht : P.underlying t = some (.slice e)) (he : P.underlying e = some (.int k)) (hc : P.cellsOf e = 1) (h : DataW.trod enc P w base spare held fuel t [v] = some x) :
    ∃ A cap zs, v = .slice A zs.length cap ∧ zs.length ≤ 9223372036854775807 ∧ zs.length ≤ cap ∧ Ints k w A zs ∧ ∀ n ∈ zs, (Lit.int k n).wf = true := by
  rcases open_ints ht he hc h with ⟨hcs, _⟩ | ⟨a, len, cap, zs, hcs, _, hl, hm, hz, _, hcell, hwz⟩
  · simp at hcs; subst hcs
    exact ⟨none, 0, [], rfl, by simp, by simp, Ints.nil, by simp⟩
  · simp at hcs; subst hcs
    have hlz : len ≤ zs.length := by rw [hz]; split <;> omega
    have hll : (zs.take len).length = len := by rw [List.length_take]; omega
    refine ⟨some a, cap, zs.take len, by rw [hll], by rw [hll]; unfold maxLen at hm; omega, by omega, fun j hj => ?_, fun n hn => hwz n (List.mem_of_mem_take hn)⟩
    have hj' : j < len := by omega
    obtain ⟨b, off, rfl⟩ := plain_row (w := w) (a := a) (v := .int k (zs.getD 0 0)) (hcell 0 (by omega))
    have hc2 := hcell j (by omega)
    rw [add_plain'] at hc2
    refine ⟨b, off, rfl, World.block_lt_of_cell? _ _ hc2, ?_⟩
    rw [hc2]
    have e : (zs.take len).getD j 0 = zs.getD j 0 := by simp [List.getD_eq_getElem?_getD, hj']
    rw [e]
end
end Go.Proofs.Ytjkhpbngpceenab
/- A net of bounded bulk, come in as an argument, opened. -/
namespace Go.Proofs.Ytjkhpbngpceenab
open Go.ChangeShapes Go.WideShapes Go.Deep Go.RowKit

section
variable {H : Type} {enc : TypeId × Value → H} {P : Program} {W : World} {base : Nat} {spare : Nat → Bool} {held : Bool}
theorem bulk_one (d : DataW H) : 1 ≤ Rows.uptoBulk d := by
  cases d with
  | lit l => cases l <;> simp [Rows.uptoBulk]
  | nil => simp [Rows.uptoBulk]
  | ptr d => simp [Rows.uptoBulk]
  | slice elems spare => simp [Rows.uptoBulk]
  | agg parts => simp [Rows.uptoBulk]
  | iface t d => simp [Rows.uptoBulk]
  | map entries => simp [Rows.uptoBulk]
  | held h => simp [Rows.uptoBulk]
theorem bulk_part {d : DataW H} {l : List (DataW H)} (h : d ∈ l) : Rows.uptoBulk d ≤ Rows.uptoBulkAll l := by
  induction l with
  | nil => cases h
  | cons x r ih =>
    simp only [Rows.uptoBulkAll]
    cases List.mem_cons.1 h with
    | inl e => subst e; omega
    | inr e => have := ih e; omega
theorem bulk_len (l : List (DataW H)) : l.length ≤ Rows.uptoBulkAll l := by
  induction l with
  | nil => simp [Rows.uptoBulkAll]
  | cons x r ih => have := bulk_one x; simp only [Rows.uptoBulkAll, List.length_cons]; omega
/-- The elements of a slice, and their bulk. -/
theorem slice_bulk {t e : TypeId} {fuel : Nat} {v : Value} {x : DataW H × List MemPlace} (ht : P.underlying t = some (.slice e)) (h : DataW.trod enc P W base spare held fuel t [v] = some x) (hz : Rows.uptoBulk x.1 ≤ 1048576) :
    v = .slice none 0 0 ∨ ∃ a len cap, v = .slice (some a) len cap ∧ len ≤ cap ∧ cap ≤ maxLen ∧ len ≤ 1048576 ∧
      ∀ i, i < len → ∃ cs' m y, W.cells? base (a.add (i * P.cellsOf e)) (P.cellsOf e) = some cs' ∧ DataW.trod enc P W base spare held m e cs' = some y ∧ Rows.uptoBulk y.1 ≤ 1048576 := by
  rcases open_slice ht h with ⟨hcs, _⟩ | ⟨a, len, cap, m, n, D, Pl, hcs, _, hl, hm, hmm, hx, hi⟩
  · simp at hcs; exact .inl hcs
  · simp at hcs; subst hcs
    right
    have hlm : len ≤ m := by rw [hmm]; split <;> omega
    rw [hx] at hz
    simp only [Rows.uptoBulk] at hz
    refine ⟨a, len, cap, rfl, hl, hm, ?_, fun i hil => ?_⟩
    · have := bulk_len ((List.range len).map D)
      simp at this
      omega
    · obtain ⟨cs', h1, h2⟩ := hi i (by omega)
      refine ⟨cs', n, _, h1, h2, ?_⟩
      have := bulk_part (d := D i) (l := (List.range len).map D) (List.mem_map.2 ⟨i, by simpa using hil, rfl⟩)
      show Rows.uptoBulk (D i) ≤ _
      omega
end

theorem int_one' : Try.prog.cellsOf 3 = 1 := by kernel_rfl
theorem shp_one : Try.prog.cellsOf 23 = 1 := by kernel_rfl
theorem node_cells : Try.prog.cellsOf 46 = 10 := by kernel_rfl

/-- A slice of numbers, of whatever name, with its size. -/
theorem nums_open {H : Type} {enc : TypeId × Value → H} {W : World} {base : Nat} {spare : Nat → Bool} {held : Bool} {t : TypeId} {fuel : Nat} {v : Value} {x : DataW H × List MemPlace} (ht : Try.prog.underlying t = some (.slice 3))
    (h : DataW.trod enc Try.prog W base spare held fuel t [v] = some x) (hz : Rows.uptoBulk x.1 ≤ 1048576) :
    ∃ A c zs, v = .slice A zs.length c ∧ Ints .i64 W A zs ∧ zs.length ≤ c ∧ c ≤ 9223372036854775807 ∧ zs.length ≤ 1048576 ∧ ∀ z ∈ zs, -9223372036854775808 ≤ z ∧ z ≤ 9223372036854775807 := by
  obtain ⟨A, c, zs, rfl, hl, hc, hI, hw⟩ := ints_open ht Try.underlying3 int_one' h
  refine ⟨A, c, zs, rfl, hI, hc, ?_, ?_, fun z hz => wf_bd (hw z hz)⟩
  · rcases slice_bulk ht h hz with e | ⟨a, len, cap, e, _, hm, _⟩
    · injection e with _ _ e; omega
    · injection e with _ _ e; unfold maxLen at hm; omega
  · rcases slice_bulk ht h hz with e | ⟨a, len, cap, e, _, _, hb, _⟩
    · injection e with _ e _; rw [e]; exact Nat.zero_le _
    · have e2 : zs.length = len := by simp at e; exact e.2.1
      rw [e2]
      exact hb
theorem one_list {l : List Value} (h : l.length = 1) : ∃ v, l = [v] := by
  match l, h with
  | [v], _ => exact ⟨v, rfl⟩
theorem choose_list {α : Type} [Inhabited α] {n : Nat} {Q : Nat → α → Prop} (h : ∀ i, i < n → ∃ a, Q i a) : ∃ l : List α, l.length = n ∧ ∀ i (hi : i < l.length), Q i l[i] := by
  obtain ⟨f, hf⟩ := @choose_lt α _ _ _ h
  exact ⟨(List.range n).map f, by simp, fun i hi => by simp at hi; simpa using hf i hi⟩
theorem addr_lit {W : World} {a : Addr} {v : Value} (h : W.cell? a = some v) : ∃ b off, a = ⟨b, off, none⟩ := by
  obtain ⟨b, off, spot⟩ := a
  have hs : spot = none := by simpa using World.cell?_spot h
  subst hs
  exact ⟨b, off, rfl⟩
/-- A slice of shapes. -/
theorem shps_open {H : Type} {enc : TypeId × Value → H} {W : World} {base : Nat} {spare : Nat → Bool} {held : Bool} {fuel : Nat} {v : Value} {x : DataW H × List MemPlace}
    (h : DataW.trod enc Try.prog W base spare held fuel 44 [v] = some x) (hz : Rows.uptoBulk x.1 ≤ 1048576) :
    ∃ A c ss, v = .slice A ss.length c ∧ Shps W A ss ∧ ss.length ≤ c ∧ c ≤ 9223372036854775807 ∧ ss.length ≤ 1048576 ∧ ∀ s ∈ ss, s.length ≤ 1048576 ∧ ∀ z ∈ s, -9223372036854775808 ≤ z ∧ z ≤ 9223372036854775807 := by
  rcases slice_bulk Try.underlying44 h hz with rfl | ⟨a, len, cap, rfl, hl, hm, hb, hi⟩
  · exact ⟨none, 0, [], rfl, Shps.nil, by simp, by omega, by simp, by simp⟩
  · rw [shp_one] at hi
    have key : ∀ i, i < len → ∃ q : (List Int) × (Option Addr) × Nat, W.cell? (a.add i) = some (.slice q.2.1 q.1.length q.2.2) ∧ Ints .i64 W q.2.1 q.1 ∧ q.1.length ≤ q.2.2 ∧ q.2.2 ≤ 9223372036854775807 ∧ q.1.length ≤ 1048576 ∧ ∀ z ∈ q.1, -9223372036854775808 ≤ z ∧ z ≤ 9223372036854775807 := fun i hil => by
      obtain ⟨cs', m, y, hc, ht, hw⟩ := hi i hil
      obtain ⟨_, hlen, hat⟩ := World.cells?_some hc
      obtain ⟨v, rfl⟩ := one_list hlen
      obtain ⟨A, c, zs, rfl, h1, h2⟩ := nums_open Try.underlying23 ht hw
      refine ⟨(zs, A, c), ?_, h1, h2⟩
      have := hat 0 (by omega)
      rw [Nat.mul_one] at this
      simpa [Addr.add] using this
    obtain ⟨L, hL, hq⟩ := choose_list key
    refine ⟨some a, cap, L.map (·.1), by simp [hL], fun j hj => ?_, by simpa [hL] using hl, by unfold maxLen at hm; omega, by simp [hL]; exact hb, fun s hs => ?_⟩
    · rw [List.length_map] at hj
      obtain ⟨h1, h2, h3, h4, _⟩ := hq j hj
      obtain ⟨h0, _⟩ := hq 0 (by omega)
      obtain ⟨b, off, rfl⟩ := addr_lit (show W.cell? a = _ by simpa [Addr.add] using h0)
      rw [add_plain'] at h1
      rw [List.getElem_map]
      exact ⟨b, off, _, _, rfl, World.block_lt_of_cell? _ _ h1, h1, h2, h3, h4⟩
    · obtain ⟨q, hqm, rfl⟩ := List.mem_map.1 hs
      obtain ⟨i, hi, rfl⟩ := List.getElem_of_mem hqm
      exact (hq i hi).2.2.2.2

def OpD.inR (o : OpD) : Prop := o.wide ∧ ∀ z ∈ o.s, -9223372036854775808 ≤ z ∧ z ≤ 9223372036854775807
/-- All numbers are an int's, and all rows could be in memory. -/
def NodeD.fits (v : NodeD) : Prop := v.op.wide ∧ v.op.s.length ≤ 1048576 ∧ v.ins.length ≤ 1048576 ∧ v.p.length ≤ 1048576 ∧ (∀ s ∈ v.p, s.length ≤ 1048576) ∧
  (∀ z ∈ v.op.s, -9223372036854775808 ≤ z ∧ z ≤ 9223372036854775807) ∧ (∀ z ∈ v.ins, -9223372036854775808 ≤ z ∧ z ≤ 9223372036854775807) ∧ ∀ s ∈ v.p, ∀ z ∈ s, -9223372036854775808 ≤ z ∧ z ≤ 9223372036854775807
def NetD.fits (n : NetD) : Prop := n.inn.length ≤ 1048576 ∧ n.nodes.length ≤ 1048576 ∧ (∀ z ∈ n.inn, -9223372036854775808 ≤ z ∧ z ≤ 9223372036854775807) ∧ ∀ v ∈ n.nodes, v.fits

theorem node_under : Try.prog.underlying 46 = some (.struct (Try.prog.fieldsOf 46)) := by kernel_rfl
theorem node_three : (Try.prog.fieldsOf 46).size = 3 := by kernel_rfl
theorem node_types : (Try.prog.fieldsOf 46).toList.map (·.type) = [43, 22, 44] := by kernel_rfl
theorem node_f0 : ((Try.prog.fieldsOf 46)[0]?).map (fun f => (f.type, f.offset, Try.prog.cellsOf f.type)) = some (43, 0, 8) := by kernel_rfl
theorem node_f1 : ((Try.prog.fieldsOf 46)[1]?).map (fun f => (f.type, f.offset, Try.prog.cellsOf f.type)) = some (22, 8, 1) := by kernel_rfl
theorem node_f2 : ((Try.prog.fieldsOf 46)[2]?).map (fun f => (f.type, f.offset, Try.prog.cellsOf f.type)) = some (44, 9, 1) := by kernel_rfl
theorem op_under : Try.prog.underlying 43 = some (.struct (Try.prog.fieldsOf 43)) := by kernel_rfl
theorem op_eight : (Try.prog.fieldsOf 43).size = 8 := by kernel_rfl
theorem op_types : (Try.prog.fieldsOf 43).toList.map (·.type) = [3, 41, 3, 3, 3, 3, 3, 23] := by kernel_rfl
theorem op_f0 : ((Try.prog.fieldsOf 43)[0]?).map (fun f => (f.type, f.offset, Try.prog.cellsOf f.type)) = some (3, 0, 1) := by kernel_rfl
theorem op_f1 : ((Try.prog.fieldsOf 43)[1]?).map (fun f => (f.type, f.offset, Try.prog.cellsOf f.type)) = some (41, 1, 1) := by kernel_rfl
theorem op_f2 : ((Try.prog.fieldsOf 43)[2]?).map (fun f => (f.type, f.offset, Try.prog.cellsOf f.type)) = some (3, 2, 1) := by kernel_rfl
theorem op_f3 : ((Try.prog.fieldsOf 43)[3]?).map (fun f => (f.type, f.offset, Try.prog.cellsOf f.type)) = some (3, 3, 1) := by kernel_rfl
theorem op_f4 : ((Try.prog.fieldsOf 43)[4]?).map (fun f => (f.type, f.offset, Try.prog.cellsOf f.type)) = some (3, 4, 1) := by kernel_rfl
theorem op_f5 : ((Try.prog.fieldsOf 43)[5]?).map (fun f => (f.type, f.offset, Try.prog.cellsOf f.type)) = some (3, 5, 1) := by kernel_rfl
theorem op_f6 : ((Try.prog.fieldsOf 43)[6]?).map (fun f => (f.type, f.offset, Try.prog.cellsOf f.type)) = some (3, 6, 1) := by kernel_rfl
theorem op_f7 : ((Try.prog.fieldsOf 43)[7]?).map (fun f => (f.type, f.offset, Try.prog.cellsOf f.type)) = some (23, 7, 1) := by kernel_rfl
theorem list3 {α : Type} {l : List α} (h : l.length = 3) : ∃ a b c, l = [a, b, c] := by
  match l, h with
  | [a, b, c], _ => exact ⟨a, b, c, rfl⟩
theorem list8 {α : Type} {l : List α} (h : l.length = 8) : ∃ a b c d e f g i, l = [a, b, c, d, e, f, g, i] := by
  match l, h with
  | [a, b, c, d, e, f, g, i], _ => exact ⟨a, b, c, d, e, f, g, i, rfl⟩
theorem list10 {α : Type} {l : List α} (h : l.length = 10) : ∃ a b c d e f g i j k, l = [a, b, c, d, e, f, g, i, j, k] := by
  match l, h with
  | [a, b, c, d, e, f, g, i, j, k], _ => exact ⟨a, b, c, d, e, f, g, i, j, k, rfl⟩
set_option maxRecDepth 100000 in
/-- An op's cells. -/
theorem op_open {H : Type} {enc : TypeId × Value → H} {W : World} {base : Nat} {spare : Nat → Bool} {held : Bool} {fuel : Nat} {v0 v1 v2 v3 v4 v5 v6 v7 : Value} {x : DataW H × List MemPlace}
    (h : DataW.trod enc Try.prog W base spare held fuel 43 [v0, v1, v2, v3, v4, v5, v6, v7] = some x) (hz : Rows.uptoBulk x.1 ≤ 1048576) :
    ∃ (o : OpD) (S : Option Addr) (c : Nat), v0 = .int .i64 o.kind ∧ v1 = .int .i64 o.k ∧ v2 = .int .i64 o.width ∧ v3 = .int .i64 o.step ∧ v4 = .int .i64 o.side ∧ v5 = .int .i64 o.frm ∧ v6 = .int .i64 o.to ∧ v7 = .slice S o.s.length c ∧
      Ints .i64 W S o.s ∧ o.s.length ≤ c ∧ c ≤ 9223372036854775807 ∧ o.s.length ≤ 1048576 ∧ o.wide ∧ ∀ z ∈ o.s, -9223372036854775808 ≤ z ∧ z ≤ 9223372036854775807 := by
  obtain ⟨ys, n, _, hx, _, hlen, hg⟩ := DataW.trod_struct op_under h
  rw [op_eight] at hlen
  obtain ⟨y0, y1, y2, y3, y4, y5, y6, y7, rfl⟩ := list8 hlen
  rw [hx] at hz
  obtain ⟨f0, e0, t0⟩ := Option.map_eq_some_iff.1 op_f0
  simp only [Prod.mk.injEq] at t0
  have h0 := hg 0 f0 e0
  rw [t0.2.2, t0.2.1, t0.1] at h0
  simp at h0
  obtain ⟨f1, e1, t1⟩ := Option.map_eq_some_iff.1 op_f1
  simp only [Prod.mk.injEq] at t1
  have h1 := hg 1 f1 e1
  rw [t1.2.2, t1.2.1, t1.1] at h1
  simp at h1
  obtain ⟨f2, e2, t2⟩ := Option.map_eq_some_iff.1 op_f2
  simp only [Prod.mk.injEq] at t2
  have h2 := hg 2 f2 e2
  rw [t2.2.2, t2.2.1, t2.1] at h2
  simp at h2
  obtain ⟨f3, e3, t3⟩ := Option.map_eq_some_iff.1 op_f3
  simp only [Prod.mk.injEq] at t3
  have h3 := hg 3 f3 e3
  rw [t3.2.2, t3.2.1, t3.1] at h3
  simp at h3
  obtain ⟨f4, e4, t4⟩ := Option.map_eq_some_iff.1 op_f4
  simp only [Prod.mk.injEq] at t4
  have h4 := hg 4 f4 e4
  rw [t4.2.2, t4.2.1, t4.1] at h4
  simp at h4
  obtain ⟨f5, e5, t5⟩ := Option.map_eq_some_iff.1 op_f5
  simp only [Prod.mk.injEq] at t5
  have h5 := hg 5 f5 e5
  rw [t5.2.2, t5.2.1, t5.1] at h5
  simp at h5
  obtain ⟨f6, e6, t6⟩ := Option.map_eq_some_iff.1 op_f6
  simp only [Prod.mk.injEq] at t6
  have h6 := hg 6 f6 e6
  rw [t6.2.2, t6.2.1, t6.1] at h6
  simp at h6
  obtain ⟨f7, e7, t7⟩ := Option.map_eq_some_iff.1 op_f7
  simp only [Prod.mk.injEq] at t7
  have h7 := hg 7 f7 e7
  rw [t7.2.2, t7.2.1, t7.1] at h7
  simp at h7
  have hz7 : Rows.uptoBulk y7.1 ≤ 1048576 := by simp [Rows.uptoBulk, Rows.uptoBulkAll] at hz; omega
  obtain ⟨x0, q0, _, w0⟩ := DataW.trod_int Try.underlying3 h0
  simp at q0
  subst q0
  obtain ⟨x1, q1, _, w1⟩ := DataW.trod_int Try.underlying41 h1
  simp at q1
  subst q1
  obtain ⟨x2, q2, _, w2⟩ := DataW.trod_int Try.underlying3 h2
  simp at q2
  subst q2
  obtain ⟨x3, q3, _, w3⟩ := DataW.trod_int Try.underlying3 h3
  simp at q3
  subst q3
  obtain ⟨x4, q4, _, w4⟩ := DataW.trod_int Try.underlying3 h4
  simp at q4
  subst q4
  obtain ⟨x5, q5, _, w5⟩ := DataW.trod_int Try.underlying3 h5
  simp at q5
  subst q5
  obtain ⟨x6, q6, _, w6⟩ := DataW.trod_int Try.underlying3 h6
  simp at q6
  subst q6
  obtain ⟨S, c, zs, rfl, hI, h1, h2, h3, h4⟩ := nums_open Try.underlying23 h7 hz7
  refine ⟨⟨x0, x1, x2, x3, x4, x5, x6, zs⟩, S, c, rfl, rfl, rfl, rfl, rfl, rfl, rfl, rfl, hI, h1, h2, h3, fun z hz => ?_, h4⟩
  simp at hz
  rcases hz with rfl | rfl | rfl | rfl | rfl | rfl | rfl
  · exact wf_bd w0
  · exact wf_bd w1
  · exact wf_bd w2
  · exact wf_bd w3
  · exact wf_bd w4
  · exact wf_bd w5
  · exact wf_bd w6

/-- What a node's cells read as. -/
structure NodeQ where
  v : NodeD
  S : Option Addr
  c : Nat
  I : Option Addr
  d : Nat
  Q : Option Addr
  q : Nat
instance : Inhabited NodeQ := ⟨⟨Nt.none_, none, 0, none, 0, none, 0⟩⟩
def NodeQ.cells (x : NodeQ) : List Value := [.int .i64 x.v.op.kind, .int .i64 x.v.op.k, .int .i64 x.v.op.width, .int .i64 x.v.op.step, .int .i64 x.v.op.side, .int .i64 x.v.op.frm, .int .i64 x.v.op.to, .slice x.S x.v.op.s.length x.c, .slice x.I x.v.ins.length x.d, .slice x.Q x.v.p.length x.q]
def NodeQ.R (x : NodeQ) (W : World) : Prop := (Ints .i64 W x.S x.v.op.s ∧ x.v.op.s.length ≤ x.c ∧ x.c ≤ 9223372036854775807) ∧ (Ints .i64 W x.I x.v.ins ∧ x.v.ins.length ≤ x.d ∧ x.d ≤ 9223372036854775807) ∧ (Shps W x.Q x.v.p ∧ x.v.p.length ≤ x.q ∧ x.q ≤ 9223372036854775807)
set_option maxRecDepth 100000 in
theorem node_open {H : Type} {enc : TypeId × Value → H} {W : World} {base : Nat} {spare : Nat → Bool} {held : Bool} {fuel : Nat} {cs : List Value} {x : DataW H × List MemPlace} (hcs : cs.length = 10)
    (h : DataW.trod enc Try.prog W base spare held fuel 46 cs = some x) (hz : Rows.uptoBulk x.1 ≤ 1048576) :
    ∃ q : NodeQ, cs = q.cells ∧ q.R W ∧ q.v.fits := by
  obtain ⟨v0, v1, v2, v3, v4, v5, v6, v7, v8, v9, rfl⟩ := list10 hcs
  obtain ⟨ys, n, _, hx, _, hlen, hg⟩ := DataW.trod_struct node_under h
  rw [node_three] at hlen
  obtain ⟨y0, y1, y2, rfl⟩ := list3 hlen
  rw [hx] at hz
  obtain ⟨f0, e0, t0⟩ := Option.map_eq_some_iff.1 node_f0
  simp only [Prod.mk.injEq] at t0
  have h0 := hg 0 f0 e0
  rw [t0.2.2, t0.2.1, t0.1] at h0
  simp at h0
  obtain ⟨f1, e1, t1⟩ := Option.map_eq_some_iff.1 node_f1
  simp only [Prod.mk.injEq] at t1
  have h1 := hg 1 f1 e1
  rw [t1.2.2, t1.2.1, t1.1] at h1
  simp at h1
  obtain ⟨f2, e2, t2⟩ := Option.map_eq_some_iff.1 node_f2
  simp only [Prod.mk.injEq] at t2
  have h2 := hg 2 f2 e2
  rw [t2.2.2, t2.2.1, t2.1] at h2
  simp at h2
  have hz0 : Rows.uptoBulk y0.1 ≤ 1048576 := by simp [Rows.uptoBulk, Rows.uptoBulkAll] at hz; omega
  have hz1 : Rows.uptoBulk y1.1 ≤ 1048576 := by simp [Rows.uptoBulk, Rows.uptoBulkAll] at hz; omega
  have hz2 : Rows.uptoBulk y2.1 ≤ 1048576 := by simp [Rows.uptoBulk, Rows.uptoBulkAll] at hz; omega
  obtain ⟨o, S, c, rfl, rfl, rfl, rfl, rfl, rfl, rfl, rfl, a1, a2, a3, a4, a5, a6⟩ := op_open h0 hz0
  obtain ⟨I, d, is, rfl, b1, b2, b3, b4, b5⟩ := nums_open Try.underlying22 h1 hz1
  obtain ⟨Q, q, ps, rfl, c1, c2, c3, c4, c5⟩ := shps_open h2 hz2
  exact ⟨⟨⟨o, is, ps⟩, S, c, I, d, Q, q⟩, rfl, ⟨⟨a1, a2, a3⟩, ⟨b1, b2, b3⟩, c1, c2, c3⟩, a5, a4, b4, c4, fun s hs => (c5 s hs).1, a6, b5, fun s hs => (c5 s hs).2⟩
/-- A slice of nodes. -/
theorem nodes_open {H : Type} {enc : TypeId × Value → H} {W : World} {base : Nat} {spare : Nat → Bool} {held : Bool} {fuel : Nat} {v : Value} {x : DataW H × List MemPlace}
    (h : DataW.trod enc Try.prog W base spare held fuel 24 [v] = some x) (hz : Rows.uptoBulk x.1 ≤ 1048576) :
    ∃ A c ns, v = .slice A ns.length c ∧ Nodes W A ns ∧ ns.length ≤ c ∧ c ≤ 9223372036854775807 ∧ ns.length ≤ 1048576 ∧ ∀ v ∈ ns, v.fits := by
  rcases slice_bulk Try.underlying24 h hz with rfl | ⟨a, len, cap, rfl, hl, hm, hb, hi⟩
  · exact ⟨none, 0, [], rfl, fun j hj => absurd hj (by simp), by simp, by omega, by simp, by simp⟩
  · rw [node_cells] at hi
    have key : ∀ i, i < len → ∃ q : NodeQ, (∀ j, j < 10 → W.cell? ((a.add (i * 10)).add j) = q.cells[j]?) ∧ q.R W ∧ q.v.fits := fun i hil => by
      obtain ⟨cs', m, y, hc, ht, hw⟩ := hi i hil
      obtain ⟨_, hlen, hat⟩ := World.cells?_some hc
      obtain ⟨q, rfl, h1, h2⟩ := node_open hlen ht hw
      exact ⟨q, hat, h1, h2⟩
    obtain ⟨L, hL, hq⟩ := choose_list key
    refine ⟨some a, cap, L.map (·.v), by simp [hL], fun j hj => ?_, by simpa [hL] using hl, by unfold maxLen at hm; omega, by simp [hL]; exact hb, fun s hs => ?_⟩
    · rw [List.length_map] at hj
      obtain ⟨h1, ⟨r1, r2, r3⟩, _⟩ := hq j hj
      obtain ⟨h0, _⟩ := hq 0 (by omega)
      have h00 := h0 0 (by omega)
      obtain ⟨b, off, rfl⟩ := addr_lit (v := .int .i64 L[0].v.op.kind) (show W.cell? a = _ by simpa [Addr.add, NodeQ.cells] using h00)
      simp only [add_plain'] at h1
      rw [List.getElem_map]
      refine ⟨b, off, _, _, _, _, _, _, rfl, World.block_lt_of_cell? _ _ (h1 0 (by omega)), h1 0 (by omega), h1 1 (by omega), h1 2 (by omega), h1 3 (by omega), h1 4 (by omega), h1 5 (by omega), h1 6 (by omega), h1 7 (by omega), h1 8 (by omega), h1 9 (by omega), r1, r2, r3⟩
    · obtain ⟨q, hqm, rfl⟩ := List.mem_map.1 hs
      obtain ⟨i, hi, rfl⟩ := List.getElem_of_mem hqm
      exact (hq i hi).2.2
theorem net_cells : Try.prog.cellsOf 26 = 2 := by kernel_rfl
theorem net_under : Try.prog.underlying 26 = some (.struct (Try.prog.fieldsOf 26)) := by kernel_rfl
theorem net_two : (Try.prog.fieldsOf 26).size = 2 := by kernel_rfl
theorem net_types : (Try.prog.fieldsOf 26).toList.map (·.type) = [23, 24] := by kernel_rfl
theorem net_f0 : ((Try.prog.fieldsOf 26)[0]?).map (fun f => (f.type, f.offset, Try.prog.cellsOf f.type)) = some (23, 0, 1) := by kernel_rfl
theorem net_f1 : ((Try.prog.fieldsOf 26)[1]?).map (fun f => (f.type, f.offset, Try.prog.cellsOf f.type)) = some (24, 1, 1) := by kernel_rfl
theorem list2 {α : Type} {l : List α} (h : l.length = 2) : ∃ a b, l = [a, b] := by
  match l, h with
  | [a, b], _ => exact ⟨a, b, rfl⟩
set_option maxRecDepth 100000 in
/-- A net. -/
theorem net_open {H : Type} {enc : TypeId × Value → H} {W : World} {r : Reach} {b0 base : Nat} {spare : Nat → Bool} {held : Bool} {v : Value} {d : DataW H} {p : List MemPlace}
    (hv : Value.okWide Try.prog W r b0 26 v) (h : DataW.Trod enc Try.prog W base spare held 26 v d p) (hz : Rows.uptoBulk d ≤ 1048576) :
    ∃ A N c1 c2 n, v = .agg #[.slice A n.inn.length c1, .slice N n.nodes.length c2] ∧ n.inn.length ≤ c1 ∧ c1 ≤ 9223372036854775807 ∧ n.nodes.length ≤ c2 ∧ c2 ≤ 9223372036854775807 ∧ NetR W A N n ∧ n.fits := by
  obtain ⟨cs, rfl, hsz⟩ := okWide_struct net_under hv
  obtain ⟨l⟩ := cs
  match l, hsz.trans net_cells with
  | [v0, v1], _ =>
    obtain ⟨fuel, hf⟩ := h
    obtain ⟨ys, n, _, hx, _, hlen, hg⟩ := DataW.trod_struct net_under hf
    rw [net_two] at hlen
    obtain ⟨y0, y1, rfl⟩ := list2 hlen
    simp only [Prod.mk.injEq, List.map_cons, List.map_nil] at hx
    obtain ⟨rfl, _⟩ := hx
    obtain ⟨f0, e0, t0⟩ := Option.map_eq_some_iff.1 net_f0
    simp only [Prod.mk.injEq] at t0
    have h0 := hg 0 f0 e0
    rw [t0.2.2, t0.2.1, t0.1] at h0
    simp [Value.cells] at h0
    obtain ⟨f1, e1, t1⟩ := Option.map_eq_some_iff.1 net_f1
    simp only [Prod.mk.injEq] at t1
    have h1 := hg 1 f1 e1
    rw [t1.2.2, t1.2.1, t1.1] at h1
    simp [Value.cells] at h1
    have hz0 : Rows.uptoBulk y0.1 ≤ 1048576 := by simp [Rows.uptoBulk, Rows.uptoBulkAll] at hz; omega
    have hz1 : Rows.uptoBulk y1.1 ≤ 1048576 := by simp [Rows.uptoBulk, Rows.uptoBulkAll] at hz; omega
    obtain ⟨A, c1, zs, rfl, a1, a2, a3, a4, a5⟩ := nums_open Try.underlying23 h0 hz0
    obtain ⟨N, c2, ns, rfl, b1, b2, b3, b4, b5⟩ := nodes_open h1 hz1
    exact ⟨A, N, c1, c2, ⟨zs, ns⟩, rfl, a2, a3, b2, b3, ⟨a1, b1⟩, a4, b4, a5, b5⟩
theorem NetD.fits.ok {n : NetD} (h : n.fits) : n.ok :=
  ⟨h.1, h.2.1, fun v hv => by
    obtain ⟨h1, h2, h3, h4, h5, h6, h7, h8⟩ := h.2.2.2 v hv
    exact ⟨h1, h2, h3, h4, h5, h7⟩⟩
end Go.Proofs.Ytjkhpbngpceenab

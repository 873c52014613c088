/- Lemmas for the statements of this seat: contracts of functions and the plain laws. -/
import Derived.BigQuiet
import Derived.Deep.AppendLies
import Derived.Deep.DeepCutAuto
import Derived.Deep.QuietTactic
import Derived.Deep.RegionHeld3
import Derived.KernelRfl
import Derived.WalkKit
import Derived.WalkSpells
import Derived.Test.YtnffjfjhbjeaiaaGreatDoorChecked
import Derived.Test.YtnffjfjhbjeaiaaGreatDoorZ06
set_option linter.unusedVariables false
/- Copies of nodes in memory of the call's own: what is kept where. -/
namespace Go.Proofs.YtnffjfjhbjeaiaaGreatDoor
open Go.RowKit
/-- Blocks of another type than T are as they were. -/
def Keep (T : TypeId) (w w' : World) : Prop := w.heap.size ≤ w'.heap.size ∧ ∀ (b : Nat) (cs : Array Value) (t : TypeId), w.heap[b]? = some (Obj.cells cs t (0, 0)) → t ≠ T → w'.heap[b]? = w.heap[b]?
section
variable {T t : TypeId} {w w' w2 : World} {g B : Nat} {cs : Array Value}
theorem Keep.of_later (h : Later w w') : Keep T w w' := ⟨Below.size h, fun b cs t hb _ => Below.block h b (lt_of_block hb)⟩
theorem Keep.set_ (hb : Blk w g T cs) (i : Nat) (u : Value) : Keep T w (w.setCell ⟨g, i, none⟩ u) := ⟨by simp, fun b cs' t h ht => Below.heap_setCell w _ u b (fun e => by
  have e : b = g := e
  subst e
  unfold Blk at hb
  rw [hb] at h
  injection h with h
  injection h with _ h _
  exact ht h.symm)⟩
theorem Keep.refl (T : TypeId) (w : World) : Keep T w w := ⟨Nat.le_refl _, fun _ _ _ _ _ => rfl⟩
theorem Keep.trans (h : Keep T w w') (k : Keep T w' w2) : Keep T w w2 := ⟨Nat.le_trans h.1 k.1, fun b cs t hb ht => (k.2 b cs t ((h.2 b cs t hb ht).trans hb) ht).trans (h.2 b cs t hb ht)⟩
theorem Blk.keep (hb : Blk w g t cs) (ht : t ≠ T) (h : Keep T w w') : Blk w' g t cs := (h.2 g cs t hb ht).trans hb
theorem ownsRow_keep {e : TypeId} {s n : Nat} {v : Value} {xs : List Value} (h : w.ownsRow B e s v n xs) (ht : e ≠ T) (hk : Keep T w w') : w'.ownsRow B e s v n xs := by
  refine ⟨h.1, ?_⟩
  rcases h.2 with h | ⟨g, cap, cur, rfl, h1, h2, h3⟩
  · exact .inl h
  · exact .inr ⟨g, cap, cur, rfl, h1, (hk.2 g cur e h2 ht).trans h2, h3⟩
theorem FRow.keep {ss : List (List Int)} (h : FRow B w g t ss) (ht : t ≠ T) (hi : 3 ≠ T) (hk : Keep T w w') : FRow B w' g t ss := by
  obtain ⟨hg, hs, hl, ⟨vs, hvl, hb, hv⟩, hr⟩ := h
  exact ⟨hg, hs, hl, ⟨vs, hvl, hb.keep ht hk, hv⟩, fun j hj hj2 => ⟨(hr j hj hj2).1, (hr j hj hj2).2.1, (hr j hj hj2).2.2.keep hi hk⟩⟩
end
/-- A copied node, and where its parts lie. -/
structure CpQ where
  v : NodeD
  S : Nat
  J : Option Addr
  jc : Nat
  Q : Nat
def CpQ.cells (x : CpQ) : List Value := [.int .i64 x.v.op.kind, .int .i64 x.v.op.k, .int .i64 x.v.op.width, .int .i64 x.v.op.step, .int .i64 x.v.op.side, .int .i64 x.v.op.frm, .int .i64 x.v.op.to, .slice (some ⟨x.S, 0, none⟩) x.v.op.s.length x.v.op.s.length, .slice x.J x.v.ins.length x.jc, .slice (some ⟨x.Q, 0, none⟩) x.v.p.length x.v.p.length]
def CpQ.R (B : Nat) (w : World) (x : CpQ) : Prop := B ≤ x.S ∧ Blk w x.S 3 (x.v.op.s.map (Value.int .i64)).toArray ∧ w.ownsRow B 3 1 (.slice x.J x.v.ins.length x.jc) x.v.ins.length (x.v.ins.map (Value.int .i64)) ∧ FRow B w x.Q 23 x.v.p
theorem CpQ.len (x : CpQ) : x.cells.length = 10 := rfl
theorem CpQ.flat (L : List CpQ) : (L.flatMap CpQ.cells).length = L.length * 10 := by
  induction L with
  | nil => rfl
  | cons x r ih => rw [List.flatMap_cons, List.length_append, ih, CpQ.len, List.length_cons]; omega
theorem CpQ.R.keep {B : Nat} {w w' : World} {x : CpQ} {T : TypeId} (h : CpQ.R B w x) (h1 : 3 ≠ T) (h2 : 23 ≠ T) (hk : Keep T w w') : CpQ.R B w' x :=
  ⟨h.1, h.2.1.keep h1 hk, ownsRow_keep h.2.2.1 h1 hk, h.2.2.2.keep h2 h1 hk⟩
theorem CpQ.R.later {B : Nat} {w w' : World} {x : CpQ} (h : CpQ.R B w x) (hk : Later w w') : CpQ.R B w' x := h.keep (T := 67) (by decide) (by decide) (Keep.of_later hk)
/-- The first k nodes are copied into block g, of zc's cells behind them. -/
def CpRow (B : Nat) (wx : World) (g : Nat) (zc : Array Value) (ns : List NodeD) (k : Nat) : Prop :=
  ∃ L : List CpQ, L.map (·.v) = ns.take k ∧ L.length = k ∧ Blk wx g 67 (L.flatMap CpQ.cells ++ zc.toList.drop (k * 10)).toArray ∧ ∀ x ∈ L, CpQ.R B wx x
theorem CpRow.later {B : Nat} {w w' : World} {g : Nat} {zc : Array Value} {ns : List NodeD} {k : Nat} (h : CpRow B w g zc ns k) (hk : Later w w') : CpRow B w' g zc ns k := by
  obtain ⟨L, h1, h2, h3, h4⟩ := h
  exact ⟨L, h1, h2, hk.blk h3, fun x hx => (h4 x hx).later hk⟩
theorem CpRow.keep {B : Nat} {w w' : World} {g : Nat} {zc : Array Value} {ns : List NodeD} {k : Nat} {T : TypeId} (h : CpRow B w g zc ns k) (h1 : 3 ≠ T) (h2 : 23 ≠ T) (h3 : 67 ≠ T) (hk : Keep T w w') : CpRow B w' g zc ns k := by
  obtain ⟨L, l1, l2, l3, l4⟩ := h
  exact ⟨L, l1, l2, l3.keep h3 hk, fun x hx => (l4 x hx).keep h1 h2 hk⟩
theorem ownsRow_low {w : World} {B B' e s n : Nat} {v : Value} {xs : List Value} (h : w.ownsRow B e s v n xs) (hB : B' ≤ B) : w.ownsRow B' e s v n xs := by
  refine ⟨h.1, ?_⟩
  rcases h.2 with h | ⟨g, cap, cur, h1, h2, h3⟩
  · exact .inl h
  · exact .inr ⟨g, cap, cur, h1, Nat.le_trans hB h2, h3⟩
theorem CpQ.R.base {B B' : Nat} {w : World} {x : CpQ} (h : CpQ.R B w x) (hB : B' ≤ B) : CpQ.R B' w x := ⟨Nat.le_trans hB h.1, h.2.1, ownsRow_low h.2.2.1 hB, h.2.2.2.base hB⟩
theorem CpRow.zero {B : Nat} {w : World} {g : Nat} {zc : Array Value} {ns : List NodeD} (h : Blk w g 67 zc) : CpRow B w g zc ns 0 := ⟨[], by simp, rfl, by simpa using h, by simp⟩
/-- Ten cells from place o on. -/
def set10 (w : World) (g o : Nat) (l : List Value) : World := ((((((((((w.setCell ⟨g, o, none⟩ (l.getD 0 undef)).setCell ⟨g, o + 1, none⟩ (l.getD 1 undef)).setCell ⟨g, o + 2, none⟩ (l.getD 2 undef)).setCell ⟨g, o + 3, none⟩ (l.getD 3 undef)).setCell ⟨g, o + 4, none⟩ (l.getD 4 undef)).setCell ⟨g, o + 5, none⟩ (l.getD 5 undef)).setCell ⟨g, o + 6, none⟩ (l.getD 6 undef)).setCell ⟨g, o + 7, none⟩ (l.getD 7 undef)).setCell ⟨g, o + 8, none⟩ (l.getD 8 undef)).setCell ⟨g, o + 9, none⟩ (l.getD 9 undef))
theorem Blk.set10 {w : World} {g : Nat} {t : TypeId} {P R : List Value} {z0 z1 z2 z3 z4 z5 z6 z7 z8 z9 a0 a1 a2 a3 a4 a5 a6 a7 a8 a9 : Value} {o : Nat} (hP : P.length = o) (h : Blk w g t (P ++ z0 :: z1 :: z2 :: z3 :: z4 :: z5 :: z6 :: z7 :: z8 :: z9 :: R).toArray) :
    Blk (Go.Proofs.YtnffjfjhbjeaiaaGreatDoor.set10 w g o [a0, a1, a2, a3, a4, a5, a6, a7, a8, a9]) g t (P ++ a0 :: a1 :: a2 :: a3 :: a4 :: a5 :: a6 :: a7 :: a8 :: a9 :: R).toArray := by
  subst hP
  have := (((((((((h.set_ P.length a0).set_ (P.length + 1) a1).set_ (P.length + 2) a2).set_ (P.length + 3) a3).set_ (P.length + 4) a4).set_ (P.length + 5) a5).set_ (P.length + 6) a6).set_ (P.length + 7) a7).set_ (P.length + 8) a8).set_ (P.length + 9) a9
  simpa [Go.Proofs.YtnffjfjhbjeaiaaGreatDoor.set10, List.set_append_right] using this
theorem Keep.set10 {w : World} {g : Nat} {t : TypeId} {cs : Array Value} (h : Blk w g t cs) (o : Nat) (l : List Value) : Keep t w (Go.Proofs.YtnffjfjhbjeaiaaGreatDoor.set10 w g o l) := by
  unfold Go.Proofs.YtnffjfjhbjeaiaaGreatDoor.set10
  have s : ∀ {W : World} (hk : Keep t w W) (hc : ∃ cs, Blk W g t cs) (i : Nat) (u : Value), Keep t w (W.setCell ⟨g, i, none⟩ u) ∧ ∃ cs, Blk (W.setCell ⟨g, i, none⟩ u) g t cs := fun hk ⟨cs, hc⟩ i u => ⟨hk.trans (Keep.set_ hc i u), _, hc.set_ i u⟩
  have s0 := s (Keep.refl t w) ⟨_, h⟩ o (l.getD 0 undef)
  have s1 := s s0.1 s0.2 (o + 1) (l.getD 1 undef)
  have s2 := s s1.1 s1.2 (o + 2) (l.getD 2 undef)
  have s3 := s s2.1 s2.2 (o + 3) (l.getD 3 undef)
  have s4 := s s3.1 s3.2 (o + 4) (l.getD 4 undef)
  have s5 := s s4.1 s4.2 (o + 5) (l.getD 5 undef)
  have s6 := s s5.1 s5.2 (o + 6) (l.getD 6 undef)
  have s7 := s s6.1 s6.2 (o + 7) (l.getD 7 undef)
  have s8 := s s7.1 s7.2 (o + 8) (l.getD 8 undef)
  exact (s s8.1 s8.2 (o + 9) (l.getD 9 undef)).1
theorem drop_ten {zs : List Value} {o : Nat} (h : o + 10 ≤ zs.length) : ∃ z0 z1 z2 z3 z4 z5 z6 z7 z8 z9, zs.drop o = z0 :: z1 :: z2 :: z3 :: z4 :: z5 :: z6 :: z7 :: z8 :: z9 :: zs.drop (o + 10) := by
  refine ⟨zs[o], zs[o + 1], zs[o + 2], zs[o + 3], zs[o + 4], zs[o + 5], zs[o + 6], zs[o + 7], zs[o + 8], zs[o + 9], ?_⟩
  iterate 10 rw [List.drop_eq_getElem_cons (by omega)]
/-- The next node's cells are there, and what a copy put there leaves. -/
theorem CpRow.next {B : Nat} {w : World} {g : Nat} {zc : Array Value} {ns : List NodeD} {k : Nat} (h : CpRow B w g zc ns k) (hk : k < ns.length) (hz : zc.size = ns.length * 10) :
    (∃ z0 z1 z2 z3 z4 z5 z6 z7 z8 z9, w.cell? ⟨g, k * 10, none⟩ = some z0 ∧ w.cell? ⟨g, k * 10 + 1, none⟩ = some z1 ∧ w.cell? ⟨g, k * 10 + 2, none⟩ = some z2 ∧ w.cell? ⟨g, k * 10 + 3, none⟩ = some z3 ∧ w.cell? ⟨g, k * 10 + 4, none⟩ = some z4 ∧ w.cell? ⟨g, k * 10 + 5, none⟩ = some z5 ∧ w.cell? ⟨g, k * 10 + 6, none⟩ = some z6 ∧ w.cell? ⟨g, k * 10 + 7, none⟩ = some z7 ∧ w.cell? ⟨g, k * 10 + 8, none⟩ = some z8 ∧ w.cell? ⟨g, k * 10 + 9, none⟩ = some z9) ∧
    (∀ i, w.frozen? ⟨g, i, none⟩ = false) ∧
    ∀ x : CpQ, x.v = ns[k] → CpQ.R B w x → CpRow B (Go.Proofs.YtnffjfjhbjeaiaaGreatDoor.set10 w g (k * 10) x.cells) g zc ns (k + 1) ∧ Keep 67 w (Go.Proofs.YtnffjfjhbjeaiaaGreatDoor.set10 w g (k * 10) x.cells) := by
  obtain ⟨L, h1, h2, h3, h4⟩ := h
  obtain ⟨z0, z1, z2, z3, z4, z5, z6, z7, z8, z9, e⟩ := drop_ten (zs := zc.toList) (o := k * 10) (by simp; omega)
  rw [e] at h3
  have hl : (L.flatMap CpQ.cells).length = k * 10 := by rw [CpQ.flat, h2]
  refine ⟨⟨z0, z1, z2, z3, z4, z5, z6, z7, z8, z9, ?_, ?_, ?_, ?_, ?_, ?_, ?_, ?_, ?_, ?_⟩, fun i => h3.frozen i, fun x hx hR => ⟨⟨L ++ [x], ?_, by simp [h2], ?_, fun y hy => ?_⟩, Keep.set10 h3 _ _⟩⟩
  all_goals first | (rw [h3.cell]; simp [← hl]; done) | skip
  · rw [List.map_append, h1, List.take_succ_eq_append_getElem hk, ← hx]; rfl
  · have := Blk.set10 (a0 := .int .i64 x.v.op.kind) (a1 := .int .i64 x.v.op.k) (a2 := .int .i64 x.v.op.width) (a3 := .int .i64 x.v.op.step) (a4 := .int .i64 x.v.op.side) (a5 := .int .i64 x.v.op.frm) (a6 := .int .i64 x.v.op.to) (a7 := .slice (some ⟨x.S, 0, none⟩) x.v.op.s.length x.v.op.s.length) (a8 := .slice x.J x.v.ins.length x.jc) (a9 := .slice (some ⟨x.Q, 0, none⟩) x.v.p.length x.v.p.length) hl h3
    rw [List.flatMap_append, List.append_assoc, show (k + 1) * 10 = k * 10 + 10 by omega]
    exact this
  · have hkp : Keep 67 w (Go.Proofs.YtnffjfjhbjeaiaaGreatDoor.set10 w g (k * 10) x.cells) := Keep.set10 h3 _ _
    rcases List.mem_append.1 hy with hy | hy
    · exact (h4 y hy).keep (by decide) (by decide) hkp
    · simp at hy; subst hy; exact hR.keep (by decide) (by decide) hkp
theorem Later.set10 {w w1 : World} {g o : Nat} {l : List Value} (h : Later w w1) (hg : w.heap.size ≤ g) : Later w (Go.Proofs.YtnffjfjhbjeaiaaGreatDoor.set10 w1 g o l) := by
  unfold Go.Proofs.YtnffjfjhbjeaiaaGreatDoor.set10
  exact (((((((((h.set (p := ⟨g, o, none⟩) hg _).set (p := ⟨g, o + 1, none⟩) hg _).set (p := ⟨g, o + 2, none⟩) hg _).set (p := ⟨g, o + 3, none⟩) hg _).set (p := ⟨g, o + 4, none⟩) hg _).set (p := ⟨g, o + 5, none⟩) hg _).set (p := ⟨g, o + 6, none⟩) hg _).set (p := ⟨g, o + 7, none⟩) hg _).set (p := ⟨g, o + 8, none⟩) hg _).set (p := ⟨g, o + 9, none⟩) hg _
theorem copy_step {B : Nat} {w w1 : World} {g G a r k : Nat} {zc : Array Value} {ns : List NodeD} {cG ca cr : Array Value} {v : NodeD} {h q : Nat} {J : Option Addr} {jc : Nat}
    (hput : ∀ x : CpQ, x.v = v → CpQ.R B w x → CpRow B (Go.Proofs.YtnffjfjhbjeaiaaGreatDoor.set10 w g (k * 10) x.cells) g zc ns (k + 1) ∧ Keep 67 w (Go.Proofs.YtnffjfjhbjeaiaaGreatDoor.set10 w g (k * 10) x.cells))
    (hR : CpQ.R B w ⟨v, h, J, jc, q⟩) (hG : Blk w G 26 cG) (ha : Blk w a 3 ca) (hr : Blk w r 26 cr) (hl : Later w1 w) (hg : w1.heap.size ≤ g) :
    CpRow B (Go.Proofs.YtnffjfjhbjeaiaaGreatDoor.set10 w g (k * 10) (CpQ.cells ⟨v, h, J, jc, q⟩)) g zc ns (k + 1) ∧ Blk (Go.Proofs.YtnffjfjhbjeaiaaGreatDoor.set10 w g (k * 10) (CpQ.cells ⟨v, h, J, jc, q⟩)) G 26 cG ∧ Blk (Go.Proofs.YtnffjfjhbjeaiaaGreatDoor.set10 w g (k * 10) (CpQ.cells ⟨v, h, J, jc, q⟩)) a 3 ca ∧
      Blk (Go.Proofs.YtnffjfjhbjeaiaaGreatDoor.set10 w g (k * 10) (CpQ.cells ⟨v, h, J, jc, q⟩)) r 26 cr ∧ Later w1 (Go.Proofs.YtnffjfjhbjeaiaaGreatDoor.set10 w g (k * 10) (CpQ.cells ⟨v, h, J, jc, q⟩)) := by
  obtain ⟨h1, h2⟩ := hput _ rfl hR
  exact ⟨h1, hG.keep (by decide) h2, ha.keep (by decide) h2, hr.keep (by decide) h2, hl.set10 hg⟩
/-- A copied row reads as its nodes. -/
theorem CpRow.nodes {B : Nat} {w : World} {g : Nat} {zc : Array Value} {ns : List NodeD} (h : CpRow B w g zc ns ns.length) (hs : ∀ v ∈ ns, v.op.s.length ≤ 1048576 ∧ v.p.length ≤ 1048576 ∧ ∀ s ∈ v.p, s.length ≤ 1048576) : Nodes w (some ⟨g, 0, none⟩) ns := fun j hj => by
  obtain ⟨L, h1, h2, h3, h4⟩ := h
  rw [List.take_length] at h1
  subst h1
  rw [List.length_map] at hj
  have hx := h4 L[j] (List.getElem_mem hj)
  have hsz := hs L[j].v (List.mem_map.2 ⟨_, List.getElem_mem hj, rfl⟩)
  obtain ⟨q1, q2, q3, q4⟩ := hx
  obtain ⟨r1, r2, r3⟩ := own_ints q3
  have hsplit : L = L.take j ++ L[j] :: L.drop (j + 1) := by rw [← List.drop_eq_getElem_cons hj, List.take_append_drop]
  have hfl : ((L.take j).flatMap CpQ.cells).length = j * 10 := by rw [CpQ.flat]; simp; omega
  have hcell : ∀ i, i < 10 → w.cell? ⟨g, j * 10 + i, none⟩ = L[j].cells[i]? := fun i hi => by
    rw [h3.cell]
    conv => lhs; rw [hsplit, List.flatMap_append, List.flatMap_cons, List.append_assoc, List.append_assoc]
    rw [List.getElem?_toArray, List.getElem?_append_right (by omega), hfl, show j * 10 + i - j * 10 = i by omega, List.getElem?_append_left (by rw [CpQ.len]; exact hi)]
  rw [List.getElem_map]
  refine ⟨g, 0, some ⟨L[j].S, 0, none⟩, L[j].v.op.s.length, L[j].J, L[j].jc, some ⟨L[j].Q, 0, none⟩, L[j].v.p.length, rfl, h3.lt, ?_, ?_, ?_, ?_, ?_, ?_, ?_, ?_, ?_, ?_, ⟨?_, Nat.le_refl _, by omega⟩, ⟨r1, r2, r3⟩, ⟨q4.shps (fun s h => by have := hsz.2.2 s h; omega), Nat.le_refl _, by omega⟩⟩
  all_goals first | (rw [Nat.zero_add]; exact hcell 0 (by omega)) | (rw [Nat.zero_add]; exact hcell _ (by omega)) | skip
  exact Ints.of_row fun i hi => by
    rw [Nat.zero_add, q2.cell i, getD_at hi]
    simp [hi]
/-- A copied net. -/
def NetCp (B : Nat) (n : NetD) (e : Ending) (w' : World) : Prop :=
  ∃ a g zc, e = .returned (.agg #[.slice (some ⟨a, 0, none⟩) n.inn.length n.inn.length, .slice (some ⟨g, 0, none⟩) n.nodes.length n.nodes.length]) ∧ B ≤ a ∧ B ≤ g ∧ Blk w' a 3 (n.inn.map (Value.int .i64)).toArray ∧ CpRow B w' g zc n.nodes n.nodes.length
end Go.Proofs.YtnffjfjhbjeaiaaGreatDoor
/- Layer 13 (price): sizes, Of: contracts. -/
namespace Go.Proofs.YtnffjfjhbjeaiaaGreatDoor
open Go.RowKit
theorem splice_at {α : Type} (L l : List α) (j : Nat) (hj : l.length ≤ j) : (splice L 0 l)[j]? = L[j]? := by
  unfold splice
  rw [List.take_zero, List.nil_append, List.getElem?_append_right hj, List.getElem?_drop]
  congr 1; omega
def intV (l : List Int) : List Value := l.map (Value.int .i64)
theorem intV_snoc (l : List Int) (x : Int) : intV (l ++ [x]) = intV l ++ [.int .i64 x] := by simp [intV]
theorem intV_len (l : List Int) : (intV l).length = l.length := by simp [intV]
def SizesP (ss : List (List Int)) (w : World) (e : Ending) (w' : World) : Prop :=
  ∃ g, e = .returned (.tuple #[.slice (some ⟨g, 0, none⟩) ss.length ss.length, .int .i64 0]) ∧ w.heap.size ≤ g ∧ Blk w' g 3 (intV (ss.map Safe.prod)).toArray ∧ Below w.heap.size w w'
/-- A row of numbers of the call's own, whose first are known. -/
theorem Blk.splice_set {w : World} {g : Nat} {t : TypeId} {L l : List Value} {o : Nat} (h : Blk w g t (splice L o l).toArray) (hl : o + l.length < L.length) (v : Value) : Blk (w.setCell ⟨g, o + l.length, none⟩ v) g t (splice L o (l ++ [v])).toArray := by
  have := h.set_ (o + l.length) v
  rw [← Go.Proofs.YtnffjfjhbjeaiaaGreatDoor.splice_set L o l v hl]
  simpa using this
theorem Blk.has {w : World} {g : Nat} {t : TypeId} {L : List Value} {j : Nat} (h : Blk w g t L.toArray) (hj : j < L.length) : ∃ v, w.cell? ⟨g, j, none⟩ = some v := ⟨L[j], by rw [h.cell]; simp⟩
set_option maxRecDepth 20000 in
set_option maxHeartbeats 4000000 in
theorem price_sizes (A : Option Addr) (c : Nat) (ss : List (List Int)) (w : World) (hl : ss.length ≤ 1099511627776) (hr : ∀ s ∈ ss, Sh.right s = true) (hS : Shps w A ss) :
    Calls Tryz.prog 88 #[.slice A ss.length c] w (SizesP ss w) := by
  obtain ⟨i0, hi, hz0, hz1, hz2⟩ := info_parts int_info
  have Hr := Lib.hid hr
  have HS := Lib.hid hS
  clear hr hS
  go_enter Tryz.func88, Tryz.ntmps88
  go_wp2_with (at_make; refine wpList_make_full _ rfl _ _ 22 rfl w.heap.size 3 i0 (.int .i64 0) 1 Tryz.underlying22 hi hz0 hz1 _ _ _ _ ss.length rfl rfl (by first | rfl | simp | (go_simp; rfl)) (by first | rfl | simp | (go_simp; rfl)) ?b2 ?b3 ?b4 ?_)
  case b2 => rw [hz2]; omega
  case b3 => unfold maxLen; omega
  case b4 => exact Nat.le_refl _
  intro w1 hown hgrow
  have hblk := own_cur hown
  rw [made_one] at hblk
  have hb1 : Below w.heap.size w w1 := (Below.refl _ w).grown hgrow (Nat.le_refl _) (by simp)
  have hm0 : Blk w1 w.heap.size 3 (splice (List.replicate ss.length (Value.int .i64 0)) 0 (intV ((ss.take 0).map Safe.prod))).toArray := by simpa [splice, intV, Blk] using hblk
  have Hm0 := Lib.hid hm0
  clear hm0
  clear hblk hown hgrow
  go_wp2_with fail
  go_loopw [14] (fun i wx => ∃ k : Nat, k ≤ ss.length ∧ i = .int .i64 (k : Int) ∧ Blk wx w.heap.size 3 (splice (List.replicate ss.length (Value.int .i64 0)) 0 (intV ((ss.take k).map Safe.prod))).toArray ∧ Below w.heap.size w wx) (fun i _ => ss.length - (intOf i).toNat)
  case atStart => exact ⟨0, Nat.zero_le _, rfl, Hm0.out, hb1⟩
  case round =>
    obtain ⟨k, hk, rfl, hm, hbw⟩ := hrel
    clear Hm0 hb1
    by_cases hlt : k < ss.length
    · obtain ⟨b, off, S, sc, rfl, -, hc, hI, -⟩ := HS.out k hlt
      have hrs := Hr.out _ (List.getElem_mem hlt)
      have hc2 := cell_below hbw hc
      have hml : (intV ((ss.take k).map Safe.prod)).length = k := by rw [intV_len]; simp; omega
      have hsn : intV ((ss.take (k + 1)).map Safe.prod) = intV ((ss.take k).map Safe.prod) ++ [.int .i64 (Safe.prod ss[k])] := by rw [List.take_succ_eq_append_getElem hlt, List.map_append, List.map_singleton, intV_snoc]
      generalize ss[k] = s at *
      have hsz := Sh.size_right hrs
      have hlen := (Sh.right_mul hrs).2.1
      have hI2 := hI.below hbw (Nat.le_refl _)
      have Hm := Lib.hid hm
      have HI := Lib.hid hI
      have HI2 := Lib.hid hI2
      have Hrs := Lib.hid hrs
      have Hsz := Lib.hid hsz
      have Hml := Lib.hid hml
      have Hsn := Lib.hid hsn
      clear hm hI hI2 hrs hsz hml hsn
      clear hc
      go_wp2_with fail
      refine (shape_size S sc s _ (by omega) HI2.out).mono ?_
      rintro e w2 ⟨rfl, hb2⟩
      rw [Hsz.out]
      have hm2 := Hm.out.below hb2 Hm.out.lt
      have hbw2 := hbw.trans (hb2.mono hbw.size)
      have hm3 := hm2.splice_set (o := 0) (by rw [Hml.out]; simp; omega) (.int .i64 (Safe.prod s))
      rw [Hml.out, Nat.zero_add, ← Hsn.out] at hm3
      obtain ⟨y, hy⟩ := hm2.has (j := k) (by rw [length_splice _ _ _ (by rw [Hml.out]; simp; omega)]; simp; omega)
      have fy := hm2.frozen k
      have hbw3 := hbw2.setCell (p := ⟨w.heap.size, k, none⟩) (by simp) (.int .i64 (Safe.prod s))
      have Hm2 := Lib.hid hm2
      have Hm3 := Lib.hid hm3
      clear hm2 hm3
      clear hc2 hb2
      go_wp2_with fail
      go_roundw
      case rel => exact ⟨k + 1, by omega, by go_num, Hm3.out, hbw3⟩
      case measure => simp [intOf]; omega
    · obtain rfl : k = ss.length := by omega
      rw [List.take_length, splice_full _ _ (by rw [intV_len]; simp)] at hm
      have Hm := Lib.hid hm
      clear hm
      go_wp2_with fail
      go_ret2
      exact ⟨w.heap.size, rfl, Nat.le_refl _, Hm.out, hbw⟩
def OfP (n : NetD) (w : World) (e : Ending) (w' : World) : Prop :=
  Below w.heap.size w w' ∧ ((Nt.check n = 0 ∧ ∃ g g2, e = .returned (.tuple #[.agg #[.slice (some ⟨g, 0, none⟩) (n.nodes.length + 1) (n.nodes.length + 1), .slice (some ⟨g2, 0, none⟩) (n.nodes.length + 1) (n.nodes.length + 1), .int .i64 (Nt.total n)], .int .i64 0]) ∧ Blk w' g 3 (intV (Nt.words n)).toArray ∧ Blk w' g2 3 (intV (Nt.costs n)).toArray) ∨
    (Nt.check n ≠ 0 ∧ e = .returned (.tuple #[.agg #[.slice none 0 0, .slice none 0 0, .int .i64 0], .int .i64 (Nt.check n)])))
theorem costs_splice (n : NetD) (L : List Value) (hL : L.length = n.nodes.length + 1) (h0 : L[0]? = some (.int .i64 0)) : splice L 1 (intV (Nt.costsTo n n.nodes.length)) = intV (Nt.costs n) := by
  unfold splice
  have hd : L.drop (1 + (intV (Nt.costsTo n n.nodes.length)).length) = [] := List.drop_eq_nil_of_le (by rw [intV_len, Nt.costsTo_len]; omega)
  rw [hd, List.append_nil]
  match L, hL, h0 with
  | a :: r, _, h0 =>
    simp at h0
    subst h0
    simp [Nt.costs, intV]
theorem zeros_splice (n : NetD) (k : Nat) : splice (List.replicate k (Value.int .i64 0)) 1 (intV (Nt.costsTo n 0)) = List.replicate k (Value.int .i64 0) := by
  have e : intV (Nt.costsTo n 0) = [] := rfl
  rw [e]
  unfold splice
  rw [List.nil_append, List.length_nil, Nat.add_zero, List.take_append_drop]
theorem gets_at' {sh : List (List Int)} {u : Nat} (h : u < sh.length) : sh.getD u [] = sh[u] := by rw [List.getD_eq_getElem?_getD, List.getElem?_eq_getElem h]; rfl
set_option maxRecDepth 20000 in
set_option maxHeartbeats 16000000 in
theorem price_of (A N : Option Addr) (c d : Nat) (n : NetD) (w : World) (hok : n.ok) (hR : NetR w A N n) (hd : n.nodes.length ≤ d) (hsm : n.nodes.length ≤ 200) :
    Calls Tryz.prog 69 #[.agg #[.slice A n.inn.length c, .slice N n.nodes.length d]] w (OfP n w) := by
  obtain ⟨i0, hi, hz0, hz1, hz2⟩ := info_parts shpT_info
  obtain ⟨i1, hj, hy0, hy1, hy2⟩ := info_parts int_info
  have hk0 := (Blk.new w 26 #[.slice A n.inn.length c, .slice N n.nodes.length d]).alloc (.cells #[.slice none 0 0, .slice none 0 0, .int .i64 0] 123)
  have hr0 := Blk.new (w.alloc (.cells #[.slice A n.inn.length c, .slice N n.nodes.length d] 26)) 123 #[.slice none 0 0, .slice none 0 0, .int .i64 0]
  rw [World.size_alloc] at hr0
  have hl0 : Later w ((w.alloc (.cells #[.slice A n.inn.length c, .slice N n.nodes.length d] 26)).alloc (.cells #[.slice none 0 0, .slice none 0 0, .int .i64 0] 123)) := ((Later.refl w).alloc _).alloc _
  have HR := Lib.hid hR
  have Hk0 := Lib.hid hk0
  have Hl0 := Lib.hid hl0
  have Hr0 := Lib.hid hr0
  have Hok := Lib.hid hok
  clear hR hk0 hl0 hr0 hok
  go_enter Tryz.func69, Tryz.ntmps69
  go_wp2_with fail
  generalize (w.alloc (.cells #[.slice A n.inn.length c, .slice N n.nodes.length d] 26)).alloc (.cells #[.slice none 0 0, .slice none 0 0, .int .i64 0] 123) = w1 at *
  refine (net_shapes A N c d n w1 Hok.out (HR.out.below Hl0.out (Nat.le_refl _)) hd).mono ?_
  rintro e w2 ⟨hb2, ⟨hc, g, rfl, -, hrow⟩ | ⟨hc, rfl⟩⟩
  all_goals
    have hl2 := Hl0.out.call hb2
    have hk2 := (show Later w1 w2 from hb2).blk Hk0.out
    have hr2 := (show Later w1 w2 from hb2).blk Hr0.out
    clear hb2
  rotate_left
  · have q0 : (Nt.check n != 0) = true := by simp [hc]
    have c0 := hr2.cell 0
    have c1 := hr2.cell 1
    have c2 := hr2.cell 2
    have f0 := hr2.frozen 0
    have f1 := hr2.frozen 1
    have f2 := hr2.frozen 2
    simp at c0 c1 c2
    have hr3 := ((hr2.set_ 0 (.slice none 0 0)).set_ 1 (.slice none 0 0)).set_ 2 (.int .i64 0)
    have d0 := hr3.cell 0
    have d1 := hr3.cell 1
    have d2 := hr3.cell 2
    simp at d0 d1 d2
    have hs := hl2.size
    have Hc := Lib.hid hc
    have Hl2 := Lib.hid hl2
    have Hk2 := Lib.hid hk2
    have Hr2 := Lib.hid hr2
    have Hr3 := Lib.hid hr3
    clear hc hl2 hk2 hr2 hr3
    go_wp2_with fail
    refine bodyPost_ret (v := .tuple #[.agg #[.slice none 0 0, .slice none 0 0, .int .i64 0], .int .i64 (Nt.check n)]) (by simp [results, Tryz.results69, go_sem, d0, d1, d2]) rfl ?_
    exact ⟨((Hl2.out.set (p := ⟨w.heap.size + 1, 0, none⟩) (Nat.le_succ _) _).set (p := ⟨w.heap.size + 1, 1, none⟩) (Nat.le_succ _) _).set (p := ⟨w.heap.size + 1, 2, none⟩) (Nat.le_succ _) _, .inr ⟨Hc.out, rfl⟩⟩
  have hsl := Nt.shapes_len hc
  have hsr := Nt.shapes_all hc
  have hrs := hrow.shps
  have hca := fun k hk => @Nt.cost_at n hc k hk
  have htot := (Nt.total_bd hc hsm).2.2
  have hwd : (Nt.shapes n).map Safe.prod = Nt.words n := rfl
  have hsn := fun k hk => @Nt.costsTo_succ n k hk
  have hcb := Nt.costs_bd hc
  have hbad := Nt.bads_all (Nt.check_ok hc).2.2.2.1
  generalize Nt.shapes n = sh at *
  have Hc := Lib.hid hc
  have Hl2 := Lib.hid hl2
  have Hk2 := Lib.hid hk2
  have Hr2 := Lib.hid hr2
  have Hrow := Lib.hid hrow
  have Hsr := Lib.hid hsr
  have Hrs := Lib.hid hrs
  have Hca := Lib.hid hca
  have Htot := Lib.hid htot
  have Hwd := Lib.hid hwd
  have Hsn := Lib.hid hsn
  have Hcb := Lib.hid hcb
  have Hbad := Lib.hid hbad
  clear hc hl2 hk2 hr2 hrow hsr hrs hca htot hwd hsn hcb hbad
  have hsl2 : sh.length ≤ 201 := by omega
  rw [← hsl]
  have Hsl := Lib.hid hsl
  clear hsl
  go_wp2_with fail
  refine (price_sizes (some ⟨g, 0, none⟩) sh.length sh w2 (by omega) Hsr.out Hrs.out).mono ?_
  rintro e w3 ⟨gw, rfl, hgw, hbw, hb3⟩
  rw [Hwd.out] at hbw
  have hl3 := Hl2.out.call hb3
  have hl23 : Later w2 w3 := hb3
  have hk3 := hl23.blk Hk2.out
  have hr3 := hl23.blk Hr2.out
  have hrow3 := Hrow.out.below hb3 (Nat.le_refl _)
  have x1 : w3.cell? ⟨w.heap.size, 1, none⟩ = some (.slice N n.nodes.length d) := by rw [hk3.cell]; rfl
  have hs3 := hl3.size
  have Hl3 := Lib.hid hl3
  have Hk3 := Lib.hid hk3
  have Hr3 := Lib.hid hr3
  have Hrow3 := Lib.hid hrow3
  have Hbw := Lib.hid hbw
  have Hl23 := Lib.hid hl23
  clear hl3 hk3 hr3 hrow3 hbw hl23
  clear hb3 hgw
  go_wp2_with (at_make; refine wpList_make_full _ rfl _ _ 22 rfl w3.heap.size 3 i1 (.int .i64 0) 1 Tryz.underlying22 hj hy0 hy1 _ _ _ _ sh.length rfl rfl (by first | rfl | simp | (go_simp; rfl)) (by first | rfl | simp | (go_simp; rfl)) ?b2 ?b3 ?b4 ?_)
  case b2 => rw [hy2]; omega
  case b3 => unfold maxLen; omega
  case b4 => exact Nat.le_refl _
  intro w4 hown hgrow
  have hblk := own_cur hown
  rw [made_one] at hblk
  have hb4 : Below w3.heap.size w3 w4 := (Below.refl _ w3).grown hgrow (Nat.le_refl _) (by simp)
  have hl34 : Later w3 w4 := hb4
  have hm0 : Blk w4 w3.heap.size 3 (splice (List.replicate sh.length (Value.int .i64 0)) 1 (intV (Nt.costsTo n 0))).toArray := by
    rw [zeros_splice]
    exact hblk
  have x1' := hl34.cell x1
  have Hm0 := Lib.hid hm0
  have Hl34 := Lib.hid hl34
  clear hm0 hl34
  clear hblk hown hgrow hb4 x1
  go_wp2_with fail
  go_loopw [40] (fun i wx => ∃ k : Nat, k ≤ n.nodes.length ∧ i = .int .i64 (k : Int) ∧ Blk wx w3.heap.size 3 (splice (List.replicate sh.length (Value.int .i64 0)) 1 (intV (Nt.costsTo n k))).toArray ∧ Later w3 wx) (fun i _ => n.nodes.length - (intOf i).toNat)
  case atStart => exact ⟨0, Nat.zero_le _, rfl, Hm0.out, Hl34.out⟩
  case round =>
    obtain ⟨k, hk, rfl, hm, hlw⟩ := hrel
    clear Hm0 Hl34 x1'
    by_cases hlt : k < n.nodes.length
    · obtain ⟨b, off, S, sc, I, ic, Q, qc, rfl, hNA, hs1, hI1, hq1⟩ := HR.out.2.at_ hlt
      have hnok := Hok.out.2.2 _ (List.getElem_mem hlt)
      have hinr := (Hbad.out _ (List.getElem_mem hlt)).2
      have hcost := Hca.out k hlt
      have hsnk := Hsn.out k hlt
      have hcb1 : 0 ≤ Od.costV n.nodes[k].op n.nodes[k].p (sh.getD (k + 1) []) ∧ Od.costV n.nodes[k].op n.nodes[k].p (sh.getD (k + 1) []) ≤ 4294967296 := Hcb.out (k + 1) (by omega) _ (by rw [hsnk]; simp)
      have hvi := hnok.2.2.1
      have hlw' := Hl3.out.trans hlw
      have hNAw := hNA.below hlw'
      generalize n.nodes[k] = v at *
      generalize Od.costV v.op v.p (sh.getD (k + 1) []) = cv at *
      obtain ⟨⟨y0, y1, y2, y3, y4, y5, y6, y7, y8, y9⟩, -⟩ := hNAw
      have hkn := Blk.new wr 67 #[.int .i64 v.op.kind, .int .i64 v.op.k, .int .i64 v.op.width, .int .i64 v.op.step, .int .i64 v.op.side, .int .i64 v.op.frm, .int .i64 v.op.to, .slice S v.op.s.length sc, .slice I v.ins.length ic, .slice Q v.p.length qc]
      have hln : Later wr (wr.alloc (.cells #[.int .i64 v.op.kind, .int .i64 v.op.k, .int .i64 v.op.width, .int .i64 v.op.step, .int .i64 v.op.side, .int .i64 v.op.frm, .int .i64 v.op.to, .slice S v.op.s.length sc, .slice I v.ins.length ic, .slice Q v.p.length qc] 67)) := (Later.refl wr).alloc _
      have hmn := hm.alloc (.cells #[.int .i64 v.op.kind, .int .i64 v.op.k, .int .i64 v.op.width, .int .i64 v.op.step, .int .i64 v.op.side, .int .i64 v.op.frm, .int .i64 v.op.to, .slice S v.op.s.length sc, .slice I v.ins.length ic, .slice Q v.p.length qc] 67)
      have Hm := Lib.hid hm
      have Hlw := Lib.hid hlw
      have HNA := Lib.hid hNA
      have Hnok := Lib.hid hnok
      have Hinr := Lib.hid hinr
      have Hcost := Lib.hid hcost
      have Hsnk := Lib.hid hsnk
      have Hlw' := Lib.hid hlw'
      have Hkn := Lib.hid hkn
      have Hln := Lib.hid hln
      have Hmn := Lib.hid hmn
      clear hm hlw hNA hnok hinr hcost hsnk hlw' hkn hln hmn
      go_wp2_with (at_make; refine wpList_make_full _ rfl _ _ 65 rfl wr.heap.size 23 i0 (.slice none 0 0) 1 Tryz.underlying65 hi hz0 hz1 _ _ _ _ v.ins.length rfl rfl (by first | rfl | simp | (go_simp; rfl)) (by first | rfl | simp | (go_simp; rfl)) ?b2 ?b3 ?b4 ?_)
      case b2 => rw [hz2]; omega
      case b3 => unfold maxLen; omega
      case b4 => simp
      intro w5 hown hgrow
      have hblk := own_cur hown
      rw [made_one] at hblk
      have hrow5 : ShpRow w5 (wr.heap.size + 1) 23 (Nt.insMid sh v.ins 0) := by rw [Nt.insMid_zero]; exact ShpRow.new (by simpa [Blk] using hblk)
      have hl5 : Later wr w5 := Below.grown Hln.out hgrow (by simp) (by simp)
      have hkn5 : Blk w5 wr.heap.size 67 #[.int .i64 v.op.kind, .int .i64 v.op.k, .int .i64 v.op.width, .int .i64 v.op.step, .int .i64 v.op.side, .int .i64 v.op.frm, .int .i64 v.op.to, .slice S v.op.s.length sc, .slice I v.ins.length ic, .slice Q v.p.length qc] := Hkn.out.grown hgrow (by simp)
      have z8 : w5.cell? ⟨wr.heap.size, 8, none⟩ = some (.slice I v.ins.length ic) := by rw [hkn5.cell]; rfl
      have Hrow5 := Lib.hid hrow5
      have Hkn5 := Lib.hid hkn5
      have Hl5 := Lib.hid hl5
      clear hrow5 hkn5 hl5
      clear hblk hown hgrow y0 y1 y2 y3 y4 y5 y6 y7 y8 y9 Hln Hkn Hmn
      go_wp2_with fail
      clear z8
      obtain ⟨wo, rfl⟩ : ∃ wo, wo = wr := ⟨wr, rfl⟩
      go_loopw [52] (fun i wx => ∃ m : Nat, m ≤ v.ins.length ∧ i = .int .i64 m ∧ Blk wx wo.heap.size 67 #[.int .i64 v.op.kind, .int .i64 v.op.k, .int .i64 v.op.width, .int .i64 v.op.step, .int .i64 v.op.side, .int .i64 v.op.frm, .int .i64 v.op.to, .slice S v.op.s.length sc, .slice I v.ins.length ic, .slice Q v.p.length qc] ∧ Later wo wx ∧ ShpRow wx (wo.heap.size + 1) 23 (Nt.insMid sh v.ins m)) (fun i _ => v.ins.length - (intOf i).toNat)
      case atStart => exact ⟨0, Nat.zero_le _, rfl, Hkn5.out, Hl5.out, Hrow5.out⟩
      case round =>
        obtain ⟨m, hm, rfl, hknx, hlx, hrx⟩ := hrel
        clear Hkn5 Hrow5 Hl5
        have hNx := HNA.out.below (Hlw'.out.trans hlx)
        have hml := Nt.insMid_len sh v.ins hm
        by_cases hlm : m < v.ins.length
        · obtain ⟨b2, off2, rfl, -, hc2⟩ := hNx.2.2.1 m hlm
          rw [getD_at hlm] at hc2
          have hr2 := Hinr.out _ (List.getElem_mem hlm)
          have HM := Lib.hid (Nt.insMid_succ sh v.ins hlm)
          obtain ⟨u, hu⟩ : ∃ u : Nat, v.ins[m] = u := ⟨v.ins[m].toNat, by omega⟩
          rw [hu] at hc2 hr2
          have hul : u < sh.length := by rw [Hsl.out]; omega
          have hg2 := Hsr.out _ (List.getElem_mem hul)
          obtain ⟨Su, cu, yu, hIu, lu1, lu2, -⟩ := (Hrow3.out.below Hlw.out (Nat.le_refl _)).at_ hul
          obtain ⟨b3, off3, rfl, hb3, -⟩ := hIu 0 (right_short hg2).1
          have yu' := hlx.cell yu
          have hIu' := hIu.below hlx (Nat.le_refl _)
          have hset := hrx.set_ (i := m) hIu' lu1 lu2 (fun a h => by injection h with h; subst h; simp; omega)
          obtain ⟨Sm, cm, ym, -⟩ := hrx.at_ (j := m) (by omega)
          have fm : wr.frozen? ⟨wo.heap.size + 1, m, none⟩ = false := by obtain ⟨vs, _, hk, _⟩ := hrx; exact hk.frozen m
          have HS := Lib.hid (show ShpRow (wr.setCell ⟨wo.heap.size + 1, m, none⟩ (.slice (some ⟨b3, off3, none⟩) sh[u].length cu)) (wo.heap.size + 1) 23 (Nt.insMid sh v.ins (m + 1)) by
            rw [HM.out, hu, show ((u : Int)).toNat = u by omega, gets_at' hul]; exact hset)
          have HKN := Lib.hid (hknx.far (p := ⟨wo.heap.size + 1, m, none⟩) (by simp) (.slice (some ⟨b3, off3, none⟩) sh[u].length cu))
          have HLX := Lib.hid (hlx.set (p := ⟨wo.heap.size + 1, m, none⟩) (Nat.le_succ _) (.slice (some ⟨b3, off3, none⟩) sh[u].length cu))
          have u0 : (0 : Int) ≤ u := by omega
          have u1 : (u : Int) < (sh.length : Int) := by omega
          have m1 : (m : Int) < v.ins.length := by omega
          clear hset hIu hIu' hknx hrx hNx hg2 hu yu hlx
          go_wp2_with fail
          go_roundw
          case rel => exact ⟨m + 1, by omega, by go_num, HKN.out, HLX.out, HS.out⟩
          case measure => simp [intOf]; omega
        · obtain rfl : m = v.ins.length := by omega
          have hpl : (Nt.pick sh v.ins).length = v.ins.length := by simp [Nt.pick]
          rw [Nt.insMid_all] at hrx
          obtain ⟨y0, y1, y2, y3, y4, y5, y6, y7, y9⟩ : wr.cell? ⟨wo.heap.size, 0, none⟩ = some (.int .i64 v.op.kind) ∧ wr.cell? ⟨wo.heap.size, 1, none⟩ = some (.int .i64 v.op.k) ∧ wr.cell? ⟨wo.heap.size, 2, none⟩ = some (.int .i64 v.op.width) ∧ wr.cell? ⟨wo.heap.size, 3, none⟩ = some (.int .i64 v.op.step) ∧ wr.cell? ⟨wo.heap.size, 4, none⟩ = some (.int .i64 v.op.side) ∧ wr.cell? ⟨wo.heap.size, 5, none⟩ = some (.int .i64 v.op.frm) ∧ wr.cell? ⟨wo.heap.size, 6, none⟩ = some (.int .i64 v.op.to) ∧ wr.cell? ⟨wo.heap.size, 7, none⟩ = some (.slice S v.op.s.length sc) ∧ wr.cell? ⟨wo.heap.size, 9, none⟩ = some (.slice Q v.p.length qc) := by
            refine ⟨?_, ?_, ?_, ?_, ?_, ?_, ?_, ?_, ?_⟩
            all_goals (rw [hknx.cell]; rfl)
          have hno := Hnok.out
          have hxr : ∀ s ∈ Nt.pick sh v.ins, s.length ≤ 17592186043904 := fun s hs => by
            obtain ⟨i, hi, rfl⟩ := List.mem_map.1 hs
            have hr := Hinr.out i hi
            have hl : i.toNat < sh.length := by rw [Hsl.out]; omega
            rw [gets_at' hl]
            have := (right_short (Hsr.out _ (List.getElem_mem hl))).2
            omega
          have hcall := op_cost v.op S Q (some ⟨wo.heap.size + 1, 0, none⟩) sc qc v.ins.length v.p (Nt.pick sh v.ins) wr (by have := hno.2.1; omega) hNx.2.1 ⟨hNx.2.2.2, hq1.1, hq1.2, fun s hs => by have := hno.2.2.2.2.1 s hs; omega⟩ ⟨hrx.shps, by omega, by omega, hxr⟩
          rw [hpl, Hcost.out] at hcall
          have Hcall := Lib.hid hcall
          have Hlx := Lib.hid hlx
          clear hcall hlx
          clear hNx hrx hknx hpl hno hxr
          go_wp2_with fail
          clear y0 y1 y2 y3 y4 y5 y6 y7 y9
          refine (Hcall.out).mono ?_
          rintro e w6 ⟨rfl, hb6⟩
          have hlo6 := Hlx.out.call hb6
          have hm6 := hlo6.blk Hm.out
          have hl36 := Hlw.out.trans hlo6
          have hvl : (intV (Nt.costsTo n k)).length = k := by rw [intV_len, Nt.costsTo_len]
          have hslq := Hsl.out
          have hm7 := hm6.splice_set (by rw [hvl, List.length_replicate]; omega) (.int .i64 cv)
          rw [hvl, ← intV_snoc, ← Hsnk.out, show 1 + k = k + 1 by omega] at hm7
          obtain ⟨y, hy⟩ := hm6.has (j := k + 1) (by rw [length_splice _ _ _ (by rw [hvl, List.length_replicate]; omega), List.length_replicate]; omega)
          have fy := hm6.frozen (k + 1)
          have hl37 := hl36.set (p := ⟨w3.heap.size, k + 1, none⟩) (Nat.le_refl _) (.int .i64 cv)
          have k1 : (k : Int) + 1 < (sh.length : Int) := by omega
          have k2 : ((k : Int) + 1).toNat = k + 1 := by omega
          clear hslq hvl hb6
          have Hlo6 := Lib.hid hlo6
          have Hm6 := Lib.hid hm6
          have Hl36 := Lib.hid hl36
          have Hm7 := Lib.hid hm7
          have Hl37 := Lib.hid hl37
          clear hlo6 hm6 hl36 hm7 hl37
          go_wp2_with fail
          go_roundw
          case rel => exact ⟨k + 1, by omega, by go_num, Hm7.out, Hl37.out⟩
          case measure => simp [intOf]; omega
    · obtain rfl : k = n.nodes.length := by omega
      have hslq := Hsl.out
      have hne : (List.replicate sh.length (Value.int .i64 0))[0]? = some (.int .i64 0) := by rw [List.getElem?_replicate, if_pos (by omega)]
      rw [costs_splice n _ (by rw [List.length_replicate]; exact hslq) hne] at hm
      have hcl : (Nt.costs n).length = sh.length := by rw [hslq]; simp [Nt.costs, Nt.costsTo_len]
      have hIc : Ints .i64 wr (some ⟨w3.heap.size, 0, none⟩) (Nt.costs n) := Ints.of_row fun j hj => by
        rw [Nat.zero_add, hm.cell]
        simp [intV, hj]
      have hlr := Hl3.out.trans hlw
      have hcall := safe_add (some ⟨w3.heap.size, 0, none⟩) sh.length (Nt.costs n) wr (by rw [hcl]; omega) hIc
      rw [hcl, Htot.out] at hcall
      clear hslq hne hcl
      have Hm := Lib.hid hm
      have HIc := Lib.hid hIc
      have Hlr := Lib.hid hlr
      have Hcall := Lib.hid hcall
      have Hlw := Lib.hid hlw
      clear hm hIc hlr hcall hlw
      go_wp2_with fail
      refine (Hcall.out).mono ?_
      rintro e w5 ⟨rfl, hb5⟩
      have hl5 := Hlr.out.call hb5
      have hr5 := (Hlw.out.call hb5).blk Hr3.out
      have hm5 := (show Later wr w5 from hb5).blk Hm.out
      have hw5 := (Hlw.out.call hb5).blk Hbw.out
      have c0 := hr5.cell 0
      have c1 := hr5.cell 1
      have c2 := hr5.cell 2
      have f0 := hr5.frozen 0
      have f1 := hr5.frozen 1
      have f2 := hr5.frozen 2
      simp at c0 c1 c2
      have hr6 := ((hr5.set_ 0 (.slice (some ⟨gw, 0, none⟩) sh.length sh.length)).set_ 1 (.slice (some ⟨w3.heap.size, 0, none⟩) sh.length sh.length)).set_ 2 (.int .i64 (Nt.total n))
      have d0 := hr6.cell 0
      have d1 := hr6.cell 1
      have d2 := hr6.cell 2
      simp at d0 d1 d2
      have hkp : Keep 123 w5 (((w5.setCell ⟨w.heap.size + 1, 0, none⟩ (.slice (some ⟨gw, 0, none⟩) sh.length sh.length)).setCell ⟨w.heap.size + 1, 1, none⟩ (.slice (some ⟨w3.heap.size, 0, none⟩) sh.length sh.length)).setCell ⟨w.heap.size + 1, 2, none⟩ (.int .i64 (Nt.total n))) := ((Keep.set_ hr5 0 _).trans (Keep.set_ (hr5.set_ 0 _) 1 _)).trans (Keep.set_ ((hr5.set_ 0 _).set_ 1 _) 2 _)
      have hm6 := hm5.keep (by decide) hkp
      have hw6 := hw5.keep (by decide) hkp
      clear hb5
      have Hl5 := Lib.hid hl5
      have Hr5 := Lib.hid hr5
      have Hm5 := Lib.hid hm5
      have Hw5 := Lib.hid hw5
      have Hr6 := Lib.hid hr6
      have Hkp := Lib.hid hkp
      have Hm6 := Lib.hid hm6
      have Hw6 := Lib.hid hw6
      clear hl5 hr5 hm5 hw5 hr6 hkp hm6 hw6
      go_wp2_with fail
      refine bodyPost_ret (v := .tuple #[.agg #[.slice (some ⟨gw, 0, none⟩) sh.length sh.length, .slice (some ⟨w3.heap.size, 0, none⟩) sh.length sh.length, .int .i64 (Nt.total n)], .int .i64 0]) (by simp [results, Tryz.results69, go_sem, d0, d1, d2]) rfl ?_
      exact ⟨((Hl5.out.set (p := ⟨w.heap.size + 1, 0, none⟩) (Nat.le_succ _) _).set (p := ⟨w.heap.size + 1, 1, none⟩) (Nat.le_succ _) _).set (p := ⟨w.heap.size + 1, 2, none⟩) (Nat.le_succ _) _, .inl ⟨Hc.out, gw, w3.heap.size, by rw [← Hsl.out], Hw6.out, Hm6.out⟩⟩
end Go.Proofs.YtnffjfjhbjeaiaaGreatDoor
/- Layer 11 (net): Params, and what the statements ask of users: contracts. -/
namespace Go.Proofs.YtnffjfjhbjeaiaaGreatDoor
open Go.RowKit
/-- These values are shapes, each in a block of its own. -/
def PList (w : World) (vs : List Value) (ss : List (List Int)) : Prop :=
  vs.length = ss.length ∧ ∀ j (hj : j < ss.length), ∃ h, vs[j]? = some (.slice (some ⟨h, 0, none⟩) ss[j].length ss[j].length) ∧ Blk w h 3 (ss[j].map (Value.int .i64)).toArray
theorem PList.nil (w : World) : PList w [] [] := ⟨rfl, fun j hj => absurd hj (by simp)⟩
theorem PList.append {w : World} {vs vs' : List Value} {ss ss' : List (List Int)} (h : PList w vs ss) (h' : PList w vs' ss') : PList w (vs ++ vs') (ss ++ ss') := by
  refine ⟨by simp [h.1, h'.1], fun j hj => ?_⟩
  by_cases hl : j < ss.length
  · obtain ⟨g, e, hb⟩ := h.2 j hl
    have e2 : (ss ++ ss')[j] = ss[j] := by simp [hl]
    rw [e2]
    exact ⟨g, by rw [List.getElem?_append_left (by rw [h.1]; exact hl)]; exact e, hb⟩
  · have hl2 : j - ss.length < ss'.length := by simp at hj; omega
    obtain ⟨g, e, hb⟩ := h'.2 (j - ss.length) hl2
    have e2 : (ss ++ ss')[j] = ss'[j - ss.length] := by rw [List.getElem_append_right (by omega)]
    rw [e2]
    exact ⟨g, by rw [List.getElem?_append_right (by rw [h.1]; omega), h.1]; exact e, hb⟩
theorem PList.keep {w w' : World} {vs : List Value} {ss : List (List Int)} {T : TypeId} (h : PList w vs ss) (hT : 3 ≠ T) (hk : Keep T w w') : PList w' vs ss :=
  ⟨h.1, fun j hj => by obtain ⟨g, e, hb⟩ := h.2 j hj; exact ⟨g, e, hb.keep hT hk⟩⟩
theorem PList.one {w : World} {vs : List Value} {ss : List (List Int)} (h : PList w vs ss) : ∀ u ∈ vs, u.oneCell' = true := fun u hu => by
  obtain ⟨j, hj, rfl⟩ := List.getElem_of_mem hu
  obtain ⟨g, e, _⟩ := h.2 j (by rw [← h.1]; exact hj)
  rw [List.getElem?_eq_getElem hj] at e
  injection e with e
  rw [e]; rfl
theorem FRow.plist {B : Nat} {w : World} {g : Nat} {t : TypeId} {ss : List (List Int)} (h : FRow B w g t ss) : ∃ vs : List Value, Blk w g t vs.toArray ∧ PList w vs ss := by
  obtain ⟨_, hs, hl, ⟨vs, hvl, hb, hv⟩, hr⟩ := h
  exact ⟨vs, hb, hvl, fun j hj => ⟨hs[j]'(by omega), hv j hj (by omega), (hr j hj (by omega)).2.2⟩⟩
theorem Keep.of_grown {T : TypeId} {w w' : World} {B s n : Nat} {v : Value} {xs : List Value} (h : w.ownsRow B T s v n xs) (hg : w.grownBy w' v.ownBlock) : Keep T w w' := by
  refine ⟨hg.size, fun b cs t hb ht => hg.block b (lt_of_block hb) fun e => ?_⟩
  rcases h.2 with ⟨rfl, _⟩ | ⟨g, cap, cur, rfl, _, hh, _⟩
  · simp [Value.ownBlock] at e
  · simp [Value.ownBlock] at e
    subst e
    rw [hh] at hb
    injection hb with hb
    injection hb with _ hb _
    exact ht hb.symm
theorem news_blk {w : World} {g : Nat} {t : TypeId} {vs : List Value} (h : Blk w g t vs.toArray) : ∀ (j : Nat) (u : Value), vs[j]? = some u → w.cell? (Addr.add ⟨g, 0, none⟩ j) = some u := fun j u hu => by
  have : (Addr.add ⟨g, 0, none⟩ j) = ⟨g, j, none⟩ := by by_cases e : j = 0 <;> simp [Addr.add, e]
  rw [this, h.cell]
  simpa using hu
theorem PList.shps {w : World} {vs : List Value} {ss : List (List Int)} {B n : Nat} {t : TypeId} {v : Value} (h : PList w vs ss) (hown : w.ownsRow B t 1 v n vs) (hs : ∀ s ∈ ss, s.length ≤ 1048576) :
    ∃ A c, v = .slice A ss.length c ∧ n = ss.length ∧ Shps w A ss ∧ ss.length ≤ c ∧ c ≤ 9223372036854775807 := by
  have hn : n = ss.length := by have := hown.1; have := h.1; omega
  subst hn
  rcases hown.2 with ⟨rfl, h0⟩ | ⟨g, cap, cur, rfl, hb, hh, r1, r2, r3, r4⟩
  · have : ss = [] := List.eq_nil_of_length_eq_zero h0
    subst this
    exact ⟨none, 0, rfl, rfl, Shps.nil, by simp, by omega⟩
  · refine ⟨_, cap, rfl, rfl, fun j hj => ?_, r1, by unfold maxLen at r2; omega⟩
    obtain ⟨b, e, hbk⟩ := h.2 j hj
    refine ⟨g, 0, _, _, rfl, lt_of_block hh, by rw [Nat.zero_add, hown.cellAt j (by omega)]; exact e, Ints.of_row fun i hi => ?_, Nat.le_refl _, by have := hs _ (List.getElem_mem hj); omega⟩
    rw [Nat.zero_add, hbk.cell i, getD_at hi]
    simp [hi]
def ParamsP (n : NetD) (w : World) (e : Ending) (w' : World) : Prop :=
  ∃ A c, e = .returned (.slice A (Nt.params n).length c) ∧ Shps w' A (Nt.params n) ∧ (Nt.params n).length ≤ c ∧ c ≤ 9223372036854775807 ∧ Below w.heap.size w w'
theorem params_len {n : NetD} (hok : n.ok) (k : Nat) : ((n.nodes.take k).flatMap (·.p)).length ≤ k * 1048576 := by
  induction k with
  | zero => simp
  | succ k ih =>
    by_cases hk : k < n.nodes.length
    · rw [List.take_succ_eq_append_getElem hk, List.flatMap_append, List.length_append]
      have h1 := (hok.2.2 _ (List.getElem_mem hk)).2.2.2.1
      have e : [n.nodes[k]].flatMap (·.p) = n.nodes[k].p := by simp
      rw [e]; omega
    · rw [List.take_of_length_le (by omega)]
      rw [List.take_of_length_le (by omega)] at ih
      exact Nat.le_trans ih (Nat.mul_le_mul_right _ (Nat.le_succ _))
theorem ids_at {n k : Nat} (hk : k < n) : (Kn.ids n)[k]? = some ((k : Int) + 1) := by
  induction n with
  | zero => omega
  | succ n ih =>
    rw [Kn.ids_succ]
    by_cases h : k < n
    · rw [List.getElem?_append_left (by rw [Kn.ids_length]; exact h)]; exact ih h
    · obtain rfl : k = n := by omega
      rw [List.getElem?_append_right (by rw [Kn.ids_length]; exact Nat.le_refl _), Kn.ids_length]; simp
theorem ids_mem {n : Nat} {u : Int} (h : u ∈ Kn.ids n) : 1 ≤ u ∧ u ≤ n := by
  obtain ⟨k, hk, rfl⟩ := List.getElem_of_mem h
  rw [Kn.ids_length] at hk
  have := ids_at hk
  rw [List.getElem?_eq_getElem (by rw [Kn.ids_length]; exact hk)] at this
  injection this with this
  rw [this]; omega
theorem ids_asc (n : Nat) : (Kn.ids n).Pairwise (· < ·) := by
  induction n with
  | zero => exact List.Pairwise.nil
  | succ n ih =>
    rw [Kn.ids_succ, List.pairwise_append]
    exact ⟨ih, List.pairwise_singleton _ _, fun a ha b hb => by have := (ids_mem ha).2; simp at hb; omega⟩
theorem users_mem {n : NetD} {id u : Int} (h : u ∈ Nt.users n id) : 1 ≤ u ∧ u ≤ n.nodes.length ∧ hasB (Nt.insF n.nodes u) id = true := by
  unfold Nt.users at h
  obtain ⟨h1, h2⟩ := List.mem_filter.1 h
  exact ⟨(ids_mem h1).1, (ids_mem h1).2, h2⟩
theorem users_up {n : NetD} {id : Int} {k : Nat} (hk : k < (Nt.users n id).length) : ((Nt.users n id).take k).getLastD 0 < (Nt.users n id)[k] := by
  have hp : (Nt.users n id).Pairwise (· < ·) := (ids_asc _).filter _
  by_cases h0 : k = 0
  · subst h0
    have := (users_mem (List.getElem_mem hk)).1
    simp; omega
  · rw [List.getLastD_eq_getLast?, List.getLast?_take, if_neg h0]
    rw [List.getElem?_eq_getElem (by omega)]
    simp only [Option.some_or, Option.getD_some]
    exact List.pairwise_iff_getElem.1 hp _ _ _ _ (by omega)
theorem params_at {n : NetD} {k m : Nat} (hk : k < n.nodes.length) (hm : m < n.nodes[k].p.length) : ((n.nodes.take k).flatMap (·.p)).length + m < (Nt.params n).length ∧ (Nt.params n)[((n.nodes.take k).flatMap (·.p)).length + m]? = some n.nodes[k].p[m] := by
  have e : Nt.params n = (n.nodes.take k).flatMap (·.p) ++ (n.nodes[k].p ++ (n.nodes.drop (k + 1)).flatMap (·.p)) := by
    unfold Nt.params
    conv => lhs; rw [← List.take_append_drop k n.nodes, List.drop_eq_getElem_cons hk, List.flatMap_append, List.flatMap_cons]
  rw [e]
  refine ⟨by simp only [List.length_append]; omega, ?_⟩
  rw [List.getElem?_append_right (by omega), Nat.add_sub_cancel_left, List.getElem?_append_left hm, List.getElem?_eq_getElem hm]
end Go.Proofs.YtnffjfjhbjeaiaaGreatDoor
/- Layer 13 (price): Peak, Params: contracts. -/
namespace Go.Proofs.YtnffjfjhbjeaiaaGreatDoor
open Go.RowKit
theorem add_small {l : List Int} (h : ∀ x ∈ l, 0 ≤ x ∧ x ≤ 65536) (hl : l.length ≤ 1000000) : Safe.add l = (Safe.sum l, 0) ∧ 0 ≤ Safe.sum l ∧ Safe.sum l ≤ 65536000000 := by
  have hs := Nt.sum_bd h
  have hb : (l.length : Int) * 65536 ≤ 1000000 * 65536 := Int.mul_le_mul_of_nonneg_right (by omega) (by omega)
  refine ⟨?_, hs.1, by omega⟩
  unfold Safe.add
  have hall : l.all Safe.ok = true := by
    rw [List.all_eq_true]
    intro x hx
    rw [Safe.ok_iff]
    have := h x hx; omega
  rw [if_pos hall, if_pos (by rw [Safe.top_eq]; omega)]
namespace Nt
def peak (n : NetD) : Int := if check n = 0 then Safe.sum (words n) + (Safe.sum (words n) - (words n).getD 0 0) else 0
def parW (n : NetD) : Int := if check n = 0 then Safe.sum ((params n).map Safe.prod) else 0
theorem words_sum {n : NetD} (h : check n = 0) (hn : n.nodes.length ≤ 200) : Safe.add (words n) = (Safe.sum (words n), 0) ∧ 0 ≤ Safe.sum (words n) ∧ Safe.sum (words n) ≤ 65536000000 ∧ 1 ≤ (words n).getD 0 0 ∧ (words n).getD 0 0 ≤ Safe.sum (words n) ∧ 0 < (words n).length := by
  have hl := words_len h
  obtain ⟨h1, h2, h3⟩ := add_small (l := words n) (fun x hx => by have := words_bd h x hx; omega) (by omega)
  have hp : ∀ x ∈ words n, 0 ≤ x ∧ x ≤ 65536 := fun x hx => by have := words_bd h x hx; omega
  have hb := words_bd h
  generalize words n = ws at *
  match ws, hl with
  | a :: r, _ =>
    have ha := hb a (by simp)
    have hr := sum_bd (l := r) (B := 65536) fun x hx => hp x (by simp [hx])
    have e : Safe.sum (a :: r) = a + Safe.sum r := rfl
    refine ⟨h1, h2, h3, ?_, ?_, by simp⟩
    · show 1 ≤ a; omega
    · show a ≤ _; omega
theorem par_len {n : NetD} (h : check n = 0) : ∀ k, k ≤ n.nodes.length → ((n.nodes.take k).flatMap (·.p)).length ≤ 2 * k := by
  intro k
  induction k with
  | zero => intro _; simp
  | succ k ih =>
    intro hk
    have hkl : k < n.nodes.length := by omega
    rw [List.take_succ_eq_append_getElem hkl, List.flatMap_append, List.length_append]
    have e : [n.nodes[k]].flatMap (·.p) = n.nodes[k].p := by simp
    have hs := shapes_node h hkl
    have hp := (Od.shape_good (o := n.nodes[k].op) (p := n.nodes[k].p) (x := pick (shapes n) n.nodes[k].ins) (by rw [hs])).2.1
    have h2 : Od.params n.nodes[k].op ≤ 2 := by
      unfold Od.params
      split
      · split
        · omega
        · split <;> omega
      · omega
    have := ih (by omega)
    rw [e]
    omega
theorem par_sum {n : NetD} (h : check n = 0) (hn : n.nodes.length ≤ 200) : Safe.add ((params n).map Safe.prod) = (Safe.sum ((params n).map Safe.prod), 0) ∧ 0 ≤ Safe.sum ((params n).map Safe.prod) ∧ Safe.sum ((params n).map Safe.prod) ≤ 65536000000 := by
  have hl := par_len h n.nodes.length (Nat.le_refl _)
  rw [List.take_length] at hl
  refine add_small (fun x hx => ?_) (by rw [List.length_map]; show (n.nodes.flatMap (·.p)).length ≤ _; omega)
  obtain ⟨s, hs, rfl⟩ := List.mem_map.1 hx
  have := Od.prod_right_ (params_right h s hs)
  omega
end Nt
theorem Blk.intV_ints {w : World} {g : Nat} {t : TypeId} {l : List Int} (h : Blk w g t (intV l).toArray) : Ints .i64 w (some ⟨g, 0, none⟩) l := Ints.of_row fun j hj => by
  rw [Nat.zero_add, h.cell]
  simp [intV, hj]
end Go.Proofs.YtnffjfjhbjeaiaaGreatDoor
/- Layer 13 (price): Chain: contract. -/
namespace Go.Proofs.YtnffjfjhbjeaiaaGreatDoor
open Go.RowKit
namespace Nt
def wAt (n : NetD) (u : Int) : Int := (words n).getD u.toNat 0
def cAt (n : NetD) (u : Int) : Int := (costs n).getD u.toNat 0
def chainW (n : NetD) : List Int := wAt n 0 :: (sorted n.nodes).map (wAt n)
def chainC (n : NetD) : List Int := (sorted n.nodes).map (cAt n)
end Nt
def ChainP (n : NetD) (w : World) (e : Ending) (w' : World) : Prop :=
  Below w.heap.size w w' ∧ ((Nt.check n = 0 ∧ Nt.chain n = true ∧ ∃ A c A2 c2, e = .returned (.tuple #[.slice A (n.nodes.length + 1) c, .slice A2 n.nodes.length c2, .int .i64 0]) ∧ Ints .i64 w' A (Nt.chainW n) ∧ Ints .i64 w' A2 (Nt.chainC n)) ∨
    (Nt.check n = 0 ∧ Nt.chain n = false ∧ e = .returned (.tuple #[.slice none 0 0, .slice none 0 0, .int .i64 27])) ∨
    (Nt.check n ≠ 0 ∧ e = .returned (.tuple #[.slice none 0 0, .slice none 0 0, .int .i64 (Nt.check n)])))
def Apart (v u : Value) : Prop := ∀ b, v.ownBlock = some b → u.ownBlock = some b → False
theorem Apart.symm {v u : Value} (h : Apart v u) : Apart u v := fun b h1 h2 => h b h2 h1
theorem own_other {w w' : World} {B : Nat} {e : TypeId} {s n : Nat} {v u : Value} {xs : List Value} (h : w.ownsRow B e s u n xs) (hg : w.grownBy w' v.ownBlock) (ha : Apart v u) : w'.ownsRow B e s u n xs :=
  ownsRow_heap h fun b hb => hg.block b (h.lt b hb).2 fun e => ha b e.symm hb
theorem Apart.next {w : World} {B : Nat} {e : TypeId} {s n : Nat} {v v' u : Value} {xs : List Value} (ha : Apart v u) (hu : w.ownsRow B e s u n xs) (hat : v'.ownBlock = v.ownBlock ∨ v'.ownBlock = some w.heap.size) : Apart v' u := fun b h1 h2 => by
  rcases hat with h | h
  · exact ha b (h ▸ h1) h2
  · rw [h] at h1
    injection h1 with h1
    have := (hu.lt b h2).2
    omega
end Go.Proofs.YtnffjfjhbjeaiaaGreatDoor
/- Layer 13 (price): Last: contract. -/
namespace Go.Proofs.YtnffjfjhbjeaiaaGreatDoor
open Go.RowKit
namespace Nt
/-- Which place of the order uses u last, of the first k. -/
def lastF (n : NetD) (u : Int) : Nat → Int
  | 0 => 0
  | k + 1 => if (insF n.nodes ((sorted n.nodes).getD k 0)).contains u then (k : Int) + 1 else lastF n u k
theorem lastF_bd (n : NetD) (u : Int) (k : Nat) : 0 ≤ lastF n u k ∧ lastF n u k ≤ k := by
  induction k with
  | zero => simp [lastF]
  | succ k ih => unfold lastF; split <;> omega
def lastMid (n : NetD) (k : Nat) (l : List Int) : List Int := (nums n.nodes.length).map fun u => if l.contains u then (k : Int) + 1 else lastF n u k
theorem lastMid_len (n : NetD) (k : Nat) (l : List Int) : (lastMid n k l).length = n.nodes.length + 1 := by simp [lastMid, nums]
theorem lastMid_zero (n : NetD) : lastMid n 0 [] = List.replicate (n.nodes.length + 1) 0 := by
  unfold lastMid
  rw [List.eq_replicate_iff]
  refine ⟨by simp [nums], fun b hb => ?_⟩
  obtain ⟨x, _, rfl⟩ := List.mem_map.1 hb
  simp [lastF]
theorem lastMid_next (n : NetD) {k : Nat} : lastMid n k (insF n.nodes ((sorted n.nodes).getD k 0)) = lastMid n (k + 1) [] := by
  unfold lastMid
  apply List.map_congr_left
  intro u _
  simp [lastF]
theorem lastMid_in (n : NetD) (k : Nat) (l : List Int) {id : Int} (h0 : 0 ≤ id) (h1 : id ≤ n.nodes.length) : lastMid n k (l ++ [id]) = (lastMid n k l).set id.toNat ((k : Int) + 1) := by
  apply List.ext_getElem?
  intro j
  rw [List.getElem?_set]
  unfold lastMid nums
  simp only [List.map_map, List.getElem?_map, List.length_map, List.length_range]
  by_cases hj : j < n.nodes.length + 1
  · rw [List.getElem?_range hj]
    by_cases e : id.toNat = j
    · subst e
      have : ((id.toNat : Nat) : Int) = id := by omega
      simp [hj, this]
    · have e2 : (j : Int) ≠ id := by omega
      simp [e, e2]
  · rw [List.getElem?_eq_none (by simp; omega)]
    simp
    intro q; omega
theorem lastMid_at (n : NetD) (k : Nat) {u : Nat} (hu : u ≤ n.nodes.length) : (lastMid n k [])[u]? = some (lastF n u k) := by
  unfold lastMid nums
  simp [show u < n.nodes.length + 1 by omega]
end Nt
def LastP (n : NetD) (w : World) (e : Ending) (w' : World) : Prop :=
  Below w.heap.size w w' ∧ ((Nt.check n = 0 ∧ ∃ g, e = .returned (.tuple #[.slice (some ⟨g, 0, none⟩) (n.nodes.length + 1) (n.nodes.length + 1), .int .i64 0]) ∧ Blk w' g 3 (intV (Nt.lastMid n n.nodes.length [])).toArray) ∨
    (Nt.check n ≠ 0 ∧ e = .returned (.tuple #[.slice none 0 0, .int .i64 (Nt.check n)])))
set_option maxRecDepth 20000 in
set_option maxHeartbeats 8000000 in
theorem price_last (A N : Option Addr) (c d : Nat) (n : NetD) (w : World) (hok : n.ok) (hR : NetR w A N n) (hd : n.nodes.length ≤ d) :
    Calls Tryz.prog 59 #[.agg #[.slice A n.inn.length c, .slice N n.nodes.length d]] w (LastP n w) := by
  obtain ⟨i0, hi, hz0, hz1, hz2⟩ := info_parts int_info
  have hnl := hok.2.1
  have hk0 := Blk.new w 26 #[.slice A n.inn.length c, .slice N n.nodes.length d]
  have hl0 : Later w (w.alloc (.cells #[.slice A n.inn.length c, .slice N n.nodes.length d] 26)) := (Later.refl w).alloc _
  have HR := Lib.hid hR
  have Hl0 := Lib.hid hl0
  have Hok := Lib.hid hok
  have Hk0 := Lib.hid hk0
  clear hR hl0 hok hk0
  go_enter Tryz.func59, Tryz.ntmps59
  go_wp2_with fail
  generalize w.alloc (.cells #[.slice A n.inn.length c, .slice N n.nodes.length d] 26) = w1 at *
  refine (net_order A N c d n w1 Hok.out (HR.out.below Hl0.out (Nat.le_refl _)) hd).mono ?_
  rintro e w2 ⟨hb2, ⟨hc, O, oc, rfl, hO, -, -⟩ | ⟨hc, rfl⟩⟩
  all_goals
    have hl2 := Hl0.out.call hb2
    have hk2 := (show Later w1 w2 from hb2).blk Hk0.out
    clear hb2
  rotate_left
  · have q0 : (Nt.check n != 0) = true := by simp [hc]
    have Hc := Lib.hid hc
    have Hl2 := Lib.hid hl2
    have Hk2 := Lib.hid hk2
    clear hc hl2 hk2
    go_wp2_with fail
    go_ret2
    exact ⟨Hl2.out, .inr ⟨Hc.out, rfl⟩⟩
  have hso : (Nt.sorted n.nodes).length = n.nodes.length := (Nt.check_ok hc).2.2.2.2.1
  have hrng : ∀ u ∈ Nt.sorted n.nodes, 1 ≤ u ∧ u ≤ n.nodes.length := Kn.order_rng _ _
  have hbad := Nt.bads_all (Nt.check_ok hc).2.2.2.1
  have hnx := fun k => @Nt.lastMid_next n k
  have x1 : w2.cell? ⟨w.heap.size, 1, none⟩ = some (.slice N n.nodes.length d) := by rw [hk2.cell]; rfl
  have e1 : IntKind.i64.wrap ((n.nodes.length : Int) + 1) = ((n.nodes.length + 1 : Nat) : Int) := by rw [IntWalk.i64_in _ (by omega)]; omega
  generalize Nt.sorted n.nodes = os at *
  have hsz2 := hl2.size
  have Hc := Lib.hid hc
  have Hl2 := Lib.hid hl2
  have Hk2 := Lib.hid hk2
  have Hso := Lib.hid hso
  have Hrng := Lib.hid hrng
  have Hbad := Lib.hid hbad
  have Hnx := Lib.hid hnx
  have HO := Lib.hid hO
  clear hc hl2 hk2 hso hrng hbad hnx hO
  go_wp2_with (at_make; refine wpList_make_full _ rfl _ _ 22 rfl w2.heap.size 3 i0 (.int .i64 0) 1 Tryz.underlying22 hi hz0 hz1 _ _ _ _ (n.nodes.length + 1) rfl rfl (by first | rfl | simp | (go_simp; rfl)) (by first | rfl | simp | (go_simp; rfl)) ?b2 ?b3 ?b4 ?_)
  case b2 => rw [hz2]; omega
  case b3 => unfold maxLen; omega
  case b4 => exact Nat.le_refl _
  intro w3 hown hgrow
  have hblk := own_cur hown
  rw [made_one] at hblk
  have hm0 : Blk w3 w2.heap.size 3 (intV (Nt.lastMid n 0 [])).toArray := by
    rw [Nt.lastMid_zero, intV, List.map_replicate]
    exact hblk
  have hl3 : Later w2 w3 := (Below.refl _ w2).grown hgrow (Nat.le_refl _) (by simp)
  have x1' := hl3.cell x1
  have Hm0 := Lib.hid hm0
  have Hl3 := Lib.hid hl3
  clear hm0 hl3
  clear hblk hown hgrow x1
  go_wp2_with fail
  go_loopw [26] (fun i wx => ∃ k : Nat, k ≤ n.nodes.length ∧ i = .int .i64 (k : Int) ∧ Blk wx w2.heap.size 3 (intV (Nt.lastMid n k [])).toArray ∧ Later w2 wx) (fun i _ => n.nodes.length - (intOf i).toNat)
  case atStart => exact ⟨0, Nat.zero_le _, rfl, Hm0.out, Hl3.out⟩
  case round =>
    obtain ⟨k, hk, rfl, hm, hlw⟩ := hrel
    clear Hm0 Hl3 x1'
    by_cases hlt : k < n.nodes.length
    · have hlo : k < os.length := by rw [Hso.out]; exact hlt
      obtain ⟨b, off, rfl, -, hc0⟩ := HO.out k hlo
      rw [getD_at hlo] at hc0
      have hc1 := hlw.cell hc0
      have hr := Hrng.out _ (List.getElem_mem hlo)
      obtain ⟨j, hj⟩ : ∃ j : Nat, os[k] = (j : Int) + 1 := ⟨(os[k] - 1).toNat, by omega⟩
      have hjl : j < n.nodes.length := by omega
      have eo : os.getD k 0 = os[k] := getD_at hlo
      have hnk := Hnx.out k
      have hiF : Nt.insF n.nodes os[k] = n.nodes[j].ins := by unfold Nt.insF; rw [hj, Nt.node_at hjl]
      rw [eo, hiF] at hnk
      have hin := (Hbad.out _ (List.getElem_mem hjl)).2
      have hil := (Hok.out.2.2 _ (List.getElem_mem hjl)).2.2.1
      obtain ⟨b1, off1, S, sc, I, ic, Q, qc, rfl, hNA, -, -, -⟩ := HR.out.2.at_ hjl
      obtain ⟨⟨-, -, -, -, -, -, -, -, y8, -⟩, -, -, -⟩ := hNA.below (Hl2.out.trans hlw)
      have hIJ := fun (W : World) (h : Later w2 W) => (hNA.below (Hl2.out.trans h)).2.2.1
      have x1 : wr.cell? ⟨w.heap.size, 1, none⟩ = some (.slice (some ⟨b1, off1, none⟩) n.nodes.length d) := by rw [(hlw.blk Hk2.out).cell]; rfl
      rw [hj] at hc1
      generalize n.nodes[j] = v at *
      have j1 : IntKind.i64.wrap ((j : Int) + 1 - 1) = (j : Int) := by rw [IntWalk.i64_in _ (by omega)]; omega
      have j2 : (j : Int) < n.nodes.length := by omega
      have k1 : (k : Int) < (n.nodes.length : Int) := by omega
      clear hc0 hr hj eo hiF
      have Hm := Lib.hid hm
      have Hlw := Lib.hid hlw
      have Hnk := Lib.hid hnk
      have Hin := Lib.hid hin
      have HIJ := Lib.hid hIJ
      have HNA := Lib.hid hNA
      clear hm hlw hnk hin hIJ hNA
      go_wp2_with fail
      clear y8 x1 hc1
      go_loopw [39] (fun i wx => ∃ m : Nat, m ≤ v.ins.length ∧ i = .int .i64 (m : Int) ∧ Blk wx w2.heap.size 3 (intV (Nt.lastMid n k (v.ins.take m))).toArray ∧ Later w2 wx) (fun i _ => v.ins.length - (intOf i).toNat)
      case atStart => exact ⟨0, Nat.zero_le _, rfl, by rw [List.take_zero]; exact Hm.out, Hlw.out⟩
      case round =>
        obtain ⟨m, hm, rfl, hbx, hlx⟩ := hrel
        clear Hm Hlw
        by_cases hlm : m < v.ins.length
        · obtain ⟨b2, off2, rfl, -, hc2⟩ := HIJ.out _ hlx m hlm
          rw [getD_at hlm] at hc2
          have hr2 := Hin.out _ (List.getElem_mem hlm)
          have HM := Lib.hid (show Nt.lastMid n k (v.ins.take (m + 1)) = (Nt.lastMid n k (v.ins.take m)).set v.ins[m].toNat ((k : Int) + 1) by rw [List.take_succ_eq_append_getElem hlm, Nt.lastMid_in _ _ _ hr2.1 hr2.2])
          obtain ⟨u, hu⟩ : ∃ u : Nat, v.ins[m] = u := ⟨v.ins[m].toNat, by omega⟩
          rw [hu] at hc2 hr2 HM
          have hll := Nt.lastMid_len n k (v.ins.take m)
          have hul : u < n.nodes.length + 1 := by omega
          obtain ⟨y, hy⟩ := hbx.has (j := u) (by rw [intV_len, hll]; exact hul)
          have fy := hbx.frozen u
          have hbs := hbx.set_ u (.int .i64 ((k : Int) + 1))
          have HBS := Lib.hid (show Blk (wr.setCell ⟨w2.heap.size, u, none⟩ (.int .i64 ((k : Int) + 1))) w2.heap.size 3 (intV (Nt.lastMid n k (v.ins.take (m + 1)))).toArray by
            rw [HM.out, Int.toNat_natCast]
            simpa [intV, List.map_set] using hbs)
          have HLX := Lib.hid (hlx.set (p := ⟨w2.heap.size, u, none⟩) (Nat.le_refl _) (.int .i64 ((k : Int) + 1)))
          have u0 : (0 : Int) ≤ u := by omega
          have u1 : (u : Int) < ((n.nodes.length + 1 : Nat) : Int) := by omega
          have m1 : (m : Int) < v.ins.length := by omega
          have k6 : IntKind.i64.wrap ((k : Int) + 1) = (k : Int) + 1 := IntWalk.i64_in _ (by omega)
          clear hbs hbx hlx hu hll hul
          go_wp2_with fail
          clear k6
          go_roundw
          case rel => exact ⟨m + 1, by omega, by go_num, HBS.out, HLX.out⟩
          case measure => simp [intOf]; omega
        · obtain rfl : m = v.ins.length := by omega
          rw [List.take_length] at hbx
          have Hbx := Lib.hid hbx
          have Hlx := Lib.hid hlx
          clear hbx hlx
          go_wp2_with fail
          go_roundw
          case rel => exact ⟨k + 1, by omega, by go_num, by rw [← Hnk.out]; exact Hbx.out, Hlx.out⟩
          case measure => simp [intOf]; omega
    · obtain rfl : k = n.nodes.length := by omega
      have hso := Hso.out
      have hge : ¬ (n.nodes.length : Int) < (n.nodes.length : Int) := by omega
      have hl := Hl2.out.trans hlw
      clear hso
      have Hm := Lib.hid hm
      have Hlw := Lib.hid hlw
      have Hl := Lib.hid hl
      clear hm hlw hl
      go_wp2_with fail
      go_ret2
      exact ⟨Hl.out, .inl ⟨Hc.out, w2.heap.size, rfl, Hm.out⟩⟩
end Go.Proofs.YtnffjfjhbjeaiaaGreatDoor
/- The plain law of layer 21: the last user's place, as layer 13 tells it. -/
namespace Go.Proofs.YtnffjfjhbjeaiaaGreatDoor
namespace Rt
theorem lastP_eq (n : NetD) (u : Int) : ∀ k, lastP (Nt.insF n.nodes) (Nt.sorted n.nodes) u k = Nt.lastF n u k
  | 0 => rfl
  | k + 1 => by
    unfold lastP Nt.lastF
    rw [lastP_eq n u k]
theorem lastMid_at {n : NetD} {u : Nat} (hu : u ≤ n.nodes.length) : (Nt.lastMid n n.nodes.length [])[u]? = some (lastP (Nt.insF n.nodes) (Nt.sorted n.nodes) u n.nodes.length) := by
  rw [Nt.lastMid_at n n.nodes.length hu, lastP_eq]
end Rt
end Go.Proofs.YtnffjfjhbjeaiaaGreatDoor
/- Layer 18 (check): a state in memory; ready: contract. -/
namespace Go.Proofs.YtnffjfjhbjeaiaaGreatDoor
open Go.RowKit
/-- Where a state lies. -/
structure CkA where
  Wd : Option Addr
  Co : Option Addr
  In : Option Addr
  Or : Option Addr
  cW : Nat
  cC : Nat
  cI : Nat
  cO : Nat
  p : Nat
  g1 : Nat
  g2 : Nat
  g3 : Nat
/-- The numbers fit. -/
structure CkN.Ok (c : CkN) : Prop where
  m1 : 1 ≤ c.words.length
  m2 : c.words.length ≤ 513
  cost : c.cost.length = c.words.length
  ins : c.ins.length = c.words.length
  row : ∀ r ∈ c.ins, r.length ≤ 1048576 ∧ ∀ i ∈ r, 0 ≤ i ∧ i < c.words.length
  ord : c.order.length ≤ 512
  loss : 0 ≤ c.loss ∧ c.loss < c.words.length
  word : ∀ z ∈ c.words, 0 ≤ z ∧ z ≤ 65536
  cap : -9223372036854775808 ≤ c.cap ∧ c.cap ≤ 9223372036854775807
/-- What stays as it is. -/
structure CkA.Still (a : CkA) (c : CkN) (W0 : World) : Prop where
  ok : c.Ok
  words : Ints .i64 W0 a.Wd c.words
  cost : Ints .i64 W0 a.Co c.cost
  ins : Shps W0 a.In c.ins
  ord : Ints .i64 W0 a.Or c.order
  hp : W0.heap.size ≤ a.p
  h1 : a.p < a.g1
  h2 : a.g1 < a.g2
  h3 : a.g2 < a.g3
  hcw : c.words.length ≤ a.cW
def CkA.cells (a : CkA) (c : CkN) (s : CkS) : Array Value :=
  #[.slice a.Wd c.words.length a.cW, .slice a.Co c.cost.length a.cC, .slice a.In c.ins.length a.cI, .slice a.Or c.order.length a.cO, .int .i64 c.loss, .int .i64 c.cap, .slice (some ⟨a.g1, 0, none⟩) c.words.length c.words.length, .slice (some ⟨a.g2, 0, none⟩) c.words.length c.words.length, .slice (some ⟨a.g3, 0, none⟩) c.words.length c.words.length, .bool s.em, .bool s.sd, .int .i64 s.done, .int .i64 s.now, .int .i64 s.peak]
/-- A state in memory. -/
structure CkM (a : CkA) (c : CkN) (W0 : World) (s : CkS) (W : World) : Prop where
  later : Later W0 W
  box : Blk W a.p 99 (a.cells c s)
  pres : Blk W a.g1 4 (s.pres.map Value.bool).toArray
  sav : Blk W a.g2 4 (s.sav.map Value.bool).toArray
  grad : Blk W a.g3 4 (s.grad.map Value.bool).toArray
  l1 : s.pres.length = c.words.length
  l2 : s.sav.length = c.words.length
  l3 : s.grad.length = c.words.length
theorem CkM.to_later {a : CkA} {c : CkN} {W0 W W' : World} {s : CkS} (h : CkM a c W0 s W) (hl : Later W W') : CkM a c W0 s W' :=
  ⟨h.later.trans hl, hl.blk h.box, hl.blk h.pres, hl.blk h.sav, hl.blk h.grad, h.l1, h.l2, h.l3⟩
theorem bool_at {W : World} {g : Nat} {t : TypeId} {l : List Bool} (h : Blk W g t (l.map Value.bool).toArray) {i : Nat} (hi : i < l.length) : W.cell? ⟨g, i, none⟩ = some (.bool (l.getD i false)) := by
  rw [h.cell, List.getD_eq_getElem?_getD, List.getElem?_eq_getElem hi]; simp [hi]
theorem CkM.cells14 {a : CkA} {c : CkN} {W0 W : World} {s : CkS} (h : CkM a c W0 s W) :
    W.cell? ⟨a.p, 0, none⟩ = some (.slice a.Wd c.words.length a.cW) ∧ W.cell? ⟨a.p, 1, none⟩ = some (.slice a.Co c.cost.length a.cC) ∧ W.cell? ⟨a.p, 2, none⟩ = some (.slice a.In c.ins.length a.cI) ∧ W.cell? ⟨a.p, 3, none⟩ = some (.slice a.Or c.order.length a.cO) ∧ W.cell? ⟨a.p, 4, none⟩ = some (.int .i64 c.loss) ∧ W.cell? ⟨a.p, 5, none⟩ = some (.int .i64 c.cap) ∧
    W.cell? ⟨a.p, 6, none⟩ = some (.slice (some ⟨a.g1, 0, none⟩) c.words.length c.words.length) ∧ W.cell? ⟨a.p, 7, none⟩ = some (.slice (some ⟨a.g2, 0, none⟩) c.words.length c.words.length) ∧ W.cell? ⟨a.p, 8, none⟩ = some (.slice (some ⟨a.g3, 0, none⟩) c.words.length c.words.length) ∧
    W.cell? ⟨a.p, 9, none⟩ = some (.bool s.em) ∧ W.cell? ⟨a.p, 10, none⟩ = some (.bool s.sd) ∧ W.cell? ⟨a.p, 11, none⟩ = some (.int .i64 s.done) ∧ W.cell? ⟨a.p, 12, none⟩ = some (.int .i64 s.now) ∧ W.cell? ⟨a.p, 13, none⟩ = some (.int .i64 s.peak) :=
  ⟨h.box.cell 0, h.box.cell 1, h.box.cell 2, h.box.cell 3, h.box.cell 4, h.box.cell 5, h.box.cell 6, h.box.cell 7, h.box.cell 8, h.box.cell 9, h.box.cell 10, h.box.cell 11, h.box.cell 12, h.box.cell 13⟩
theorem CkA.Still.row {a : CkA} {c : CkN} {W0 : World} (h : a.Still c W0) {k : Nat} (hk : k < c.ins.length) : ∃ b off S e, a.In = some ⟨b, off, none⟩ ∧ b < W0.heap.size ∧ W0.cell? ⟨b, off + k, none⟩ = some (.slice S c.ins[k].length e) ∧ Ints .i64 W0 S c.ins[k] ∧ c.ins[k].length ≤ 1048576 ∧ ∀ i ∈ c.ins[k], 0 ≤ i ∧ i < c.words.length := by
  obtain ⟨b, off, S, e, h1, h2, h3, h4, -⟩ := h.ins k hk
  exact ⟨b, off, S, e, h1, h2, h3, h4, h.ok.row _ (List.getElem_mem hk)⟩
theorem Ck.insF_at {c : CkN} {k : Nat} (hk : k < c.ins.length) : Ck.insF c k = c.ins[k] := by
  unfold Ck.insF; rw [Int.toNat_natCast, List.getD_eq_getElem?_getD, List.getElem?_eq_getElem hk]; rfl
set_option maxHeartbeats 4000000 in
set_option maxRecDepth 100000 in
theorem check_ready (a : CkA) (c : CkN) (W0 : World) (s : CkS) (W : World) (hS : a.Still c W0) (hM : CkM a c W0 s W) (id : Nat) (hid : id < c.words.length) :
    Calls Tryz.prog 90 #[.pointer (some ⟨a.p, 0, none⟩), .int .i64 id] W fun e w' => e = .returned (.bool (Ck.ready c s id)) ∧ W = w' := by
  have hidi : id < c.ins.length := by rw [hS.ok.ins]; exact hid
  have HR := Lib.hid (show Ck.ready c s id = c.ins[id].all (fun i => Ck.at_ s.pres i) by unfold Ck.ready; rw [Ck.insF_at hidi])
  obtain ⟨b, off, S, e, hIn, hb, hc, hI, hl, hin⟩ := hS.row hidi
  have hc' := hM.later.cell hc
  have hI' := hI.below hM.later (Nat.le_refl _)
  obtain ⟨-, -, x2, -, -, -, x6, -⟩ := hM.cells14
  have hB := fun i (h : i < c.words.length) => bool_at hM.pres (by rw [hM.l1]; exact h)
  have h513 := hS.ok.m2
  have HI1 := hS.ok.ins
  rw [hIn, HI1] at x2
  generalize c.ins[id] = r at *
  have q1 : (0 : Int) ≤ (id : Int) := by omega
  have q2 : (id : Int) < c.words.length := by omega
  have HI' := Lib.hid hI'
  have Hin := Lib.hid hin
  have HB := Lib.hid hB
  clear hI' hin hB
  clear hS hM hc hI hIn hidi HI1
  go_enter Tryz.func90, Tryz.ntmps90
  go_wp2_with fail
  clear hc' x2
  go_loop [6, 15] (fun _ i => ∃ k : Nat, k ≤ r.length ∧ i = .int .i64 (k : Int) ∧ (r.take k).all (fun i => Ck.at_ s.pres i) = true) (fun _ i => r.length - (intOf i).toNat)
  case atStart => exact ⟨0, Nat.zero_le _, rfl, by simp⟩
  case round =>
    obtain ⟨k, hk, rfl, hall⟩ := hrel
    by_cases hlt : k < r.length
    · obtain ⟨b2, off2, rfl, -, hc2⟩ := HI'.out k hlt
      rw [List.getD_eq_getElem?_getD, List.getElem?_eq_getElem hlt, Option.getD_some] at hc2
      have hz := Hin.out _ (List.getElem_mem hlt)
      have HT := Lib.hid (List.take_succ_eq_append_getElem hlt)
      have HM := Lib.hid (List.getElem_mem hlt)
      have Hall := Lib.hid hall
      clear hall
      generalize r[k] = z at *
      obtain ⟨zn, rfl⟩ := Int.eq_ofNat_of_zero_le hz.1
      have hzn : zn < c.words.length := by omega
      have hcz := HB.out zn hzn
      have HAt := Lib.hid (show Ck.at_ s.pres zn = s.pres.getD zn false by unfold Ck.at_; rw [Int.toNat_natCast])
      have q3 : (0 : Int) ≤ (zn : Int) := by omega
      have q4 : (zn : Int) < c.words.length := by omega
      cases hv : s.pres.getD zn false
      · rw [hv] at hcz
        have HF := Lib.hid (show r.all (fun i => Ck.at_ s.pres i) = false by
          cases h : r.all (fun i => Ck.at_ s.pres i) with
          | false => rfl
          | true => have := List.all_eq_true.1 h _ HM.out; rw [HAt.out, hv] at this; exact absurd this (by simp))
        clear hv
        go_wp2_with fail
        go_ret
        exact ⟨by rw [HR.out, HF.out]; rfl, rfl⟩
      · rw [hv] at hcz
        have HA := Lib.hid (show (r.take (k + 1)).all (fun i => Ck.at_ s.pres i) = true by rw [HT.out, List.all_append, Hall.out]; simp [HAt.out]; exact hv)
        clear hv
        go_wp2_with fail
        go_round
        case rel => exact ⟨k + 1, by omega, by go_num, HA.out⟩
        case measure => simp [intOf]; omega
    · obtain rfl : k = r.length := by omega
      rw [List.take_length] at hall
      have Hall := Lib.hid hall
      clear hall
      go_wp2_with fail
      go_ret
      exact ⟨by rw [HR.out, Hall.out]; rfl, rfl⟩
end Go.Proofs.YtnffjfjhbjeaiaaGreatDoor
/- Layer 18 (check): fresh, more: contracts. -/
namespace Go.Proofs.YtnffjfjhbjeaiaaGreatDoor
open Go.RowKit
theorem Ck.freshGo_skip {g : List Bool} {acc r : List Int} {i : Int} (h : ¬ (i ≠ 0 ∧ Ck.at_ g i = false ∧ acc.contains i = false)) : Ck.freshGo g acc (i :: r) = Ck.freshGo g acc r := by
  rw [Ck.freshGo, if_neg h]
theorem Ck.freshGo_add {g : List Bool} {acc r : List Int} {i : Int} (h : i ≠ 0 ∧ Ck.at_ g i = false ∧ acc.contains i = false) : Ck.freshGo g acc (i :: r) = Ck.freshGo g (acc ++ [i]) r := by
  rw [Ck.freshGo, if_pos h]
theorem Ck.freshGo_len (g : List Bool) : ∀ (r acc : List Int), (Ck.freshGo g acc r).length ≤ acc.length + r.length
  | [], acc => by simp [Ck.freshGo]
  | i :: r, acc => by
    rw [Ck.freshGo]
    split
    · have := Ck.freshGo_len g r (acc ++ [i]); simp at this ⊢; omega
    · have := Ck.freshGo_len g r acc; simp at this ⊢; omega
theorem Ck.freshGo_mem (g : List Bool) : ∀ (r acc : List Int) (z : Int), z ∈ Ck.freshGo g acc r → z ∈ acc ∨ z ∈ r
  | [], acc, z, h => .inl h
  | i :: r, acc, z, h => by
    rw [Ck.freshGo] at h
    split at h
    · rcases Ck.freshGo_mem g r _ z h with h | h
      · rcases List.mem_append.1 h with h | h
        · exact .inl h
        · simp at h; exact .inr (by simp [h])
      · exact .inr (by simp [h])
    · rcases Ck.freshGo_mem g r _ z h with h | h
      · exact .inl h
      · exact .inr (by simp [h])
theorem Ck.sum_bd (c : CkN) (h : ∀ z ∈ c.words, 0 ≤ z ∧ z ≤ 65536) : ∀ l : List Int, 0 ≤ Ck.sumW c l ∧ Ck.sumW c l ≤ l.length * 65536
  | [] => by simp [Ck.sumW]
  | z :: l => by
    obtain ⟨h1, h2⟩ := Ck.sum_bd c h l
    have hz : 0 ≤ Ck.wd c z ∧ Ck.wd c z ≤ 65536 := by
      unfold Ck.wd
      by_cases hl : z.toNat < c.words.length
      · rw [List.getD_eq_getElem?_getD, List.getElem?_eq_getElem hl]; exact h _ (List.getElem_mem hl)
      · rw [List.getD_eq_getElem?_getD, List.getElem?_eq_none (by omega)]; simp
    unfold Ck.sumW at *
    simp only [List.map_cons, List.sum_cons, List.length_cons]
    omega
theorem Ck.sumW_take (c : CkN) (l : List Int) (k : Nat) (h : k < l.length) : Ck.sumW c (l.take (k + 1)) = Ck.sumW c (l.take k) + Ck.wd c l[k] := by
  unfold Ck.sumW
  rw [List.take_succ_eq_append_getElem h, List.map_append, List.sum_append]; simp
def FreshP (c : CkN) (s : CkS) (id : Nat) (W : World) (e : Ending) (w' : World) : Prop :=
  ∃ v, e = .returned v ∧ w'.ownsRow W.heap.size 3 1 v (Ck.fresh c s id).length ((Ck.fresh c s id).map (Value.int .i64)) ∧ Later W w'
set_option maxHeartbeats 4000000 in
set_option maxRecDepth 100000 in
theorem check_fresh (a : CkA) (c : CkN) (W0 : World) (s : CkS) (W : World) (hS : a.Still c W0) (hM : CkM a c W0 s W) (id : Nat) (hid : id < c.words.length) :
    Calls Tryz.prog 74 #[.pointer (some ⟨a.p, 0, none⟩), .int .i64 id] W (FreshP c s id W) := by
  obtain ⟨i0, hi, hz0, hz1, hz2⟩ := info_parts int_info
  have hidi : id < c.ins.length := by rw [hS.ok.ins]; exact hid
  have HR := Lib.hid (show Ck.fresh c s id = Ck.freshGo s.grad [] c.ins[id] by unfold Ck.fresh; rw [Ck.insF_at hidi])
  obtain ⟨b, off, S, e, hIn, hb, hc, hI, hl, hin⟩ := hS.row hidi
  have hc' := hM.later.cell hc
  obtain ⟨-, -, x2, -, -, -, -, -, x8, -⟩ := hM.cells14
  have hB := fun i (h : i < c.words.length) => bool_at hM.grad (by rw [hM.l3]; exact h)
  have h513 := hS.ok.m2
  have HI1 := hS.ok.ins
  rw [hIn, HI1] at x2
  generalize c.ins[id] = r at *
  have q1 : (0 : Int) ≤ (id : Int) := by omega
  have q2 : (id : Int) < c.words.length := by omega
  have hl0 := hM.later
  have hx8 := x8
  have HI := Lib.hid hI
  have Hin := Lib.hid hin
  have HB := Lib.hid hB
  have Hl0 := Lib.hid hl0
  have Hx8 := Lib.hid hx8
  clear hI hin hB hl0 hx8
  clear hS hM hc hIn hidi HI1 x8
  go_enter Tryz.func74, Tryz.ntmps74
  go_wp2_with fail
  clear hc' x2 q1 q2
  go_loopw [5, 7, 16] (fun v _ i wr => ∃ (k : Nat) (zs : List Int), k ≤ r.length ∧ i = .int .i64 (k : Int) ∧ Ck.freshGo s.grad [] r = Ck.freshGo s.grad zs (r.drop k) ∧ zs.length ≤ k ∧ wr.ownsRow W.heap.size 3 1 v zs.length (zs.map (Value.int .i64)) ∧ Later W wr) (fun _ _ i _ => r.length - (intOf i).toNat)
  case atStart => exact ⟨0, [], Nat.zero_le _, rfl, by simp, Nat.le_refl _, World.ownsRow_nil _ _ _ _, Later.refl _⟩
  case round =>
    obtain ⟨k, zs, hk, rfl, hgo, hzk, hown, hlw⟩ := hrel
    have hlw0 := Hl0.out.trans hlw
    have hsz := Below.size hlw
    by_cases hlt : k < r.length
    · obtain ⟨b2, off2, rfl, -, hc2⟩ := HI.out.below hlw0 (Nat.le_refl _) k hlt
      rw [List.getD_eq_getElem?_getD, List.getElem?_eq_getElem hlt, Option.getD_some] at hc2
      have hz := Hin.out _ (List.getElem_mem hlt)
      rw [List.drop_eq_getElem_cons hlt] at hgo
      generalize r[k] = z at *
      obtain ⟨zn, rfl⟩ := Int.eq_ofNat_of_zero_le hz.1
      have hzn : zn < c.words.length := by omega
      have hcz := hlw.cell (HB.out zn hzn)
      have x8 := hlw.cell Hx8.out
      have HAt := Lib.hid (show Ck.at_ s.grad zn = s.grad.getD zn false by unfold Ck.at_; rw [Int.toNat_natCast])
      have q3 : (0 : Int) ≤ (zn : Int) := by omega
      have q4 : (zn : Int) < c.words.length := by omega
      have HSkip := fun h => Lib.hid (hgo.trans (Ck.freshGo_skip h))
      have HAdd := fun h => Lib.hid (hgo.trans (Ck.freshGo_add h))
      have Hown := Lib.hid hown
      have Hlw := Lib.hid hlw
      have Hlw0 := Lib.hid hlw0
      clear hown hlw hlw0
      clear hgo
      by_cases h0 : zn = 0
      · subst h0
        have HS := HSkip (by simp)
        clear HSkip HAdd hcz x8 HAt
        go_wp2_with fail
        go_roundw
        case rel => exact ⟨k + 1, zs, by omega, by go_num, HS.out, by omega, Hown.out, Hlw.out⟩
        case measure => simp [intOf]; omega
      · have hne : ((zn : Int) != 0) = true := by rw [bne_iff_ne]; omega
        cases hv : s.grad.getD zn false
        rotate_left
        · have HS := HSkip (by rw [HAt.out, hv]; simp)
          rw [hv] at hcz
          clear HSkip HAdd HAt hv h0
          go_wp2_with fail
          go_roundw
          case rel => exact ⟨k + 1, zs, by omega, by go_num, HS.out, by omega, Hown.out, Hlw.out⟩
          case measure => simp [intOf]; omega
        · rw [hv] at hcz
          obtain ⟨A, cp, rfl⟩ := own_form Hown.out
          have hcon : Calls Tryz.prog 91 #[.slice A zs.length cp, .int .i64 zn] wr fun e w' => e = .returned (.bool (zs.contains (zn : Int))) ∧ w' = wr := by
            by_cases hz0 : zs.length = 0
            · rw [hz0, List.eq_nil_of_length_eq_zero hz0]
              exact Tryz.slices_Contains_int_empty A cp zn wr
            · obtain ⟨hI2, -⟩ := own_ints Hown.out
              obtain ⟨b3, o3, rfl, -, -⟩ := hI2 0 (by omega)
              have := Tryz.slices_Contains_int b3 o3 zs.length cp zs zn wr (Nat.le_refl _) (by omega) (fun j hj => by
                obtain ⟨b4, o4, e4, -, h4⟩ := hI2 j hj
                cases e4; exact h4)
              rwa [List.take_length] at this
          have Hcon := Lib.hid hcon
          clear hcon
          cases hct : zs.contains (zn : Int)
          rotate_left
          · have HS := HSkip (by rw [hct]; simp)
            clear HSkip HAdd HAt hv h0
            go_wp2_with fail
            refine Hcon.out.mono ?_
            rintro e w5 ⟨rfl, rfl⟩
            rw [hct]
            clear hct Hcon hcz x8
            go_wp2_with fail
            go_roundw
            case rel => exact ⟨k + 1, zs, by omega, by go_num, HS.out, by omega, Hown.out, Hlw.out⟩
            case measure => simp [intOf]; omega
          · have HS := HAdd ⟨by omega, by rw [HAt.out, hv], hct⟩
            clear HSkip HAdd HAt hv h0
            go_wp2_with fail
            refine Hcon.out.mono ?_
            rintro e w5 ⟨rfl, rfl⟩
            rw [hct]
            clear hct Hcon hcz x8
            go_wp2_with (at_builtin; refine wpList_append_own _ rfl _ _ 22 rfl W.heap.size 3 i0 (.int .i64 0) 1 8 Tryz.underlying22 hi hz0 hz1 hz2 rfl (by decide) _ _ _ rfl (Hown.out.alloc _) ⟨w5.heap.size, 0, none⟩ 1 1 [.int .i64 zn] rfl rfl (one_new _ _ _) (by intro u hu; simp at hu; subst hu; rfl) (by unfold maxLen; omega) (by omega) (by simp; omega) ?_)
            intro v' w6 hown6 hgrow hnil
            have HO6 := Lib.hid (show w6.ownsRow W.heap.size 3 1 v' (zs ++ [(zn : Int)]).length ((zs ++ [(zn : Int)]).map (Value.int .i64)) by simpa using hown6)
            have HL6 := Lib.hid (show Later W w6 from Below.grown (Hlw.out.alloc (.cells #[.int .i64 zn] 3)) hgrow (by simp; omega) (fun b hb => (Hown.out.lt b hb).1))
            clear hown6 hgrow hnil
            go_wp2_with fail
            go_roundw
            case rel => exact ⟨k + 1, zs ++ [(zn : Int)], by omega, by go_num, HS.out, by simp; omega, HO6.out, HL6.out⟩
            case measure => simp [intOf]; omega
    · obtain rfl : k = r.length := by omega
      rw [List.drop_length] at hgo
      have HF := Lib.hid (show Ck.fresh c s id = zs by rw [HR.out, hgo]; rfl)
      have Hown := Lib.hid hown
      have Hlw := Lib.hid hlw
      clear hown hlw
      clear hgo hlw0
      go_wp2_with fail
      go_ret
      exact ⟨_, rfl, by rw [HF.out]; exact Hown.out, Hlw.out⟩
end Go.Proofs.YtnffjfjhbjeaiaaGreatDoor
/- Layer 18 (check): more, legal: contracts. -/
namespace Go.Proofs.YtnffjfjhbjeaiaaGreatDoor
open Go.RowKit
theorem Ck.right_id {k : Int} {id : Nat} (h : Cd.right (k, (id : Int)) = true) : k = 1 ∨ k = 2 ∨ k = 3 ∨ k = 4 ∨ k = 5 ∨ k = 6 := by
  have := (Cd.right_bd h); simp at this; omega
theorem Ck.wd_at {c : CkN} {k : Nat} (hk : k < c.words.length) : Ck.wd c k = c.words[k] := by
  unfold Ck.wd; rw [Int.toNat_natCast, List.getD_eq_getElem?_getD, List.getElem?_eq_getElem hk]; rfl
theorem CkA.Still.word {a : CkA} {c : CkN} {W0 : World} (h : a.Still c W0) {k : Nat} (hk : k < c.words.length) : ∃ b off, a.Wd = some ⟨b, off, none⟩ ∧ W0.cell? ⟨b, off + k, none⟩ = some (.int .i64 (Ck.wd c k)) ∧ 0 ≤ Ck.wd c k ∧ Ck.wd c k ≤ 65536 := by
  obtain ⟨b, off, e, -, hc⟩ := h.words k hk
  rw [List.getD_eq_getElem?_getD, List.getElem?_eq_getElem hk, Option.getD_some] at hc
  rw [Ck.wd_at hk]
  exact ⟨b, off, e, hc, h.ok.word _ (List.getElem_mem hk)⟩
theorem Ck.insF_in {a : CkA} {c : CkN} {W0 : World} (h : a.Still c W0) {id : Nat} (hid : id < c.words.length) : (Ck.insF c id).length ≤ 1048576 ∧ ∀ i ∈ Ck.insF c id, 0 ≤ i ∧ i < c.words.length := by
  have hidi : id < c.ins.length := by rw [h.ok.ins]; exact hid
  rw [Ck.insF_at hidi]
  exact h.ok.row _ (List.getElem_mem hidi)
theorem Ck.fresh_in {a : CkA} {c : CkN} {W0 : World} (h : a.Still c W0) (s : CkS) {id : Nat} (hid : id < c.words.length) : (Ck.fresh c s id).length ≤ 1048576 ∧ ∀ i ∈ Ck.fresh c s id, 0 ≤ i ∧ i < c.words.length := by
  obtain ⟨h1, h2⟩ := Ck.insF_in h hid
  refine ⟨?_, fun i hi => ?_⟩
  · have := Ck.freshGo_len s.grad (Ck.insF c id) []
    unfold Ck.fresh; simp at this; omega
  · rcases Ck.freshGo_mem s.grad _ _ i hi with h | h
    · simp at h
    · exact h2 i h
set_option maxHeartbeats 8000000 in
set_option maxRecDepth 100000 in
theorem check_more (a : CkA) (c : CkN) (W0 : World) (s : CkS) (W : World) (hS : a.Still c W0) (hM : CkM a c W0 s W) (k : Int) (id : Nat) (hr : Cd.right (k, (id : Int)) = true) (hid : id < c.words.length) :
    Calls Tryz.prog 73 #[.pointer (some ⟨a.p, 0, none⟩), .agg #[.int .i64 k, .int .i64 id]] W fun e w' => e = .returned (.int .i64 (Ck.more c s k id)) ∧ Later W w' := by
  have hla : Later W (W.alloc (.cells #[.int .i64 k, .int .i64 id] 44)) := (Later.refl W).alloc _
  have hM1 := hM.to_later hla
  obtain ⟨bw, ow, hWd, hcw, hw0, hw1⟩ := hS.word hid
  obtain ⟨l, hle⟩ := Int.eq_ofNat_of_zero_le hS.ok.loss.1
  have hll : l < c.words.length := by have := hS.ok.loss.2; omega
  obtain ⟨bw', ow', hWd', hcl, hv0, hv1⟩ := hS.word hll
  rw [hWd] at hWd'
  cases hWd'
  have hlw := hM1.later
  have x1 := hlw.cell hcw
  have x2 := hlw.cell hcl
  obtain ⟨y0, -, -, -, y4, -⟩ := hM1.cells14
  rw [hWd] at y0
  rw [hle] at y4
  have hkb := Blk.new W 44 #[.int .i64 k, .int .i64 id]
  have z0 : (W.alloc (.cells #[.int .i64 k, .int .i64 id] 44)).cell? ⟨W.heap.size, 0, none⟩ = some (.int .i64 k) := hkb.cell 0
  have z1 : (W.alloc (.cells #[.int .i64 k, .int .i64 id] 44)).cell? ⟨W.heap.size, 1, none⟩ = some (.int .i64 id) := hkb.cell 1
  have q1 : (0 : Int) ≤ (id : Int) := by omega
  have q2 : (id : Int) < c.words.length := by omega
  have q3 : (0 : Int) ≤ (l : Int) := by omega
  have q4 : (l : Int) < c.words.length := by omega
  have HF := Lib.hid (check_fresh a c W0 s _ hS hM1 id hid)
  have hfin := Ck.fresh_in hS s hid
  have hsum := Ck.sum_bd c hS.ok.word
  have hword := fun i (h : i < c.words.length) => hS.word h
  have h513 := hS.ok.m2
  have hkind := Ck.right_id hr
  have E1 := Lib.hid (show Ck.more c s 1 id = Ck.wd c id from rfl)
  have E2 := Lib.hid (show Ck.more c s 2 id = Ck.wd c id from rfl)
  have E3 := Lib.hid (show Ck.more c s 3 id = 0 from rfl)
  have E4 := Lib.hid (show Ck.more c s 4 id = 0 from rfl)
  have E5 := Lib.hid (show Ck.more c s 5 id = Ck.wd c l by rw [← hle]; rfl)
  have E6 := Lib.hid (show Ck.more c s 6 id = Ck.sumW c (Ck.fresh c s id) from rfl)
  have Hfin := Lib.hid hfin
  have Hsum := Lib.hid hsum
  have Hword := Lib.hid hword
  have Hla := Lib.hid hla
  have Hlw := Lib.hid hlw
  have HWd := Lib.hid hWd
  have HM1 := Lib.hid hM1
  have Hle := Lib.hid hle
  clear hfin hsum hword hla hlw hWd hM1 hle
  clear hr hS hM hkb hcw hcl
  rcases hkind with rfl | rfl | rfl | rfl | rfl | rfl
  case inr.inr.inr.inr.inr =>
    clear z0 x1 x2 y4
    go_enter Tryz.func73, Tryz.ntmps73
    go_wp2_with fail
    generalize W.alloc (.cells #[.int .i64 6, .int .i64 id] 44) = W1 at *
    refine HF.out.mono ?_
    rintro e W2 ⟨v, rfl, hown, hl2⟩
    obtain ⟨A, cp, rfl⟩ := own_form hown
    obtain ⟨hI, -⟩ := own_ints hown
    have hM2 := HM1.out.to_later hl2
    have hlw2 := hM2.later
    obtain ⟨t0, -⟩ := hM2.cells14
    rw [HWd.out] at t0
    have hla2 := Hla.out.trans hl2
    have HI := Lib.hid hI
    have Hla2 := Lib.hid hla2
    have Hlw2 := Lib.hid hlw2
    clear hI hla2 hlw2
    clear hown hl2 hM2 HF Hla Hlw HM1 y0 z1
    generalize hfr : Ck.fresh c s id = fr at *
    go_wp2_with fail
    go_loop [5, 7, 40] (fun t _ i => ∃ k : Nat, k ≤ fr.length ∧ i = .int .i64 (k : Int) ∧ t = .int .i64 (Ck.sumW c (fr.take k))) (fun _ _ i => fr.length - (intOf i).toNat)
    case atStart => exact ⟨0, Nat.zero_le _, rfl, by simp [Ck.sumW]⟩
    case round =>
      obtain ⟨k, hk, rfl, rfl⟩ := hrel
      by_cases hlt : k < fr.length
      · obtain ⟨b3, o3, rfl, -, hc3⟩ := HI.out k hlt
        rw [List.getD_eq_getElem?_getD, List.getElem?_eq_getElem hlt, Option.getD_some] at hc3
        have hz := Hfin.out.2 _ (List.getElem_mem hlt)
        have HT := Lib.hid (Ck.sumW_take c fr k hlt)
        have hb1 := Hsum.out (fr.take k)
        rw [List.length_take] at hb1
        have hlf := Hfin.out.1
        generalize fr[k] = z at *
        obtain ⟨zn, rfl⟩ := Int.eq_ofNat_of_zero_le hz.1
        have hzn : zn < c.words.length := by omega
        obtain ⟨b4, o4, e4, hc4, w0, w1⟩ := Hword.out zn hzn
        rw [HWd.out] at e4
        cases e4
        have hc5 := Hlw2.out.cell hc4
        have p1 : (0 : Int) ≤ (zn : Int) := by omega
        have p2 : (zn : Int) < c.words.length := by omega
        have hmn : (min k fr.length) * 65536 ≤ 1048576 * 65536 := Nat.mul_le_mul_right _ (by omega)
        have hb2 : 0 ≤ Ck.sumW c (fr.take k) ∧ Ck.sumW c (fr.take k) ≤ 68719476736 := by omega
        clear hb1 hmn hc4
        generalize Ck.sumW c (fr.take k) = sm at *
        generalize Ck.wd c zn = wv at *
        go_wp2_with fail
        go_round
        case rel => exact ⟨k + 1, by omega, by go_num, by rw [HT.out]⟩
        case measure => simp [intOf]; omega
      · obtain rfl : k = fr.length := by omega
        rw [List.take_length]
        go_wp2_with fail
        go_ret
        exact ⟨by rw [E6.out]; rfl, Hla2.out⟩
  all_goals
    clear HF Hfin Hsum Hword Hlw
  case inl =>
    go_enter Tryz.func73, Tryz.ntmps73
    go_wp2_with fail
    generalize W.alloc (.cells #[.int .i64 1, .int .i64 id] 44) = W1 at *
    go_quiet (fail)
    go_wp2_with fail
    go_ret
    exact ⟨by rw [E1.out]; rfl, by first | exact Hla.out | exact Hla.out.drew | exact Hla.out.drewN _⟩
  case inr.inl =>
    go_enter Tryz.func73, Tryz.ntmps73
    go_wp2_with fail
    generalize W.alloc (.cells #[.int .i64 2, .int .i64 id] 44) = W1 at *
    go_quiet (fail)
    go_wp2_with fail
    go_ret
    exact ⟨by rw [E2.out]; rfl, by first | exact Hla.out | exact Hla.out.drew | exact Hla.out.drewN _⟩
  case inr.inr.inl =>
    go_enter Tryz.func73, Tryz.ntmps73
    go_wp2_with fail
    go_ret
    exact ⟨by rw [E3.out]; rfl, Hla.out⟩
  case inr.inr.inr.inl =>
    go_enter Tryz.func73, Tryz.ntmps73
    go_wp2_with fail
    go_ret
    exact ⟨by rw [E4.out]; rfl, Hla.out⟩
  case inr.inr.inr.inr.inl =>
    go_enter Tryz.func73, Tryz.ntmps73
    go_wp2_with fail
    generalize W.alloc (.cells #[.int .i64 5, .int .i64 id] 44) = W1 at *
    go_quiet (fail)
    go_wp2_with fail
    go_ret
    exact ⟨by rw [E5.out]; rfl, by first | exact Hla.out | exact Hla.out.drew | exact Hla.out.drewN _⟩
end Go.Proofs.YtnffjfjhbjeaiaaGreatDoor
/- Layer 18 (check): legal: contract. -/
namespace Go.Proofs.YtnffjfjhbjeaiaaGreatDoor
open Go.RowKit
theorem Ck.at_nat (l : List Bool) (k : Nat) : Ck.at_ l k = l.getD k false := by unfold Ck.at_; rw [Int.toNat_natCast]
set_option maxHeartbeats 8000000 in
set_option maxRecDepth 100000 in
theorem check_legal (a : CkA) (c : CkN) (W0 : World) (s : CkS) (W : World) (hS : a.Still c W0) (hM : CkM a c W0 s W) (k : Int) (id : Nat) (hr : Cd.right (k, (id : Int)) = true) (hid : id < c.words.length) (hdn : s.done ≤ 1048576) :
    Calls Tryz.prog 72 #[.pointer (some ⟨a.p, 0, none⟩), .agg #[.int .i64 k, .int .i64 id]] W fun e w' => e = .returned (.bool (Ck.legal c s k id)) ∧ Later W w' := by
  have hla : Later W (W.alloc (.cells #[.int .i64 k, .int .i64 id] 44)) := (Later.refl W).alloc _
  have hM1 := hM.to_later hla
  obtain ⟨l, hle⟩ := Int.eq_ofNat_of_zero_le hS.ok.loss.1
  have hll : l < c.words.length := by have := hS.ok.loss.2; omega
  have hlw := hM1.later
  obtain ⟨-, -, -, y3, y4, -, y6, y7, y8, y9, y10, y11, -⟩ := hM1.cells14
  rw [hle] at y4
  have b1 := bool_at hM1.pres (i := id) (by rw [hM1.l1]; exact hid)
  have b2 := bool_at hM1.sav (i := id) (by rw [hM1.l2]; exact hid)
  have b3 := bool_at hM1.grad (i := id) (by rw [hM1.l3]; exact hid)
  have b4 := bool_at hM1.pres (i := l) (by rw [hM1.l1]; exact hll)
  have q1 : (0 : Int) ≤ (id : Int) := by omega
  have q2 : (id : Int) < c.words.length := by omega
  have q3 : (0 : Int) ≤ (l : Int) := by omega
  have q4 : (l : Int) < c.words.length := by omega
  have HF := Lib.hid (fun W' (h : CkM a c W0 s W') => check_ready a c W0 s W' hS h id hid)
  have h513 := hS.ok.m2
  have hord := hS.ok.ord
  have hOr := hS.ord
  have hkind := Ck.right_id hr
  have E1 := Lib.hid (show Ck.legal c s 1 id = (!s.sav.getD id false && Ck.ready c s id) by rw [← Ck.at_nat]; rfl)
  have E2 := Lib.hid (show Ck.legal c s 2 id = (s.sav.getD id false && (!s.pres.getD id false && Ck.ready c s id)) by rw [← Ck.at_nat, ← Ck.at_nat]; rfl)
  have E3 := Lib.hid (show Ck.legal c s 3 id = s.pres.getD id false by rw [← Ck.at_nat]; rfl)
  have E4 := Lib.hid (show Ck.legal c s 4 id = (s.pres.getD l false && !s.em) by rw [← Ck.at_nat, ← hle]; rfl)
  have E5 := Lib.hid (show Ck.legal c s 5 id = !s.sd from rfl)
  have E6 := Lib.hid (show Ck.legal c s 6 id = (s.grad.getD id false && (Ck.ready c s id && Ck.back c s id)) by rw [← Ck.at_nat]; rfl)
  have Hla := Lib.hid hla
  have Hlw := Lib.hid hlw
  have HM1 := Lib.hid hM1
  have Hle := Lib.hid hle
  have HOr := Lib.hid hOr
  clear hla hlw hM1 hle hOr
  clear hr hS hM
  generalize s.pres.getD id false = v1 at *
  generalize s.sav.getD id false = v2 at *
  generalize s.grad.getD id false = v3 at *
  generalize s.pres.getD l false = v4 at *
  generalize Ck.ready c s id = rd at *
  rcases hkind with rfl | rfl | rfl | rfl | rfl | rfl
  case inl =>
    clear b1 b3 b4 y3 y4 y6 y8 y9 y10 y11
    cases v2
    · go_enter Tryz.func72, Tryz.ntmps72
      go_wp2_with fail
      refine (HF.out _ HM1.out).mono ?_
      rintro e W2 ⟨rfl, rfl⟩
      clear b2 y7
      go_wp2_with fail
      go_ret
      exact ⟨by rw [E1.out]; rfl, Hla.out⟩
    · go_enter Tryz.func72, Tryz.ntmps72
      go_wp2_with fail
      go_ret
      exact ⟨by rw [E1.out]; rfl, Hla.out⟩
  case inr.inl =>
    clear b3 b4 y3 y4 y8 y9 y10 y11
    cases v2
    · go_enter Tryz.func72, Tryz.ntmps72
      go_wp2_with fail
      go_ret
      exact ⟨by rw [E2.out]; rfl, Hla.out⟩
    · cases v1
      · go_enter Tryz.func72, Tryz.ntmps72
        go_wp2_with fail
        refine (HF.out _ HM1.out).mono ?_
        rintro e W2 ⟨rfl, rfl⟩
        clear b1 b2 y6 y7
        go_wp2_with fail
        go_ret
        exact ⟨by rw [E2.out]; rfl, Hla.out⟩
      · go_enter Tryz.func72, Tryz.ntmps72
        go_wp2_with fail
        go_ret
        exact ⟨by rw [E2.out]; rfl, Hla.out⟩
  case inr.inr.inl =>
    clear b2 b3 b4 y3 y4 y7 y8 y9 y10 y11
    go_enter Tryz.func72, Tryz.ntmps72
    go_wp2_with fail
    go_ret
    exact ⟨by rw [E3.out]; rfl, Hla.out⟩
  case inr.inr.inr.inl =>
    clear b1 b2 b3 y3 y7 y8 y10 y11
    generalize s.em = em at *
    cases v4
    all_goals
      go_enter Tryz.func72, Tryz.ntmps72
      go_wp2_with fail
      generalize W.alloc (.cells #[.int .i64 4, .int .i64 id] 44) = W1 at *
      go_quiet (fail)
      go_wp2_with fail
      go_ret
      exact ⟨by rw [E4.out]; rfl, by first | exact Hla.out | exact Hla.out.drew | exact Hla.out.drewN _⟩
  case inr.inr.inr.inr.inl =>
    clear b1 b2 b3 b4 y3 y4 y6 y7 y8 y9 y11
    go_enter Tryz.func72, Tryz.ntmps72
    go_wp2_with fail
    go_ret
    exact ⟨by rw [E5.out]; rfl, Hla.out⟩
  case inr.inr.inr.inr.inr =>
    have hback : Ck.back c s id = decide (s.done < c.order.length ∧ c.order.getD (c.order.length - 1 - s.done) 0 = (id : Int)) := rfl
    clear b1 b2 b4 y4 y6 y7 y9 y10
    cases v3
    · go_enter Tryz.func72, Tryz.ntmps72
      go_wp2_with fail
      generalize W.alloc (.cells #[.int .i64 6, .int .i64 id] 44) = W1 at *
      have HR2 := Lib.hid (fun n => HF.out _ (HM1.out.to_later (Later.drewN (Later.refl W1) n)))
      go_quiet ((go_at_call 90; exact quiet_same (HR2.out _)))
      go_wp2_with fail
      go_ret
      exact ⟨by rw [E6.out]; rfl, by first | exact Hla.out | exact Hla.out.drew | exact Hla.out.drewN _⟩
    · cases rd
      · go_enter Tryz.func72, Tryz.ntmps72
        go_wp2_with fail
        generalize W.alloc (.cells #[.int .i64 6, .int .i64 id] 44) = W1 at *
        have HR2 := Lib.hid (fun n => HF.out _ (HM1.out.to_later (Later.drewN (Later.refl W1) n)))
        go_quiet ((go_at_call 90; exact quiet_same (HR2.out _)))
        go_wp2_with fail
        go_ret
        exact ⟨by rw [E6.out]; rfl, by first | exact Hla.out | exact Hla.out.drew | exact Hla.out.drewN _⟩
      · by_cases hd : s.done < c.order.length
        rotate_left
        · have hbk : Ck.back c s id = false := by rw [hback]; simp; intro h; exact absurd h hd
          have d1 : decide ((s.done : Int) < c.order.length) = false := by simp; omega
          clear hback
          go_enter Tryz.func72, Tryz.ntmps72
          go_wp2_with fail
          generalize W.alloc (.cells #[.int .i64 6, .int .i64 id] 44) = W1 at *
          have HR2 := Lib.hid (fun n => HF.out _ (HM1.out.to_later (Later.drewN (Later.refl W1) n)))
          go_quiet ((go_at_call 90; exact quiet_same (HR2.out _)))
          go_wp2_with fail
          go_ret
          exact ⟨by rw [E6.out, hbk]; rfl, by first | exact Hla.out | exact Hla.out.drew | exact Hla.out.drewN _⟩
        · obtain ⟨j, hj⟩ : ∃ j : Nat, c.order.length - 1 - s.done = j := ⟨_, rfl⟩
          have hjl : j < c.order.length := by omega
          obtain ⟨bo, oo, hOa, -, ho⟩ := HOr.out j hjl
          have o1 := Hlw.out.cell ho
          rw [hOa] at y3
          have hbk : Ck.back c s id = (c.order.getD j 0 == (id : Int)) := by
            rw [hback, hj, Bool.eq_iff_iff]; simp [hd]
          have d1 : decide ((s.done : Int) < c.order.length) = true := by simp; omega
          have w1 : (c.order.length : Int) - 1 - s.done = j := by omega
          have w2 : IntKind.i64.wrap ((c.order.length : Int) - 1) = (c.order.length : Int) - 1 := IntWalk.i64_in _ (by omega)
          have w3 : IntKind.i64.wrap ((c.order.length : Int) - 1 - s.done) = j := by rw [w1]; exact IntWalk.i64_in _ (by omega)
          have w4 : (0 : Int) ≤ (j : Int) := by omega
          have w5 : (j : Int) < c.order.length := by omega
          generalize c.order.getD j 0 = oz at *
          clear hback hj ho
          go_enter Tryz.func72, Tryz.ntmps72
          go_wp2_with fail
          generalize W.alloc (.cells #[.int .i64 6, .int .i64 id] 44) = W1 at *
          have HR2 := Lib.hid (fun n => HF.out _ (HM1.out.to_later (Later.drewN (Later.refl W1) n)))
          go_quiet ((go_at_call 90; exact quiet_same (HR2.out _)))
          go_wp2_with fail
          go_ret
          exact ⟨by rw [E6.out, hbk]; rfl, by first | exact Hla.out | exact Hla.out.drew | exact Hla.out.drewN _⟩
end Go.Proofs.YtnffjfjhbjeaiaaGreatDoor
/- Layer 18 (check): a state in memory, written to_. -/
namespace Go.Proofs.YtnffjfjhbjeaiaaGreatDoor
open Go.RowKit
section
variable {a : CkA} {c : CkN} {W0 W : World} {s : CkS}
theorem CkM.set_now (h : CkM a c W0 s W) (hS : a.Still c W0) (n : Int) : CkM a c W0 { s with now := n } (W.setCell ⟨a.p, 12, none⟩ (.int .i64 n)) := by
  have := hS.hp; have := hS.h1; have := hS.h2; have := hS.h3
  exact ⟨h.later.set (p := ⟨a.p, 12, none⟩) hS.hp _, h.box.set_ 12 _, h.pres.far (p := ⟨a.p, 12, none⟩) (by simp; omega) _, h.sav.far (p := ⟨a.p, 12, none⟩) (by simp; omega) _, h.grad.far (p := ⟨a.p, 12, none⟩) (by simp; omega) _, h.l1, h.l2, h.l3⟩
theorem CkM.set_peak (h : CkM a c W0 s W) (hS : a.Still c W0) (n : Int) : CkM a c W0 { s with peak := n } (W.setCell ⟨a.p, 13, none⟩ (.int .i64 n)) := by
  have := hS.hp; have := hS.h1; have := hS.h2; have := hS.h3
  exact ⟨h.later.set (p := ⟨a.p, 13, none⟩) hS.hp _, h.box.set_ 13 _, h.pres.far (p := ⟨a.p, 13, none⟩) (by simp; omega) _, h.sav.far (p := ⟨a.p, 13, none⟩) (by simp; omega) _, h.grad.far (p := ⟨a.p, 13, none⟩) (by simp; omega) _, h.l1, h.l2, h.l3⟩
theorem CkM.set_em (h : CkM a c W0 s W) (hS : a.Still c W0) (b : Bool) : CkM a c W0 { s with em := b } (W.setCell ⟨a.p, 9, none⟩ (.bool b)) := by
  have := hS.hp; have := hS.h1; have := hS.h2; have := hS.h3
  exact ⟨h.later.set (p := ⟨a.p, 9, none⟩) hS.hp _, h.box.set_ 9 _, h.pres.far (p := ⟨a.p, 9, none⟩) (by simp; omega) _, h.sav.far (p := ⟨a.p, 9, none⟩) (by simp; omega) _, h.grad.far (p := ⟨a.p, 9, none⟩) (by simp; omega) _, h.l1, h.l2, h.l3⟩
theorem CkM.set_sd (h : CkM a c W0 s W) (hS : a.Still c W0) (b : Bool) : CkM a c W0 { s with sd := b } (W.setCell ⟨a.p, 10, none⟩ (.bool b)) := by
  have := hS.hp; have := hS.h1; have := hS.h2; have := hS.h3
  exact ⟨h.later.set (p := ⟨a.p, 10, none⟩) hS.hp _, h.box.set_ 10 _, h.pres.far (p := ⟨a.p, 10, none⟩) (by simp; omega) _, h.sav.far (p := ⟨a.p, 10, none⟩) (by simp; omega) _, h.grad.far (p := ⟨a.p, 10, none⟩) (by simp; omega) _, h.l1, h.l2, h.l3⟩
theorem CkM.set_done (h : CkM a c W0 s W) (hS : a.Still c W0) (n : Nat) : CkM a c W0 { s with done := n } (W.setCell ⟨a.p, 11, none⟩ (.int .i64 n)) := by
  have := hS.hp; have := hS.h1; have := hS.h2; have := hS.h3
  exact ⟨h.later.set (p := ⟨a.p, 11, none⟩) hS.hp _, h.box.set_ 11 _, h.pres.far (p := ⟨a.p, 11, none⟩) (by simp; omega) _, h.sav.far (p := ⟨a.p, 11, none⟩) (by simp; omega) _, h.grad.far (p := ⟨a.p, 11, none⟩) (by simp; omega) _, h.l1, h.l2, h.l3⟩
theorem bools_set (l : List Bool) (i : Nat) (b : Bool) : ((l.map Value.bool).toArray.setIfInBounds i (.bool b)) = ((l.set i b).map Value.bool).toArray := by
  rw [List.map_set, List.setIfInBounds_toArray]
theorem CkM.set_pres (h : CkM a c W0 s W) (hS : a.Still c W0) (i : Nat) (b : Bool) : CkM a c W0 { s with pres := s.pres.set i b } (W.setCell ⟨a.g1, i, none⟩ (.bool b)) := by
  have := hS.hp; have := hS.h1; have := hS.h2; have := hS.h3
  have hk := h.pres.set_ i (.bool b)
  rw [bools_set] at hk
  exact ⟨h.later.set (p := ⟨a.g1, i, none⟩) (by simp; omega) _, h.box.far (p := ⟨a.g1, i, none⟩) (by simp; omega) _, hk, h.sav.far (p := ⟨a.g1, i, none⟩) (by simp; omega) _, h.grad.far (p := ⟨a.g1, i, none⟩) (by simp; omega) _, by simpa using h.l1, h.l2, h.l3⟩
theorem CkM.set_sav (h : CkM a c W0 s W) (hS : a.Still c W0) (i : Nat) (b : Bool) : CkM a c W0 { s with sav := s.sav.set i b } (W.setCell ⟨a.g2, i, none⟩ (.bool b)) := by
  have := hS.hp; have := hS.h1; have := hS.h2; have := hS.h3
  have hk := h.sav.set_ i (.bool b)
  rw [bools_set] at hk
  exact ⟨h.later.set (p := ⟨a.g2, i, none⟩) (by simp; omega) _, h.box.far (p := ⟨a.g2, i, none⟩) (by simp; omega) _, h.pres.far (p := ⟨a.g2, i, none⟩) (by simp; omega) _, hk, h.grad.far (p := ⟨a.g2, i, none⟩) (by simp; omega) _, h.l1, by simpa using h.l2, h.l3⟩
theorem CkM.set_grad (h : CkM a c W0 s W) (hS : a.Still c W0) (i : Nat) (b : Bool) : CkM a c W0 { s with grad := s.grad.set i b } (W.setCell ⟨a.g3, i, none⟩ (.bool b)) := by
  have := hS.hp; have := hS.h1; have := hS.h2; have := hS.h3
  have hk := h.grad.set_ i (.bool b)
  rw [bools_set] at hk
  exact ⟨h.later.set (p := ⟨a.g3, i, none⟩) (by simp; omega) _, h.box.far (p := ⟨a.g3, i, none⟩) (by simp; omega) _, h.pres.far (p := ⟨a.g3, i, none⟩) (by simp; omega) _, h.sav.far (p := ⟨a.g3, i, none⟩) (by simp; omega) _, hk, h.l1, h.l2, by simpa using h.l3⟩
end
/-- A state, and all else as it was. -/
structure CkF (a : CkA) (c : CkN) (W0 : World) (s : CkS) (W W' : World) : Prop where
  mem : CkM a c W0 s W'
  fr : Fr (fun b => a.p ≤ b ∧ b ≤ a.g3) W W'
section
variable {a : CkA} {c : CkN} {W0 W W' W2 : World} {s : CkS}
theorem CkF.later (h : CkF a c W0 s W W') (hl : Later W' W2) : CkF a c W0 s W W2 := ⟨h.mem.to_later hl, h.fr.then_below hl h.fr.size⟩
theorem CkF.now (h : CkF a c W0 s W W') (hS : a.Still c W0) (n : Int) : CkF a c W0 { s with now := n } W (W'.setCell ⟨a.p, 12, none⟩ (.int .i64 n)) := ⟨h.mem.set_now hS n, h.fr.setCell (p := ⟨a.p, 12, none⟩) (fun _ => ⟨Nat.le_refl _, by have := hS.h1; have := hS.h2; have := hS.h3; simp; omega⟩) _⟩
theorem CkF.peak (h : CkF a c W0 s W W') (hS : a.Still c W0) (n : Int) : CkF a c W0 { s with peak := n } W (W'.setCell ⟨a.p, 13, none⟩ (.int .i64 n)) := ⟨h.mem.set_peak hS n, h.fr.setCell (p := ⟨a.p, 13, none⟩) (fun _ => ⟨Nat.le_refl _, by have := hS.h1; have := hS.h2; have := hS.h3; simp; omega⟩) _⟩
theorem CkF.em (h : CkF a c W0 s W W') (hS : a.Still c W0) (b : Bool) : CkF a c W0 { s with em := b } W (W'.setCell ⟨a.p, 9, none⟩ (.bool b)) := ⟨h.mem.set_em hS b, h.fr.setCell (p := ⟨a.p, 9, none⟩) (fun _ => ⟨Nat.le_refl _, by have := hS.h1; have := hS.h2; have := hS.h3; simp; omega⟩) _⟩
theorem CkF.sd (h : CkF a c W0 s W W') (hS : a.Still c W0) (b : Bool) : CkF a c W0 { s with sd := b } W (W'.setCell ⟨a.p, 10, none⟩ (.bool b)) := ⟨h.mem.set_sd hS b, h.fr.setCell (p := ⟨a.p, 10, none⟩) (fun _ => ⟨Nat.le_refl _, by have := hS.h1; have := hS.h2; have := hS.h3; simp; omega⟩) _⟩
theorem CkF.done (h : CkF a c W0 s W W') (hS : a.Still c W0) (n : Nat) : CkF a c W0 { s with done := n } W (W'.setCell ⟨a.p, 11, none⟩ (.int .i64 n)) := ⟨h.mem.set_done hS n, h.fr.setCell (p := ⟨a.p, 11, none⟩) (fun _ => ⟨Nat.le_refl _, by have := hS.h1; have := hS.h2; have := hS.h3; simp; omega⟩) _⟩
theorem CkF.pres (h : CkF a c W0 s W W') (hS : a.Still c W0) (i : Nat) (b : Bool) : CkF a c W0 { s with pres := s.pres.set i b } W (W'.setCell ⟨a.g1, i, none⟩ (.bool b)) := ⟨h.mem.set_pres hS i b, h.fr.setCell (p := ⟨a.g1, i, none⟩) (fun _ => ⟨by have := hS.h1; simp; omega, by have := hS.h2; have := hS.h3; simp; omega⟩) _⟩
theorem CkF.sav (h : CkF a c W0 s W W') (hS : a.Still c W0) (i : Nat) (b : Bool) : CkF a c W0 { s with sav := s.sav.set i b } W (W'.setCell ⟨a.g2, i, none⟩ (.bool b)) := ⟨h.mem.set_sav hS i b, h.fr.setCell (p := ⟨a.g2, i, none⟩) (fun _ => ⟨by have := hS.h1; have := hS.h2; simp; omega, by have := hS.h3; simp; omega⟩) _⟩
theorem CkF.grad (h : CkF a c W0 s W W') (hS : a.Still c W0) (i : Nat) (b : Bool) : CkF a c W0 { s with grad := s.grad.set i b } W (W'.setCell ⟨a.g3, i, none⟩ (.bool b)) := ⟨h.mem.set_grad hS i b, h.fr.setCell (p := ⟨a.g3, i, none⟩) (fun _ => ⟨by have := hS.h1; have := hS.h2; have := hS.h3; simp; omega, by simp⟩) _⟩
theorem CkF.froz (h : CkF a c W0 s W W') (i : Nat) : W'.frozen? ⟨a.p, i, none⟩ = false ∧ W'.frozen? ⟨a.g1, i, none⟩ = false ∧ W'.frozen? ⟨a.g2, i, none⟩ = false ∧ W'.frozen? ⟨a.g3, i, none⟩ = false :=
  ⟨h.mem.box.frozen i, h.mem.pres.frozen i, h.mem.sav.frozen i, h.mem.grad.frozen i⟩
end
end Go.Proofs.YtnffjfjhbjeaiaaGreatDoor
/- Layer 17 (code): contracts. -/
namespace Go.Proofs.YtnffjfjhbjeaiaaGreatDoor
open Go.RowKit

/-- The slice at A reads as the pairs ps. -/
def Pairs (w : World) (A : Option Addr) (ps : List (Int × Int)) : Prop :=
  ∀ k (h : k < ps.length), ∃ b off, A = some ⟨b, off, none⟩ ∧ b < w.heap.size ∧ w.cell? ⟨b, off + k * 2, none⟩ = some (.int .i64 ps[k].1) ∧ w.cell? ⟨b, off + k * 2 + 1, none⟩ = some (.int .i64 ps[k].2)

section
variable {w w' : World} {A : Option Addr} {ps : List (Int × Int)}
theorem Pairs.nil : Pairs w A [] := fun j hj => by simp at hj
theorem Pairs.below {B : Nat} (h : Pairs w A ps) (hb : Below B w w') (hB : w.heap.size ≤ B) : Pairs w' A ps := fun j hj => by
  obtain ⟨b, off, e, hl, hc, hd⟩ := h j hj
  exact ⟨b, off, e, Nat.lt_of_lt_of_le hl hb.size, (hb.cell (p := ⟨b, off + j * 2, none⟩) (Nat.lt_of_lt_of_le hl hB)).trans hc, (hb.cell (p := ⟨b, off + j * 2 + 1, none⟩) (Nat.lt_of_lt_of_le hl hB)).trans hd⟩
end

theorem code_right (a b : Int) (w : World) :
    Calls Tryz.prog 71 #[.agg #[.int .i64 a, .int .i64 b]] w fun e w' => e = .returned (.bool (Cd.right (a, b))) ∧ Below w.heap.size w w' := by
  rcases Cd.kinds a with h | h | h
  · have hfin := Lib.hid (Cd.right_45 (p := (a, b)) h)
    rcases h with rfl | rfl
    all_goals
      go_enter Tryz.func71, Tryz.ntmps71
      go_wp2_with fail
      go_ret
      exact ⟨ret_bool (by rw [hfin.out]), (Below.refl _ _).alloc (Nat.le_refl _) _⟩
  · have hfin := Lib.hid (Cd.right_1236 (p := (a, b)) h)
    by_cases h1 : 1 ≤ b
    · rcases h with rfl | rfl | rfl | rfl
      all_goals
        go_enter Tryz.func71, Tryz.ntmps71
        go_wp2_with fail
        go_ret
        exact ⟨ret_bool (by rw [hfin.out]; simp [h1]), (Below.refl _ _).alloc (Nat.le_refl _) _⟩
    · rcases h with rfl | rfl | rfl | rfl
      all_goals
        go_enter Tryz.func71, Tryz.ntmps71
        go_wp2_with fail
        go_ret
        exact ⟨ret_bool (by rw [hfin.out]; simp; omega), (Below.refl _ _).alloc (Nat.le_refl _) _⟩
  · obtain ⟨h1, h2, h3, h4, h5, h6⟩ := h
    have hfin := Lib.hid (Cd.right_other (p := (a, b)) h1 h2 h3 h4 h5 h6)
    have g1 : (a == 1) = false := by simp [h1]
    have g2 : (a == 2) = false := by simp [h2]
    have g3 : (a == 3) = false := by simp [h3]
    have g4 : (a == 4) = false := by simp [h4]
    have g5 : (a == 5) = false := by simp [h5]
    have g6 : (a == 6) = false := by simp [h6]
    clear h1 h2 h3 h4 h5 h6
    go_enter Tryz.func71, Tryz.ntmps71
    go_wp2_with fail
    go_ret
    exact ⟨ret_bool (by rw [hfin.out]), (Below.refl _ _).alloc (Nat.le_refl _) _⟩

set_option maxHeartbeats 400000 in
theorem code_check (A : Option Addr) (c : Nat) (ps : List (Int × Int)) (w : World) (hl : ps.length ≤ 9223372036854775807) (hI : Pairs w A ps) :
    Calls Tryz.prog 43 #[.slice A ps.length c] w fun e w' => e = .returned (.int .i64 (Cd.check ps)) ∧ Below w.heap.size w w' := by
  have HI := Lib.hid hI
  clear hI
  by_cases hm : 65536 < ps.length
  · have hfin := Lib.hid (Cd.check_many hm)
    go_enter Tryz.func43, Tryz.ntmps43
    go_wp2_with fail
    go_ret
    exact ⟨ret_int (by rw [hfin.out]), Below.refl _ _⟩
  · go_enter Tryz.func43, Tryz.ntmps43
    go_wp2_with fail
    go_loopw [4, 10] (fun _ i wr => ∃ k : Nat, k ≤ ps.length ∧ i = .int .i64 k ∧ Below w.heap.size w wr ∧ ∀ j (hj : j < ps.length), j < k → Cd.right ps[j] = true) (fun _ i _ => ps.length - (intOf i).toNat)
    case atStart => exact ⟨0, Nat.zero_le _, rfl, Below.refl _ _, by intro j _ hj; omega⟩
    case round =>
      obtain ⟨k, hk, rfl, hbel, hok⟩ := hrel
      have HO := Lib.hid hok
      clear hok
      by_cases hlt : k < ps.length
      · obtain ⟨b, off, rfl, hb, hc, hd⟩ := HI.out.below hbel (Nat.le_refl _) k hlt
        go_wp2_with fail
        refine (code_right _ _ _).mono ?_
        rintro e w1 ⟨rfl, h1⟩
        have hb1 : Below w.heap.size w w1 := (hbel.alloc hbel.size _).trans (h1.mono (by have := hbel.size; simp; omega))
        clear h1 hbel
        cases hr : Cd.right (ps[k].1, ps[k].2)
        · have hfin := Lib.hid (Cd.check_form hm (Cd.not_all hlt hr))
          clear hr
          go_wp2_with fail
          go_ret
          exact ⟨ret_int (by rw [hfin.out]), hb1⟩
        · have HR := Lib.hid hr
          clear hr
          go_wp2_with fail
          go_roundw
          case rel => exact ⟨k + 1, by omega, by go_num, hb1, fun j hj hj2 => by rcases Nat.lt_succ_iff_lt_or_eq.1 hj2 with h | h; exact HO.out j hj h; subst h; exact HR.out⟩
          case measure => simp [intOf]; omega
      · obtain rfl : k = ps.length := by omega
        have hfin := Lib.hid (Cd.check_ok hm (Cd.all_get (fun j hj => HO.out j hj hj)))
        go_wp2_with fail
        go_ret
        exact ⟨ret_int (by rw [hfin.out]), hbel⟩


end Go.Proofs.YtnffjfjhbjeaiaaGreatDoor
/- Layer 17 (code): more contracts. -/
namespace Go.Proofs.YtnffjfjhbjeaiaaGreatDoor
open Go.RowKit


set_option maxHeartbeats 400000 in
theorem code_count (A : Option Addr) (c : Nat) (ps : List (Int × Int)) (kind : Int) (w : World) (hl : ps.length ≤ 9223372036854775807) (hI : Pairs w A ps) :
    Calls Tryz.prog 48 #[.slice A ps.length c, .int .i64 kind] w fun e w' => e = .returned (.int .i64 (Cd.count kind ps)) ∧ Below w.heap.size w w' := by
  have HI := Lib.hid hI
  clear hI
  go_enter Tryz.func48, Tryz.ntmps48
  go_wp2_with fail
  go_loopw [5, 7, 10] (fun n _ i wr => ∃ k : Nat, k ≤ ps.length ∧ i = .int .i64 k ∧ Below w.heap.size w wr ∧ n = .int .i64 (Cd.count kind (ps.take k))) (fun _ _ i _ => ps.length - (intOf i).toNat)
  case atStart => exact ⟨0, Nat.zero_le _, rfl, Below.refl _ _, rfl⟩
  case round =>
    obtain ⟨k, hk, rfl, hbel, rfl⟩ := hrel
    by_cases hlt : k < ps.length
    · obtain ⟨b, off, rfl, hb, hc, hd⟩ := HI.out.below hbel (Nat.le_refl _) k hlt
      have ⟨hn0, hn1⟩ := Cd.count_bd kind (ps.take k)
      rw [List.length_take] at hn1
      have HS := Lib.hid (Cd.count_take_succ kind ps k hlt)
      have hb1 := hbel.alloc hbel.size (Obj.cells #[Value.int IntKind.i64 ps[k].1, Value.int IntKind.i64 ps[k].2] 44)
      clear hbel
      cases he : (ps[k].1 == kind)
      · go_wp2_with fail
        go_roundw
        case rel => exact ⟨k + 1, by omega, by go_num, hb1, by rw [HS.out, he]; simp⟩
        case measure => simp [intOf]; omega
      · go_wp2_with fail
        go_roundw
        case rel => exact ⟨k + 1, by omega, by go_num, hb1, by rw [HS.out, he]; simp⟩
        case measure => simp [intOf]; omega
    · obtain rfl : k = ps.length := by omega
      go_wp2_with fail
      go_ret
      exact ⟨ret_int (by rw [List.take_length]), hbel⟩



def flatTo (ps : List (Int × Int)) (k : Nat) : List Value := (Cd.flat (ps.take k)).map (Value.int .u8)
theorem flatTo_zero (ps : List (Int × Int)) : flatTo ps 0 = [] := by simp [flatTo, Cd.flat]
theorem flatTo_succ (ps : List (Int × Int)) (k : Nat) (h : k < ps.length) : flatTo ps (k + 1) = flatTo ps k ++ [.int .u8 ps[k].1, .int .u8 (ps[k].2 / 256), .int .u8 (ps[k].2 % 256)] := by
  unfold flatTo
  rw [Cd.flat_take_succ ps k h]; simp
theorem three_new (w : World) (t : TypeId) (x y z : Value) : ∀ (j : Nat) (u : Value), [x, y, z][j]? = some u → (w.alloc (.cells #[x, y, z] t)).cell? (Addr.add ⟨w.heap.size, 0, none⟩ j) = some u := by
  intro j u hj
  match j, hj with
  | 0, hj => simp at hj; subst hj; simp [Addr.add]
  | 1, hj => simp at hj; subst hj; simp [Addr.add]
  | 2, hj => simp at hj; subst hj; simp [Addr.add]

def BytesPost (ps : List (Int × Int)) (w : World) (e : Ending) (w' : World) : Prop :=
  ∃ A c, e = .returned (.tuple #[.slice A (Cd.bytes ps).length c, .int .i64 (Cd.check ps)]) ∧ Ints .u8 w' A (Cd.bytes ps) ∧ Below w.heap.size w w'

end Go.Proofs.YtnffjfjhbjeaiaaGreatDoor
/- Bytes put together by shift and or. No program is named here. -/
namespace Go.Proofs.YtnffjfjhbjeaiaaGreatDoor
open Go.RowKit
theorem or_i64_nat (a b : Nat) (ha : a < 2 ^ 62) (hb : b < 2 ^ 62) : bits .or .i64 (a : Int) (b : Int) = ((a ||| b : Nat) : Int) := by
  have hx : a ||| b < 2 ^ 62 := Nat.or_lt_two_pow ha hb
  have h1 : (BitVec.ofInt 64 (a : Int)).toNat = a := by
    rw [BitVec.ofInt_natCast, BitVec.toNat_ofNat]; exact Nat.mod_eq_of_lt (by omega)
  have h2 : (BitVec.ofInt 64 (b : Int)).toNat = b := by
    rw [BitVec.ofInt_natCast, BitVec.toNat_ofNat]; exact Nat.mod_eq_of_lt (by omega)
  show IntKind.i64.wrap ((BitVec.ofInt 64 (a : Int) ||| BitVec.ofInt 64 (b : Int)).toNat : Int) = _
  rw [BitVec.toNat_or, h1, h2, IntWalk.i64_in _ (by omega)]
theorem or_mul (a b i m : Nat) (hm : m = 2 ^ i) (h : a < m) : (b * m) ||| a = b * m + a := by
  subst hm
  rw [← Nat.shiftLeft_eq, Nat.shiftLeft_add_eq_or_of_lt h]
theorem or_byte (x y : Int) (x0 : 0 ≤ x) (x1 : x ≤ 255) (y0 : 0 ≤ y) (y1 : y ≤ 255) : bits .or .i64 (x * 256) y = x * 256 + y := by
  obtain ⟨n, rfl⟩ := Int.eq_ofNat_of_zero_le x0
  obtain ⟨m, rfl⟩ := Int.eq_ofNat_of_zero_le y0
  have e : ((n : Int) * 256) = ((n * 256 : Nat) : Int) := by omega
  rw [e, or_i64_nat _ _ (by omega) (by omega), or_mul m n 8 256 (by decide) (by omega)]
  omega
theorem or_u64_mul (a b : Nat) (ha : a * 256 + b < 18446744073709551616) (hb : b < 256) : bits .or .u64 ((a * 256 : Nat) : Int) (b : Int) = ((a * 256 + b : Nat) : Int) := by
  have h1 := bits_or_u64_nat (a * 256) b (Nat.lt_of_le_of_lt (Nat.le_add_right _ _) ha) (Nat.lt_of_le_of_lt (Nat.le_add_left _ _) ha)
  rw [h1, or_mul b a 8 256 (by decide) hb]
theorem or_u64_int (n c : Int) (n0 : 0 ≤ n) (n1 : n < 72057594037927936) (c0 : 0 ≤ c) (c1 : c ≤ 255) : bits .or .u64 (n * 256) c = n * 256 + c := by
  obtain ⟨a, rfl⟩ := Int.eq_ofNat_of_zero_le n0
  obtain ⟨b, rfl⟩ := Int.eq_ofNat_of_zero_le c0
  have e : ((a : Int) * 256) = ((a * 256 : Nat) : Int) := by omega
  rw [e, or_u64_mul a b (by omega) (by omega)]
  omega
end Go.Proofs.YtnffjfjhbjeaiaaGreatDoor
/- Layer 17 (code): costs, and the code of bytes: contracts. -/
namespace Go.Proofs.YtnffjfjhbjeaiaaGreatDoor
open Go.RowKit


def costTo (cost : List Int) (ps : List (Int × Int)) (k : Nat) : List Value := (Cd.costList cost (ps.take k)).map (Value.int .i64)
def costN (cost : List Int) (ps : List (Int × Int)) (k : Nat) : Nat := (Cd.costList cost (ps.take k)).length
theorem costN_le (cost : List Int) (ps : List (Int × Int)) (k : Nat) (h : k ≤ ps.length) : costN cost ps k ≤ k := by
  have := Cd.costList_le cost (ps.take k)
  unfold costN
  rw [List.length_take] at this
  omega
theorem cost_skip (cost : List Int) (ps : List (Int × Int)) (k : Nat) (h : k < ps.length) (hr : Cd.reck ps[k] = false) : costTo cost ps (k + 1) = costTo cost ps k ∧ costN cost ps (k + 1) = costN cost ps k := by
  unfold costTo costN
  rw [Cd.costList_take_skip cost ps k h hr]; exact ⟨rfl, rfl⟩
theorem cost_add (cost : List Int) (ps : List (Int × Int)) (k : Nat) (h : k < ps.length) (hr : Cd.reck ps[k] = true) : costTo cost ps (k + 1) = costTo cost ps k ++ [.int .i64 (cost.getD ps[k].2.toNat 0)] ∧ costN cost ps (k + 1) = costN cost ps k + 1 := by
  unfold costTo costN
  rw [Cd.costList_take_add cost ps k h hr]; simp

set_option maxHeartbeats 1600000 in
set_option maxRecDepth 20000 in
theorem code_cost (A : Option Addr) (c : Nat) (ps : List (Int × Int)) (B : Option Addr) (d : Nat) (cost : List Int) (w : World) (hl : ps.length ≤ 9223372036854775807) (hI : Pairs w A ps) (hlc : cost.length ≤ 9223372036854775807) (hJ : Ints .i64 w B cost) :
    Calls Tryz.prog 46 #[.slice A ps.length c, .slice B cost.length d] w fun e w' => e = .returned (.tuple #[.int .i64 (Cd.costs ps cost).1, .int .i64 (Cd.costs ps cost).2]) ∧ Below w.heap.size w w' := by
  have HI := Lib.hid hI
  have HJ := Lib.hid hJ
  clear hI hJ
  by_cases hck : Cd.check ps = 0
  · have ⟨hlen, hall⟩ := Cd.check_zero hck
    have HA := Lib.hid hall
    have HC := Lib.hid hck
    clear hck hall
    obtain ⟨i0, hi, hz0, hz1, hz2⟩ := info_parts int_info
    go_enter Tryz.func46, Tryz.ntmps46
    go_wp2_with fail
    refine (code_check A c ps _ hl HI.out).mono ?_
    rintro e w1 ⟨rfl, h1⟩
    rw [HC.out]
    go_wp2_with fail
    go_loopw [7, 9, 19] (fun v _ i wr => ∃ k : Nat, k ≤ ps.length ∧ i = .int .i64 k ∧ wr.ownsRow w.heap.size 3 1 v (costN cost ps k) (costTo cost ps k) ∧ Below w.heap.size w wr ∧ ∀ j (hj : j < ps.length), j < k → Cd.fine cost ps[j] = true) (fun _ _ i _ => ps.length - (intOf i).toNat)
    case atStart => exact ⟨0, Nat.zero_le _, rfl, World.ownsRow_nil _ _ _ _, h1, by intro j _ hj; omega⟩
    case round =>
      clear h1
      obtain ⟨k, hk, rfl, hown, hbel, hok⟩ := hrel
      have HO := Lib.hid hok
      clear hok
      by_cases hlt : k < ps.length
      · obtain ⟨b, off, rfl, hb, hc, hd⟩ := HI.out.below hbel (Nat.le_refl _) k hlt
        have hnk := costN_le cost ps k hk
        have ⟨hr1, hr2, hr3, hr4⟩ := Cd.right_bd (Cd.all_of HA.out k hlt)
        have hb1 := hbel.alloc hbel.size (Obj.cells #[Value.int IntKind.i64 ps[k].1, Value.int IntKind.i64 ps[k].2] 44)
        cases hrk : Cd.reck ps[k]
        · have HS := Lib.hid (cost_skip cost ps k hlt hrk)
          have HF := Lib.hid (show Cd.fine cost ps[k] = true by simp [Cd.fine, hrk])
          have hx : (ps[k].1 == 1) = false ∧ (ps[k].1 == 2) = false := by simpa [Cd.reck] using hrk
          have hx1 : (ps[k].1 != 1) = true := by simpa using hx.1
          have hx2 : (ps[k].1 != 2) = true := by simpa using hx.2
          have ho1 := hown.alloc (Obj.cells #[Value.int IntKind.i64 ps[k].1, Value.int IntKind.i64 ps[k].2] 44)
          clear hrk hx hbel hown
          go_wp2_with fail
          go_roundw
          case rel => exact ⟨k + 1, by omega, by go_num, by rw [HS.out.1, HS.out.2]; exact ho1, hb1, fun j hj hj2 => by rcases Nat.lt_succ_iff_lt_or_eq.1 hj2 with h | h; exact HO.out j hj h; subst h; exact HF.out⟩
          case measure => simp [intOf]; omega
        · have HS := Lib.hid (cost_add cost ps k hlt hrk)
          have HK := Lib.hid hrk
          have hx : ps[k].1 = 1 ∨ ps[k].1 = 2 := by simpa [Cd.reck] using hrk
          clear hrk
          generalize hp : ps[k] = p at hc hd hr1 hr2 hr3 hr4 hb1 HS HK hx
          obtain ⟨kd, id⟩ := p
          have HP := Lib.hid hp
          clear hp
          dsimp only at hc hd hr1 hr2 hr3 hr4 hb1 HS HK hx
          have ho1 := hown.alloc (Obj.cells #[Value.int IntKind.i64 kd, Value.int IntKind.i64 id] 44)
          clear hown
          by_cases hin : id < (cost.length : Int)
          · obtain ⟨m, rfl⟩ := Int.eq_ofNat_of_zero_le hr3
            rw [Int.toNat_natCast] at HS
            obtain ⟨b2, off2, rfl, hb2, hc2⟩ := HJ.out.below hbel (Nat.le_refl _) m (by omega)
            have hml : m < cost.length := by omega
            have ez : cost.getD m 0 = cost[m] := by simp [hml]
            have HE := Lib.hid ez
            clear ez
            cases hgood : Safe.ok cost[m]
            · have HF := Lib.hid (Cd.costs_form HC.out (Cd.not_all hlt (show Cd.fine cost ps[k] = false by rw [HP.out]; simp [Cd.fine, HK.out, Cd.costOk, hgood, hml])))
              have HG := Lib.hid hgood
              clear hgood
              rcases hx with rfl | rfl
              all_goals
                go_wp2_with fail
                refine (safe_right _ _).mono ?_
                rintro e w2 ⟨rfl, rfl⟩
                rw [HG.out]
                go_wp2_with fail
                go_ret2
                exact ⟨by rw [HF.out]; rfl, hb1⟩
            · have HF := Lib.hid (show Cd.fine cost ps[k] = true by rw [HP.out]; simp [Cd.fine, HK.out, Cd.costOk, hgood, hml])
              have HG := Lib.hid hgood
              clear hgood
              rcases hx with rfl | rfl
              all_goals
                go_wp2_with fail
                refine (safe_right _ _).mono ?_
                rintro e w2 ⟨rfl, rfl⟩
                rw [HG.out]
                go_wp2_with (at_builtin; refine wpList_append_own _ rfl _ _ 22 rfl w.heap.size 3 i0 (.int .i64 0) 1 8 Tryz.underlying22 hi hz0 hz1 hz2 rfl (by decide) _ _ _ rfl (ho1.alloc _) ⟨wr.heap.size + 1, 0, none⟩ 1 1 [.int .i64 cost[m]] rfl rfl (one_new2 _ _ _ _) (by intro u hu; simp at hu; subst hu; rfl) (by unfold maxLen; omega) (by omega) (by have := hbel.size; simp; omega) ?_)
                intro v' w3 hown' hgrow _
                have hb3 : Below w.heap.size w w3 := (hb1.alloc (by have := hbel.size; simp; omega) _).grown hgrow (by have := hbel.size; simp; omega) (fun g hg => (ho1.lt g hg).1)
                have ho3 : w3.ownsRow w.heap.size 3 1 v' (costN cost ps (k + 1)) (costTo cost ps (k + 1)) := by
                  rw [HS.out.1, HS.out.2, HE.out]; exact hown'
                clear hown' hgrow ho1 hbel hb1
                go_wp2_with fail
                go_roundw
                case rel => exact ⟨k + 1, by omega, by go_num, ho3, hb3, fun j hj hj2 => by rcases Nat.lt_succ_iff_lt_or_eq.1 hj2 with h | h; exact HO.out j hj h; subst h; exact HF.out⟩
                case measure => simp [intOf]; omega
          · have HF := Lib.hid (Cd.costs_form HC.out (Cd.not_all hlt (show Cd.fine cost ps[k] = false by rw [HP.out]; simp [Cd.fine, HK.out, Cd.costOk]; intro h; omega)))
            rcases hx with rfl | rfl
            all_goals
              go_wp2_with fail
              go_ret2
              exact ⟨by rw [HF.out]; rfl, hb1⟩
      · obtain rfl : k = ps.length := by omega
        have HF := Lib.hid (Cd.all_get (p := Cd.fine cost) (fun j hj => HO.out j hj hj))
        have HG := Lib.hid (Cd.costList_ok HF.out)
        have hcl := costN_le cost ps ps.length (Nat.le_refl _)
        have HS1 := Lib.hid (Cd.costs_sum HC.out HF.out)
        have HS2 := Lib.hid (Cd.costs_many HC.out HF.out)
        unfold costTo costN at hown
        unfold costN at hcl
        rw [List.take_length] at hown hcl
        generalize Cd.costList cost ps = cl at hown HG hcl HS1 HS2
        obtain ⟨A', c', hv, hn, hI'⟩ := Ints.of_own hown
        subst hv
        have HI' := Lib.hid hI'
        clear hI' hown hn HO
        go_wp2_with fail
        refine (safe_add A' c' cl _ (by omega) HI'.out).mono ?_
        rintro e w2 ⟨rfl, h2⟩
        have hb2 := hbel.trans (h2.mono hbel.size)
        clear h2 hbel
        by_cases hs : Safe.sum cl ≤ Safe.top
        · rw [Safe.add_sum HG.out hs]
          have HF2 := Lib.hid (HS1.out hs)
          clear hs
          go_wp2_with fail
          go_ret2
          exact ⟨by rw [HF2.out]; rfl, hb2⟩
        · rw [Safe.add_big HG.out cl.length (by rw [List.take_length]; omega)]
          have HF2 := Lib.hid (HS2.out (by omega))
          clear hs
          go_wp2_with fail
          go_ret2
          exact ⟨by rw [HF2.out]; rfl, hb2⟩
  · have hfin := Lib.hid (Cd.costs_bad hck cost)
    have hne : (Cd.check ps != 0) = true := by simp [hck]
    clear hck
    go_enter Tryz.func46, Tryz.ntmps46
    go_wp2_with fail
    refine (code_check A c ps _ hl HI.out).mono ?_
    rintro e w1 ⟨rfl, h1⟩
    go_wp2_with fail
    go_ret2
    exact ⟨by rw [hfin.out]; rfl, h1⟩

/-- The cells of pairs, one behind the other. -/
def pairCells (ps : List (Int × Int)) : List Value := ps.flatMap fun p => [.int .i64 p.1, .int .i64 p.2]
theorem pairCells_length (ps : List (Int × Int)) : (pairCells ps).length = ps.length * 2 := by
  induction ps with
  | nil => rfl
  | cons x r ih => simp [pairCells] at ih ⊢; omega
theorem pairCells_append (a b : List (Int × Int)) : pairCells (a ++ b) = pairCells a ++ pairCells b := by simp [pairCells]
theorem pairCells_at (ps : List (Int × Int)) : ∀ (k : Nat) (h : k < ps.length), (pairCells ps)[k * 2]? = some (.int .i64 ps[k].1) ∧ (pairCells ps)[k * 2 + 1]? = some (.int .i64 ps[k].2) := by
  induction ps with
  | nil => intro k h; simp at h
  | cons x r ih =>
    intro k h
    rcases k with _ | k
    · simp [pairCells]
    · have := ih k (by simpa using h)
      have e1 : (k + 1) * 2 = k * 2 + 1 + 1 := by omega
      rw [e1]
      simpa [pairCells] using this
theorem Pairs.of_own {w : World} {base : Nat} {e : TypeId} {v : Value} {n : Nat} {ps : List (Int × Int)} (h : w.ownsRow base e 2 v n (pairCells ps)) :
    ∃ A c, v = .slice A ps.length c ∧ n = ps.length ∧ Pairs w A ps := by
  have hn : ps.length = n := by have := h.1; rw [pairCells_length] at this; omega
  subst hn
  rcases h.2 with ⟨rfl, h0⟩ | ⟨g, cap, cur, rfl, hb, hh, r1, r2, r3, r4⟩
  · have : ps = [] := List.eq_nil_of_length_eq_zero h0
    subst this
    exact ⟨none, 0, rfl, rfl, Pairs.nil⟩
  · refine ⟨_, cap, rfl, rfl, fun k hk => ?_⟩
    have ⟨e1, e2⟩ := pairCells_at ps k hk
    have c1 : w.cell? ⟨g, 0 + k * 2, none⟩ = some (.int .i64 ps[k].1) := by rw [Nat.zero_add, h.cellAt (k * 2) (by omega)]; exact e1
    have c2 : w.cell? ⟨g, 0 + k * 2 + 1, none⟩ = some (.int .i64 ps[k].2) := by rw [Nat.zero_add, h.cellAt (k * 2 + 1) (by omega)]; exact e2
    exact ⟨g, 0, rfl, World.block_lt_of_cell? _ _ c1, c1, c2⟩

def groupCells (zs : List Int) (k : Nat) : List Value := pairCells (Cd.groupTo zs k)
theorem groupCells_zero (zs : List Int) : groupCells zs 0 = [] := rfl
theorem groupCells_succ (zs : List Int) (k : Nat) : groupCells zs (k + 1) = groupCells zs k ++ [.int .i64 (zs.getD (3 * k) 0), .int .i64 (zs.getD (3 * k + 1) 0 * 256 + zs.getD (3 * k + 2) 0)] := by
  unfold groupCells
  rw [Cd.groupTo_succ, pairCells_append]; rfl


def ParsePost (zs : List Int) (w : World) (e : Ending) (w' : World) : Prop :=
  ∃ A c, e = .returned (.tuple #[.slice A (Cd.parse zs).1.length c, .int .i64 (Cd.parse zs).2]) ∧ Pairs w' A (Cd.parse zs).1 ∧ Below w.heap.size w w'

end Go.Proofs.YtnffjfjhbjeaiaaGreatDoor

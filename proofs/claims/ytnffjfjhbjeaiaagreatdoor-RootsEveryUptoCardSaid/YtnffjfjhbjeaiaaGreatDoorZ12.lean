/- Lemmas for the statements of this seat: contracts of functions and the plain laws. -/
import Derived.Deep.AppendLies
import Derived.Test.YtnffjfjhbjeaiaaGreatDoorZ11
set_option linter.unusedVariables false
/- The statements' own: a net as the document has it (ref): contract. -/
namespace Go.Proofs.YtnffjfjhbjeaiaaGreatDoor
open Go.RowKit
theorem ownsRow_base {w : World} {B B' e s n : Nat} {v : Value} {xs : List Value} (h : w.ownsRow B e s v n xs) (hB : B' ≤ B) : w.ownsRow B' e s v n xs := by
  refine ⟨h.1, ?_⟩
  rcases h.2 with h | ⟨g, cap, cur, h1, h2, h3⟩
  · exact .inl h
  · exact .inr ⟨g, cap, cur, h1, Nat.le_trans hB h2, h3⟩
abbrev RQ := NodeQ × List Value
def RQ.cells (x : RQ) : List Value := x.1.cells
def RQ.Phi (B : Nat) (x : RQ) (W : World) : Prop := W.ownsRow B 22 1 (.slice x.1.Q x.1.v.p.length x.1.q) x.1.v.p.length x.2
def RQ.Good (w : World) (x : RQ) : Prop := (Ints .i64 w x.1.S x.1.v.op.s ∧ x.1.v.op.s.length ≤ x.1.c ∧ x.1.c ≤ 9223372036854775807) ∧ (Ints .i64 w x.1.I x.1.v.ins ∧ x.1.v.ins.length ≤ x.1.d ∧ x.1.d ≤ 9223372036854775807) ∧ RowOf w x.2 x.1.v.p
/-- A row of nodes of the call's own. -/
def RefRow (t : TypeId) (B C : Nat) (w W : World) (v : Value) (ns : List NodeD) : Prop :=
  ∃ L : List RQ, L.map (fun x => x.1.v) = ns ∧ OwnRow B C W t 10 v RQ.cells (RQ.Phi B) L ∧ ∀ x ∈ L, RQ.Good w x
theorem RQ.len (x : RQ) : (RQ.cells x).length = 10 := rfl
theorem RefRow.nil (t : TypeId) (B : Nat) (w W : World) : RefRow t B W.heap.size w W (.slice none 0 0) [] := ⟨[], rfl, OwnRow.nil _ _ _ _ _ _, by simp⟩
theorem RefRow.form {t : TypeId} {B C : Nat} {w W : World} {v : Value} {ns : List NodeD} (h : RefRow t B C w W v ns) : ∃ A c, v = .slice A ns.length c ∧ ns.length ≤ c ∧ (∀ b, v.ownBlock = some b → B ≤ b ∧ b < C) := by
  obtain ⟨L, hL, hO, _⟩ := h
  obtain ⟨A, c, e, hc⟩ := hO.form
  have hl : L.length = ns.length := by rw [← hL]; simp
  rw [hl] at e hc
  exact ⟨A, c, e, hc, fun b hb => ⟨(hO.1.lt b hb).1, hO.2.1 b hb⟩⟩
theorem RefRow.fr {t : TypeId} {B C : Nat} {w W W' : World} {v : Value} {ns : List NodeD} {S : Nat → Prop} (h : RefRow t B C w W v ns) (hf : Fr S W W') (hS : ∀ b, B ≤ b → b < C → ¬ S b) : RefRow t B C w W' v ns := by
  obtain ⟨L, hL, hO, hG⟩ := h
  exact ⟨L, hL, hO.fr hf hS, hG⟩
theorem RefRow.nodes {t : TypeId} {B C : Nat} {w W : World} {v : Value} {ns : List NodeD} (h : RefRow t B C w W v ns) (hb : Below w.heap.size w W) :
    ∃ A c, v = .slice A ns.length c ∧ ns.length ≤ c ∧ c ≤ 9223372036854775807 ∧ Nodes W A ns := by
  obtain ⟨L, rfl, hO, hG⟩ := h
  rw [List.length_map]
  rcases hO.1.2 with ⟨rfl, h0⟩ | ⟨g, cap, cur, rfl, _, hh, hcap, hmax, _⟩
  · have : L = [] := List.eq_nil_of_length_eq_zero h0
    subst this
    exact ⟨none, 0, rfl, by simp, by omega, fun j hj => absurd hj (by simp)⟩
  · refine ⟨_, cap, rfl, hcap, by unfold maxLen at hmax; omega, fun j hj => ?_⟩
    rw [List.length_map] at hj
    obtain ⟨b, cap', e, _, _, _, hc⟩ := hO.at_ (fun x => RQ.len x) hj
    injection e with e _ _
    injection e with e
    injection e with e
    subst e
    obtain ⟨⟨s1, s2, s3⟩, ⟨i1, i2, i3⟩, hrow⟩ := hG L[j] (List.getElem_mem hj)
    have hphi := hO.now L[j] (List.getElem_mem hj)
    obtain ⟨AQ, cQ, eQ, _, hQ, q1, q2⟩ := hrow.shps hphi hb
    injection eQ with e1 _ e2
    rw [List.getElem_map]
    refine ⟨g, 0, L[j].1.S, L[j].1.c, L[j].1.I, L[j].1.d, L[j].1.Q, L[j].1.q, rfl, lt_of_block hh, ?_, ?_, ?_, ?_, ?_, ?_, ?_, ?_, ?_, ?_, ⟨s1.below hb (Nat.le_refl _), s2, s3⟩, ⟨i1.below hb (Nat.le_refl _), i2, i3⟩, by rw [e1]; exact hQ, by rw [e2]; exact q1, by rw [e2]; exact q2⟩
    · have := hc 0 (by omega); first | (simp [RQ.cells, NodeQ.cells]; done) | simpa [RQ.cells, NodeQ.cells] using this
    · have := hc 1 (by omega); first | (simp [RQ.cells, NodeQ.cells]; done) | simpa [RQ.cells, NodeQ.cells] using this
    · have := hc 2 (by omega); first | (simp [RQ.cells, NodeQ.cells]; done) | simpa [RQ.cells, NodeQ.cells] using this
    · have := hc 3 (by omega); first | (simp [RQ.cells, NodeQ.cells]; done) | simpa [RQ.cells, NodeQ.cells] using this
    · have := hc 4 (by omega); first | (simp [RQ.cells, NodeQ.cells]; done) | simpa [RQ.cells, NodeQ.cells] using this
    · have := hc 5 (by omega); first | (simp [RQ.cells, NodeQ.cells]; done) | simpa [RQ.cells, NodeQ.cells] using this
    · have := hc 6 (by omega); first | (simp [RQ.cells, NodeQ.cells]; done) | simpa [RQ.cells, NodeQ.cells] using this
    · have := hc 7 (by omega); first | (simp [RQ.cells, NodeQ.cells]; done) | simpa [RQ.cells, NodeQ.cells] using this
    · have := hc 8 (by omega); first | (simp [RQ.cells, NodeQ.cells]; done) | simpa [RQ.cells, NodeQ.cells] using this
    · have := hc 9 (by omega); first | (simp [RQ.cells, NodeQ.cells]; done) | simpa [RQ.cells, NodeQ.cells] using this
/-- Behind an append. -/
theorem refrow_push {t : TypeId} {B C : Nat} {w W W' : World} {v v' : Value} {L : List RQ} {x : NodeQ} {vs : List Value} {C2 : Nat} (hO : OwnRow B C W t 10 v RQ.cells (RQ.Phi B) L) (hGL : ∀ x ∈ L, RQ.Good w x) (hC : C ≤ C2) (hB : B ≤ C2)
    (hown : W'.ownsRow B t 10 v' (L.length + 1) (L.flatMap RQ.cells ++ x.cells)) (hg : W.grownBy W' v.ownBlock) (hat : v'.ownBlock = v.ownBlock ∨ v'.ownBlock = some W.heap.size)
    (hx : W.ownsRow C2 22 1 (.slice x.Q x.v.p.length x.q) x.v.p.length vs) (hG : RQ.Good w (x, vs)) : RefRow t B W'.heap.size w W' v' (L.map (fun x => x.1.v) ++ [x.v]) := by
  refine ⟨L ++ [(x, vs)], by simp, ?_, fun y hy => ?_⟩
  · refine hO.push (x := ((x, vs) : RQ)) hown hg hat (F := fun b => (Value.slice x.Q x.v.p.length x.q).ownBlock = some b) (fun W2 h2 => ?_) (fun b hb => ?_)
    · exact ownsRow_heap (ownsRow_base hx hB) h2
    · obtain ⟨h1, h2⟩ := hx.lt b hb
      exact ⟨by omega, h2, fun e => by have := hO.2.1 b e.symm; omega⟩
  · rcases List.mem_append.1 hy with hy | hy
    · exact hGL y hy
    · simp at hy; subst hy; exact hG
def RefNetP (n : NetD) (A : Option Addr) (c : Nat) (w : World) (e : Ending) (w' : World) : Prop :=
  ∃ N' d', e = .returned (.agg #[.slice A n.inn.length c, .slice N' n.nodes.length d']) ∧ NetR w' A N' n ∧ n.nodes.length ≤ d' ∧ d' ≤ 9223372036854775807 ∧ Below w.heap.size w w'
def RInv (tN tR tE : TypeId) (n : NetD) (A N : Option Addr) (c d : Nat) (w0 w : World) (k : Nat) (wx : World) : Prop :=
  Blk wx w.heap.size tN #[.slice A n.inn.length c, .slice N n.nodes.length d] ∧ Blk wx (w.heap.size + 1) tR #[.slice none 0 0, .slice none 0 0] ∧ Below w.heap.size w wx ∧
    ∃ v, Blk wx (w.heap.size + 2) tR #[.slice A n.inn.length c, v] ∧ RefRow tE (w.heap.size + 3) wx.heap.size w0 wx v (n.nodes.take k)
/-- The same, with where its nodes lie. -/
def RefNetS (t : TypeId) (n : NetD) (A : Option Addr) (c : Nat) (w0 w : World) (e : Ending) (w' : World) : Prop :=
  ∃ N' d' C, e = .returned (.agg #[.slice A n.inn.length c, .slice N' n.nodes.length d']) ∧ n.nodes.length ≤ d' ∧ d' ≤ 9223372036854775807 ∧ Below w.heap.size w w' ∧ RefRow t (w.heap.size + 3) C w0 w' (.slice N' n.nodes.length d') n.nodes
theorem RefRow.net {t : TypeId} {B C : Nat} {w W : World} {A N N' : Option Addr} {d' : Nat} {n : NetD} (h : RefRow t B C w W (.slice N' n.nodes.length d') n.nodes) (hb : Later w W) (hR : NetR w A N n) : NetR W A N' n := by
  obtain ⟨N2, d2, e2, -, -, hNodes⟩ := h.nodes hb
  injection e2 with e3 _ _
  subst e3
  exact ⟨hR.1.below hb (Nat.le_refl _), hNodes⟩
theorem RefNetS.netp {t : TypeId} {n : NetD} {A N : Option Addr} {c : Nat} {w w' : World} {e : Ending} (h : RefNetS t n A c w w e w') (hR : NetR w A N n) : RefNetP n A c w e w' := by
  obtain ⟨N', d', C, rfl, h1, h2, hb, hr⟩ := h
  exact ⟨N', d', rfl, hr.net hb hR, h1, h2, hb⟩
theorem refnode_info : (Tryz.prog.info? 82).map (fun i => (i.zero, i.size, i.bytes)) = some (some (.agg #[.int .i64 0, .int .i64 0, .int .i64 0, .int .i64 0, .int .i64 0, .int .i64 0, .int .i64 0, .slice none 0 0, .slice none 0 0, .slice none 0 0]), 10, 128) := by kernel_rfl
set_option maxRecDepth 20000 in
set_option maxHeartbeats 16000000 in
theorem ref_21s (A N : Option Addr) (c d : Nat) (n : NetD) (w0 w : World) (hok : n.ok) (hl0 : Later w0 w) (hR : NetR w0 A N n) :
    Calls Tryz.prog 10 #[.agg #[.slice A n.inn.length c, .slice N n.nodes.length d]] w (RefNetS 82 n A c w0 w) := by
  obtain ⟨i1, hj, hy0, hy1, hy2⟩ := info_parts shpsT_info
  obtain ⟨i2, hn, hn0, hn1, hn2⟩ := info_parts refnode_info
  have hnl := hok.2.1
  have hbx := below3 w (.cells #[.slice A n.inn.length c, .slice N n.nodes.length d] 26) (.cells #[.slice none 0 0, .slice none 0 0] 39) (.cells #[.slice A n.inn.length c, .slice none 0 0] 39)
  have hk1 := ((Blk.new w 26 #[.slice A n.inn.length c, .slice N n.nodes.length d]).alloc (.cells #[.slice none 0 0, .slice none 0 0] 39)).alloc (.cells #[.slice A n.inn.length c, .slice none 0 0] 39)
  have hk2 := (Blk.new (w.alloc (.cells #[.slice A n.inn.length c, .slice N n.nodes.length d] 26)) 39 #[.slice none 0 0, .slice none 0 0]).alloc (.cells #[.slice A n.inn.length c, .slice none 0 0] 39)
  have hk3 := Blk.new ((w.alloc (.cells #[.slice A n.inn.length c, .slice N n.nodes.length d] 26)).alloc (.cells #[.slice none 0 0, .slice none 0 0] 39)) 39 #[.slice A n.inn.length c, .slice none 0 0]
  rw [World.size_alloc] at hk2
  rw [World.size_alloc, World.size_alloc] at hk3
  have Hok := Lib.hid hok
  have HR := Lib.hid hR
  have Hk1 := Lib.hid hk1
  have Hk2 := Lib.hid hk2
  have Hk3 := Lib.hid hk3
  clear hok hR hk1 hk2 hk3
  go_enter Tryz.func10, Tryz.ntmps10
  go_wp2_with fail
  generalize ((w.alloc (.cells #[.slice A n.inn.length c, .slice N n.nodes.length d] 26)).alloc (.cells #[.slice none 0 0, .slice none 0 0] 39)).alloc (.cells #[.slice A n.inn.length c, .slice none 0 0] 39) = w1 at *
  have HI1 := Lib.hid (show RInv 26 39 82 n A N c d w0 w 0 w1 from ⟨Hk1.out, Hk2.out, hbx, _, Hk3.out, by rw [List.take_zero]; exact RefRow.nil _ _ _ _⟩)
  clear Hk1 Hk2 Hk3 hbx
  go_loopw [15] (fun i wx => ∃ k : Nat, k ≤ n.nodes.length ∧ i = .int .i64 (k : Int) ∧ RInv 26 39 82 n A N c d w0 w k wx) (fun i _ => n.nodes.length - (intOf i).toNat)
  case atStart => exact ⟨0, Nat.zero_le _, rfl, HI1.out⟩
  case round =>
    obtain ⟨k, hk, rfl, hb1, hb2, hbw, v0, hb3, hrow⟩ := hrel
    clear HI1
    have hl3 := hb3.lt
    by_cases hlt : k < n.nodes.length
    · obtain ⟨b, off, S, sc, J, ic, Q, qc, rfl, hNA, hs1, hI1, hq1⟩ := HR.out.2.at_ hlt
      have hnok := Hok.out.2.2 _ (List.getElem_mem hlt)
      have htk := List.take_succ_eq_append_getElem hlt
      have hpl := hnok.2.2.2.1
      have hSi := hNA.2.1
      have hJi := hNA.2.2.1
      have hQi := hNA.2.2.2
      generalize n.nodes[k] = v at *
      obtain ⟨⟨y0, y1, y2, y3, y4, y5, y6, y7, y8, y9⟩, -⟩ := hNA.below (hl0.call hbw)
      have hkn := (Blk.new wr 67 #[.int .i64 v.op.kind, .int .i64 v.op.k, .int .i64 v.op.width, .int .i64 v.op.step, .int .i64 v.op.side, .int .i64 v.op.frm, .int .i64 v.op.to, .slice S v.op.s.length sc, .slice J v.ins.length ic, .slice Q v.p.length qc]).alloc (.cells #[.int .i64 v.op.kind, .int .i64 v.op.k, .int .i64 v.op.width, .int .i64 v.op.step, .int .i64 v.op.side, .int .i64 v.op.frm, .int .i64 v.op.to, .slice S v.op.s.length sc, .slice J v.ins.length ic, .slice none 0 0] 82)
      have hky := Blk.new (wr.alloc (.cells #[.int .i64 v.op.kind, .int .i64 v.op.k, .int .i64 v.op.width, .int .i64 v.op.step, .int .i64 v.op.side, .int .i64 v.op.frm, .int .i64 v.op.to, .slice S v.op.s.length sc, .slice J v.ins.length ic, .slice Q v.p.length qc] 67)) 82 #[.int .i64 v.op.kind, .int .i64 v.op.k, .int .i64 v.op.width, .int .i64 v.op.step, .int .i64 v.op.side, .int .i64 v.op.frm, .int .i64 v.op.to, .slice S v.op.s.length sc, .slice J v.ins.length ic, .slice none 0 0]
      rw [World.size_alloc] at hky
      have hbn : Below wr.heap.size wr ((wr.alloc (.cells #[.int .i64 v.op.kind, .int .i64 v.op.k, .int .i64 v.op.width, .int .i64 v.op.step, .int .i64 v.op.side, .int .i64 v.op.frm, .int .i64 v.op.to, .slice S v.op.s.length sc, .slice J v.ins.length ic, .slice Q v.p.length qc] 67)).alloc (.cells #[.int .i64 v.op.kind, .int .i64 v.op.k, .int .i64 v.op.width, .int .i64 v.op.step, .int .i64 v.op.side, .int .i64 v.op.frm, .int .i64 v.op.to, .slice S v.op.s.length sc, .slice J v.ins.length ic, .slice none 0 0] 82)) := below2 wr _ _
      have Hb1 := Lib.hid hb1
      have Hb2 := Lib.hid hb2
      have Hb3 := Lib.hid hb3
      have Hrow := Lib.hid hrow
      have HNA := Lib.hid hNA
      have Hnok := Lib.hid hnok
      have Htk := Lib.hid htk
      have HSi := Lib.hid hSi
      have HJi := Lib.hid hJi
      have HQi := Lib.hid hQi
      have Hkn := Lib.hid hkn
      have Hky := Lib.hid hky
      clear hb1 hb2 hb3 hrow hNA hnok htk hSi hJi hQi hkn hky
      go_wp2_with fail
      clear y0 y1 y2 y3 y4 y5 y6 y7 y8 y9
      generalize ((wr.alloc (.cells #[.int .i64 v.op.kind, .int .i64 v.op.k, .int .i64 v.op.width, .int .i64 v.op.step, .int .i64 v.op.side, .int .i64 v.op.frm, .int .i64 v.op.to, .slice S v.op.s.length sc, .slice J v.ins.length ic, .slice Q v.p.length qc] 67)).alloc (.cells #[.int .i64 v.op.kind, .int .i64 v.op.k, .int .i64 v.op.width, .int .i64 v.op.step, .int .i64 v.op.side, .int .i64 v.op.frm, .int .i64 v.op.to, .slice S v.op.s.length sc, .slice J v.ins.length ic, .slice none 0 0] 82)) = w2 at *
      obtain ⟨wo, rfl⟩ : ∃ wo, wo = wr := ⟨wr, rfl⟩
      go_loopw [50] (fun i wx => ∃ (m : Nat) (vs : List Value) (u : Value), m ≤ v.p.length ∧ i = .int .i64 (m : Int) ∧ Blk wx wo.heap.size 67 #[.int .i64 v.op.kind, .int .i64 v.op.k, .int .i64 v.op.width, .int .i64 v.op.step, .int .i64 v.op.side, .int .i64 v.op.frm, .int .i64 v.op.to, .slice S v.op.s.length sc, .slice J v.ins.length ic, .slice Q v.p.length qc] ∧ Blk wx (wo.heap.size + 1) 82 #[.int .i64 v.op.kind, .int .i64 v.op.k, .int .i64 v.op.width, .int .i64 v.op.step, .int .i64 v.op.side, .int .i64 v.op.frm, .int .i64 v.op.to, .slice S v.op.s.length sc, .slice J v.ins.length ic, u] ∧ wx.ownsRow (wo.heap.size + 2) 22 1 u m vs ∧ RowOf w0 vs (v.p.take m) ∧ Below wo.heap.size wo wx ∧ wo.heap.size + 2 ≤ wx.heap.size) (fun i _ => v.p.length - (intOf i).toNat)
      case atStart => exact ⟨0, [], _, Nat.zero_le _, rfl, Hkn.out, Hky.out, World.ownsRow_nil _ _ _ _, RowOf.nil _, hbn, by have := Hky.out.lt; omega⟩
      case round =>
        obtain ⟨m, vs, u, hm, rfl, hkn, hky, hown, hro, hbx, hsz⟩ := hrel
        clear Hkn Hky
        obtain ⟨A9, c9, rfl⟩ := own_form hown
        by_cases hlm : m < v.p.length
        · have hbwx := hbw.trans (hbx.mono hbw.size)
          obtain ⟨b5, o5, Ss, cs, rfl, -, hcs, hIs, hs5, hs6⟩ := HQi.out m hlm
          have hcs2 := cell_below (hl0.call hbwx) hcs
          have hpush := hro.push hIs hs5 hs6
          rw [← List.take_succ_eq_append_getElem hlm] at hpush
          have y9 : wr.cell? ⟨wo.heap.size + 1, 9, none⟩ = some (.slice A9 m c9) := by rw [hky.cell]; rfl
          have f9 := hky.frozen 9
          generalize v.p[m] = t at *
          have ho := ownsRow_new hown (.cells #[.slice Ss t.length cs] 22)
          have hbx2 := hbx.alloc hbx.size (.cells #[.slice Ss t.length cs] 22)
          have hkn2 := hkn.alloc (.cells #[.slice Ss t.length cs] 22)
          have hky2 := hky.alloc (.cells #[.slice Ss t.length cs] 22)
          have hlo : ∀ b, (Value.slice A9 m c9).ownBlock = some b → wo.heap.size + 2 ≤ b := fun b hb => (hown.lt b hb).1
          have Hkn := Lib.hid hkn
          have Hky := Lib.hid hky
          have Hro := Lib.hid hro
          have Hpush := Lib.hid hpush
          have Hkn2 := Lib.hid hkn2
          have Hky2 := Lib.hid hky2
          have Hlo := Lib.hid hlo
          have HIs := Lib.hid hIs
          clear hkn hky hro hpush hkn2 hky2 hlo hIs
          clear hown hcs
          go_wp2_with (at_builtin; refine wpList_append_own_at _ rfl _ _ 34 rfl (wo.heap.size + 2) 22 i1 (.slice none 0 0) 1 24 Tryz.underlying34 hj hy0 hy1 hy2 rfl (by decide) _ _ _ rfl ho ⟨wr.heap.size, 0, none⟩ 1 1 [.slice Ss t.length cs] rfl rfl ?c1 (by intro u hu; simp at hu; subst hu; rfl) (by unfold maxLen; omega) (by omega) ?c2 ?_)
          first | (case c1 => exact one_new wr _ _) | skip
          case c2 => first | (simp; omega) | omega
          intro v' w3 hown' hgrow _ hat
          obtain ⟨A8, c8, rfl⟩ := own_form hown'
          have hb3 : Below wo.heap.size wo w3 := hbx2.grown hgrow hbx2.size (fun b hb => by have := Hlo.out b hb; omega)
          have hs3 := hgrow.size
          simp at hs3
          have hkn3 := Hkn2.out.grown hgrow (fun e => by have := Hlo.out _ e.symm; omega)
          have hky3 := Hky2.out.grown hgrow (fun e => by have := Hlo.out _ e.symm; omega)
          have y9' : w3.cell? ⟨wo.heap.size + 1, 9, none⟩ = some (.slice A9 m c9) := by rw [hky3.cell]; rfl
          have f9' := hky3.frozen 9
          have HK := Lib.hid (hkn3.far (p := ⟨wo.heap.size + 1, 9, none⟩) (by simp) (.slice A8 (m + 1) c8))
          have hky4 := hky3.set_ 9 (.slice A8 (m + 1) c8)
          have HY := Lib.hid (show Blk (w3.setCell ⟨wo.heap.size + 1, 9, none⟩ (.slice A8 (m + 1) c8)) (wo.heap.size + 1) 82 #[.int .i64 v.op.kind, .int .i64 v.op.k, .int .i64 v.op.width, .int .i64 v.op.step, .int .i64 v.op.side, .int .i64 v.op.frm, .int .i64 v.op.to, .slice S v.op.s.length sc, .slice J v.ins.length ic, .slice A8 (m + 1) c8] from hky4)
          have hb4 := hb3.setCell (p := ⟨wo.heap.size + 1, 9, none⟩) (by simp) (.slice A8 (m + 1) c8)
          have HO3 := Lib.hid (ownsRow_heap (w' := w3.setCell ⟨wo.heap.size + 1, 9, none⟩ (.slice A8 (m + 1) c8)) hown' (fun g hg => Below.heap_setCell w3 _ _ g (by have := (hown'.lt g hg).1; simp; omega)))
          clear hown' hgrow hat ho hbx2 hkn3 hky3 hky4 y9 f9
          go_wp2_with fail
          go_roundw
          case rel => exact ⟨m + 1, _, _, by omega, by go_num, HK.out, HY.out, HO3.out, Hpush.out, hb4, by simp; omega⟩
          case measure => simp [intOf]; omega
        · obtain rfl : m = v.p.length := by omega
          rw [List.take_length] at hro
          have hbwx := hbw.trans (hbx.mono hbw.size)
          obtain ⟨y0, y1, y2, y3, y4, y5, y6, y7, y8, y9⟩ : wr.cell? ⟨wo.heap.size + 1, 0, none⟩ = some (.int .i64 v.op.kind) ∧ wr.cell? ⟨wo.heap.size + 1, 1, none⟩ = some (.int .i64 v.op.k) ∧ wr.cell? ⟨wo.heap.size + 1, 2, none⟩ = some (.int .i64 v.op.width) ∧ wr.cell? ⟨wo.heap.size + 1, 3, none⟩ = some (.int .i64 v.op.step) ∧ wr.cell? ⟨wo.heap.size + 1, 4, none⟩ = some (.int .i64 v.op.side) ∧ wr.cell? ⟨wo.heap.size + 1, 5, none⟩ = some (.int .i64 v.op.frm) ∧ wr.cell? ⟨wo.heap.size + 1, 6, none⟩ = some (.int .i64 v.op.to) ∧ wr.cell? ⟨wo.heap.size + 1, 7, none⟩ = some (.slice S v.op.s.length sc) ∧ wr.cell? ⟨wo.heap.size + 1, 8, none⟩ = some (.slice J v.ins.length ic) ∧ wr.cell? ⟨wo.heap.size + 1, 9, none⟩ = some (.slice A9 v.p.length c9) := ⟨hky.cell 0, hky.cell 1, hky.cell 2, hky.cell 3, hky.cell 4, hky.cell 5, hky.cell 6, hky.cell 7, hky.cell 8, hky.cell 9⟩
          obtain ⟨L, hL, hOL, hGL⟩ := Hrow.out
          obtain ⟨A0, c0, rfl, h00⟩ := hOL.form
          have hkl : L.length = k := by have := congrArg List.length hL; simp at this; omega
          have hb3x := Hb3.out.below hbx (by omega)
          have hb1x := Hb1.out.below hbx (by have := Hb1.out.lt; omega)
          have hb2x := Hb2.out.below hbx (by have := Hb2.out.lt; omega)
          rw [hkl] at h00
          have hfrx : Fr (fun b => wo.heap.size ≤ b) wo wr := Fr.of_below hbx (fun b hb hS => by omega)
          have hOx := (hOL.fr hfrx (fun b h1 h2 h3 => by omega)).fr ((Fr.refl (fun _ => False) wr).alloc (.cells #[.int .i64 v.op.kind, .int .i64 v.op.k, .int .i64 v.op.width, .int .i64 v.op.step, .int .i64 v.op.side, .int .i64 v.op.frm, .int .i64 v.op.to, .slice S v.op.s.length sc, .slice J v.ins.length ic, .slice A9 v.p.length c9] 82)) (fun b h1 h2 h3 => h3)
          have hownx := ownsRow_new hown (.cells #[.int .i64 v.op.kind, .int .i64 v.op.k, .int .i64 v.op.width, .int .i64 v.op.step, .int .i64 v.op.side, .int .i64 v.op.frm, .int .i64 v.op.to, .slice S v.op.s.length sc, .slice J v.ins.length ic, .slice A9 v.p.length c9] 82)
          have hb3y := hb3x.alloc (.cells #[.int .i64 v.op.kind, .int .i64 v.op.k, .int .i64 v.op.width, .int .i64 v.op.step, .int .i64 v.op.side, .int .i64 v.op.frm, .int .i64 v.op.to, .slice S v.op.s.length sc, .slice J v.ins.length ic, .slice A9 v.p.length c9] 82)
          have hb1y := hb1x.alloc (.cells #[.int .i64 v.op.kind, .int .i64 v.op.k, .int .i64 v.op.width, .int .i64 v.op.step, .int .i64 v.op.side, .int .i64 v.op.frm, .int .i64 v.op.to, .slice S v.op.s.length sc, .slice J v.ins.length ic, .slice A9 v.p.length c9] 82)
          have hb2y := hb2x.alloc (.cells #[.int .i64 v.op.kind, .int .i64 v.op.k, .int .i64 v.op.width, .int .i64 v.op.step, .int .i64 v.op.side, .int .i64 v.op.frm, .int .i64 v.op.to, .slice S v.op.s.length sc, .slice J v.ins.length ic, .slice A9 v.p.length c9] 82)
          have hbwy := hbwx.alloc hbwx.size (.cells #[.int .i64 v.op.kind, .int .i64 v.op.k, .int .i64 v.op.width, .int .i64 v.op.step, .int .i64 v.op.side, .int .i64 v.op.frm, .int .i64 v.op.to, .slice S v.op.s.length sc, .slice J v.ins.length ic, .slice A9 v.p.length c9] 82)
          have hd6 := Blk.new wr 82 #[.int .i64 v.op.kind, .int .i64 v.op.k, .int .i64 v.op.width, .int .i64 v.op.step, .int .i64 v.op.side, .int .i64 v.op.frm, .int .i64 v.op.to, .slice S v.op.s.length sc, .slice J v.ins.length ic, .slice A9 v.p.length c9]
          have hlo : ∀ b, (Value.slice A0 L.length c0).ownBlock = some b → w.heap.size + 3 ≤ b := fun b hb => (hOL.1.lt b hb).1
          rw [hkl] at hlo
          have z1 : wr.cell? ⟨w.heap.size + 2, 1, none⟩ = some (.slice A0 k c0) := by rw [hb3x.cell, hkl]; rfl
          have hO1 := hOx.1
          rw [hkl] at hO1
          have Hkn := Lib.hid hkn
          have Hky := Lib.hid hky
          have Hown := Lib.hid hown
          have Hro := Lib.hid hro
          have Hb3x := Lib.hid hb3x
          have Hb1x := Lib.hid hb1x
          have Hb2x := Lib.hid hb2x
          have HOx := Lib.hid hOx
          have Hownx := Lib.hid hownx
          have Hb3y := Lib.hid hb3y
          have Hb1y := Lib.hid hb1y
          have Hb2y := Lib.hid hb2y
          have Hd6 := Lib.hid hd6
          have Hlo := Lib.hid hlo
          have HL := Lib.hid hL
          have HGL := Lib.hid hGL
          have HOL := Lib.hid hOL
          have Hkl := Lib.hid hkl
          have HO1 := Lib.hid hO1
          clear hkn hky hown hro hb3x hb1x hb2x hOx hownx hb3y hb1y hb2y hd6 hlo hL hGL hOL hkl hO1
          clear Hrow Hb1 Hb2 Hb3 hfrx
          go_wp2_with (at_builtin; refine wpList_append_own_at _ rfl _ _ 37 rfl (w.heap.size + 3) 82 i2 (.agg #[.int .i64 0, .int .i64 0, .int .i64 0, .int .i64 0, .int .i64 0, .int .i64 0, .int .i64 0, .slice none 0 0, .slice none 0 0, .slice none 0 0]) 10 128 Tryz.underlying37 hn hn0 hn1 hn2 rfl (by decide) _ k (L.flatMap RQ.cells) rfl HO1.out ⟨wr.heap.size, 0, none⟩ 1 1 [.int .i64 v.op.kind, .int .i64 v.op.k, .int .i64 v.op.width, .int .i64 v.op.step, .int .i64 v.op.side, .int .i64 v.op.frm, .int .i64 v.op.to, .slice S v.op.s.length sc, .slice J v.ins.length ic, .slice A9 v.p.length c9] rfl rfl ?c1 ?c2 ?c3 ?c4 ?c5 ?_)
          case c1 => exact World.news_of_block (cs := #[.int .i64 v.op.kind, .int .i64 v.op.k, .int .i64 v.op.width, .int .i64 v.op.step, .int .i64 v.op.side, .int .i64 v.op.frm, .int .i64 v.op.to, .slice S v.op.s.length sc, .slice J v.ins.length ic, .slice A9 v.p.length c9]) Hd6.out
          case c2 => intro u hu; simp at hu; rcases hu with rfl | rfl | rfl | rfl | rfl | rfl | rfl | rfl | rfl | rfl <;> rfl
          case c3 => unfold maxLen; omega
          case c4 => omega
          case c5 => simp; omega
          intro v7 w7 hown7 hg7 _ hat7
          obtain ⟨A7, c7, rfl⟩ := own_form hown7
          have hsa : wr.heap.size + 1 = (wr.alloc (.cells #[.int .i64 v.op.kind, .int .i64 v.op.k, .int .i64 v.op.width, .int .i64 v.op.step, .int .i64 v.op.side, .int .i64 v.op.frm, .int .i64 v.op.to, .slice S v.op.s.length sc, .slice J v.ins.length ic, .slice A9 v.p.length c9] 82)).heap.size := by simp
          rw [hsa] at hat7
          clear hsa
          have hkl := Hkl.out
          generalize (wr.alloc (.cells #[.int .i64 v.op.kind, .int .i64 v.op.k, .int .i64 v.op.width, .int .i64 v.op.step, .int .i64 v.op.side, .int .i64 v.op.frm, .int .i64 v.op.to, .slice S v.op.s.length sc, .slice J v.ins.length ic, .slice A9 v.p.length c9] 82)) = w6 at *
          have hg8 := hg7
          rw [← hkl] at hown7 hg8 hat7
          have hpush := refrow_push (x := (⟨v, S, sc, J, ic, A9, c9⟩ : NodeQ)) (vs := vs) HOx.out HGL.out (C2 := wo.heap.size + 2) (by omega) (by omega) hown7 hg8 hat7 Hownx.out ⟨⟨HSi.out, hs1⟩, ⟨HJi.out, hI1⟩, Hro.out⟩
          rw [HL.out] at hpush
          have hpush : RefRow 82 (w.heap.size + 3) w7.heap.size w0 w7 (.slice A7 (L.length + 1) c7) (n.nodes.take (k + 1)) := by rw [Htk.out]; exact hpush
          rw [hkl] at hpush
          have hb3z := Hb3y.out.grown hg7 (fun e => by have := Hlo.out _ e.symm; omega)
          have hb1z := Hb1y.out.grown hg7 (fun e => by have := Hlo.out _ e.symm; omega)
          have hb2z := Hb2y.out.grown hg7 (fun e => by have := Hlo.out _ e.symm; omega)
          rw [hkl] at hb3z
          have hbwz : Below w.heap.size w w7 := hbwy.grown hg7 hbwy.size (fun b hb => by have := Hlo.out b hb; omega)
          have z1' : w7.cell? ⟨w.heap.size + 2, 1, none⟩ = some (.slice A0 k c0) := by rw [hb3z.cell]; rfl
          have f1' := hb3z.frozen 1
          have hfs : Fr (fun b => b = w.heap.size + 2) w7 (w7.setCell ⟨w.heap.size + 2, 1, none⟩ (.slice A7 (k + 1) c7)) := (Fr.refl (fun b => b = w.heap.size + 2) w7).setCell (p := ⟨w.heap.size + 2, 1, none⟩) (fun _ => rfl) (.slice A7 (k + 1) c7)
          have HP := Lib.hid (hpush.fr hfs (fun b h1 h2 h3 => by omega))
          have H1 := Lib.hid (hfs.blk hb1z (by omega))
          have H2 := Lib.hid (hfs.blk hb2z (by omega))
          have h3 := hb3z.set_ 1 (.slice A7 (k + 1) c7)
          have H3 := Lib.hid (show Blk (w7.setCell ⟨w.heap.size + 2, 1, none⟩ (.slice A7 (k + 1) c7)) (w.heap.size + 2) 39 #[.slice A n.inn.length c, .slice A7 (k + 1) c7] from h3)
          have H4 := Lib.hid (hbwz.setCell (p := ⟨w.heap.size + 2, 1, none⟩) (by simp) (.slice A7 (k + 1) c7))
          clear hown7 hg7 hg8 hat7 hpush hb3z hb1z hb2z hbwz hfs h3 hkl hbwy hbwx
          go_wp2_with fail
          go_roundw
          case rel => exact ⟨k + 1, by omega, by go_num, H1.out, H2.out, H4.out, _, H3.out, by simpa using HP.out⟩
          case measure => simp [intOf]; omega
    · obtain rfl : k = n.nodes.length := by omega
      rw [List.take_length] at hrow
      obtain ⟨N', d', rfl, hd1, hd2, -⟩ := hrow.nodes (hl0.call hbw)
      have hfr : Fr (fun b => b = w.heap.size + 1) wr ((wr.setCell ⟨w.heap.size + 1, 0, none⟩ (.slice A n.inn.length c)).setCell ⟨w.heap.size + 1, 1, none⟩ (.slice N' n.nodes.length d')) := ((Fr.refl (fun b => b = w.heap.size + 1) wr).setCell (p := ⟨w.heap.size + 1, 0, none⟩) (fun _ => rfl) _).setCell (p := ⟨w.heap.size + 1, 1, none⟩) (fun _ => rfl) _
      have hbw2 : Below w.heap.size w ((wr.setCell ⟨w.heap.size + 1, 0, none⟩ (.slice A n.inn.length c)).setCell ⟨w.heap.size + 1, 1, none⟩ (.slice N' n.nodes.length d')) := (hbw.setCell (p := ⟨w.heap.size + 1, 0, none⟩) (by simp) _).setCell (p := ⟨w.heap.size + 1, 1, none⟩) (by simp) _
      have HRw := Lib.hid (hrow.fr hfr (fun b h1 h2 h3 => by omega))
      have z0 : wr.cell? ⟨w.heap.size + 2, 0, none⟩ = some (.slice A n.inn.length c) := by rw [hb3.cell]; rfl
      have z1 : wr.cell? ⟨w.heap.size + 2, 1, none⟩ = some (.slice N' n.nodes.length d') := by rw [hb3.cell]; rfl
      have r0 : wr.cell? ⟨w.heap.size + 1, 0, none⟩ = some (.slice none 0 0) := by rw [hb2.cell]; rfl
      have r1 : wr.cell? ⟨w.heap.size + 1, 1, none⟩ = some (.slice none 0 0) := by rw [hb2.cell]; rfl
      have f0 := hb2.frozen 0
      have f1 := hb2.frozen 1
      clear hfr
      have Hb1 := Lib.hid hb1
      have Hb2 := Lib.hid hb2
      have Hb3 := Lib.hid hb3
      have Hrow := Lib.hid hrow
      clear hb1 hb2 hb3 hrow
      go_wp2_with fail
      exact bodyPost_ret (v := .agg #[.slice A n.inn.length c, .slice N' n.nodes.length d']) (by simp [results, Tryz.results10, go_sem, r0, r1]) rfl ⟨N', d', _, rfl, hd1, hd2, hbw2, HRw.out⟩
theorem ref_21 (A N : Option Addr) (c d : Nat) (n : NetD) (w : World) (hok : n.ok) (hR : NetR w A N n) :
    Calls Tryz.prog 10 #[.agg #[.slice A n.inn.length c, .slice N n.nodes.length d]] w (RefNetP n A c w) :=
  (ref_21s A N c d n w w hok (Later.refl _) hR).mono fun _ _ h => h.netp hR
end Go.Proofs.YtnffjfjhbjeaiaaGreatDoor

/- Lemmas for the statements of this seat: contracts of functions and the plain laws. -/
import Derived.Deep.AppendLies
import Derived.Deep.RegionHeld3
import Derived.Test.YtnffjfjhbjeaiaaGreatDoorW11
set_option linter.unusedVariables false
/- The statements' own: a net as the document has it (ref): contract. -/
namespace Go.Proofs.YtnffjfjhbjeaiaaGreatDoor
open Go.RowKit
theorem ownsRow_base {w : World} {B B' e s n : Nat} {v : Value} {xs : List Value} (h : w.ownsRow B e s v n xs) (hB : B' ≤ B) : w.ownsRow B' e s v n xs := by
  refine ⟨h.1, ?_⟩
  rcases h.2 with h | ⟨g, cap, cur, h1, h2, h3⟩
  · exact .inl h
  · exact .inr ⟨g, cap, cur, h1, Nat.le_trans hB h2, h3⟩
abbrev RQ := NodeQ × List Value
def RQ.cells (x : RQ) : List Value := x.1.cells
def RQ.Phi (B : Nat) (x : RQ) (W : World) : Prop := W.ownsRow B 22 1 (.slice x.1.Q x.1.v.p.length x.1.q) x.1.v.p.length x.2
def RQ.Good (w : World) (x : RQ) : Prop := (Ints .i64 w x.1.S x.1.v.op.s ∧ x.1.v.op.s.length ≤ x.1.c ∧ x.1.c ≤ 9223372036854775807) ∧ (Ints .i64 w x.1.I x.1.v.ins ∧ x.1.v.ins.length ≤ x.1.d ∧ x.1.d ≤ 9223372036854775807) ∧ RowOf w x.2 x.1.v.p
/-- A row of nodes of the call's own. -/
def RefRow (t : TypeId) (B C : Nat) (w W : World) (v : Value) (ns : List NodeD) : Prop :=
  ∃ L : List RQ, L.map (fun x => x.1.v) = ns ∧ OwnRow B C W t 10 v RQ.cells (RQ.Phi B) L ∧ ∀ x ∈ L, RQ.Good w x
theorem RQ.len (x : RQ) : (RQ.cells x).length = 10 := rfl
theorem RefRow.nil (t : TypeId) (B : Nat) (w W : World) : RefRow t B W.heap.size w W (.slice none 0 0) [] := ⟨[], rfl, OwnRow.nil _ _ _ _ _ _, by simp⟩
theorem RefRow.form {t : TypeId} {B C : Nat} {w W : World} {v : Value} {ns : List NodeD} (h : RefRow t B C w W v ns) : ∃ A c, v = .slice A ns.length c ∧ ns.length ≤ c ∧ (∀ b, v.ownBlock = some b → B ≤ b ∧ b < C) := by
  obtain ⟨L, hL, hO, _⟩ := h
  obtain ⟨A, c, e, hc⟩ := hO.form
  have hl : L.length = ns.length := by rw [← hL]; simp
  rw [hl] at e hc
  exact ⟨A, c, e, hc, fun b hb => ⟨(hO.1.lt b hb).1, hO.2.1 b hb⟩⟩
theorem RefRow.fr {t : TypeId} {B C : Nat} {w W W' : World} {v : Value} {ns : List NodeD} {S : Nat → Prop} (h : RefRow t B C w W v ns) (hf : Fr S W W') (hS : ∀ b, B ≤ b → b < C → ¬ S b) : RefRow t B C w W' v ns := by
  obtain ⟨L, hL, hO, hG⟩ := h
  exact ⟨L, hL, hO.fr hf hS, hG⟩
theorem RefRow.nodes {t : TypeId} {B C : Nat} {w W : World} {v : Value} {ns : List NodeD} (h : RefRow t B C w W v ns) (hb : Below w.heap.size w W) :
    ∃ A c, v = .slice A ns.length c ∧ ns.length ≤ c ∧ c ≤ 9223372036854775807 ∧ Nodes W A ns := by
  obtain ⟨L, rfl, hO, hG⟩ := h
  rw [List.length_map]
  rcases hO.1.2 with ⟨rfl, h0⟩ | ⟨g, cap, cur, rfl, _, hh, hcap, hmax, _⟩
  · have : L = [] := List.eq_nil_of_length_eq_zero h0
    subst this
    exact ⟨none, 0, rfl, by simp, by omega, fun j hj => absurd hj (by simp)⟩
  · refine ⟨_, cap, rfl, hcap, by unfold maxLen at hmax; omega, fun j hj => ?_⟩
    rw [List.length_map] at hj
    obtain ⟨b, cap', e, _, _, _, hc⟩ := hO.at_ (fun x => RQ.len x) hj
    injection e with e _ _
    injection e with e
    injection e with e
    subst e
    obtain ⟨⟨s1, s2, s3⟩, ⟨i1, i2, i3⟩, hrow⟩ := hG L[j] (List.getElem_mem hj)
    have hphi := hO.now L[j] (List.getElem_mem hj)
    obtain ⟨AQ, cQ, eQ, _, hQ, q1, q2⟩ := hrow.shps hphi hb
    injection eQ with e1 _ e2
    rw [List.getElem_map]
    refine ⟨g, 0, L[j].1.S, L[j].1.c, L[j].1.I, L[j].1.d, L[j].1.Q, L[j].1.q, rfl, lt_of_block hh, ?_, ?_, ?_, ?_, ?_, ?_, ?_, ?_, ?_, ?_, ⟨s1.below hb (Nat.le_refl _), s2, s3⟩, ⟨i1.below hb (Nat.le_refl _), i2, i3⟩, by rw [e1]; exact hQ, by rw [e2]; exact q1, by rw [e2]; exact q2⟩
    · have := hc 0 (by omega); first | (simp [RQ.cells, NodeQ.cells]; done) | simpa [RQ.cells, NodeQ.cells] using this
    · have := hc 1 (by omega); first | (simp [RQ.cells, NodeQ.cells]; done) | simpa [RQ.cells, NodeQ.cells] using this
    · have := hc 2 (by omega); first | (simp [RQ.cells, NodeQ.cells]; done) | simpa [RQ.cells, NodeQ.cells] using this
    · have := hc 3 (by omega); first | (simp [RQ.cells, NodeQ.cells]; done) | simpa [RQ.cells, NodeQ.cells] using this
    · have := hc 4 (by omega); first | (simp [RQ.cells, NodeQ.cells]; done) | simpa [RQ.cells, NodeQ.cells] using this
    · have := hc 5 (by omega); first | (simp [RQ.cells, NodeQ.cells]; done) | simpa [RQ.cells, NodeQ.cells] using this
    · have := hc 6 (by omega); first | (simp [RQ.cells, NodeQ.cells]; done) | simpa [RQ.cells, NodeQ.cells] using this
    · have := hc 7 (by omega); first | (simp [RQ.cells, NodeQ.cells]; done) | simpa [RQ.cells, NodeQ.cells] using this
    · have := hc 8 (by omega); first | (simp [RQ.cells, NodeQ.cells]; done) | simpa [RQ.cells, NodeQ.cells] using this
    · have := hc 9 (by omega); first | (simp [RQ.cells, NodeQ.cells]; done) | simpa [RQ.cells, NodeQ.cells] using this
/-- Behind an append. -/
theorem refrow_push {t : TypeId} {B C : Nat} {w W W' : World} {v v' : Value} {L : List RQ} {x : NodeQ} {vs : List Value} {C2 : Nat} (hO : OwnRow B C W t 10 v RQ.cells (RQ.Phi B) L) (hGL : ∀ x ∈ L, RQ.Good w x) (hC : C ≤ C2) (hB : B ≤ C2)
    (hown : W'.ownsRow B t 10 v' (L.length + 1) (L.flatMap RQ.cells ++ x.cells)) (hg : W.grownBy W' v.ownBlock) (hat : v'.ownBlock = v.ownBlock ∨ v'.ownBlock = some W.heap.size)
    (hx : W.ownsRow C2 22 1 (.slice x.Q x.v.p.length x.q) x.v.p.length vs) (hG : RQ.Good w (x, vs)) : RefRow t B W'.heap.size w W' v' (L.map (fun x => x.1.v) ++ [x.v]) := by
  refine ⟨L ++ [(x, vs)], by simp, ?_, fun y hy => ?_⟩
  · refine hO.push (x := ((x, vs) : RQ)) hown hg hat (F := fun b => (Value.slice x.Q x.v.p.length x.q).ownBlock = some b) (fun W2 h2 => ?_) (fun b hb => ?_)
    · exact ownsRow_heap (ownsRow_base hx hB) h2
    · obtain ⟨h1, h2⟩ := hx.lt b hb
      exact ⟨by omega, h2, fun e => by have := hO.2.1 b e.symm; omega⟩
  · rcases List.mem_append.1 hy with hy | hy
    · exact hGL y hy
    · simp at hy; subst hy; exact hG
def RefNetP (n : NetD) (A : Option Addr) (c : Nat) (w : World) (e : Ending) (w' : World) : Prop :=
  ∃ N' d', e = .returned (.agg #[.slice A n.inn.length c, .slice N' n.nodes.length d']) ∧ NetR w' A N' n ∧ n.nodes.length ≤ d' ∧ d' ≤ 9223372036854775807 ∧ Below w.heap.size w w'
def RInv (tN tR tE : TypeId) (n : NetD) (A N : Option Addr) (c d : Nat) (w0 w : World) (k : Nat) (wx : World) : Prop :=
  Blk wx w.heap.size tN #[.slice A n.inn.length c, .slice N n.nodes.length d] ∧ Blk wx (w.heap.size + 1) tR #[.slice none 0 0, .slice none 0 0] ∧ Below w.heap.size w wx ∧
    ∃ v, Blk wx (w.heap.size + 2) tR #[.slice A n.inn.length c, v] ∧ RefRow tE (w.heap.size + 3) wx.heap.size w0 wx v (n.nodes.take k)
/-- The same, with where its nodes lie. -/
def RefNetS (t : TypeId) (n : NetD) (A : Option Addr) (c : Nat) (w0 w : World) (e : Ending) (w' : World) : Prop :=
  ∃ N' d' C, e = .returned (.agg #[.slice A n.inn.length c, .slice N' n.nodes.length d']) ∧ n.nodes.length ≤ d' ∧ d' ≤ 9223372036854775807 ∧ Below w.heap.size w w' ∧ RefRow t (w.heap.size + 3) C w0 w' (.slice N' n.nodes.length d') n.nodes
theorem RefRow.net {t : TypeId} {B C : Nat} {w W : World} {A N N' : Option Addr} {d' : Nat} {n : NetD} (h : RefRow t B C w W (.slice N' n.nodes.length d') n.nodes) (hb : Later w W) (hR : NetR w A N n) : NetR W A N' n := by
  obtain ⟨N2, d2, e2, -, -, hNodes⟩ := h.nodes hb
  injection e2 with e3 _ _
  subst e3
  exact ⟨hR.1.below hb (Nat.le_refl _), hNodes⟩
theorem RefNetS.netp {t : TypeId} {n : NetD} {A N : Option Addr} {c : Nat} {w w' : World} {e : Ending} (h : RefNetS t n A c w w e w') (hR : NetR w A N n) : RefNetP n A c w e w' := by
  obtain ⟨N', d', C, rfl, h1, h2, hb, hr⟩ := h
  exact ⟨N', d', rfl, hr.net hb hR, h1, h2, hb⟩
theorem refnode_info : (Tryz.prog.info? 82).map (fun i => (i.zero, i.size, i.bytes)) = some (some (.agg #[.int .i64 0, .int .i64 0, .int .i64 0, .int .i64 0, .int .i64 0, .int .i64 0, .int .i64 0, .slice none 0 0, .slice none 0 0, .slice none 0 0]), 10, 128) := by kernel_rfl
set_option maxRecDepth 20000 in
set_option maxHeartbeats 16000000 in
theorem ref_21s (A N : Option Addr) (c d : Nat) (n : NetD) (w0 w : World) (hok : n.ok) (hl0 : Later w0 w) (hR : NetR w0 A N n) :
    Calls Tryz.prog 10 #[.agg #[.slice A n.inn.length c, .slice N n.nodes.length d]] w (RefNetS 82 n A c w0 w) := by
  obtain ⟨i1, hj, hy0, hy1, hy2⟩ := info_parts shpsT_info
  obtain ⟨i2, hn, hn0, hn1, hn2⟩ := info_parts refnode_info
  have hnl := hok.2.1
  have hbx := below3 w (.cells #[.slice A n.inn.length c, .slice N n.nodes.length d] 26) (.cells #[.slice none 0 0, .slice none 0 0] 39) (.cells #[.slice A n.inn.length c, .slice none 0 0] 39)
  have hk1 := ((Blk.new w 26 #[.slice A n.inn.length c, .slice N n.nodes.length d]).alloc (.cells #[.slice none 0 0, .slice none 0 0] 39)).alloc (.cells #[.slice A n.inn.length c, .slice none 0 0] 39)
  have hk2 := (Blk.new (w.alloc (.cells #[.slice A n.inn.length c, .slice N n.nodes.length d] 26)) 39 #[.slice none 0 0, .slice none 0 0]).alloc (.cells #[.slice A n.inn.length c, .slice none 0 0] 39)
  have hk3 := Blk.new ((w.alloc (.cells #[.slice A n.inn.length c, .slice N n.nodes.length d] 26)).alloc (.cells #[.slice none 0 0, .slice none 0 0] 39)) 39 #[.slice A n.inn.length c, .slice none 0 0]
  rw [World.size_alloc] at hk2
  rw [World.size_alloc, World.size_alloc] at hk3
  have Hok := Lib.hid hok
  have HR := Lib.hid hR
  have Hk1 := Lib.hid hk1
  have Hk2 := Lib.hid hk2
  have Hk3 := Lib.hid hk3
  clear hok hR hk1 hk2 hk3
  go_enter Tryz.func10, Tryz.ntmps10
  go_wp2_with fail
  generalize ((w.alloc (.cells #[.slice A n.inn.length c, .slice N n.nodes.length d] 26)).alloc (.cells #[.slice none 0 0, .slice none 0 0] 39)).alloc (.cells #[.slice A n.inn.length c, .slice none 0 0] 39) = w1 at *
  have HI1 := Lib.hid (show RInv 26 39 82 n A N c d w0 w 0 w1 from ⟨Hk1.out, Hk2.out, hbx, _, Hk3.out, by rw [List.take_zero]; exact RefRow.nil _ _ _ _⟩)
  clear Hk1 Hk2 Hk3 hbx
  go_loopw [15] (fun i wx => ∃ k : Nat, k ≤ n.nodes.length ∧ i = .int .i64 (k : Int) ∧ RInv 26 39 82 n A N c d w0 w k wx) (fun i _ => n.nodes.length - (intOf i).toNat)
  case atStart => exact ⟨0, Nat.zero_le _, rfl, HI1.out⟩
  case round =>
    obtain ⟨k, hk, rfl, hb1, hb2, hbw, v0, hb3, hrow⟩ := hrel
    clear HI1
    have hl3 := hb3.lt
    by_cases hlt : k < n.nodes.length
    · obtain ⟨b, off, S, sc, J, ic, Q, qc, rfl, hNA, hs1, hI1, hq1⟩ := HR.out.2.at_ hlt
      have hnok := Hok.out.2.2 _ (List.getElem_mem hlt)
      have htk := List.take_succ_eq_append_getElem hlt
      have hpl := hnok.2.2.2.1
      have hSi := hNA.2.1
      have hJi := hNA.2.2.1
      have hQi := hNA.2.2.2
      generalize n.nodes[k] = v at *
      obtain ⟨⟨y0, y1, y2, y3, y4, y5, y6, y7, y8, y9⟩, -⟩ := hNA.below (hl0.call hbw)
      have hkn := (Blk.new wr 67 #[.int .i64 v.op.kind, .int .i64 v.op.k, .int .i64 v.op.width, .int .i64 v.op.step, .int .i64 v.op.side, .int .i64 v.op.frm, .int .i64 v.op.to, .slice S v.op.s.length sc, .slice J v.ins.length ic, .slice Q v.p.length qc]).alloc (.cells #[.int .i64 v.op.kind, .int .i64 v.op.k, .int .i64 v.op.width, .int .i64 v.op.step, .int .i64 v.op.side, .int .i64 v.op.frm, .int .i64 v.op.to, .slice S v.op.s.length sc, .slice J v.ins.length ic, .slice none 0 0] 82)
      have hky := Blk.new (wr.alloc (.cells #[.int .i64 v.op.kind, .int .i64 v.op.k, .int .i64 v.op.width, .int .i64 v.op.step, .int .i64 v.op.side, .int .i64 v.op.frm, .int .i64 v.op.to, .slice S v.op.s.length sc, .slice J v.ins.length ic, .slice Q v.p.length qc] 67)) 82 #[.int .i64 v.op.kind, .int .i64 v.op.k, .int .i64 v.op.width, .int .i64 v.op.step, .int .i64 v.op.side, .int .i64 v.op.frm, .int .i64 v.op.to, .slice S v.op.s.length sc, .slice J v.ins.length ic, .slice none 0 0]
      rw [World.size_alloc] at hky
      have hbn : Below wr.heap.size wr ((wr.alloc (.cells #[.int .i64 v.op.kind, .int .i64 v.op.k, .int .i64 v.op.width, .int .i64 v.op.step, .int .i64 v.op.side, .int .i64 v.op.frm, .int .i64 v.op.to, .slice S v.op.s.length sc, .slice J v.ins.length ic, .slice Q v.p.length qc] 67)).alloc (.cells #[.int .i64 v.op.kind, .int .i64 v.op.k, .int .i64 v.op.width, .int .i64 v.op.step, .int .i64 v.op.side, .int .i64 v.op.frm, .int .i64 v.op.to, .slice S v.op.s.length sc, .slice J v.ins.length ic, .slice none 0 0] 82)) := below2 wr _ _
      have Hb1 := Lib.hid hb1
      have Hb2 := Lib.hid hb2
      have Hb3 := Lib.hid hb3
      have Hrow := Lib.hid hrow
      have HNA := Lib.hid hNA
      have Hnok := Lib.hid hnok
      have Htk := Lib.hid htk
      have HSi := Lib.hid hSi
      have HJi := Lib.hid hJi
      have HQi := Lib.hid hQi
      have Hkn := Lib.hid hkn
      have Hky := Lib.hid hky
      clear hb1 hb2 hb3 hrow hNA hnok htk hSi hJi hQi hkn hky
      go_wp2_with fail
      clear y0 y1 y2 y3 y4 y5 y6 y7 y8 y9
      generalize ((wr.alloc (.cells #[.int .i64 v.op.kind, .int .i64 v.op.k, .int .i64 v.op.width, .int .i64 v.op.step, .int .i64 v.op.side, .int .i64 v.op.frm, .int .i64 v.op.to, .slice S v.op.s.length sc, .slice J v.ins.length ic, .slice Q v.p.length qc] 67)).alloc (.cells #[.int .i64 v.op.kind, .int .i64 v.op.k, .int .i64 v.op.width, .int .i64 v.op.step, .int .i64 v.op.side, .int .i64 v.op.frm, .int .i64 v.op.to, .slice S v.op.s.length sc, .slice J v.ins.length ic, .slice none 0 0] 82)) = w2 at *
      obtain ⟨wo, rfl⟩ : ∃ wo, wo = wr := ⟨wr, rfl⟩
      go_loopw [50] (fun i wx => ∃ (m : Nat) (vs : List Value) (u : Value), m ≤ v.p.length ∧ i = .int .i64 (m : Int) ∧ Blk wx wo.heap.size 67 #[.int .i64 v.op.kind, .int .i64 v.op.k, .int .i64 v.op.width, .int .i64 v.op.step, .int .i64 v.op.side, .int .i64 v.op.frm, .int .i64 v.op.to, .slice S v.op.s.length sc, .slice J v.ins.length ic, .slice Q v.p.length qc] ∧ Blk wx (wo.heap.size + 1) 82 #[.int .i64 v.op.kind, .int .i64 v.op.k, .int .i64 v.op.width, .int .i64 v.op.step, .int .i64 v.op.side, .int .i64 v.op.frm, .int .i64 v.op.to, .slice S v.op.s.length sc, .slice J v.ins.length ic, u] ∧ wx.ownsRow (wo.heap.size + 2) 22 1 u m vs ∧ RowOf w0 vs (v.p.take m) ∧ Below wo.heap.size wo wx ∧ wo.heap.size + 2 ≤ wx.heap.size) (fun i _ => v.p.length - (intOf i).toNat)
      case atStart => exact ⟨0, [], _, Nat.zero_le _, rfl, Hkn.out, Hky.out, World.ownsRow_nil _ _ _ _, RowOf.nil _, hbn, by have := Hky.out.lt; omega⟩
      case round =>
        obtain ⟨m, vs, u, hm, rfl, hkn, hky, hown, hro, hbx, hsz⟩ := hrel
        clear Hkn Hky
        obtain ⟨A9, c9, rfl⟩ := own_form hown
        by_cases hlm : m < v.p.length
        · have hbwx := hbw.trans (hbx.mono hbw.size)
          obtain ⟨b5, o5, Ss, cs, rfl, -, hcs, hIs, hs5, hs6⟩ := HQi.out m hlm
          have hcs2 := cell_below (hl0.call hbwx) hcs
          have hpush := hro.push hIs hs5 hs6
          rw [← List.take_succ_eq_append_getElem hlm] at hpush
          have y9 : wr.cell? ⟨wo.heap.size + 1, 9, none⟩ = some (.slice A9 m c9) := by rw [hky.cell]; rfl
          have f9 := hky.frozen 9
          generalize v.p[m] = t at *
          have ho := ownsRow_new hown (.cells #[.slice Ss t.length cs] 22)
          have hbx2 := hbx.alloc hbx.size (.cells #[.slice Ss t.length cs] 22)
          have hkn2 := hkn.alloc (.cells #[.slice Ss t.length cs] 22)
          have hky2 := hky.alloc (.cells #[.slice Ss t.length cs] 22)
          have hlo : ∀ b, (Value.slice A9 m c9).ownBlock = some b → wo.heap.size + 2 ≤ b := fun b hb => (hown.lt b hb).1
          have Hkn := Lib.hid hkn
          have Hky := Lib.hid hky
          have Hro := Lib.hid hro
          have Hpush := Lib.hid hpush
          have Hkn2 := Lib.hid hkn2
          have Hky2 := Lib.hid hky2
          have Hlo := Lib.hid hlo
          have HIs := Lib.hid hIs
          clear hkn hky hro hpush hkn2 hky2 hlo hIs
          clear hown hcs
          go_wp2_with (at_builtin; refine wpList_append_own_at _ rfl _ _ 34 rfl (wo.heap.size + 2) 22 i1 (.slice none 0 0) 1 24 Tryz.underlying34 hj hy0 hy1 hy2 rfl (by decide) _ _ _ rfl ho ⟨wr.heap.size, 0, none⟩ 1 1 [.slice Ss t.length cs] rfl rfl ?c1 (by intro u hu; simp at hu; subst hu; rfl) (by unfold maxLen; omega) (by omega) ?c2 ?_)
          first | (case c1 => exact one_new wr _ _) | skip
          case c2 => first | (simp; omega) | omega
          intro v' w3 hown' hgrow _ hat
          obtain ⟨A8, c8, rfl⟩ := own_form hown'
          have hb3 : Below wo.heap.size wo w3 := hbx2.grown hgrow hbx2.size (fun b hb => by have := Hlo.out b hb; omega)
          have hs3 := hgrow.size
          simp at hs3
          have hkn3 := Hkn2.out.grown hgrow (fun e => by have := Hlo.out _ e.symm; omega)
          have hky3 := Hky2.out.grown hgrow (fun e => by have := Hlo.out _ e.symm; omega)
          have y9' : w3.cell? ⟨wo.heap.size + 1, 9, none⟩ = some (.slice A9 m c9) := by rw [hky3.cell]; rfl
          have f9' := hky3.frozen 9
          have HK := Lib.hid (hkn3.far (p := ⟨wo.heap.size + 1, 9, none⟩) (by simp) (.slice A8 (m + 1) c8))
          have hky4 := hky3.set_ 9 (.slice A8 (m + 1) c8)
          have HY := Lib.hid (show Blk (w3.setCell ⟨wo.heap.size + 1, 9, none⟩ (.slice A8 (m + 1) c8)) (wo.heap.size + 1) 82 #[.int .i64 v.op.kind, .int .i64 v.op.k, .int .i64 v.op.width, .int .i64 v.op.step, .int .i64 v.op.side, .int .i64 v.op.frm, .int .i64 v.op.to, .slice S v.op.s.length sc, .slice J v.ins.length ic, .slice A8 (m + 1) c8] from hky4)
          have hb4 := hb3.setCell (p := ⟨wo.heap.size + 1, 9, none⟩) (by simp) (.slice A8 (m + 1) c8)
          have HO3 := Lib.hid (ownsRow_heap (w' := w3.setCell ⟨wo.heap.size + 1, 9, none⟩ (.slice A8 (m + 1) c8)) hown' (fun g hg => Below.heap_setCell w3 _ _ g (by have := (hown'.lt g hg).1; simp; omega)))
          clear hown' hgrow hat ho hbx2 hkn3 hky3 hky4 y9 f9
          go_wp2_with fail
          go_roundw
          case rel => exact ⟨m + 1, _, _, by omega, by go_num, HK.out, HY.out, HO3.out, Hpush.out, hb4, by simp; omega⟩
          case measure => simp [intOf]; omega
        · obtain rfl : m = v.p.length := by omega
          rw [List.take_length] at hro
          have hbwx := hbw.trans (hbx.mono hbw.size)
          obtain ⟨y0, y1, y2, y3, y4, y5, y6, y7, y8, y9⟩ : wr.cell? ⟨wo.heap.size + 1, 0, none⟩ = some (.int .i64 v.op.kind) ∧ wr.cell? ⟨wo.heap.size + 1, 1, none⟩ = some (.int .i64 v.op.k) ∧ wr.cell? ⟨wo.heap.size + 1, 2, none⟩ = some (.int .i64 v.op.width) ∧ wr.cell? ⟨wo.heap.size + 1, 3, none⟩ = some (.int .i64 v.op.step) ∧ wr.cell? ⟨wo.heap.size + 1, 4, none⟩ = some (.int .i64 v.op.side) ∧ wr.cell? ⟨wo.heap.size + 1, 5, none⟩ = some (.int .i64 v.op.frm) ∧ wr.cell? ⟨wo.heap.size + 1, 6, none⟩ = some (.int .i64 v.op.to) ∧ wr.cell? ⟨wo.heap.size + 1, 7, none⟩ = some (.slice S v.op.s.length sc) ∧ wr.cell? ⟨wo.heap.size + 1, 8, none⟩ = some (.slice J v.ins.length ic) ∧ wr.cell? ⟨wo.heap.size + 1, 9, none⟩ = some (.slice A9 v.p.length c9) := ⟨hky.cell 0, hky.cell 1, hky.cell 2, hky.cell 3, hky.cell 4, hky.cell 5, hky.cell 6, hky.cell 7, hky.cell 8, hky.cell 9⟩
          obtain ⟨L, hL, hOL, hGL⟩ := Hrow.out
          obtain ⟨A0, c0, rfl, h00⟩ := hOL.form
          have hkl : L.length = k := by have := congrArg List.length hL; simp at this; omega
          have hb3x := Hb3.out.below hbx (by omega)
          have hb1x := Hb1.out.below hbx (by have := Hb1.out.lt; omega)
          have hb2x := Hb2.out.below hbx (by have := Hb2.out.lt; omega)
          rw [hkl] at h00
          have hfrx : Fr (fun b => wo.heap.size ≤ b) wo wr := Fr.of_below hbx (fun b hb hS => by omega)
          have hOx := (hOL.fr hfrx (fun b h1 h2 h3 => by omega)).fr ((Fr.refl (fun _ => False) wr).alloc (.cells #[.int .i64 v.op.kind, .int .i64 v.op.k, .int .i64 v.op.width, .int .i64 v.op.step, .int .i64 v.op.side, .int .i64 v.op.frm, .int .i64 v.op.to, .slice S v.op.s.length sc, .slice J v.ins.length ic, .slice A9 v.p.length c9] 82)) (fun b h1 h2 h3 => h3)
          have hownx := ownsRow_new hown (.cells #[.int .i64 v.op.kind, .int .i64 v.op.k, .int .i64 v.op.width, .int .i64 v.op.step, .int .i64 v.op.side, .int .i64 v.op.frm, .int .i64 v.op.to, .slice S v.op.s.length sc, .slice J v.ins.length ic, .slice A9 v.p.length c9] 82)
          have hb3y := hb3x.alloc (.cells #[.int .i64 v.op.kind, .int .i64 v.op.k, .int .i64 v.op.width, .int .i64 v.op.step, .int .i64 v.op.side, .int .i64 v.op.frm, .int .i64 v.op.to, .slice S v.op.s.length sc, .slice J v.ins.length ic, .slice A9 v.p.length c9] 82)
          have hb1y := hb1x.alloc (.cells #[.int .i64 v.op.kind, .int .i64 v.op.k, .int .i64 v.op.width, .int .i64 v.op.step, .int .i64 v.op.side, .int .i64 v.op.frm, .int .i64 v.op.to, .slice S v.op.s.length sc, .slice J v.ins.length ic, .slice A9 v.p.length c9] 82)
          have hb2y := hb2x.alloc (.cells #[.int .i64 v.op.kind, .int .i64 v.op.k, .int .i64 v.op.width, .int .i64 v.op.step, .int .i64 v.op.side, .int .i64 v.op.frm, .int .i64 v.op.to, .slice S v.op.s.length sc, .slice J v.ins.length ic, .slice A9 v.p.length c9] 82)
          have hbwy := hbwx.alloc hbwx.size (.cells #[.int .i64 v.op.kind, .int .i64 v.op.k, .int .i64 v.op.width, .int .i64 v.op.step, .int .i64 v.op.side, .int .i64 v.op.frm, .int .i64 v.op.to, .slice S v.op.s.length sc, .slice J v.ins.length ic, .slice A9 v.p.length c9] 82)
          have hd6 := Blk.new wr 82 #[.int .i64 v.op.kind, .int .i64 v.op.k, .int .i64 v.op.width, .int .i64 v.op.step, .int .i64 v.op.side, .int .i64 v.op.frm, .int .i64 v.op.to, .slice S v.op.s.length sc, .slice J v.ins.length ic, .slice A9 v.p.length c9]
          have hlo : ∀ b, (Value.slice A0 L.length c0).ownBlock = some b → w.heap.size + 3 ≤ b := fun b hb => (hOL.1.lt b hb).1
          rw [hkl] at hlo
          have z1 : wr.cell? ⟨w.heap.size + 2, 1, none⟩ = some (.slice A0 k c0) := by rw [hb3x.cell, hkl]; rfl
          have hO1 := hOx.1
          rw [hkl] at hO1
          have Hkn := Lib.hid hkn
          have Hky := Lib.hid hky
          have Hown := Lib.hid hown
          have Hro := Lib.hid hro
          have Hb3x := Lib.hid hb3x
          have Hb1x := Lib.hid hb1x
          have Hb2x := Lib.hid hb2x
          have HOx := Lib.hid hOx
          have Hownx := Lib.hid hownx
          have Hb3y := Lib.hid hb3y
          have Hb1y := Lib.hid hb1y
          have Hb2y := Lib.hid hb2y
          have Hd6 := Lib.hid hd6
          have Hlo := Lib.hid hlo
          have HL := Lib.hid hL
          have HGL := Lib.hid hGL
          have HOL := Lib.hid hOL
          have Hkl := Lib.hid hkl
          have HO1 := Lib.hid hO1
          clear hkn hky hown hro hb3x hb1x hb2x hOx hownx hb3y hb1y hb2y hd6 hlo hL hGL hOL hkl hO1
          clear Hrow Hb1 Hb2 Hb3 hfrx
          go_wp2_with (at_builtin; refine wpList_append_own_at _ rfl _ _ 37 rfl (w.heap.size + 3) 82 i2 (.agg #[.int .i64 0, .int .i64 0, .int .i64 0, .int .i64 0, .int .i64 0, .int .i64 0, .int .i64 0, .slice none 0 0, .slice none 0 0, .slice none 0 0]) 10 128 Tryz.underlying37 hn hn0 hn1 hn2 rfl (by decide) _ k (L.flatMap RQ.cells) rfl HO1.out ⟨wr.heap.size, 0, none⟩ 1 1 [.int .i64 v.op.kind, .int .i64 v.op.k, .int .i64 v.op.width, .int .i64 v.op.step, .int .i64 v.op.side, .int .i64 v.op.frm, .int .i64 v.op.to, .slice S v.op.s.length sc, .slice J v.ins.length ic, .slice A9 v.p.length c9] rfl rfl ?c1 ?c2 ?c3 ?c4 ?c5 ?_)
          case c1 => exact World.news_of_block (cs := #[.int .i64 v.op.kind, .int .i64 v.op.k, .int .i64 v.op.width, .int .i64 v.op.step, .int .i64 v.op.side, .int .i64 v.op.frm, .int .i64 v.op.to, .slice S v.op.s.length sc, .slice J v.ins.length ic, .slice A9 v.p.length c9]) Hd6.out
          case c2 => intro u hu; simp at hu; rcases hu with rfl | rfl | rfl | rfl | rfl | rfl | rfl | rfl | rfl | rfl <;> rfl
          case c3 => unfold maxLen; omega
          case c4 => omega
          case c5 => simp; omega
          intro v7 w7 hown7 hg7 _ hat7
          obtain ⟨A7, c7, rfl⟩ := own_form hown7
          have hsa : wr.heap.size + 1 = (wr.alloc (.cells #[.int .i64 v.op.kind, .int .i64 v.op.k, .int .i64 v.op.width, .int .i64 v.op.step, .int .i64 v.op.side, .int .i64 v.op.frm, .int .i64 v.op.to, .slice S v.op.s.length sc, .slice J v.ins.length ic, .slice A9 v.p.length c9] 82)).heap.size := by simp
          rw [hsa] at hat7
          clear hsa
          have hkl := Hkl.out
          generalize (wr.alloc (.cells #[.int .i64 v.op.kind, .int .i64 v.op.k, .int .i64 v.op.width, .int .i64 v.op.step, .int .i64 v.op.side, .int .i64 v.op.frm, .int .i64 v.op.to, .slice S v.op.s.length sc, .slice J v.ins.length ic, .slice A9 v.p.length c9] 82)) = w6 at *
          have hg8 := hg7
          rw [← hkl] at hown7 hg8 hat7
          have hpush := refrow_push (x := (⟨v, S, sc, J, ic, A9, c9⟩ : NodeQ)) (vs := vs) HOx.out HGL.out (C2 := wo.heap.size + 2) (by omega) (by omega) hown7 hg8 hat7 Hownx.out ⟨⟨HSi.out, hs1⟩, ⟨HJi.out, hI1⟩, Hro.out⟩
          rw [HL.out] at hpush
          have hpush : RefRow 82 (w.heap.size + 3) w7.heap.size w0 w7 (.slice A7 (L.length + 1) c7) (n.nodes.take (k + 1)) := by rw [Htk.out]; exact hpush
          rw [hkl] at hpush
          have hb3z := Hb3y.out.grown hg7 (fun e => by have := Hlo.out _ e.symm; omega)
          have hb1z := Hb1y.out.grown hg7 (fun e => by have := Hlo.out _ e.symm; omega)
          have hb2z := Hb2y.out.grown hg7 (fun e => by have := Hlo.out _ e.symm; omega)
          rw [hkl] at hb3z
          have hbwz : Below w.heap.size w w7 := hbwy.grown hg7 hbwy.size (fun b hb => by have := Hlo.out b hb; omega)
          have z1' : w7.cell? ⟨w.heap.size + 2, 1, none⟩ = some (.slice A0 k c0) := by rw [hb3z.cell]; rfl
          have f1' := hb3z.frozen 1
          have hfs : Fr (fun b => b = w.heap.size + 2) w7 (w7.setCell ⟨w.heap.size + 2, 1, none⟩ (.slice A7 (k + 1) c7)) := (Fr.refl (fun b => b = w.heap.size + 2) w7).setCell (p := ⟨w.heap.size + 2, 1, none⟩) (fun _ => rfl) (.slice A7 (k + 1) c7)
          have HP := Lib.hid (hpush.fr hfs (fun b h1 h2 h3 => by omega))
          have H1 := Lib.hid (hfs.blk hb1z (by omega))
          have H2 := Lib.hid (hfs.blk hb2z (by omega))
          have h3 := hb3z.set_ 1 (.slice A7 (k + 1) c7)
          have H3 := Lib.hid (show Blk (w7.setCell ⟨w.heap.size + 2, 1, none⟩ (.slice A7 (k + 1) c7)) (w.heap.size + 2) 39 #[.slice A n.inn.length c, .slice A7 (k + 1) c7] from h3)
          have H4 := Lib.hid (hbwz.setCell (p := ⟨w.heap.size + 2, 1, none⟩) (by simp) (.slice A7 (k + 1) c7))
          clear hown7 hg7 hg8 hat7 hpush hb3z hb1z hb2z hbwz hfs h3 hkl hbwy hbwx
          go_wp2_with fail
          go_roundw
          case rel => exact ⟨k + 1, by omega, by go_num, H1.out, H2.out, H4.out, _, H3.out, by simpa using HP.out⟩
          case measure => simp [intOf]; omega
    · obtain rfl : k = n.nodes.length := by omega
      rw [List.take_length] at hrow
      obtain ⟨N', d', rfl, hd1, hd2, -⟩ := hrow.nodes (hl0.call hbw)
      have hfr : Fr (fun b => b = w.heap.size + 1) wr ((wr.setCell ⟨w.heap.size + 1, 0, none⟩ (.slice A n.inn.length c)).setCell ⟨w.heap.size + 1, 1, none⟩ (.slice N' n.nodes.length d')) := ((Fr.refl (fun b => b = w.heap.size + 1) wr).setCell (p := ⟨w.heap.size + 1, 0, none⟩) (fun _ => rfl) _).setCell (p := ⟨w.heap.size + 1, 1, none⟩) (fun _ => rfl) _
      have hbw2 : Below w.heap.size w ((wr.setCell ⟨w.heap.size + 1, 0, none⟩ (.slice A n.inn.length c)).setCell ⟨w.heap.size + 1, 1, none⟩ (.slice N' n.nodes.length d')) := (hbw.setCell (p := ⟨w.heap.size + 1, 0, none⟩) (by simp) _).setCell (p := ⟨w.heap.size + 1, 1, none⟩) (by simp) _
      have HRw := Lib.hid (hrow.fr hfr (fun b h1 h2 h3 => by omega))
      have z0 : wr.cell? ⟨w.heap.size + 2, 0, none⟩ = some (.slice A n.inn.length c) := by rw [hb3.cell]; rfl
      have z1 : wr.cell? ⟨w.heap.size + 2, 1, none⟩ = some (.slice N' n.nodes.length d') := by rw [hb3.cell]; rfl
      have r0 : wr.cell? ⟨w.heap.size + 1, 0, none⟩ = some (.slice none 0 0) := by rw [hb2.cell]; rfl
      have r1 : wr.cell? ⟨w.heap.size + 1, 1, none⟩ = some (.slice none 0 0) := by rw [hb2.cell]; rfl
      have f0 := hb2.frozen 0
      have f1 := hb2.frozen 1
      clear hfr
      have Hb1 := Lib.hid hb1
      have Hb2 := Lib.hid hb2
      have Hb3 := Lib.hid hb3
      have Hrow := Lib.hid hrow
      clear hb1 hb2 hb3 hrow
      go_wp2_with fail
      exact bodyPost_ret (v := .agg #[.slice A n.inn.length c, .slice N' n.nodes.length d']) (by simp [results, Tryz.results10, go_sem, r0, r1]) rfl ⟨N', d', _, rfl, hd1, hd2, hbw2, HRw.out⟩
theorem ref_21 (A N : Option Addr) (c d : Nat) (n : NetD) (w : World) (hok : n.ok) (hR : NetR w A N n) :
    Calls Tryz.prog 10 #[.agg #[.slice A n.inn.length c, .slice N n.nodes.length d]] w (RefNetP n A c w) :=
  (ref_21s A N c d n w w hok (Later.refl _) hR).mono fun _ _ h => h.netp hR
end Go.Proofs.YtnffjfjhbjeaiaaGreatDoor
/- The reference of layer 11: Check: contract. -/
namespace Go.Proofs.YtnffjfjhbjeaiaaGreatDoor
open Go.RowKit
def RefCheckP (n : NetD) (w : World) (e : Ending) (w' : World) : Prop :=
  Below w.heap.size w w' ∧ ((Nt.check n = 0 ∧ ∃ g, e = .returned (.tuple #[.slice (some ⟨g, 0, none⟩) (n.nodes.length + 1) (n.nodes.length + 1), .int .i64 (Nt.loss n.nodes), .int .i64 0]) ∧ w.heap.size ≤ g ∧ ShpRow w' g 22 (Nt.shapes n)) ∨
    (Nt.check n ≠ 0 ∧ e = .returned (.tuple #[.slice none 0 0, .int .i64 0, .int .i64 (Nt.check n)])))
theorem RefCheckP.err {n : NetD} {w w' : World} {k : Int} (h : Nt.check n = k) (hk : k ≠ 0) (hb : Below w.heap.size w w') : RefCheckP n w (.returned (.tuple #[.slice none 0 0, .int .i64 0, .int .i64 k])) w' :=
  ⟨hb, .inr (by rw [h]; exact ⟨hk, rfl⟩)⟩
theorem ShpRow.apart {w : World} {g : Nat} {t : TypeId} {sh : List (List Int)} {S : Option Addr} {s : List Int} (h : ShpRow w g t sh) (hI : Ints .i64 w S s) (hs : 0 < s.length) : ∀ a, S = some a → a.block ≠ g := by
  intro a ha hg
  obtain ⟨b, off, e, hl, hc⟩ := hI 0 hs
  rw [ha] at e
  injection e with e
  subst e
  simp at hg
  subst hg
  obtain ⟨vs, hl2, hk, hv⟩ := h
  rw [Nat.add_zero, hk.cell off] at hc
  by_cases ho : off < sh.length
  · obtain ⟨S', c', e1, _⟩ := hv off ho
    simp at hc
    rw [e1] at hc
    simp at hc
  · rw [Array.getElem?_eq_none (by simp; omega)] at hc
    cases hc
theorem Nt.count_used (ns : List NodeD) (id : Int) : (Nt.count ns id = 0) ↔ Nt.isUsed ns id = false := by
  unfold Nt.count Nt.isUsed
  rw [List.length_eq_zero_iff, List.filter_eq_nil_iff, List.any_eq_false]
set_option maxRecDepth 20000 in
set_option maxHeartbeats 16000000 in
theorem ref11_check (A N : Option Addr) (c d : Nat) (n : NetD) (w : World) (hok : n.ok) (hR : NetR w A N n) (hd : n.nodes.length ≤ d) (hc : n.inn.length ≤ c) (hcm : c ≤ 9223372036854775807) :
    Calls Tryz.prog 9 #[.agg #[.slice A n.inn.length c, .slice N n.nodes.length d]] w (RefCheckP n w) := by
  obtain ⟨i1, hj, hy0, hy1, hy2⟩ := info_parts shpsT_info
  have hnl := hok.2.1
  have hil := hok.1
  have hb0 : Below w.heap.size w (w.alloc (.cells #[.slice A n.inn.length c, .slice N n.nodes.length d] 39)) := (Below.refl _ _).alloc (Nat.le_refl _) _
  have hk0 := Blk.new w 39 #[.slice A n.inn.length c, .slice N n.nodes.length d]
  have hR0 := hR.below hb0 (Nat.le_refl _)
  by_cases hmany : n.nodes.length < 1 ∨ 512 < n.nodes.length
  · have HC := Lib.hid (Nt.check_many hmany)
    have HR := Lib.hid hR
    have Hok := Lib.hid hok
    have HR0 := Lib.hid hR0
    have Hk0 := Lib.hid hk0
    clear hR hok hR0 hk0
    rcases hmany with h | h
    · have d1 : decide ((n.nodes.length : Int) < 1) = true := by simp; omega
      go_enter Tryz.func9, Tryz.ntmps9
      go_wp2_with fail
      go_ret3
      exact RefCheckP.err HC.out (by omega) hb0
    · have d1 : decide ((n.nodes.length : Int) < 1) = false := by simp; omega
      have d2 : decide ((512 : Int) < (n.nodes.length : Int)) = true := by simp; omega
      go_enter Tryz.func9, Tryz.ntmps9
      go_wp2_with fail
      go_ret3
      exact RefCheckP.err HC.out (by omega) hb0
  · have d1 : decide ((n.nodes.length : Int) < 1) = false := by simp; omega
    have d2 : decide ((512 : Int) < (n.nodes.length : Int)) = false := by simp; omega
    have h512 : n.nodes.length ≤ 512 := by omega
    have hone : 1 ≤ n.nodes.length := by omega
    have HR := Lib.hid hR
    have Hok := Lib.hid hok
    have HR0 := Lib.hid hR0
    have Hk0 := Lib.hid hk0
    have Hmany := Lib.hid hmany
    clear hR hok hR0 hk0 hmany
    go_enter Tryz.func9, Tryz.ntmps9
    go_wp2_with fail
    have hx := Hk0.out
    generalize w.alloc (.cells #[.slice A n.inn.length c, .slice N n.nodes.length d] 39) = w1 at *
    have hbox := Hk0.out
    refine (ref03_right A c n.inn _ (by omega) HR0.out.1).mono ?_
    rintro e w2 ⟨rfl, rfl⟩
    have x1 : w1.cell? ⟨w.heap.size, 1, none⟩ = some (.slice N n.nodes.length d) := by rw [hbox.cell]; rfl
    clear d1 d2 hx
    by_cases hin : Sh.right n.inn = true
    rotate_left
    · have hin' : Sh.right n.inn = false := by simpa using hin
      have HC := Lib.hid (Nt.check_in Hmany.out hin')
      rw [hin']
      have Hbox := Lib.hid hbox
      clear hbox
      clear hin hin'
      go_wp2_with fail
      go_ret3
      exact RefCheckP.err HC.out (by omega) hb0
    · have Hin := Lib.hid hin
      rw [hin]
      have Hbox := Lib.hid hbox
      clear hbox
      clear hin
      go_wp2_with fail
      clear x1 HR0 Hk0
      go_loopw [5] (fun i wr => ∃ k : Nat, k ≤ n.nodes.length ∧ i = .int .i64 k ∧ Blk wr w.heap.size 39 #[.slice A n.inn.length c, .slice N n.nodes.length d] ∧ Below w.heap.size w wr ∧ lookBad n k) (fun i _ => n.nodes.length - (intOf i).toNat)
      case atStart => exact ⟨0, Nat.zero_le _, rfl, Hbox.out, hb0, fun j hj h => by omega⟩
      case round =>
        clear Hbox hb0
        obtain ⟨k, hk, rfl, hbox, hbw, hbad⟩ := hrel
        have hsl := hbox.lt
        have x1 : wr.cell? ⟨w.heap.size, 1, none⟩ = some (.slice N n.nodes.length d) := by rw [hbox.cell]; rfl
        by_cases hlt : k < n.nodes.length
        · obtain ⟨b, off, S, sc, J, ic, Q, qc, rfl, hNA, -, hI, -⟩ := HR.out.2.at_ hlt
          have hnok := Hok.out.2.2 _ (List.getElem_mem hlt)
          have hb21 := fun h => Nt.bads_op (n := n.nodes.length) hlt hbad h
          have hb11 := fun h m (hm : m < n.nodes[k].ins.length) h2 => Nt.bads_in (n := n.nodes.length) hlt hbad h (m := m) hm h2
          have hnext : Od.right n.nodes[k].op = true → n.nodes[k].ins.all (fun i => decide (0 ≤ i ∧ i ≤ n.nodes.length)) = true → lookBad n (k + 1) := fun h1 h2 j hj hjk => by
            by_cases e : j = k
            · subst e; exact ⟨h1, h2⟩
            · exact hbad j hj (by omega)
          have hil := hnok.2.2.1
          have hsl2 := hnok.2.1
          generalize n.nodes[k] = v at *
          have hNw := hNA.below hbw
          obtain ⟨⟨y0, y1, y2, y3, y4, y5, y6, y7, y8, y9⟩, -⟩ := hNA.below hbw
          have hcall := ref10_right v.op S sc wr (by omega)
          rw [Od.ref_right] at hcall
          have Hbox := Lib.hid hbox
          have HNA := Lib.hid hNA
          have Hnok := Lib.hid hnok
          have Hb21 := Lib.hid hb21
          have Hb11 := Lib.hid hb11
          have Hnext := Lib.hid hnext
          have HNw := Lib.hid hNw
          have Hbad := Lib.hid hbad
          have Hcall := Lib.hid hcall
          clear hbox hNA hnok hb21 hb11 hnext hNw hbad hcall
          go_wp2_with fail
          refine (Hcall.out).mono ?_
          rintro e w2 ⟨rfl, hb2⟩
          have hbx2 := hbw.trans (hb2.mono hbw.size)
          have hbox2 := Hbox.out.below hb2 hsl
          clear x1
          have x1 : w2.cell? ⟨w.heap.size, 1, none⟩ = some (.slice (some ⟨b, off, none⟩) n.nodes.length d) := by rw [hbox2.cell]; rfl
          have hN2 := HNw.out.below hb2
          obtain ⟨⟨-, -, -, -, -, -, -, -, z8, -⟩, -, hIJ, -⟩ := hN2
          clear y0 y1 y2 y3 y4 y5 y6 y7 y8 y9 Hbox Hcall
          by_cases hor : Od.right v.op = true
          rotate_left
          · have hor' : Od.right v.op = false := by simpa using hor
            have hc := Hb21.out hor'
            have HC := Lib.hid ((Nt.check_bads Hmany.out Hin.out (by rw [hc]; omega)).trans hc)
            rw [hor']
            have Hbox2 := Lib.hid hbox2
            have HIJ := Lib.hid hIJ
            clear hbox2 hIJ
            clear hor hc hor'
            go_wp2_with fail
            go_ret3
            exact RefCheckP.err HC.out (by omega) hbx2
          · have Hor := Lib.hid hor
            rw [hor]
            have Hbox2 := Lib.hid hbox2
            have HIJ := Lib.hid hIJ
            clear hbox2 hIJ
            clear hor
            go_wp2_with fail
            go_loopw [6] (fun i wx => ∃ m q : Nat, m ≤ v.ins.length ∧ i = .int .i64 m ∧ (∀ j (hj : j < v.ins.length), j < m → 0 ≤ v.ins[j] ∧ v.ins[j] ≤ n.nodes.length) ∧ wx = w2.drewN q) (fun i _ => v.ins.length - (intOf i).toNat)
            case atStart => exact ⟨0, 0, Nat.zero_le _, rfl, (fun j hj h => by omega), rfl⟩
            case round =>
              obtain ⟨m, q, hm, rfl, hall, rfl⟩ := hrel
              by_cases hlm : m < v.ins.length
              · obtain ⟨b1, off1, rfl, -, hc⟩ := HIJ.out m hlm
                rw [getD_at hlm] at hc
                have hbd := Hb11.out Hor.out m hlm
                have hnx : (0 ≤ v.ins[m] ∧ v.ins[m] ≤ n.nodes.length) → ∀ j (hj : j < v.ins.length), j < m + 1 → 0 ≤ v.ins[j] ∧ v.ins[j] ≤ n.nodes.length := fun h j hj hjm => by
                  by_cases e : j = m
                  · subst e; exact h
                  · exact hall j hj (by omega)
                generalize v.ins[m] = u at *
                have m0 : (0 : Int) ≤ (m : Int) := by omega
                have m1 : (m : Int) < (v.ins.length : Int) := by omega
                have k0 : (0 : Int) ≤ (k : Int) := by omega
                have k1 : (k : Int) < (n.nodes.length : Int) := by omega
                by_cases hu : 0 ≤ u ∧ u ≤ n.nodes.length
                · have HN := Lib.hid (hnx hu)
                  have e1 : decide (u < 0) = false := by simp; omega
                  have e2 : decide ((n.nodes.length : Int) < u) = false := by simp; omega
                  clear hu hbd
                  have Hnx := Lib.hid hnx
                  have Hall := Lib.hid hall
                  clear hnx hall
                  go_wp2_with fail
                  go_quiet (fail)
                  go_wp2_with fail
                  go_roundw
                  case rel => exact ⟨m + 1, _, by omega, by go_num, HN.out, by first | rfl | exact World.drewN_drewN _ _ _⟩
                  case measure => simp [intOf]; omega
                · have hc2 := hbd hu
                  have HC := Lib.hid ((Nt.check_bads Hmany.out Hin.out (by rw [hc2]; omega)).trans hc2)
                  clear hc2 hbd
                  have Hnx := Lib.hid hnx
                  have Hall := Lib.hid hall
                  clear hnx hall
                  by_cases hneg : u < 0
                  · have e1 : decide (u < 0) = true := by simpa using hneg
                    clear hu
                    go_wp2_with fail
                    go_quiet (fail)
                    go_wp2_with fail
                    go_ret3
                    exact RefCheckP.err HC.out (by omega) (by first | exact Bdrawn2 hbx2 _ _ | exact Bdrawn hbx2 _)
                  · have e1 : decide (u < 0) = false := by simpa using hneg
                    have e2 : decide ((n.nodes.length : Int) < u) = true := by simp; omega
                    clear hu
                    go_wp2_with fail
                    go_quiet (fail)
                    go_wp2_with fail
                    go_ret3
                    exact RefCheckP.err HC.out (by omega) (by first | exact Bdrawn2 hbx2 _ _ | exact Bdrawn hbx2 _)
              · obtain rfl : m = v.ins.length := by omega
                have HN := Lib.hid (Hnext.out Hor.out (List.all_eq_true.2 fun i hi => by obtain ⟨j, hj, rfl⟩ := List.getElem_of_mem hi; simpa using hall j hj hj))
                have Hall := Lib.hid hall
                clear hall
                go_wp2_with fail
                go_roundw
                case rel => exact ⟨k + 1, by omega, by go_num, Hbox2.out.drewN q, Bdrawn hbx2 q, HN.out⟩
                case measure => simp [intOf]; omega
        · obtain rfl : k = n.nodes.length := by omega
          have hb0 : Nt.bads n.nodes.length n.nodes = 0 := Nt.bads_none hbad
          have hins : ∀ v ∈ n.nodes, ∀ i ∈ v.ins, 0 ≤ i ∧ i ≤ n.nodes.length := fun v hv => (Nt.bads_all hb0 v hv).2
          have hrop : ∀ v ∈ n.nodes, Od.right v.op = true := fun v hv => (Nt.bads_all hb0 v hv).1
          have x0 : wr.cell? ⟨w.heap.size, 0, none⟩ = some (.slice A n.inn.length c) := by rw [hbox.cell]; rfl
          have Hbad := Lib.hid hbad
          have Hbox := Lib.hid hbox
          have Hb0 := Lib.hid hb0
          have Hins := Lib.hid hins
          have Hrop := Lib.hid hrop
          clear hbad hbox hb0 hins hrop
          go_wp2_with fail
          refine (ref11_order A N c d n _ Hok.out (HR.out.below hbw (Nat.le_refl _))).mono ?_
          rintro e w2 ⟨O, oc, rfl, hO, hoc, hoc2, hb2⟩
          have hbw2 := hbw.trans (hb2.mono hbw.size)
          have hbox2 := Hbox.out.below hb2 Hbox.out.lt
          have hw2l : w.heap.size < w2.heap.size := hbox2.lt
          clear x0 x1
          have x0 : w2.cell? ⟨w.heap.size, 0, none⟩ = some (.slice A n.inn.length c) := by rw [hbox2.cell]; rfl
          have x1 : w2.cell? ⟨w.heap.size, 1, none⟩ = some (.slice N n.nodes.length d) := by rw [hbox2.cell]; rfl
          clear Hbox
          have hole : (Nt.sorted n.nodes).length ≤ n.nodes.length := Kn.order_len_le _ _
          by_cases hcy : (Nt.sorted n.nodes).length = n.nodes.length
          rotate_left
          · have HC := Lib.hid (Nt.check_cyc Hmany.out Hin.out Hb0.out hcy)
            have e1 : decide (((Nt.sorted n.nodes).length : Int) < (n.nodes.length : Int)) = true := by simp; omega
            have e2 : decide ((Nt.sorted n.nodes).length < n.nodes.length) = true := by simp; omega
            generalize Nt.sorted n.nodes = os at *
            have Hbox2 := Lib.hid hbox2
            have Hcy := Lib.hid hcy
            have HO := Lib.hid hO
            clear hbox2 hcy hO
            go_wp2_with fail
            go_ret3
            exact RefCheckP.err HC.out (by omega) hbw2
          · have hcheck := fun h5 => Nt.check_lay Hmany.out Hin.out Hb0.out hcy h5
            have hcheck6 := fun h5 h6 => Nt.check_loss Hmany.out Hin.out Hb0.out hcy h5 h6
            have hcheck7 := fun h5 h6 => Nt.check_last Hmany.out Hin.out Hb0.out hcy h5 h6
            have hgoodF := fun h5 : (Nt.lay n.nodes (Nt.start n) (Nt.sorted n.nodes)).2 = 0 => Nt.lay_good Hin.out (Nt.sorted n.nodes).length (Nat.le_refl _) (by rw [List.take_length]; exact h5)
            rw [List.take_length] at hgoodF
            have hfull : ∀ u, u ∈ Nt.sorted n.nodes ↔ 1 ≤ u ∧ u ≤ n.nodes.length := Kn.order_full (I := Nt.insF n.nodes) (n := n.nodes.length) hcy
            have hshp : (Nt.lay n.nodes (Nt.start n) (Nt.sorted n.nodes)).1 = Nt.shapes n := rfl
            have hrng : ∀ u ∈ Nt.sorted n.nodes, 1 ≤ u ∧ u ≤ n.nodes.length := Kn.order_rng _ _
            have hbeh : ∀ a b u, Nt.sorted n.nodes = a ++ u :: b → ∀ i ∈ Nt.insF n.nodes u, i = 0 ∨ i ∈ a := fun a b u h => Kn.order_behind _ _ h
            rw [hcy]
            obtain ⟨os, hos⟩ : ∃ os, Nt.sorted n.nodes = os := ⟨_, rfl⟩
            have hshort : ∀ k, k ≤ os.length → ∀ sh, Nt.lay n.nodes (Nt.start n) (os.take k) = (sh, 0) → Nt.Good (os.take k) sh ∧ sh.length = n.nodes.length + 1 := fun k hk sh h => by
              have := lay_short (n := n) Hin.out (k := k) (by rw [hos]; exact hk) (sh := sh) (by rw [hos]; exact h)
              rw [hos] at this
              exact this
            rw [hos] at hcheck hcheck6 hcheck7 hgoodF hfull hshp hO hcy hoc hole hrng hbeh
            rw [hcy] at hoc
            have hAb : ∀ a, A = some a → a.block < w.heap.size := fun a ha => by
              obtain ⟨b, off, e, hl, -⟩ := HR.out.1 0 (right_short Hin.out).1
              rw [ha] at e; injection e with e; subst e; exact hl
            have hInn := HR.out.1.below hbw2 (Nat.le_refl _)
            have e1 : IntKind.i64.wrap ((n.nodes.length : Int) + 1) = ((n.nodes.length + 1 : Nat) : Int) := by rw [IntWalk.i64_in _ (by omega)]; omega
            have Hcheck := Lib.hid hcheck
            have Hcheck6 := Lib.hid hcheck6
            have Hcheck7 := Lib.hid hcheck7
            have HgoodF := Lib.hid hgoodF
            have Hfull := Lib.hid hfull
            have Hshp := Lib.hid hshp
            have Hcy := Lib.hid hcy
            have Hos := Lib.hid hos
            have HO := Lib.hid hO
            have Hbox2 := Lib.hid hbox2
            have Hrng := Lib.hid hrng
            have Hbeh := Lib.hid hbeh
            have Hshort := Lib.hid hshort
            have HAb := Lib.hid hAb
            have HInn := Lib.hid hInn
            clear hcheck hcheck6 hcheck7 hgoodF hfull hshp hcy hos hO hbox2 hrng hbeh hshort hAb hInn
            go_wp2_with (at_make; refine wpList_make_full _ rfl _ _ 34 rfl w2.heap.size 22 i1 (.slice none 0 0) 1 Tryz.underlying34 hj hy0 hy1 _ _ _ _ (n.nodes.length + 1) rfl rfl (by first | rfl | simp | (go_simp; rfl)) (by first | rfl | simp | (go_simp; rfl)) ?b2 ?b3 ?b4 ?_)
            case b2 => rw [hy2]; omega
            case b3 => unfold maxLen; omega
            case b4 => exact Nat.le_refl _
            intro w3 hown hgrow
            have hblk := own_cur hown
            rw [made_one] at hblk
            obtain ⟨g, hg⟩ : ∃ g, w2.heap.size = g := ⟨_, rfl⟩
            have hrow : ShpRow w3 g 22 (List.replicate (n.nodes.length + 1) []) := by rw [← hg]; exact ShpRow.new (by simpa [Blk] using hblk)
            have hb3 : Below w2.heap.size w2 w3 := (Below.refl _ w2).grown hgrow (Nat.le_refl _) (by simp)
            have hbw3 := hbw2.trans (hb3.mono hbw2.size)
            have hbox3 := Hbox2.out.below hb3 hw2l
            have hrow0 := hrow.set_ (i := 0) (HInn.out.below hb3 (Nat.le_refl _)) hc hcm (fun a ha => by have := HAb.out a ha; omega)
            rw [show (List.replicate (n.nodes.length + 1) ([] : List Int)).set 0 n.inn = Nt.start n from rfl] at hrow0
            have hbox4 := hbox3.far (p := ⟨g, 0, none⟩) (by simp; omega) (.slice A n.inn.length c)
            have hbw4 := hbw3.setCell (p := ⟨g, 0, none⟩) (by simp; omega) (.slice A n.inn.length c)
            have hO4 := (HO.out.below hb3 (Nat.le_refl _))
            obtain ⟨S0, c0, z0, -⟩ := hrow.at_ (j := 0) (by simp)
            have f0 : w3.frozen? ⟨g, 0, none⟩ = false := by obtain ⟨vs, _, hk, _⟩ := hrow; exact hk.frozen 0
            have hOb : ∀ a, O = some a → a.block ≠ g := fun a ha => by
              obtain ⟨b, off, e, hl, -⟩ := HO.out 0 (by have := Hcy.out; omega)
              rw [ha] at e; injection e with e; subst e; simp; omega
            have hO5 := hO4.set_far (p := ⟨g, 0, none⟩) hOb (.slice A n.inn.length c)
            clear x0 x1
            have x0 : w3.cell? ⟨w.heap.size, 0, none⟩ = some (.slice A n.inn.length c) := by rw [hbox3.cell]; rfl
            have x1 : w3.cell? ⟨w.heap.size, 1, none⟩ = some (.slice N n.nodes.length d) := by rw [hbox3.cell]; rfl
            rw [hg]
            have hgw : w.heap.size < g := by omega
            have hgne : ¬ w.heap.size = g := by omega
            clear hblk hown hgrow hrow hO4 hbw2 hb2 hbw hg
            have Hrow0 := Lib.hid hrow0
            have Hbox3 := Lib.hid hbox3
            have Hbox4 := Lib.hid hbox4
            have HO5 := Lib.hid hO5
            have HOb := Lib.hid hOb
            clear hrow0 hbox3 hbox4 hO5 hOb
            clear HO HInn
            go_wp2_with fail
            clear z0 f0 x0 x1 hb3 hbw3
            go_loopw [9] (fun i wr => ∃ k : Nat, k ≤ os.length ∧ i = .int .i64 k ∧ Blk wr w.heap.size 39 #[.slice A n.inn.length c, .slice N n.nodes.length d] ∧ Below w.heap.size w wr ∧ Ints .i64 wr O os ∧ ∃ sh, Nt.lay n.nodes (Nt.start n) (os.take k) = (sh, 0) ∧ ShpRow wr g 22 sh) (fun i _ => os.length - (intOf i).toNat)
            case atStart => exact ⟨0, Nat.zero_le _, rfl, Hbox4.out, hbw4, HO5.out, Nt.start n, rfl, Hrow0.out⟩
            case round =>
              obtain ⟨k, hk, rfl, hbox, hbw, hO, sh, hlay, hrow⟩ := hrel
              clear Hrow0 Hbox3 Hbox4 HO5 hbw4
              obtain ⟨hgood, hshl⟩ := Hshort.out k hk sh hlay
              have x1 : wr.cell? ⟨w.heap.size, 1, none⟩ = some (.slice N n.nodes.length d) := by rw [hbox.cell]; rfl
              have hol := Hcy.out
              by_cases hlt : k < os.length
              · obtain ⟨b, off, rfl, -, hc⟩ := hO k hlt
                rw [getD_at hlt] at hc
                have hr := Hrng.out _ (List.getElem_mem hlt)
                have hsplit : os = os.take k ++ os[k] :: os.drop (k + 1) := by rw [← List.drop_eq_getElem_cons hlt, List.take_append_drop]
                have hbe := Hbeh.out _ _ _ hsplit
                obtain ⟨j, hj'⟩ : ∃ j : Nat, os[k] = (j : Int) + 1 := ⟨(os[k] - 1).toNat, by omega⟩
                have hjl : j < n.nodes.length := by omega
                have hlay' := fun h : (Nt.layStep n.nodes sh os[k]).2 = 0 => Nt.lay_snoc (id := os[k]) hlay h
                have hfail := fun h : (Nt.layStep n.nodes sh os[k]).2 ≠ 0 => Nt.lay_fail (b := os.drop (k + 1)) (id := os[k]) hlay h
                rw [← List.take_succ_eq_append_getElem hlt] at hlay'
                rw [← hsplit] at hfail
                have hst : Nt.layStep n.nodes sh os[k] = Od.shape n.nodes[j].op n.nodes[j].p (Nt.pick sh n.nodes[j].ins) := by unfold Nt.layStep; rw [hj', Nt.node_at hjl]
                have hiF : Nt.insF n.nodes os[k] = n.nodes[j].ins := by unfold Nt.insF; rw [hj', Nt.node_at hjl]
                rw [hst] at hlay' hfail
                rw [hiF] at hbe
                rw [hj'] at hc hlay'
                rw [show ((j : Int) + 1).toNat = j + 1 by omega] at hlay'
                have hnok := Hok.out.2.2 _ (List.getElem_mem hjl)
                have hrv := Hrop.out _ (List.getElem_mem hjl)
                have hinr := Hins.out _ (List.getElem_mem hjl)
                obtain ⟨b1, off1, S, sc, J, ic, Q, qc, rfl, hNA, hs1, hI1, hq1⟩ := HR.out.2.at_ hjl
                have hgr : ∀ i ∈ n.nodes[j].ins, 0 ≤ i ∧ i.toNat < sh.length ∧ Sh.right (sh.getD i.toNat []) = true := fun i hi => ⟨(hinr i hi).1, by have := hinr i hi; omega, hgood i (hbe i hi)⟩
                generalize n.nodes[j] = v at *
                have hNw := hNA.below hbw
                obtain ⟨⟨y0, y1, y2, y3, y4, y5, y6, y7, y8, y9⟩, -⟩ := hNA.below hbw
                have j1 : IntKind.i64.wrap ((j : Int) + 1 - 1) = (j : Int) := by rw [IntWalk.i64_in _ (by omega)]; omega
                have j2 : (j : Int) < n.nodes.length := by omega
                have j0 : (0 : Int) ≤ (j : Int) := by omega
                have k0 : (0 : Int) ≤ (k : Int) := by omega
                have k1 : (k : Int) < (n.nodes.length : Int) := by omega
                have j4 : (0 : Int) ≤ (j : Int) + 1 := by omega
                have j5 : IntKind.i64.wrap (j : Int) = (j : Int) := IntWalk.i64_in _ (by omega)
                have hcall : ∀ W : World, Ints .i64 W S v.op.s → Ints .i64 W J v.ins → Shps W Q v.p → Shps W (some ⟨g, 0, none⟩) sh → Calls Tryz.prog 34 #[.agg #[.int .i64 v.op.kind, .int .i64 v.op.k, .int .i64 v.op.width, .int .i64 v.op.step, .int .i64 v.op.side, .int .i64 v.op.frm, .int .i64 v.op.to, .slice S v.op.s.length sc, .slice J v.ins.length ic, .slice Q v.p.length qc], .slice (some ⟨g, 0, none⟩) (n.nodes.length + 1) (n.nodes.length + 1)] W (RefP (Od.shape v.op v.p (Nt.pick sh v.ins)) W) := fun W q1 q2 q3 q4 => by
                  rw [← hshl]
                  exact ref11_shape v S J Q sc ic qc g sh.length sh W hnok hrv hs1.1 hs1.2 q1 q2 q3 q4 hgr
                have hrgt := fun h : (Od.shape v.op v.p (Nt.pick sh v.ins)).2 = 0 => right_short (Od.shape_right h)
                generalize Od.shape v.op v.p (Nt.pick sh v.ins) = r at *
                have hcall2 := hcall
                have F1 := Lib.hid hNw.2.1
                have F2 := Lib.hid hNw.2.2.1
                have F3 := Lib.hid hNw.2.2.2
                have F4 := Lib.hid hrow.shps
                have HC1 := Lib.hid hcall
                have HT := Lib.hid hrgt
                have HL := Lib.hid hlay'
                have HFa := Lib.hid hfail
                clear hcall hcall2 hrgt hlay' hfail hNw hNA hgr hinr hnok hrv hst hiF hbe hsplit hj' hgood
                have Hbox := Lib.hid hbox
                have HO := Lib.hid hO
                have Hlay := Lib.hid hlay
                have Hrow := Lib.hid hrow
                clear hbox hO hlay hrow
                have kn : k < n.nodes.length := by omega
                go_wp2_with fail
                go_region_held3 (fun w' => w'.cell? ⟨w.heap.size, 1, none⟩ = some (.slice (some ⟨b1, off1, none⟩) n.nodes.length d) ∧ w'.cell? ⟨b, off + k, none⟩ = some (.int .i64 ((j : Int) + 1)) ∧ w'.cell? ⟨b1, off1 + j * 10, none⟩ = some (.int .i64 v.op.kind) ∧ w'.cell? ⟨b1, off1 + j * 10 + 1, none⟩ = some (.int .i64 v.op.k) ∧ w'.cell? ⟨b1, off1 + j * 10 + 2, none⟩ = some (.int .i64 v.op.width) ∧ w'.cell? ⟨b1, off1 + j * 10 + 3, none⟩ = some (.int .i64 v.op.step) ∧ w'.cell? ⟨b1, off1 + j * 10 + 4, none⟩ = some (.int .i64 v.op.side) ∧ w'.cell? ⟨b1, off1 + j * 10 + 5, none⟩ = some (.int .i64 v.op.frm) ∧ w'.cell? ⟨b1, off1 + j * 10 + 6, none⟩ = some (.int .i64 v.op.to) ∧ w'.cell? ⟨b1, off1 + j * 10 + 7, none⟩ = some (.slice S v.op.s.length sc) ∧ w'.cell? ⟨b1, off1 + j * 10 + 8, none⟩ = some (.slice J v.ins.length ic) ∧ w'.cell? ⟨b1, off1 + j * 10 + 9, none⟩ = some (.slice Q v.p.length qc)) (first | go_keep | (exact ⟨cell_below hb9 x1, cell_below hb9 hc, cell_below hb9 y0, cell_below hb9 y1, cell_below hb9 y2, cell_below hb9 y3, cell_below hb9 y4, cell_below hb9 y5, cell_below hb9 y6, cell_below hb9 y7, cell_below hb9 y8, cell_below hb9 y9⟩))
                  ((go_at_call 34; refine (HC1.out _ (by exact F1.out) (by exact F2.out) (by exact F3.out) (by exact F4.out)).mono ?_; rintro e w9 ⟨S9, c9, rfl, hI9, h91, h92, hb9⟩))
                have hb8 : Below wr.heap.size wr w9 := ⟨hb9.os, hb9.tape, hb9.output, hb9.size, hb9.block⟩
                have hbw9 := hbw.trans (hb8.mono hbw.size)
                clear y0 y1 y2 y3 y4 y5 y6 y7 y8 y9 hb9 x1 HC1 F1 F2 F3 F4
                by_cases hr2 : r.2 = 0
                · have q1 : (r.2 != 0) = false := by simp [hr2]
                  have hrow9 := Hrow.out.below hb8 (Nat.le_refl _)
                  have hbox9 := Hbox.out.below hb8 Hbox.out.lt
                  have hO9 := HO.out.below hb8 (Nat.le_refl _)
                  have hc9 := cell_below hb8 hc
                  have hj1 : j + 1 < sh.length := by omega
                  obtain ⟨Sm, cm, ym, -⟩ := hrow9.at_ hj1
                  have fm : w9.frozen? ⟨g, j + 1, none⟩ = false := by obtain ⟨vs, _, hk, _⟩ := hrow9; exact hk.frozen (j + 1)
                  have hset := hrow9.set_ (i := j + 1) hI9 h91 h92 (hrow9.apart hI9 (HT.out hr2).1)
                  have HS := Lib.hid hset
                  have HBX := Lib.hid (hbox9.far (p := ⟨g, j + 1, none⟩) hgne (.slice S9 r.1.length c9))
                  have hbw5 := hbw9.setCell (p := ⟨g, j + 1, none⟩) (by simp; omega) (.slice S9 r.1.length c9)
                  have HO5 := Lib.hid (hO9.set_far (p := ⟨g, j + 1, none⟩) HOb.out (.slice S9 r.1.length c9))
                  have HL2 := Lib.hid (HL.out hr2)
                  have j3 : ((j : Int) + 1) < ((n.nodes.length + 1 : Nat) : Int) := by omega
                  have j6 : ((j : Int) + 1).toNat = j + 1 := by omega
                  clear hset hrow9 hbox9 hO9 hr2 hc
                  have HI9 := Lib.hid hI9
                  clear hI9
                  go_wp2_with fail
                  go_roundw
                  case rel => exact ⟨k + 1, by omega, by go_num, HBX.out, hbw5, HO5.out, _, HL2.out, HS.out⟩
                  case measure => simp [intOf]; omega
                · have q1 : (r.2 != 0) = true := by simp [hr2]
                  have hck := Hcheck.out
                  rw [HFa.out hr2] at hck
                  have HC := Lib.hid (hck hr2)
                  have HR2 := Lib.hid hr2
                  have HI9 := Lib.hid hI9
                  clear hI9
                  clear hr2 hck
                  go_wp2_with fail
                  go_ret3
                  exact RefCheckP.err HC.out HR2.out hbw9
              · obtain rfl : k = os.length := by omega
                rw [List.take_length] at hlay
                have hc6 := fun h6 => Hcheck6.out (by rw [hlay]) h6
                have hc7 := fun h6 => Hcheck7.out (by rw [hlay]) h6
                have hg2 := HgoodF.out (by rw [hlay])
                have hsh := Hshp.out
                rw [hlay] at hg2 hsh
                have hsh : sh = Nt.shapes n := hsh
                subst hsh
                have hg2 : Nt.Good os (Nt.shapes n) := hg2
                have i2 : ¬ ((os.length : Int) < (n.nodes.length : Int)) := by omega
                have i3 : ¬ (os.length < n.nodes.length) := by omega
                clear hgood hk hlt
                have Hc6 := Lib.hid hc6
                have Hc7 := Lib.hid hc7
                have Hg2 := Lib.hid hg2
                have Hlay := Lib.hid hlay
                have Hrow := Lib.hid hrow
                have Hbox := Lib.hid hbox
                have HO := Lib.hid hO
                clear hc6 hc7 hg2 hlay hrow hbox hO
                have Hol := Lib.hid hol
                clear hol
                go_wp2_with fail
                clear x1
                obtain ⟨w5, rfl⟩ : ∃ w5, w5 = wr := ⟨wr, rfl⟩
                go_loopw [12, 13, 14] (fun l m i wx => ∃ k : Nat, k ≤ n.nodes.length + 1 ∧ i = .int .i64 k ∧ l = .int .i64 ((Nt.unusedTo n.nodes k).getLastD 0) ∧ m = .int .i64 ((Nt.unusedTo n.nodes k).length : Nat) ∧ Below w5.heap.size w5 wx) (fun _ _ i _ => n.nodes.length + 1 - (intOf i).toNat)
                case atStart => exact ⟨0, Nat.zero_le _, rfl, rfl, rfl, Below.refl _ _⟩
                case round =>
                  obtain ⟨k, hk, rfl, rfl, rfl, hbx⟩ := hrel
                  have hbox5 := Hbox.out.below hbx Hbox.out.lt
                  have hbwx := hbw.trans (hbx.mono hbw.size)
                  have x0 : wr.cell? ⟨w.heap.size, 0, none⟩ = some (.slice A n.inn.length c) := by rw [hbox5.cell]; rfl
                  have x1 : wr.cell? ⟨w.heap.size, 1, none⟩ = some (.slice N n.nodes.length d) := by rw [hbox5.cell]; rfl
                  have hul := Nt.unusedTo_len n.nodes k
                  by_cases hlt : k ≤ n.nodes.length
                  · have HS := Lib.hid (Nt.unusedTo_succ n.nodes k)
                    obtain ⟨L0, hL0⟩ : ∃ L0, (Nt.unusedTo n.nodes k).getLastD 0 = L0 := ⟨_, rfl⟩
                    obtain ⟨c0, hc0⟩ : ∃ c0, (Nt.unusedTo n.nodes k).length = c0 := ⟨_, rfl⟩
                    rw [hc0] at hul
                    rw [hL0, hc0]
                    have hcu := Nt.count_used n.nodes (k : Int)
                    have hcall := ref11_users A N c d n (k : Int) wr Hok.out (HR.out.below hbwx (Nat.le_refl _))
                    generalize Nt.count n.nodes (k : Int) = cn at *
                    have HL0 := Lib.hid hL0
                    have Hc0 := Lib.hid hc0
                    have Hcu := Lib.hid hcu
                    have Hcall := Lib.hid hcall
                    have Hbox5 := Lib.hid hbox5
                    clear hL0 hc0 hcu hcall hbox5
                    go_wp2_with fail
                    refine (Hcall.out).mono ?_
                    rintro e w6 ⟨rfl, hb6⟩
                    have hbx6 := hbx.trans (hb6.mono hbx.size)
                    clear x0 x1
                    by_cases hz : cn = 0
                    · have HU := Lib.hid (Hcu.out.1 hz)
                      have e1 : ((cn : Int) == 0) = true := by simp [hz]
                      have e2 : (cn == 0) = true := by simp [hz]
                      subst hz
                      go_wp2_with fail
                      go_roundw
                      case rel => exact ⟨k + 1, by omega, by go_num, by rw [HS.out, HU.out]; simp, by rw [HS.out, HU.out, if_neg (by simp), List.length_append, Hc0.out]; go_num, hbx6⟩
                      case measure => simp [intOf]; omega
                    · have HU := Lib.hid (show Nt.isUsed n.nodes (k : Int) = true by
                        cases h : Nt.isUsed n.nodes (k : Int)
                        · exact absurd (Hcu.out.2 h) hz
                        · rfl)
                      have e1 : ((cn : Int) == 0) = false := by simp; omega
                      have e2 : (cn == 0) = false := by simp; omega
                      clear hz
                      go_wp2_with fail
                      go_roundw
                      case rel => exact ⟨k + 1, by omega, by go_num, by rw [HS.out, HU.out, if_pos rfl, HL0.out], by rw [HS.out, HU.out, if_pos rfl, Hc0.out], hbx6⟩
                      case measure => simp [intOf]; omega
                  · obtain rfl : k = n.nodes.length + 1 := by omega
                    rw [Nt.unusedTo_all]
                    have i4 : ¬ (((n.nodes.length + 1 : Nat) : Int) ≤ (n.nodes.length : Int)) := by omega
                    have hl1 : (Nt.unused n.nodes).getLastD 0 = Nt.loss n.nodes := rfl
                    rw [hl1]
                    have hlok : Nt.lossOk n.nodes = decide ((Nt.unused n.nodes).length = 1 ∧ Nt.loss n.nodes ≠ 0) := rfl
                    rw [Nt.unusedTo_all] at hul
                    clear hl1
                    by_cases hu1 : (Nt.unused n.nodes).length = 1
                    rotate_left
                    · have HC := Lib.hid (Hc6.out (by rw [hlok]; simp [hu1]))
                      have e1 : (((Nt.unused n.nodes).length : Int) != 1) = true := by rw [bne_iff_ne]; omega
                      have e2 : ((Nt.unused n.nodes).length != 1) = true := by rw [bne_iff_ne]; omega
                      generalize (Nt.unused n.nodes).length = ul at *
                      have Hlok := Lib.hid hlok
                      clear hlok
                      clear hu1
                      go_wp2_with fail
                      go_ret3
                      exact RefCheckP.err HC.out (by omega) hbwx
                    · by_cases hl0 : Nt.loss n.nodes = 0
                      · have HC := Lib.hid (Hc6.out (by rw [hlok]; simp [hl0]))
                        rw [hu1, hl0]
                        clear hu1 hl0 hlok
                        go_wp2_with fail
                        go_ret3
                        exact RefCheckP.err HC.out (by omega) hbwx
                      · have hlo : Nt.lossOk n.nodes = true := by rw [hlok]; simp [hu1, hl0]
                        have hlm := (Nt.loss_mem hlo).2
                        have hch := Hc7.out hlo
                        obtain ⟨l, hl⟩ : ∃ l : Nat, Nt.loss n.nodes = (l : Int) := ⟨(Nt.loss n.nodes).toNat, by omega⟩
                        have Hl := Lib.hid hl
                        rw [hu1]
                        rw [hl] at hlm hch hl0 ⊢
                        rw [Int.toNat_natCast] at hch
                        have hll : l < (Nt.shapes n).length := by omega
                        have hgl := Hg2.out (l : Int) (.inr ((Hfull.out _).2 (by omega)))
                        rw [Int.toNat_natCast, gets_at hll] at hgl
                        rw [gets_at hll] at hch
                        have hrow5 := Hrow.out.below hbx (Nat.le_refl _)
                        obtain ⟨Sl, sc, hcS, hIS, hs1, hs2, -⟩ := hrow5.at_ hll
                        have hsz := ref03_size Sl sc _ wr hgl hIS
                        have e1 : ((l : Int) == 0) = false := by simp; omega
                        have e1' : (l == 0) = false := by simp; omega
                        have l0 : (0 : Int) ≤ (l : Int) := by omega
                        have l1 : (l : Int) < ((n.nodes.length + 1 : Nat) : Int) := by omega
                        generalize (Nt.shapes n)[l] = s at *
                        have Hrow5 := Lib.hid hrow5
                        have Hch := Lib.hid hch
                        have Hl := Lib.hid hl
                        have Hsz := Lib.hid hsz
                        have HIS := Lib.hid hIS
                        have Hgl := Lib.hid hgl
                        have Hlo := Lib.hid hlo
                        have Hlok := Lib.hid hlok
                        clear hrow5 hch hl hsz hIS hgl hlo hlok
                        clear hu1 hl0
                        go_wp2_with fail
                        refine (Hsz.out).mono ?_
                        rintro e w7 ⟨rfl, rfl⟩
                        by_cases hp : Safe.prod s = 1
                        · have HC := Lib.hid (show Nt.check n = 0 by rw [Hch.out, if_neg (by simp [hp])])
                          have e2 : (Safe.prod s != 1) = false := by simp [hp]
                          clear hp
                          go_wp2_with fail
                          go_ret3
                          exact ⟨hbwx, .inl ⟨HC.out, g, by rw [Hl.out]; rfl, by omega, Hrow5.out⟩⟩
                        · have HC := Lib.hid (show Nt.check n = 23 by rw [Hch.out, if_pos hp])
                          have e2 : (Safe.prod s != 1) = true := by simp [hp]
                          clear hp
                          go_wp2_with fail
                          go_ret3
                          exact RefCheckP.err HC.out (by omega) hbwx
end Go.Proofs.YtnffjfjhbjeaiaaGreatDoor
/- The reference of layer 13: contracts. -/
namespace Go.Proofs.YtnffjfjhbjeaiaaGreatDoor
open Go.RowKit
set_option maxRecDepth 20000 in
theorem ref13_sum (A : Option Addr) (c : Nat) (l : List Int) (w : World) (hl : l.length ≤ 1000000) (hb : ∀ x ∈ l, 0 ≤ x ∧ x ≤ 4294967296) (hI : Ints .i64 w A l) :
    Calls Tryz.prog 16 #[.slice A l.length c] w fun e w' => e = .returned (.int .i64 (Safe.sum l)) ∧ w = w' := by
  have hs : ∀ k, 0 ≤ Safe.sum (l.take k) ∧ Safe.sum (l.take k) ≤ 4294967296000000 := fun k => by
    have h := Nt.sum_bd (l := l.take k) fun x hx => hb x (List.mem_of_mem_take hx)
    have h2 : ((l.take k).length : Int) * 4294967296 ≤ 1000000 * 4294967296 := Int.mul_le_mul_of_nonneg_right (by simp; omega) (by omega)
    omega
  have hsn : ∀ k (hk : k < l.length), Safe.sum (l.take (k + 1)) = Safe.sum (l.take k) + l[k] := fun k hk => by
    rw [List.take_succ_eq_append_getElem hk]
    have : ∀ (a : List Int) (x : Int), Safe.sum (a ++ [x]) = Safe.sum a + x := fun a x => by
      induction a with
      | nil => simp [Safe.sum]
      | cons y r ih => simp only [List.cons_append, Safe.sum, ih]; omega
    exact this _ _
  have Hb := Lib.hid hb
  have HI := Lib.hid hI
  have Hs := Lib.hid hs
  have Hsn := Lib.hid hsn
  clear hb hI hs hsn
  go_enter Tryz.func16, Tryz.ntmps16
  go_wp2_with fail
  go_loop [3, 4] (fun t i => ∃ k : Nat, k ≤ l.length ∧ i = .int .i64 (k : Int) ∧ t = .int .i64 (Safe.sum (l.take k))) (fun _ i => l.length - (intOf i).toNat)
  case atStart => exact ⟨0, Nat.zero_le _, rfl, rfl⟩
  case round =>
    obtain ⟨k, hk, rfl, rfl⟩ := hrel
    by_cases hlt : k < l.length
    · obtain ⟨b, off, rfl, -, hc⟩ := HI.out k hlt
      rw [getD_at hlt] at hc
      have h1 := Hs.out k
      have h2 := Hb.out _ (List.getElem_mem hlt)
      have h3 := Hsn.out k hlt
      generalize Safe.sum (l.take k) = t at *
      generalize l[k] = x at *
      have k0 : (k : Int) < (l.length : Int) := by omega
      have H3 := Lib.hid h3
      clear h3
      go_wp2_with fail
      go_round
      case rel => exact ⟨k + 1, by omega, by go_num, by rw [H3.out]⟩
      case measure => simp [intOf]; omega
    · obtain rfl : k = l.length := by omega
      rw [List.take_length]
      go_wp2_with fail
      go_ret
      exact ⟨rfl, rfl⟩
/-- A sorted row that is the call's own. -/
def SortPostO (os : List Int) (w : World) (e : Ending) (w' : World) : Prop :=
  ∃ A c, e = .returned (.slice A os.length c) ∧ Ints .i64 w' A os ∧ os.length ≤ c ∧ c ≤ 9223372036854775807 ∧ (∀ a, A = some a → w.heap.size ≤ a.block) ∧ Below w.heap.size w w'
set_option maxRecDepth 20000 in
set_option maxHeartbeats 16000000 in
theorem ref13_costO (A N : Option Addr) (c d : Nat) (n : NetD) (w : World) (hok : n.ok) (hR : NetR w A N n) (hd : n.nodes.length ≤ d) (hc : n.inn.length ≤ c) (hcm : c ≤ 9223372036854775807) (hck : Nt.check n = 0) :
    Calls Tryz.prog 17 #[.agg #[.slice A n.inn.length c, .slice N n.nodes.length d]] w (SortPostO (Nt.costs n) w) := by
  obtain ⟨i0, hi, hz0, hz1, hz2⟩ := info_parts int_info
  have hnl := (Nt.check_ok hck).2.1
  have hk0 := Blk.new w 39 #[.slice A n.inn.length c, .slice N n.nodes.length d]
  have hl0 : Later w (w.alloc (.cells #[.slice A n.inn.length c, .slice N n.nodes.length d] 39)) := (Later.refl w).alloc _
  have HR := Lib.hid hR
  have Hl0 := Lib.hid hl0
  have Hok := Lib.hid hok
  have Hck := Lib.hid hck
  have Hk0 := Lib.hid hk0
  clear hR hl0 hok hck hk0
  go_enter Tryz.func17, Tryz.ntmps17
  go_wp2_with fail
  generalize w.alloc (.cells #[.slice A n.inn.length c, .slice N n.nodes.length d] 39) = w1 at *
  refine (ref11_check A N c d n w1 Hok.out (HR.out.below Hl0.out (Nat.le_refl _)) hd hc hcm).mono ?_
  rintro e w2 ⟨hb2, ⟨-, g, rfl, -, hrow⟩ | ⟨hc', -⟩⟩
  rotate_left
  · exact absurd Hck.out hc'
  have hl2 := Hl0.out.call hb2
  have hk2 := (show Later w1 w2 from hb2).blk Hk0.out
  have hsl := Nt.shapes_len Hck.out
  have hnode := fun k hk => @Nt.shapes_node n Hck.out k hk
  have hsn := fun k hk => @Nt.costsTo_succ n k hk
  clear hb2
  generalize Nt.shapes n = sh at *
  rw [← hsl]
  have hl2a : Later w2 (w2.alloc (.cells #[.int .i64 0] 3)) := (Later.refl w2).alloc _
  have hown0 : (w2.alloc (.cells #[.int .i64 0] 3)).ownsRow w2.heap.size 3 1 (.slice (some ⟨w2.heap.size, 0, none⟩) 1 1) (0 + 1) (intV (0 :: Nt.costsTo n 0)) := ⟨rfl, .inr ⟨w2.heap.size, 1, #[.int .i64 0], rfl, Nat.le_refl _, heap_alloc_new w2 _, Nat.le_refl _, by decide, rfl, rfl⟩⟩
  have Hl2 := Lib.hid hl2
  have Hrow := Lib.hid hrow
  have Hsl := Lib.hid hsl
  have Hnode := Lib.hid hnode
  have Hsn := Lib.hid hsn
  have Hk2 := Lib.hid hk2
  have Hl2a := Lib.hid hl2a
  have Hown0 := Lib.hid hown0
  clear hl2 hrow hsl hnode hsn hk2 hl2a hown0
  go_wp2_with fail
  go_loopw [6, 7] (fun o i wx => ∃ k : Nat, k ≤ n.nodes.length ∧ i = .int .i64 (k : Int) ∧ wx.ownsRow w2.heap.size 3 1 o (k + 1) (intV (0 :: Nt.costsTo n k)) ∧ Later w2 wx) (fun _ i _ => n.nodes.length - (intOf i).toNat)
  case atStart => exact ⟨0, Nat.zero_le _, rfl, Hown0.out, Hl2a.out⟩
  case round =>
    obtain ⟨k, hk, rfl, hown, hlw⟩ := hrel
    obtain ⟨Ao, co, rfl⟩ := own_form hown
    clear Hown0 Hl2a
    have x1 : w2.cell? ⟨w.heap.size, 1, none⟩ = some (.slice N n.nodes.length d) := by rw [Hk2.out.cell]; rfl
    by_cases hlt : k < n.nodes.length
    · obtain ⟨b1, off1, S, sc, I, ic, Q, qc, rfl, hNA, -, -, -⟩ := HR.out.2.at_ hlt
      have hnd := Hnode.out k hlt
      have hcs := Hsn.out k hlt
      have hks : k + 1 < sh.length := by rw [Hsl.out]; omega
      have ed : sh.getD (k + 1) [] = sh[k + 1] := gets_at' hks
      rw [ed] at hnd hcs
      have hcall := fun (W : World) (T : Option Addr) (tc : Nat) => @ref10_cost n.nodes[k].op S Q T sc qc tc n.nodes[k].p (Nt.pick sh n.nodes[k].ins) W (by rw [hnd])
      rw [hnd] at hcall
      obtain ⟨T, tc, yt, hT, -⟩ := Hrow.out.at_ hks
      obtain ⟨⟨y0, y1, y2, y3, y4, y5, y6, y7, y8, y9⟩, -, -, hQ⟩ := hNA.below Hl2.out
      have hsnk : intV (0 :: Nt.costsTo n (k + 1)) = intV (0 :: Nt.costsTo n k) ++ [.int .i64 (Od.costV n.nodes[k].op n.nodes[k].p sh[k + 1])] := by rw [hcs]; simp [intV]
      generalize n.nodes[k] = v at *
      generalize sh[k + 1] = s at *
      generalize Od.costV v.op v.p s = cv at *
      generalize intV (0 :: Nt.costsTo n k) = vs at *
      have hT2 := fun (W : World) (h : Later w2 W) => hT.below h (Nat.le_refl _)
      have hQ2 := fun (W : World) (h : Later w2 W) => hQ.below h (Nat.le_refl _)
      have Hown := Lib.hid hown
      have Hlw := Lib.hid hlw
      have Hcall := Lib.hid hcall
      have HT2 := Lib.hid hT2
      have HQ2 := Lib.hid hQ2
      have Hsnk := Lib.hid hsnk
      clear hown hlw hcall hT2 hQ2 hsnk
      have v0 := x1
      have u0 := Hlw.out.cell v0
      have v1 := y0
      have u1 := Hlw.out.cell v1
      have v2 := y1
      have u2 := Hlw.out.cell v2
      have v3 := y2
      have u3 := Hlw.out.cell v3
      have v4 := y3
      have u4 := Hlw.out.cell v4
      have v5 := y4
      have u5 := Hlw.out.cell v5
      have v6 := y5
      have u6 := Hlw.out.cell v6
      have v7 := y6
      have u7 := Hlw.out.cell v7
      have v8 := y7
      have u8 := Hlw.out.cell v8
      have v9 := y9
      have u9 := Hlw.out.cell v9
      have v10 := yt
      have u10 := Hlw.out.cell v10
      clear hnd hcs ed hNA hT hQ y0 y1 y2 y3 y4 y5 y6 y7 y8 y9 x1 yt
      have k0 : (0 : Int) ≤ (k : Int) := by omega
      have k1 : (k : Int) < (n.nodes.length : Int) := by omega
      have k2 : (k : Int) + 1 < (sh.length : Int) := by omega
      have k3 : IntKind.i64.wrap ((k : Int) + 1) = (k : Int) + 1 := IntWalk.i64_in _ (by omega)
      have k4 : ((k : Int) + 1).toNat = k + 1 := by omega
      have k5 : (0 : Int) ≤ (k : Int) + 1 := by omega
      have hszw := Hlw.out.size
      go_wp2_with fail
      go_region_held3 (fun W => W.cell? ⟨w.heap.size, 1, none⟩ = some (.slice (some ⟨b1, off1, none⟩) n.nodes.length d) ∧ W.cell? ⟨b1, off1 + k * 10, none⟩ = some (.int .i64 v.op.kind) ∧ W.cell? ⟨b1, off1 + k * 10 + 1, none⟩ = some (.int .i64 v.op.k) ∧ W.cell? ⟨b1, off1 + k * 10 + 2, none⟩ = some (.int .i64 v.op.width) ∧ W.cell? ⟨b1, off1 + k * 10 + 3, none⟩ = some (.int .i64 v.op.step) ∧ W.cell? ⟨b1, off1 + k * 10 + 4, none⟩ = some (.int .i64 v.op.side) ∧ W.cell? ⟨b1, off1 + k * 10 + 5, none⟩ = some (.int .i64 v.op.frm) ∧ W.cell? ⟨b1, off1 + k * 10 + 6, none⟩ = some (.int .i64 v.op.to) ∧ W.cell? ⟨b1, off1 + k * 10 + 7, none⟩ = some (.slice S v.op.s.length sc) ∧ W.cell? ⟨b1, off1 + k * 10 + 9, none⟩ = some (.slice Q v.p.length qc) ∧ W.cell? ⟨g, k + 1, none⟩ = some (.slice T s.length tc)) (first | (with_reducible exact ⟨u0, u1, u2, u3, u4, u5, u6, u7, u8, u9, u10⟩) | exact ⟨Later.cell (show Later w2 _ from HL4.out) v0, Later.cell (show Later w2 _ from HL4.out) v1, Later.cell (show Later w2 _ from HL4.out) v2, Later.cell (show Later w2 _ from HL4.out) v3, Later.cell (show Later w2 _ from HL4.out) v4, Later.cell (show Later w2 _ from HL4.out) v5, Later.cell (show Later w2 _ from HL4.out) v6, Later.cell (show Later w2 _ from HL4.out) v7, Later.cell (show Later w2 _ from HL4.out) v8, Later.cell (show Later w2 _ from HL4.out) v9, Later.cell (show Later w2 _ from HL4.out) v10⟩ | exact ⟨Later.cell (show Later w2 _ by repeat (first | (with_reducible exact Hlw.out) | (with_reducible apply Later.drew) | (with_reducible apply Later.alloc) | (with_reducible refine Later.call ?_ (by assumption)))) v0, Later.cell (show Later w2 _ by repeat (first | (with_reducible exact Hlw.out) | (with_reducible apply Later.drew) | (with_reducible apply Later.alloc) | (with_reducible refine Later.call ?_ (by assumption)))) v1, Later.cell (show Later w2 _ by repeat (first | (with_reducible exact Hlw.out) | (with_reducible apply Later.drew) | (with_reducible apply Later.alloc) | (with_reducible refine Later.call ?_ (by assumption)))) v2, Later.cell (show Later w2 _ by repeat (first | (with_reducible exact Hlw.out) | (with_reducible apply Later.drew) | (with_reducible apply Later.alloc) | (with_reducible refine Later.call ?_ (by assumption)))) v3, Later.cell (show Later w2 _ by repeat (first | (with_reducible exact Hlw.out) | (with_reducible apply Later.drew) | (with_reducible apply Later.alloc) | (with_reducible refine Later.call ?_ (by assumption)))) v4, Later.cell (show Later w2 _ by repeat (first | (with_reducible exact Hlw.out) | (with_reducible apply Later.drew) | (with_reducible apply Later.alloc) | (with_reducible refine Later.call ?_ (by assumption)))) v5, Later.cell (show Later w2 _ by repeat (first | (with_reducible exact Hlw.out) | (with_reducible apply Later.drew) | (with_reducible apply Later.alloc) | (with_reducible refine Later.call ?_ (by assumption)))) v6, Later.cell (show Later w2 _ by repeat (first | (with_reducible exact Hlw.out) | (with_reducible apply Later.drew) | (with_reducible apply Later.alloc) | (with_reducible refine Later.call ?_ (by assumption)))) v7, Later.cell (show Later w2 _ by repeat (first | (with_reducible exact Hlw.out) | (with_reducible apply Later.drew) | (with_reducible apply Later.alloc) | (with_reducible refine Later.call ?_ (by assumption)))) v8, Later.cell (show Later w2 _ by repeat (first | (with_reducible exact Hlw.out) | (with_reducible apply Later.drew) | (with_reducible apply Later.alloc) | (with_reducible refine Later.call ?_ (by assumption)))) v9, Later.cell (show Later w2 _ by repeat (first | (with_reducible exact Hlw.out) | (with_reducible apply Later.drew) | (with_reducible apply Later.alloc) | (with_reducible refine Later.call ?_ (by assumption)))) v10⟩)
        (first
        | (go_at_call 49; refine (Hcall.out _ T tc (HQ2.out _ (show Later w2 _ by repeat (first | (with_reducible exact Hlw.out) | (with_reducible apply Later.drew) | (with_reducible apply Later.alloc)))) (HT2.out _ (show Later w2 _ by repeat (first | (with_reducible exact Hlw.out) | (with_reducible apply Later.drew) | (with_reducible apply Later.alloc))))).mono ?_; rintro e w3 ⟨rfl, hb3⟩; have HL3 := Lib.hid (show Later wr w3 by repeat (first | (with_reducible exact Later.refl _) | (with_reducible apply Later.drew) | (with_reducible refine Later.call ?_ hb3))))
        | ((refine step_append_lies _ (by rfl) _ _ _ (by rfl) w2.heap.size 3 i0 _ 1 8 Tryz.underlying22 hi hz0 hz1 hz2 rfl (by omega) (.slice Ao (k + 1) co) (k + 1) vs (by rfl) (ownsRow_new (ownsRow_keep (T := 82) Hown.out (by decide) (Keep.of_later HL3.out)) (.cells #[.int .i64 cv] 3)) ⟨w3.heap.size, 0, none⟩ 1 1 [.int .i64 cv] (by rfl) (by rfl) (one_new w3 _ _) (by simp [Value.oneCell']) (by omega) (by unfold maxLen; omega) (by omega) (by have := HL3.out.size; simp; omega) (w3.heap.size + 1) (by simp) ?_; intro gg cap w4 hown4 hgrow hat hlt4; have HL4 := Lib.hid (show Later w2 w4 from Below.grown ((Hlw.out.trans HL3.out).alloc (.cells #[.int .i64 cv] 3)) hgrow (by have := HL3.out.size; simp; omega) (fun b hb => (Hown.out.lt b hb).1)))))
      rw [← Hsnk.out] at hown4
      have Hown4 := Lib.hid hown4
      clear hown4
      clear hgrow hat k2 k3 k4 k5 u0 u1 u2 u3 u4 u5 u6 u7 u8 u9 u10 v0 v1 v2 v3 v4 v5 v6 v7 v9 v10
      go_wp2_with fail
      go_roundw
      case rel => exact ⟨k + 1, by omega, by go_num, Hown4.out, HL4.out⟩
      case measure => simp [intOf]; omega
    · obtain rfl : k = n.nodes.length := by omega
      have hcl : (Nt.costs n).length = n.nodes.length + 1 := by simp [Nt.costs, Nt.costsTo_len]
      have hown2 : wr.ownsRow w2.heap.size 3 1 (.slice Ao (n.nodes.length + 1) co) (n.nodes.length + 1) (intV (Nt.costs n)) := hown
      rw [← hcl] at hown2 ⊢
      obtain ⟨q1, q2, q3⟩ := own_ints hown2
      have hl := Hl2.out.trans hlw
      have x1' := hlw.cell x1
      have q4 : ∀ a, Ao = some a → w.heap.size ≤ a.block := fun a q => by have h1 := (hown2.lt a.block (by rw [q]; rfl)).1; have h2 := Hl2.out.size; omega
      have Hown := Lib.hid hown
      have Hown2 := Lib.hid hown2
      have Hq1 := Lib.hid q1
      have Hq2 := Lib.hid q2
      have Hq3 := Lib.hid q3
      have Hq4 := Lib.hid q4
      have Hlw := Lib.hid hlw
      have Hl := Lib.hid hl
      have Hcl := Lib.hid hcl
      clear hown hown2 q1 q2 q3 q4 hlw hl hcl
      clear x1
      go_wp2_with fail
      go_ret
      exact ⟨Ao, co, rfl, Hq1.out, Hq2.out, Hq3.out, Hq4.out, Hl.out⟩
theorem ref13_cost (A N : Option Addr) (c d : Nat) (n : NetD) (w : World) (hok : n.ok) (hR : NetR w A N n) (hd : n.nodes.length ≤ d) (hc : n.inn.length ≤ c) (hcm : c ≤ 9223372036854775807) (hck : Nt.check n = 0) :
    Calls Tryz.prog 17 #[.agg #[.slice A n.inn.length c, .slice N n.nodes.length d]] w (SortPost (Nt.costs n) w) :=
  (ref13_costO A N c d n w hok hR hd hc hcm hck).mono fun _ _ ⟨A, c, h1, h2, h3, h4, _, h5⟩ => ⟨A, c, h1, h2, h3, h4, h5⟩
end Go.Proofs.YtnffjfjhbjeaiaaGreatDoor

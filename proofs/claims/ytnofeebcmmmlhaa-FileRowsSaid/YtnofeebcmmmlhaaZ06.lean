/- Lemmas for the statements of this seat: contracts of functions and the plain laws. -/
import Derived.BigQuiet
import Derived.Deep.DeepCutAuto
import Derived.Deep.RegionHeld3
import Derived.Lib.SlBytesConst
import Derived.WalkSpells
import Derived.Test.YtnofeebcmmmlhaaZ05
set_option linter.unusedVariables false
/- Layer 12 (file): (*Reader).node: contract. -/
namespace Go.Proofs.Ytnofeebcmmmlhaa
open Go.RowKit
theorem RdO.fr2 {S : Nat → Prop} {r : Nat} {st : Option (List Int)} {w w' : World} (h : RdO r st w) (hf : Fr S w w') (hS : ∀ b, S b → r < b) : RdO r st w' := by
  have key : ∀ bs sh, Rd r bs sh w → Rd r bs sh w' := fun bs sh ⟨A, c, hb, hI, hc, hne⟩ =>
    ⟨A, c, hf.blk hb (fun h => by have := hS _ h; omega), hf.ints hI (fun a e h => by have := hS _ h; have := hne a e; omega), hc, hne⟩
  cases st with
  | none => obtain ⟨bs, h, h2⟩ := h; exact ⟨bs, key _ _ h, h2⟩
  | some bs => exact ⟨key _ _ h.1, h.2⟩
/-- A row of numbers of the call's own, from B on, below C. -/
def IRow (B C : Nat) (w : World) (A : Option Addr) (c : Nat) (zs : List Int) : Prop :=
  w.ownsRow B 3 1 (.slice A zs.length c) zs.length (zs.map (Value.int .i64)) ∧ ∀ b, (Value.slice A zs.length c).ownBlock = some b → b < C
theorem IRow.agree {B C : Nat} {w w' : World} {A : Option Addr} {c : Nat} {zs : List Int} (h : IRow B C w A c zs) (ha : ∀ b, B ≤ b → b < C → w'.heap[b]? = w.heap[b]?) : IRow B C w' A c zs :=
  ⟨ownsRow_heap h.1 fun g hg => ha g (h.1.lt g hg).1 (h.2 g hg), h.2⟩
theorem IRow.fr {S : Nat → Prop} {B C : Nat} {w w' : World} {A : Option Addr} {c : Nat} {zs : List Int} (h : IRow B C w A c zs) (hf : Fr S w w') (hC : C ≤ w.heap.size) (hS : ∀ b, B ≤ b → b < C → ¬ S b) : IRow B C w' A c zs :=
  h.agree fun b h1 h2 => hf.2 b (by omega) (hS b h1 h2)
theorem IRow.ints {B C : Nat} {w : World} {A : Option Addr} {c : Nat} {zs : List Int} (h : IRow B C w A c zs) : Ints .i64 w A zs ∧ zs.length ≤ c ∧ c ≤ 9223372036854775807 := own_ints h.1
theorem IRow.of_own {B : Nat} {w : World} {v : Value} {zs : List Int} (h : w.ownsRow B 3 1 v zs.length (zs.map (Value.int .i64))) : ∃ A c, v = .slice A zs.length c ∧ IRow B w.heap.size w A c zs := by
  obtain ⟨A, c, rfl⟩ := own_form h
  exact ⟨A, c, rfl, h, fun b hb => (h.lt b hb).2⟩
def nodeZ : Array Value := #[.int .i64 0, .int .i64 0, .int .i64 0, .int .i64 0, .int .i64 0, .int .i64 0, .int .i64 0, .slice none 0 0, .slice none 0 0, .slice none 0 0]
theorem box10 {w : World} {g : Nat} (h : Blk w g 68 nodeZ) (a0 a1 a2 a3 a4 a5 a6 a7 a8 a9 : Value) :
    Fr (fun b => b = g) w ((((((((((w.setCell ⟨g, 0, none⟩ a0).setCell ⟨g, 1, none⟩ a1).setCell ⟨g, 2, none⟩ a2).setCell ⟨g, 3, none⟩ a3).setCell ⟨g, 4, none⟩ a4).setCell ⟨g, 5, none⟩ a5).setCell ⟨g, 6, none⟩ a6).setCell ⟨g, 7, none⟩ a7).setCell ⟨g, 8, none⟩ a8).setCell ⟨g, 9, none⟩ a9) ∧
    Blk ((((((((((w.setCell ⟨g, 0, none⟩ a0).setCell ⟨g, 1, none⟩ a1).setCell ⟨g, 2, none⟩ a2).setCell ⟨g, 3, none⟩ a3).setCell ⟨g, 4, none⟩ a4).setCell ⟨g, 5, none⟩ a5).setCell ⟨g, 6, none⟩ a6).setCell ⟨g, 7, none⟩ a7).setCell ⟨g, 8, none⟩ a8).setCell ⟨g, 9, none⟩ a9) g 68 #[a0, a1, a2, a3, a4, a5, a6, a7, a8, a9] := by
  refine ⟨?_, ?_⟩
  · have s : ∀ {W : World} (hW : Fr (fun b => b = g) w W) (i : Nat) (u : Value), Fr (fun b => b = g) w (W.setCell ⟨g, i, none⟩ u) := fun hW i u => hW.setCell (p := ⟨g, i, none⟩) (fun _ => rfl) u
    exact s (s (s (s (s (s (s (s (s (s (Fr.refl _ w) 0 a0) 1 a1) 2 a2) 3 a3) 4 a4) 5 a5) 6 a6) 7 a7) 8 a8) 9 a9
  · have := (((((((((h.set_ 0 a0).set_ 1 a1).set_ 2 a2).set_ 3 a3).set_ 4 a4).set_ 5 a5).set_ 6 a6).set_ 7 a7).set_ 8 a8).set_ 9 a9
    simpa [nodeZ] using this
/-- A node that is being read: the reader, the two boxes. -/
def NodeU (r g : Nat) (cs : List Value) (w : World) (st : Fn.St) (wr : World) : Prop :=
  RdO r st wr ∧ Fr (fun b => b = r) w wr ∧ Blk wr (g + 1) 68 cs.toArray ∧ Blk wr g 68 nodeZ
theorem NodeU.grown {r g : Nat} {cs : List Value} {w wr w' : World} {st st' : Fn.St} (h : NodeU r g cs w st wr) (hr : r < g) (hR : RdO r st' w') (hg : wr.grownBy w' (some r)) : NodeU r g cs w st' w' := by
  obtain ⟨_, h2, h3, h4⟩ := h
  exact ⟨hR, h2.grown hg (fun j e _ => by injection e with e; exact e.symm), h3.grown hg (by intro e; injection e with e; omega), h4.grown hg (by intro e; injection e with e; omega)⟩
theorem NodeU.later {r g : Nat} {cs : List Value} {w wr w' : World} {st : Fn.St} (h : NodeU r g cs w st wr) (hB : Below wr.heap.size wr w') : NodeU r g cs w st w' := by
  obtain ⟨h1, h2, h3, h4⟩ := h
  refine ⟨h1.fr2 (S := fun b => wr.heap.size ≤ b) (Fr.of_below hB (fun b hb _ => hb)) (fun b hb => Nat.lt_of_lt_of_le h1.lt hb), h2.trans' (Fr.of_below (S := fun _ => False) hB (fun b hb _ => hb)) (fun _ _ h => h.elim), h3.below hB h3.lt, h4.below hB h4.lt⟩
theorem NodeU.row {r g B : Nat} {cs : List Value} {w wr w' : World} {st : Fn.St} {row : Option Nat} (h : NodeU r g cs w st wr) (hr : r < g) (hw : w.heap.size ≤ g) (hB : g + 1 < B) (hg : wr.grownBy w' row) (hrow : ∀ b, row = some b → B ≤ b) : NodeU r g cs w st w' := by
  obtain ⟨h1, h2, h3, h4⟩ := h
  exact ⟨h1.grown hg (fun k e => by have := hrow k e; omega), h2.grown hg (fun j e hj => by have := hrow j e; omega), h3.grown hg (fun e => by have := hrow _ e.symm; omega), h4.grown hg (fun e => by have := hrow _ e.symm; omega)⟩
theorem NodeU.set {r g : Nat} {cs : List Value} {w wr : World} {st : Fn.St} (h : NodeU r g cs w st wr) (hr : r < g) (hw : w.heap.size ≤ g) (i : Nat) (v : Value) : NodeU r g (cs.set i v) w st (wr.setCell ⟨g + 1, i, none⟩ v) := by
  obtain ⟨h1, h2, h3, h4⟩ := h
  refine ⟨h1.fr2 (S := fun b => b = g + 1) ((Fr.refl (fun b => b = g + 1) _).setCell (p := ⟨g + 1, i, none⟩) (fun _ => rfl) _) (fun b e => by omega), h2.setCell (p := ⟨g + 1, i, none⟩) (fun h => absurd h (by simp; omega)) _, ?_, h4.far (p := ⟨g + 1, i, none⟩) (by simp) _⟩
  simpa using h3.set_ i v
theorem NodeU.drew {r g : Nat} {cs : List Value} {w wr : World} {st : Fn.St} (h : NodeU r g cs w st wr) : NodeU r g cs w st wr.drew := ⟨h.1.drew, h.2.1.drew, h.2.2.1, h.2.2.2⟩
theorem ptr_cell {w : World} {g h : Nat} (hh : Blk w h 86 #[.pointer (some ⟨g, 2, none⟩), .pointer (some ⟨g, 3, none⟩), .pointer (some ⟨g, 4, none⟩), .pointer (some ⟨g, 5, none⟩), .pointer (some ⟨g, 6, none⟩)]) {k : Nat} (hk : k < 5) : w.cell? ⟨h, k, none⟩ = some (.pointer (some ⟨g, k + 2, none⟩)) := by
  have : k = 0 ∨ k = 1 ∨ k = 2 ∨ k = 3 ∨ k = 4 := by omega
  rcases this with rfl | rfl | rfl | rfl | rfl <;> (rw [hh.cell]; rfl)
theorem five {l : List Int} (h : l.length = 5) : ∃ a b c d e, l = [a, b, c, d, e] := by
  match l, h with
  | [a, b, c, d, e], _ => exact ⟨a, b, c, d, e, rfl⟩
theorem NodeU.cell {r g : Nat} {cs : List Value} {w wr : World} {st : Fn.St} (h : NodeU r g cs w st wr) (i : Nat) (hi : i < cs.length) : wr.cell? ⟨g + 1, i, none⟩ = some cs[i] ∧ wr.frozen? ⟨g + 1, i, none⟩ = false :=
  ⟨by rw [h.2.2.1.cell]; simp, h.2.2.1.frozen i⟩
theorem NodeU.some_ {r g : Nat} {cs : List Value} {w wr : World} {st : Fn.St} (h : NodeU r g cs w st wr) (i : Nat) (hi : i < cs.length) : ∃ v, wr.cell? ⟨g + 1, i, none⟩ = some v ∧ wr.frozen? ⟨g + 1, i, none⟩ = false := ⟨cs[i], h.cell i hi⟩
/-- A shape, and where it lies. -/
abbrev ShX := List Int × Option Addr × Nat
def ShX.cells (x : ShX) : List Value := [.slice x.2.1 x.1.length x.2.2]
def ShX.ok (x : ShX) (w : World) : Prop := Ints .i64 w x.2.1 x.1 ∧ x.1.length ≤ x.2.2 ∧ x.2.2 ≤ 9223372036854775807
theorem ShX.len (x : ShX) : x.cells.length = 1 := rfl
theorem ShX.on {B n : Nat} {w : World} {S : Option Addr} {c : Nat} {s : List Int} (h : w.ownsRow B 3 1 (.slice S s.length c) n (s.map (Value.int .i64))) : On (fun b => (Value.slice S s.length c).ownBlock = some b) w (ShX.ok (s, S, c)) :=
  fun w2 h2 => own_ints (ownsRow_heap h fun g hg => h2 g hg)
abbrev ShRow (B C : Nat) (w : World) (v : Value) (L : List ShX) : Prop := OwnRow B C w 25 1 v ShX.cells ShX.ok L
theorem ShRow.agree {B C : Nat} {w w' : World} {v : Value} {L : List ShX} (h : ShRow B C w v L) (ha : ∀ b, B ≤ b → b < C → w'.heap[b]? = w.heap[b]?) (hC : C ≤ w'.heap.size) : ShRow B C w' v L :=
  ⟨ownsRow_heap h.1 fun g hg => ha g (h.1.lt g hg).1 (h.2.1 g hg), h.2.1, hC, fun x hx => by
    obtain ⟨F, hF, hb⟩ := h.2.2.2 x hx
    exact ⟨F, hF.agree fun b hb' => ha b (hb b hb').1 (hb b hb').2.1, hb⟩⟩
theorem ShRow.shps {B C : Nat} {w w' : World} {A : Option Addr} {n c : Nat} {L : List ShX} (h : ShRow B C w (.slice A n c) L) (ha : ∀ b, B ≤ b → b < C → w'.heap[b]? = w.heap[b]?) : Shps w' A (L.map (·.1)) ∧ L.length ≤ c ∧ c ≤ 9223372036854775807 := by
  have h1 : w'.ownsRow B 25 1 (.slice A n c) L.length (L.flatMap ShX.cells) := ownsRow_heap h.1 fun g hg => ha g (h.1.lt g hg).1 (h.2.1 g hg)
  have h2 : ∀ x ∈ L, ShX.ok x w' := fun x hx => by
    obtain ⟨F, hF, hb⟩ := h.2.2.2 x hx
    exact hF w' fun b k => ha b (hb b k).1 (hb b k).2.1
  refine ⟨fun j hj => ?_, ?_⟩
  · rw [List.length_map] at hj
    have h3 : OwnRow B w'.heap.size w' 25 1 (.slice A n c) ShX.cells (fun _ _ => True) L := ⟨h1, fun b hb => (h1.lt b hb).2, Nat.le_refl _, fun x hx => ⟨fun _ => False, fun _ _ => trivial, fun b h => h.elim⟩⟩
    obtain ⟨b, cap, hv, _, _, _, hc⟩ := OwnRow.at_ h3 ShX.len hj
    injection hv with hA
    have h0 := hc 0 (by omega)
    obtain ⟨q1, q2, q3⟩ := h2 L[j] (List.getElem_mem hj)
    rw [List.getElem_map]
    exact ⟨b, 0, L[j].2.1, L[j].2.2, hA, World.block_lt_of_cell? _ _ h0, by simpa [ShX.cells] using h0, q1, q2, q3⟩
  · rcases h1.2 with ⟨h4, h0⟩ | ⟨g, cap, cur, h4, _, _, h5, h6, _⟩
    · injection h4 with _ _ h4; omega
    · injection h4 with _ _ h4; unfold maxLen at h6; omega
/-- A node's value, and where its rows lie. -/
structure NdX where
  v : NodeD
  S : Option Addr
  sc : Nat
  J : Option Addr
  ic : Nat
  Q : Option Addr
  qc : Nat
def NdX.cells (x : NdX) : List Value := [.int .i64 x.v.op.kind, .int .i64 x.v.op.k, .int .i64 x.v.op.width, .int .i64 x.v.op.step, .int .i64 x.v.op.side, .int .i64 x.v.op.frm, .int .i64 x.v.op.to, .slice x.S x.v.op.s.length x.sc, .slice x.J x.v.ins.length x.ic, .slice x.Q x.v.p.length x.qc]
def NdX.ok (x : NdX) (w : World) : Prop :=
  (Ints .i64 w x.S x.v.op.s ∧ x.v.op.s.length ≤ x.sc ∧ x.sc ≤ 9223372036854775807) ∧ (Ints .i64 w x.J x.v.ins ∧ x.v.ins.length ≤ x.ic ∧ x.ic ≤ 9223372036854775807) ∧ (Shps w x.Q x.v.p ∧ x.v.p.length ≤ x.qc ∧ x.qc ≤ 9223372036854775807)
def NodeRP (r : Nat) (st : Fn.St) (w : World) (e : Ending) (w' : World) : Prop :=
  ∃ x : NdX, x.v = (Fn.nodeR st).1 ∧ e = .returned (.agg x.cells.toArray) ∧ On (fun b => w.heap.size ≤ b ∧ b < w'.heap.size) w' x.ok ∧ RdO r (Fn.nodeR st).2 w' ∧ Fr (fun b => b = r) w w'
theorem node_fin {r : Nat} {st s2 : Fn.St} {w wp w12 : World} {kd kk a1 a2 a3 a4 a5 : Int} {s acc : List Int} {S A A2 : Option Addr} {sc cap cap2 B1 C1 C2 : Nat} {L : List ShX}
    (h : Fn.nodeR st = (⟨Fn.opOf kd kk [a1, a2, a3, a4, a5] s, acc, L.map (·.1)⟩, s2)) (hr : r < w.heap.size) (h1 : w.heap.size + 1 < B1) (h2 : B1 ≤ C1) (h3 : C1 ≤ C2) (h4 : C2 ≤ wp.heap.size) (hR : RdO r s2 wp) (hF : Fr (fun b => b = r) w wp)
    (hI : IRow B1 C1 wp S sc s) (hJ : IRow C1 C2 wp A cap acc) (hO : ShRow C2 wp.heap.size wp (.slice A2 L.length cap2) L) (hF12 : Fr (fun b => b = w.heap.size) wp w12) :
    NodeRP r st w (.returned (.agg #[.int .i64 kd, .int .i64 kk, .int .i64 a1, .int .i64 a2, .int .i64 a3, .int .i64 a4, .int .i64 a5, .slice S s.length sc, .slice A acc.length cap, .slice A2 L.length cap2])) w12 := by
  have hs12 := hF12.size
  refine ⟨⟨⟨Fn.opOf kd kk [a1, a2, a3, a4, a5] s, acc, L.map (·.1)⟩, S, sc, A, cap, A2, cap2⟩, by rw [h], ?_, ?_, ?_, ?_⟩
  · have e : (L.map (·.1)).length = L.length := List.length_map _
    unfold NdX.cells
    simp only [e]
    rfl
  · intro wz hz
    have ha : ∀ b, w.heap.size + 1 < b → b < wp.heap.size → wz.heap[b]? = wp.heap[b]? := fun b h1 h2 => (hz b ⟨by omega, by omega⟩).trans (hF12.2 b h2 (by omega))
    have q1 := (hI.agree (w' := wz) fun b h1 h2 => ha b (by omega) (by omega)).ints
    have q2 := (hJ.agree (w' := wz) fun b h1 h2 => ha b (by omega) (by omega)).ints
    have q3 := ShRow.shps (w' := wz) hO fun b h1 h2 => ha b (by omega) (by omega)
    have e : (L.map (·.1)).length = L.length := List.length_map _
    exact ⟨q1, q2, q3.1, by show (L.map (·.1)).length ≤ cap2; rw [e]; exact q3.2.1, q3.2.2⟩
  · rw [h]; exact hR.fr2 hF12 (fun b e => by omega)
  · exact hF.trans' hF12 (fun b hb e => by omega)
set_option maxHeartbeats 8000000 in
set_option maxRecDepth 100000 in
theorem reader_node (r : Nat) (st : Fn.St) (w : World) (hR : RdO r st w) :
    Calls Try.prog 27 #[.pointer (some ⟨r, 0, none⟩)] w (NodeRP r st w) := by
  have hrl := hR.lt
  have hU0 : NodeU r w.heap.size [.int .i64 0, .int .i64 0, .int .i64 0, .int .i64 0, .int .i64 0, .int .i64 0, .int .i64 0, .slice none 0 0, .slice none 0 0, .slice none 0 0] w st ((w.alloc (.cells #[.int .i64 0, .int .i64 0, .int .i64 0, .int .i64 0, .int .i64 0, .int .i64 0, .int .i64 0, .slice none 0 0, .slice none 0 0, .slice none 0 0] 68)).alloc (.cells #[.int .i64 0, .int .i64 0, .int .i64 0, .int .i64 0, .int .i64 0, .int .i64 0, .int .i64 0, .slice none 0 0, .slice none 0 0, .slice none 0 0] 68)) := by
    refine ⟨(hR.alloc _).alloc _, ((Fr.refl _ w).alloc _).alloc _, ?_, (Blk.new w _ _).alloc _⟩
    have := Blk.new (w.alloc (.cells #[.int .i64 0, .int .i64 0, .int .i64 0, .int .i64 0, .int .i64 0, .int .i64 0, .int .i64 0, .slice none 0 0, .slice none 0 0, .slice none 0 0] 68)) 68 #[.int .i64 0, .int .i64 0, .int .i64 0, .int .i64 0, .int .i64 0, .int .i64 0, .int .i64 0, .slice none 0 0, .slice none 0 0, .slice none 0 0]
    rw [World.size_alloc] at this
    exact this
  have HRD := Lib.hid (show Fn.nodeR st = Fn.nodeK (Fp.get 1 st).1 ((Fp.get 8 (Fp.get 1 st).2).1, (Fp.get 8 (Fp.get 1 st).2).2) from rfl)
  have hok := hR.ok
  have HU0 := Lib.hid hU0
  clear hU0
  clear hR
  go_enter Try.func27, Try.ntmps27
  go_wp2_with fail
  generalize (w.alloc (.cells #[.int .i64 0, .int .i64 0, .int .i64 0, .int .i64 0, .int .i64 0, .int .i64 0, .int .i64 0, .slice none 0 0, .slice none 0 0, .slice none 0 0] 68)).alloc (.cells #[.int .i64 0, .int .i64 0, .int .i64 0, .int .i64 0, .int .i64 0, .int .i64 0, .int .i64 0, .slice none 0 0, .slice none 0 0, .slice none 0 0] 68) = w1 at *
  refine (reader_getO r 1 st _ HU0.out.1 (by omega) (by omega)).mono ?_
  rintro e w2 ⟨rfl, hR2, hg2⟩
  have hU2 := HU0.out.grown hrl hR2 hg2
  have ⟨hk0, hk1⟩ := Fn.num_le 1 (by omega) hok
  clear hok hR2 hg2 HU0
  generalize (Fp.get 1 st).1 = kd at *
  generalize (Fp.get 1 st).2 = st1 at *
  obtain ⟨c0, f0⟩ := hU2.cell 0 (by simp)
  have hU3 := hU2.set hrl (Nat.le_refl _) 0 (.int .i64 kd)
  have v0 : IntKind.i64.wrap kd = kd := IntWalk.i64_in _ (by simp at hk1; omega)
  simp only [List.set_cons_zero] at hU3
  have HU3 := Lib.hid hU3
  clear hU3
  clear hU2
  go_wp2_with fail
  refine (reader_getO r 8 st1 _ HU3.out.1 (by omega) (by omega)).mono ?_
  rintro e w4 ⟨rfl, hR4, hg4⟩
  have hU4 := HU3.out.grown hrl hR4 hg4
  have hsx : IntKind.i64.wrap (Fp.get 8 st1).1 = Fn.sx (Fp.get 8 st1).1 := rfl
  have HRD2 := Lib.hid (show Fn.nodeR st = Fn.nodeT kd (Fn.sx (Fp.get 8 st1).1) (Fn.twos 5 (Fp.get 8 st1).2) from HRD.out)
  generalize Fn.sx (Fp.get 8 st1).1 = kk at *
  generalize (Fp.get 8 st1).1 = kx at *
  generalize (Fp.get 8 st1).2 = st2 at *
  obtain ⟨c1, f1⟩ := hU4.cell 1 (by simp)
  have hU5 := hU4.set hrl (Nat.le_refl _) 1 (.int .i64 kk)
  simp only [List.set_cons_zero, List.set_cons_succ] at hU5
  have HU5 := Lib.hid hU5
  clear hU5
  clear hU4 hR4 hg4 HU3 HRD c0 f0 v0
  go_wp2_with fail
  generalize w4.setCell ⟨w.heap.size + 1, 1, none⟩ (.int .i64 kk) = w5 at *
  refine (file_fields (w.heap.size + 1) _).mono ?_
  rintro e w6 ⟨h, rfl, hh, hP, hb6⟩
  have hU6 := HU5.out.later hb6
  have hs5 := HU5.out.2.2.1.lt
  have hhr : h ≠ r := by omega
  have hhg : h ≠ w.heap.size + 1 := by omega
  have hs6 := hb6.size
  have HU6 := Lib.hid (show NodeU r w.heap.size (splice [.int .i64 kd, .int .i64 kk, .int .i64 0, .int .i64 0, .int .i64 0, .int .i64 0, .int .i64 0, .slice none 0 0, .slice none 0 0, .slice none 0 0] 2 ((Fn.twos 0 st2).1.map (Value.int .i64))) w (Fn.twos 0 st2).2 w6 by rw [Fn.twos, List.map_nil, splice_zero]; exact hU6)
  have HP := Lib.hid hP
  clear hP
  clear hU6 HU5 hb6 c1 f1 hsx
  go_wp2_with fail
  generalize hzz : [Value.int .i64 kd, .int .i64 kk, .int .i64 0, .int .i64 0, .int .i64 0, .int .i64 0, .int .i64 0, .slice none 0 0, .slice none 0 0, .slice none 0 0] = zz at *
  have hzl : zz.length = 10 := by rw [← hzz]; rfl
  have Hzz := Lib.hid hzz
  clear hzz
  go_loopw [5, 21] (fun _ i wr => ∃ k : Nat, k ≤ 5 ∧ i = .int .i64 k ∧ NodeU r w.heap.size (splice zz 2 ((Fn.twos k st2).1.map (Value.int .i64))) w (Fn.twos k st2).2 wr ∧ Blk wr h 86 #[.pointer (some ⟨w.heap.size + 1, 2, none⟩), .pointer (some ⟨w.heap.size + 1, 3, none⟩), .pointer (some ⟨w.heap.size + 1, 4, none⟩), .pointer (some ⟨w.heap.size + 1, 5, none⟩), .pointer (some ⟨w.heap.size + 1, 6, none⟩)] ∧ w6.heap.size ≤ wr.heap.size) (fun _ i _ => 5 - (intOf i).toNat)
  case atStart => exact ⟨0, Nat.zero_le _, rfl, HU6.out, HP.out, Nat.le_refl _⟩
  case round =>
    clear HU6 HP
    obtain ⟨k, hk, rfl, hU, hP, hsz⟩ := hrel
    by_cases hlt : k < 5
    · have y1 := ptr_cell hP hlt
      have hnl := Fn.twos_len k st2
      have hsl := length_splice zz 2 ((Fn.twos k st2).1.map (Value.int .i64)) (by simp; omega)
      obtain ⟨q2, c2, f2⟩ := hU.some_ (k + 2) (by omega)
      have hok2 := hU.1.ok
      have ⟨hx0, hx1⟩ := Fn.num_le 2 (by omega) hok2
      have HT := Lib.hid (show (Fn.twos (k + 1) st2) = ((Fn.twos k st2).1 ++ [(Fp.get 2 (Fn.twos k st2).2).1], (Fp.get 2 (Fn.twos k st2).2).2) from rfl)
      have HU := Lib.hid hU
      have HP := Lib.hid hP
      have Hsl := Lib.hid hsl
      have Hnl := Lib.hid hnl
      clear hU hP hsl hnl
      clear hok2
      go_wp2_with fail
      refine (reader_getO r 2 (Fn.twos k st2).2 _ HU.out.1 (by omega) (by omega)).mono ?_
      rintro e w7 ⟨rfl, hR7, hg7⟩
      have hU7 := HU.out.grown hrl hR7 hg7
      have hP7 := HP.out.grown hg7 (by intro e; injection e with e; exact hhr e)
      have hs7 := hg7.size
      obtain ⟨q3, d2, g2⟩ := hU7.some_ (k + 2) (by have := Hsl.out; omega)
      have hU8 := hU7.set hrl (Nat.le_refl _) (k + 2) (.int .i64 (Fp.get 2 (Fn.twos k st2).2).1)
      have HP8 := Lib.hid (hP7.far (p := ⟨w.heap.size + 1, k + 2, none⟩) hhg (.int .i64 (Fp.get 2 (Fn.twos k st2).2).1))
      have HU8 := Lib.hid (show NodeU r w.heap.size (splice zz 2 ((Fn.twos (k + 1) st2).1.map (Value.int .i64))) w (Fn.twos (k + 1) st2).2 (w7.setCell ⟨w.heap.size + 1, k + 2, none⟩ (.int .i64 (Fp.get 2 (Fn.twos k st2).2).1)) by
        have e := splice_set zz 2 ((Fn.twos k st2).1.map (Value.int .i64)) (.int .i64 (Fp.get 2 (Fn.twos k st2).2).1) (by simp [Hnl.out]; omega)
        rw [List.length_map, Hnl.out] at e
        rw [HT.out, List.map_append, List.map_cons, List.map_nil, ← e, show 2 + k = k + 2 by omega]
        exact hU8)
      have hv : IntKind.i64.wrap (Fp.get 2 (Fn.twos k st2).2).1 = (Fp.get 2 (Fn.twos k st2).2).1 := IntWalk.i64_in _ (by simp at hx1; omega)
      generalize (Fp.get 2 (Fn.twos k st2).2).1 = x at *
      clear HU HP hU7 hP7 hU8 hR7 hg7 c2 f2 y1
      go_wp2_with fail
      go_roundw
      case rel => exact ⟨k + 1, by omega, by go_num, HU8.out, HP8.out, by simp; omega⟩
      case measure => simp [intOf]; omega
    · obtain rfl : k = 5 := by omega
      clear hP
      obtain ⟨a1, a2, a3, a4, a5, ha⟩ := five (Fn.twos_len 5 st2)
      have HRD3 := Lib.hid (show Fn.nodeR st = Fn.nodeS kd kk [a1, a2, a3, a4, a5] (Fp.shapeR (Fn.twos 5 st2).2) by rw [HRD2.out, Fn.nodeT, ha])
      rw [ha] at hU
      rw [← Hzz.out] at hU
      have hU := (show NodeU r w.heap.size [.int .i64 kd, .int .i64 kk, .int .i64 a1, .int .i64 a2, .int .i64 a3, .int .i64 a4, .int .i64 a5, .slice none 0 0, .slice none 0 0, .slice none 0 0] w (Fn.twos 5 st2).2 wr from hU)
      generalize (Fn.twos 5 st2).2 = st3 at *
      have hok3 := hU.1.ok
      have hsl := Fn.shapeR_len hok3
      have HU := Lib.hid hU
      clear hU
      clear ha HRD2 hok3
      go_wp2_with fail
      refine (reader_shape r st3 _ HU.out.1).mono ?_
      rintro e w7 ⟨v7, rfl, hown7, hR7, hg7⟩
      obtain ⟨S, sc, rfl, hI7⟩ := IRow.of_own hown7
      have hU7 := HU.out.grown hrl hR7 hg7
      have hs7 := hg7.size
      obtain ⟨c7, f7⟩ := hU7.cell 7 (by simp)
      have HRD4 := Lib.hid (show Fn.nodeR st = Fn.nodeI (Fn.opOf kd kk [a1, a2, a3, a4, a5] (Fp.shapeR st3).1) (Fn.insR (Fp.get 1 (Fp.shapeR st3).2).1.toNat [] (Fp.get 1 (Fp.shapeR st3).2).2) from HRD3.out)
      have hU8 := hU7.set hrl (Nat.le_refl _) 7 (.slice S (Fp.shapeR st3).1.length sc)
      simp only [List.set_cons_zero, List.set_cons_succ] at hU8
      have hI8 := hI7.fr (S := fun b => b = w.heap.size + 1) ((Fr.refl (fun b => b = w.heap.size + 1) _).setCell (p := ⟨w.heap.size + 1, 7, none⟩) (fun _ => rfl) (.slice S (Fp.shapeR st3).1.length sc)) (Nat.le_refl _) (fun b h1 h2 e => by have := HU.out.2.2.1.lt; omega)
      have hs8 : (w7.setCell ⟨w.heap.size + 1, 7, none⟩ (.slice S (Fp.shapeR st3).1.length sc)).heap.size = w7.heap.size := by simp
      have hB1 := HU.out.2.2.1.lt
      generalize (Fp.shapeR st3).1 = s at *
      generalize (Fp.shapeR st3).2 = st4 at *
      have HU8 := Lib.hid hU8
      have HI8 := Lib.hid hI8
      clear hU8 hI8
      clear HU HRD3 hown7 hR7 hg7 hU7 hI7
      go_wp2_with fail
      generalize w7.setCell ⟨w.heap.size + 1, 7, none⟩ (.slice S s.length sc) = w8 at *
      clear c7 f7
      refine (reader_getO r 1 st4 _ HU8.out.1 (by omega) (by omega)).mono ?_
      rintro e w9 ⟨rfl, hR9, hg9⟩
      have ⟨hc0, hc1⟩ := Fn.num_le 1 (by omega) HU8.out.1.ok
      have hU9 := HU8.out.grown hrl hR9 hg9
      have hI9 := HI8.out.fr (Fr.of_grown (S := fun b => b = r) hg9 (fun k e _ => by injection e with e; exact e.symm)) (by omega) (fun b h1 h2 e => by omega)
      have hs9 := hg9.size
      generalize (Fp.get 1 st4).1 = cn at *
      generalize (Fp.get 1 st4).2 = st5 at *
      obtain ⟨m, rfl⟩ := Int.eq_ofNat_of_zero_le hc0
      rw [Int.toNat_natCast] at HRD4
      have hm : m ≤ 255 := by simp at hc1; omega
      have HU9 := Lib.hid hU9
      have HI9 := Lib.hid hI9
      clear hU9 hI9
      clear HU8 HI8 hR9 hg9 hc0 hc1
      generalize hC1 : w8.heap.size = C1 at *
      generalize hB0 : wr.heap.size = B1 at *
      have hown0 : w9.ownsRow C1 3 1 (.slice none 0 0) 0 (([] : List Int).map (Value.int .i64)) := World.ownsRow_nil _ _ _ _
      obtain ⟨i0, hi, hz0, hz1, hz2⟩ := info_parts int_info
      go_wp2_with fail
      go_loopw [6] (fun u wr => ∃ (k : Nat) (acc : List Int) (s' : Fn.St) (A : Option Addr) (cap : Nat), u = .int .u64 k ∧ acc.length + k ≤ 255 ∧ Fn.insR m [] st5 = Fn.insR k acc s' ∧ NodeU r w.heap.size [.int .i64 kd, .int .i64 kk, .int .i64 a1, .int .i64 a2, .int .i64 a3, .int .i64 a4, .int .i64 a5, .slice S s.length sc, .slice A acc.length cap, .slice none 0 0] w s' wr ∧ wr.ownsRow C1 3 1 (.slice A acc.length cap) acc.length (acc.map (Value.int .i64)) ∧ IRow B1 C1 wr S sc s ∧ C1 ≤ wr.heap.size) (fun u _ => (intOf u).toNat)
      case atStart => exact ⟨m, [], st5, none, 0, rfl, by simp; omega, rfl, HU9.out, hown0, by rw [hs8]; exact HI9.out, by omega⟩
      case round =>
        clear HU9 HI9 hown0
        obtain ⟨wo, rfl⟩ : ∃ wo : World, wo = wr := ⟨wr, rfl⟩
        obtain ⟨k, acc, s', A, cap, rfl, hka, hIn, hU, hown, hI, hC⟩ := hrel
        have hcell := hU.1.cell1
        by_cases hgo : k ≠ 0 ∧ s' ≠ none
        · obtain ⟨hk0, hs0⟩ := hgo
          obtain ⟨bs, rfl⟩ : ∃ bs, s' = some bs := by cases s' with
            | none => exact absurd rfl hs0
            | some bs => exact ⟨bs, rfl⟩
          obtain ⟨j, rfl⟩ : ∃ j, k = j + 1 := ⟨k - 1, by omega⟩
          have ⟨hx0, hx1⟩ := Fn.num_le 2 (by omega) hU.1.ok
          have HIn := Lib.hid (show Fn.insR m [] st5 = Fn.insR j (acc ++ [(Fp.get 2 (some bs)).1]) (Fp.get 2 (some bs)).2 from hIn)
          have hget : ∀ W, RdO r (some bs) W → Calls Try.prog 20 #[.pointer (some ⟨r, 0, none⟩), .int .i64 2] W (fun e w' => e = .returned (.int .u64 (Fp.get 2 (some bs)).1) ∧ RdO r (Fp.get 2 (some bs)).2 w' ∧ W.grownBy w' (some r)) := fun W h => reader_getO r 2 (some bs) W h (by omega) (by omega)
          generalize (Fp.get 2 (some bs)).1 = x at *
          generalize (Fp.get 2 (some bs)).2 = st6 at *
          have hv : IntKind.i64.wrap x = x := IntWalk.i64_in _ (by simp at hx1; omega)
          obtain ⟨c8, f8⟩ := hU.cell 8 (by simp)
          have c8' : wo.cell? ⟨w.heap.size + 1, 8, none⟩ = some (.slice A acc.length cap) := c8
          have v1 : ((j + 1 : Nat) : Int) - 1 = j := by omega
          have HU := Lib.hid hU
          have Hown := Lib.hid hown
          have HI := Lib.hid hI
          have Hget := Lib.hid hget
          clear hU hown hI hget
          clear hIn c8
          go_wp2_with fail
          go_region_law ((first
            | (refine step_append_lies _ (by rfl) _ _ _ (by rfl) C1 3 i0 _ 1 8 Try.underlying24 hi hz0 hz1 hz2 rfl (by omega) (.slice A acc.length cap) acc.length (acc.map (Value.int .i64)) (by rfl) (Hown2.out.alloc _) ⟨w2.heap.size, 0, none⟩ 1 1 [.int .i64 x] (by rfl) (by rfl) (World.news_of_block (cs := #[.int .i64 x]) (t := 3) (fr := (0, 0)) (heap_alloc_new w2 _)) (by simp [Value.oneCell']) (by omega) (by unfold maxLen; omega) (by omega) (by simp; omega) (w2.heap.size + 1) (by simp) ?_; intro gg cap2 w3 hown3 hgrow hat hlt3; have HU3 := Lib.hid ((HU2.out.later ((Below.refl _ w2).alloc (Nat.le_refl _) (.cells #[.int .i64 x] 3))).row hrl (Nat.le_refl _) (by omega) hgrow (fun b hb => (Hown2.out.lt b hb).1)); obtain ⟨d8, g8⟩ := HU3.out.cell 8 (by simp); replace d8 : w3.cell? ⟨w.heap.size + 1, 8, none⟩ = some (.slice A acc.length cap) := d8)
            | (go_simp; go_at_call 20; refine (Hget.out _ HU.out.1.drew).mono ?_; rintro e w2 ⟨rfl, hR2, hg2⟩; have HU2 := Lib.hid (HU.out.drew.grown hrl hR2 hg2); have Hown2 := Lib.hid (ownsRow_grown (w := wo.drew) Hown.out hg2 (fun b hb e => by injection e with e; have := (Hown.out.lt b hb).1; omega)); have HI2 := Lib.hid (IRow.fr (w := wo.drew) HI.out (Fr.of_grown (S := fun b => b = r) hg2 (fun k e _ => by injection e with e; exact e.symm)) hC (fun b h1 h2 e => by omega)); have hs2 : wo.heap.size ≤ w2.heap.size := hg2.size; obtain ⟨e8, k8⟩ := HU2.out.cell 8 (by simp); replace e8 : w2.cell? ⟨w.heap.size + 1, 8, none⟩ = some (.slice A acc.length cap) := e8; have e9 : (w2.alloc (.cells #[.int .i64 x] 3)).cell? ⟨w.heap.size + 1, 8, none⟩ = some (.slice A acc.length cap) := Lib.cell?_alloc_some _ e8; clear hR2 hg2)))
          all_goals
            have hU5 := HU3.out.set hrl (Nat.le_refl _) 8 (.slice (some ⟨gg, 0, none⟩) (acc.length + 1) cap2)
            simp only [List.set_cons_zero, List.set_cons_succ] at hU5
            have hs4 := hgrow.size
            simp only [World.size_alloc] at hs4
            have hT5 : Fr (fun b => b = w.heap.size + 1) w3 (w3.setCell ⟨w.heap.size + 1, 8, none⟩ (.slice (some ⟨gg, 0, none⟩) (acc.length + 1) cap2)) := (Fr.refl (fun b => b = w.heap.size + 1) _).setCell (p := ⟨w.heap.size + 1, 8, none⟩) (fun _ => rfl) _
            have hown5 := ownsRow_fr hown3 hT5 (fun b hb e => by have := (hown3.lt b hb).1; omega)
            have hI5 := ((HI2.out.fr ((Fr.refl (fun b => C1 ≤ b) w2).alloc (.cells #[.int .i64 x] 3)) (by omega) (fun b h1 h2 e => by omega)).fr (Fr.of_grown (S := fun b => C1 ≤ b) hgrow (fun k e _ => (Hown2.out.lt k e).1)) (by simp; omega) (fun b h1 h2 e => by omega)).fr hT5 (by omega) (fun b h1 h2 e => by omega)
            have hown6 : (w3.setCell ⟨w.heap.size + 1, 8, none⟩ (.slice (some ⟨gg, 0, none⟩) (acc.length + 1) cap2)).ownsRow C1 3 1 (.slice (some ⟨gg, 0, none⟩) (acc ++ [x]).length cap2) (acc ++ [x]).length ((acc ++ [x]).map (Value.int .i64)) := by simpa using hown5
            have hU6 : NodeU r w.heap.size [.int .i64 kd, .int .i64 kk, .int .i64 a1, .int .i64 a2, .int .i64 a3, .int .i64 a4, .int .i64 a5, .slice S s.length sc, .slice (some ⟨gg, 0, none⟩) (acc ++ [x]).length cap2, .slice none 0 0] w st6 (w3.setCell ⟨w.heap.size + 1, 8, none⟩ (.slice (some ⟨gg, 0, none⟩) (acc.length + 1) cap2)) := by simpa using hU5
            have HU6 := Lib.hid hU6
            have Hown6 := Lib.hid hown6
            have HI5 := Lib.hid hI5
            clear hU6 hown6 hI5
            clear hown3 hown5 hgrow hat hU5 hT5 d8 g8 c8' f8 e8 e9 k8 HU HU2 HU3 Hown Hown2 HI HI2 Hget hcell
            go_wp2_with fail
            go_roundw
            case rel => exact ⟨j, acc ++ [x], st6, some ⟨gg, 0, none⟩, cap2, by go_num, by simp; omega, HIn.out, HU6.out, Hown6.out, HI5.out, by simp; omega⟩
            case measure => simp [intOf]
        · have hEnd : Fn.insR m [] st5 = (acc, s') := by
            rw [hIn]
            cases k with
            | zero => rfl
            | succ k => cases s' with
              | none => rfl
              | some bs => exact absurd ⟨by omega, by simp⟩ hgo
          have HRD5 := Lib.hid (show Fn.nodeR st = Fn.nodeP (Fn.opOf kd kk [a1, a2, a3, a4, a5] s) acc (Fn.psR (Fp.get 1 s').1.toNat [] (Fp.get 1 s').2) by rw [HRD4.out, hEnd]; rfl)
          have hcond : k = 0 ∨ ∃ j, k = j + 1 ∧ s'.isNone = true := by
            rcases Nat.eq_zero_or_pos k with h | h
            · exact .inl h
            · refine .inr ⟨k - 1, by omega, ?_⟩
              cases s' with
              | none => rfl
              | some bs => exact absurd ⟨by omega, by simp⟩ hgo
          have HU := Lib.hid hU
          have Hown := Lib.hid hown
          have HI := Lib.hid hI
          clear hU hown hI
          clear hIn hEnd hgo HRD4
          rcases hcond with rfl | ⟨j, rfl, hcond⟩
          all_goals
            first
            | rw [hcond] at hcell
            | skip
            go_wp2_with fail
            refine (reader_getO r 1 s' _ HU.out.1 (by omega) (by omega)).mono ?_
            rintro e w10 ⟨rfl, hR10, hg10⟩
            have ⟨hd0, hd1⟩ := Fn.num_le 1 (by omega) HU.out.1.ok
            have hU10 := HU.out.grown hrl hR10 hg10
            have hown10 := ownsRow_grown Hown.out hg10 (fun b hb e => by injection e with e; have := (Hown.out.lt b hb).1; omega)
            have hI10 := HI.out.fr (Fr.of_grown (S := fun b => b = r) hg10 (fun k e _ => by injection e with e; exact e.symm)) hC (fun b h1 h2 e => by omega)
            have hs10 := hg10.size
            have hJ10 : IRow C1 w10.heap.size w10 A cap acc := ⟨hown10, fun b hb => (hown10.lt b hb).2⟩
            generalize (Fp.get 1 s').1 = cn2 at *
            generalize (Fp.get 1 s').2 = st11 at *
            obtain ⟨m2, rfl⟩ := Int.eq_ofNat_of_zero_le hd0
            rw [Int.toNat_natCast] at HRD5
            have hm2 : m2 ≤ 255 := by simp at hd1; omega
            generalize hC2 : w10.heap.size = C2 at *
            have hO10 : ShRow C2 C2 w10 (.slice none 0 0) [] := by subst hC2; exact OwnRow.nil _ _ _ _ _ _
            obtain ⟨i2, hj, hy0, hy1, hy2⟩ := info_parts shpT_info
            have HU10 := Lib.hid hU10
            have HI10 := Lib.hid hI10
            have HJ10 := Lib.hid hJ10
            have HO10 := Lib.hid hO10
            clear hU10 hI10 hJ10 hO10
            clear HU HI Hown hown10 hR10 hg10 hcell hd0 hd1
            go_wp2_with fail
            go_loopw [7] (fun u wr => ∃ (k : Nat) (L : List ShX) (s' : Fn.St) (A2 : Option Addr) (cap2 : Nat), u = .int .u64 k ∧ L.length + k ≤ 255 ∧ Fn.psR m2 [] st11 = Fn.psR k (L.map (·.1)) s' ∧ NodeU r w.heap.size [.int .i64 kd, .int .i64 kk, .int .i64 a1, .int .i64 a2, .int .i64 a3, .int .i64 a4, .int .i64 a5, .slice S s.length sc, .slice A acc.length cap, .slice A2 L.length cap2] w s' wr ∧ ShRow C2 wr.heap.size wr (.slice A2 L.length cap2) L ∧ IRow B1 C1 wr S sc s ∧ IRow C1 C2 wr A cap acc ∧ C2 ≤ wr.heap.size) (fun u _ => (intOf u).toNat)
            case atStart => exact ⟨m2, [], st11, none, 0, rfl, by simp; omega, rfl, HU10.out, by rw [hC2]; exact HO10.out, HI10.out, HJ10.out, by omega⟩
            case round =>
              clear HU10 HI10 HJ10 HO10
              obtain ⟨wp, rfl⟩ : ∃ wp : World, wp = wr := ⟨wr, rfl⟩
              obtain ⟨k2, L, s2, A2, cap2, rfl, hkL, hPs, hU, hO, hI, hJ, hCC⟩ := hrel
              have hcell := hU.1.cell1
              have hC12 : C1 ≤ C2 := by omega
              by_cases hgo : k2 ≠ 0 ∧ s2 ≠ none
              · obtain ⟨hk0, hs0⟩ := hgo
                obtain ⟨bs, rfl⟩ : ∃ bs, s2 = some bs := by cases s2 with
                  | none => exact absurd rfl hs0
                  | some bs => exact ⟨bs, rfl⟩
                obtain ⟨j, rfl⟩ : ∃ j, k2 = j + 1 := ⟨k2 - 1, by omega⟩
                have hsl2 := Fn.shapeR_len hU.1.ok
                have HPs := Lib.hid (show Fn.psR m2 [] st11 = Fn.psR j (L.map (·.1) ++ [(Fp.shapeR (some bs)).1]) (Fp.shapeR (some bs)).2 from hPs)
                have hget : ∀ W, RdO r (some bs) W → Calls Try.prog 23 #[.pointer (some ⟨r, 0, none⟩)] W (fun e w' => ∃ v, e = .returned v ∧ w'.ownsRow W.heap.size 3 1 v (Fp.shapeR (some bs)).1.length ((Fp.shapeR (some bs)).1.map (Value.int .i64)) ∧ RdO r (Fp.shapeR (some bs)).2 w' ∧ W.grownBy w' (some r)) := fun W h => reader_shape r (some bs) W h
                generalize (Fp.shapeR (some bs)).1 = x at *
                generalize (Fp.shapeR (some bs)).2 = st6 at *
                obtain ⟨c9, f9⟩ := hU.cell 9 (by simp)
                have c9' : wp.cell? ⟨w.heap.size + 1, 9, none⟩ = some (.slice A2 L.length cap2) := c9
                have v1 : ((j + 1 : Nat) : Int) - 1 = j := by omega
                have HU := Lib.hid hU
                have HO := Lib.hid hO
                have HI := Lib.hid hI
                have HJ := Lib.hid hJ
                have Hget := Lib.hid hget
                clear hU hO hI hJ hget
                clear hPs c9
                go_wp2_with fail
                go_region_law ((first
                  | (refine step_append_lies _ (by rfl) _ _ _ (by rfl) C2 25 i2 _ 1 24 Try.underlying66 hj hy0 hy1 hy2 rfl (by omega) (.slice A2 L.length cap2) L.length (L.flatMap ShX.cells) (by rfl) (HO2.out.1.alloc _) ⟨w2.heap.size, 0, none⟩ 1 1 [.slice S2 x.length c2] (by rfl) (by rfl) (World.news_of_block (cs := #[.slice S2 x.length c2]) (t := 25) (fr := (0, 0)) (heap_alloc_new w2 _)) (by simp [Value.oneCell']) (by omega) (by unfold maxLen; omega) (by omega) (by simp; omega) (w2.heap.size + 1) (by simp) ?_; intro gg cap3 w3 hown3 hgrow hat hlt3; have HU3 := Lib.hid ((HU2.out.later ((Below.refl _ w2).alloc (Nat.le_refl _) (.cells #[.slice S2 x.length c2] 25))).row hrl (Nat.le_refl _) (by omega) hgrow (fun b hb => (HO2.out.1.lt b hb).1)); obtain ⟨d9, g9⟩ := HU3.out.cell 9 (by simp); replace d9 : w3.cell? ⟨w.heap.size + 1, 9, none⟩ = some (.slice A2 L.length cap2) := d9)
                  | (go_simp; go_at_call 23; refine (Hget.out _ HU.out.1.drew).mono ?_; rintro e w2 ⟨v2, rfl, hown2, hR2, hg2⟩; obtain ⟨S2, c2, rfl, hX2⟩ := IRow.of_own hown2; have HX2 := Lib.hid hX2; have HU2 := Lib.hid (HU.out.drew.grown hrl hR2 hg2); have HO2 := Lib.hid (OwnRow.fr (w := wp.drew) HO.out (Fr.of_grown (S := fun b => b = r) hg2 (fun k e _ => by injection e with e; exact e.symm)) (fun b h1 h2 e => by omega)); have HI2 := Lib.hid (IRow.fr (w := wp.drew) HI.out (Fr.of_grown (S := fun b => b = r) hg2 (fun k e _ => by injection e with e; exact e.symm)) (show C1 ≤ wp.heap.size by omega) (fun b h1 h2 e => by omega)); have HJ2 := Lib.hid (IRow.fr (w := wp.drew) HJ.out (Fr.of_grown (S := fun b => b = r) hg2 (fun k e _ => by injection e with e; exact e.symm)) hCC (fun b h1 h2 e => by omega)); have hs2 : wp.heap.size ≤ w2.heap.size := hg2.size; obtain ⟨e9, k9⟩ := HU2.out.cell 9 (by simp); replace e9 : w2.cell? ⟨w.heap.size + 1, 9, none⟩ = some (.slice A2 L.length cap2) := e9; have e10 : (w2.alloc (.cells #[.slice S2 x.length c2] 25)).cell? ⟨w.heap.size + 1, 9, none⟩ = some (.slice A2 L.length cap2) := Lib.cell?_alloc_some _ e9; clear hR2 hg2 hX2)))
                all_goals
                  have hU5 := HU3.out.set hrl (Nat.le_refl _) 9 (.slice (some ⟨gg, 0, none⟩) (L.length + 1) cap3)
                  simp only [List.set_cons_zero, List.set_cons_succ] at hU5
                  have hs4 := hgrow.size
                  simp only [World.size_alloc] at hs4
                  have hT5 : Fr (fun b => b = w.heap.size + 1) w3 (w3.setCell ⟨w.heap.size + 1, 9, none⟩ (.slice (some ⟨gg, 0, none⟩) (L.length + 1) cap3)) := (Fr.refl (fun b => b = w.heap.size + 1) _).setCell (p := ⟨w.heap.size + 1, 9, none⟩) (fun _ => rfl) _
                  have hI5 := ((HI2.out.fr ((Fr.refl (fun b => C2 ≤ b) w2).alloc (.cells #[.slice S2 x.length c2] 25)) (by omega) (fun b h1 h2 e => by omega)).fr (Fr.of_grown (S := fun b => C2 ≤ b) hgrow (fun k e _ => (HO2.out.1.lt k e).1)) (by simp; omega) (fun b h1 h2 e => by omega)).fr hT5 (by omega) (fun b h1 h2 e => by omega)
                  have hJ5 := ((HJ2.out.fr ((Fr.refl (fun b => C2 ≤ b) w2).alloc (.cells #[.slice S2 x.length c2] 25)) (by omega) (fun b h1 h2 e => by omega)).fr (Fr.of_grown (S := fun b => C2 ≤ b) hgrow (fun k e _ => (HO2.out.1.lt k e).1)) (by simp; omega) (fun b h1 h2 e => by omega)).fr hT5 (by omega) (fun b h1 h2 e => by omega)
                  have hO3 := OwnRow.fr (S := fun _ => False) HO2.out ((Fr.refl (fun _ => False) w2).alloc (.cells #[.slice S2 x.length c2] 25)) (fun _ _ _ h => h)
                  have hO4 := OwnRow.push (x := ((x, S2, c2) : ShX)) hO3 hown3 hgrow (by rcases hat with e | e; exact .inl e.symm; exact .inr (by rw [e]; simp [Value.ownBlock])) ((ShX.on HX2.out.1).fr ((Fr.refl (fun _ => False) w2).alloc (.cells #[.slice S2 x.length c2] 25)) (fun b hb => ⟨(HX2.out.1.lt b hb).2, fun h => h⟩)) (fun b hb => by
                    obtain ⟨h1, h2⟩ := HX2.out.1.lt b hb
                    have h1' : wp.heap.size ≤ b := h1
                    refine ⟨by omega, by simp; omega, fun e => ?_⟩
                    have := HO.out.2.1 b e.symm
                    omega)
                  have hO5 := OwnRow.fr hO4 hT5 (fun b h1 h2 e => by omega)
                  have hs5 : (w3.setCell ⟨w.heap.size + 1, 9, none⟩ (.slice (some ⟨gg, 0, none⟩) (L.length + 1) cap3)).heap.size = w3.heap.size := by simp
                  have hlen : L.length + 1 = (L ++ [((x, S2, c2) : ShX)]).length := by simp
                  have hlen2 : L.length + (j + 1) = (L ++ [((x, S2, c2) : ShX)]).length + j := by simp; omega
                  have HP2 := Lib.hid (show Fn.psR m2 [] st11 = Fn.psR j ((L ++ [((x, S2, c2) : ShX)]).map (·.1)) st6 by rw [HPs.out]; simp)
                  rw [hlen2] at hkL
                  rw [hlen] at hU5 hO5 hJ5 hI5 hs5 ⊢
                  rw [← hs5] at hO5
                  generalize L ++ [((x, S2, c2) : ShX)] = L5 at *
                  have hs6 : C2 ≤ (w3.setCell ⟨w.heap.size + 1, 9, none⟩ (.slice (some ⟨gg, 0, none⟩) L5.length cap3)).heap.size := by rw [hs5]; omega
                  have HU5 := Lib.hid hU5
                  have HO5 := Lib.hid hO5
                  have HI5 := Lib.hid hI5
                  have HJ5 := Lib.hid hJ5
                  clear hU5 hO5 hI5 hJ5
                  clear hown3 hgrow hat hT5 d9 g9 c9' f9 e9 e10 k9 HU HU2 HU3 HO HO2 HI HI2 HJ HJ2 Hget hcell hO3 hO4 hs5 hlen hlen2 HPs
                  go_wp2_with fail
                  go_roundw
                  case rel => exact ⟨j, L5, st6, some ⟨gg, 0, none⟩, cap3, by go_num, hkL, HP2.out, HU5.out, HO5.out, HI5.out, HJ5.out, hs6⟩
                  case measure => simp [intOf]
              · have hEnd : Fn.psR m2 [] st11 = (L.map (·.1), s2) := by
                  rw [hPs]
                  cases k2 with
                  | zero => rfl
                  | succ k => cases s2 with
                    | none => rfl
                    | some bs => exact absurd ⟨by omega, by simp⟩ hgo
                have HRD6 := Lib.hid (show Fn.nodeR st = (⟨Fn.opOf kd kk [a1, a2, a3, a4, a5] s, acc, L.map (·.1)⟩, s2) by rw [HRD5.out, hEnd]; rfl)
                have hcond : k2 = 0 ∨ ∃ j, k2 = j + 1 ∧ s2.isNone = true := by
                  rcases Nat.eq_zero_or_pos k2 with h | h
                  · exact .inl h
                  · refine .inr ⟨k2 - 1, by omega, ?_⟩
                    cases s2 with
                    | none => rfl
                    | some bs => exact absurd ⟨by omega, by simp⟩ hgo
                have x0 := (hU.cell 0 (by simp)).1
                have x1 := (hU.cell 1 (by simp)).1
                have x2 := (hU.cell 2 (by simp)).1
                have x3 := (hU.cell 3 (by simp)).1
                have x4 := (hU.cell 4 (by simp)).1
                have x5 := (hU.cell 5 (by simp)).1
                have x6 := (hU.cell 6 (by simp)).1
                have x7 := (hU.cell 7 (by simp)).1
                have x8 := (hU.cell 8 (by simp)).1
                have x9 := (hU.cell 9 (by simp)).1
                simp only [List.getElem_cons_zero, List.getElem_cons_succ] at x0 x1 x2 x3 x4 x5 x6 x7 x8 x9
                obtain ⟨z0, z1, z2, z3, z4, z5, z6, z7, z8, z9⟩ := ndb_cells hU.2.2.2
                have hfz : ∀ i, wp.frozen? ⟨w.heap.size, i, none⟩ = false := fun i => hU.2.2.2.frozen i
                have hfz0 := hfz 0
                have hfz1 := hfz 1
                have hfz2 := hfz 2
                have hfz3 := hfz 3
                have hfz4 := hfz 4
                have hfz5 := hfz 5
                have hfz6 := hfz 6
                have hfz7 := hfz 7
                have hfz8 := hfz 8
                have hfz9 := hfz 9
                obtain ⟨hF12, hk12⟩ := box10 hU.2.2.2 (.int .i64 kd) (.int .i64 kk) (.int .i64 a1) (.int .i64 a2) (.int .i64 a3) (.int .i64 a4) (.int .i64 a5) (.slice S s.length sc) (.slice A acc.length cap) (.slice A2 L.length cap2)
                have HU := Lib.hid hU
                have HO := Lib.hid hO
                have HI := Lib.hid hI
                have HJ := Lib.hid hJ
                have HF12 := Lib.hid hF12
                have Hk12 := Lib.hid hk12
                clear hU hO hI hJ hF12 hk12
                clear hPs hEnd hgo HRD5 hfz
                rcases hcond with rfl | ⟨j2, rfl, hcond⟩
                all_goals
                  first
                  | rw [hcond] at hcell
                  | skip
                  go_wp2_with fail
                  have hF12 := HF12.out
                  have hk12 := Hk12.out
                  have hs12 := hF12.size
                  clear HF12 Hk12
                  generalize (((((((((wp.setCell ⟨w.heap.size, 0, none⟩ (.int .i64 kd)).setCell ⟨w.heap.size, 1, none⟩ (.int .i64 kk)).setCell ⟨w.heap.size, 2, none⟩ (.int .i64 a1)).setCell ⟨w.heap.size, 3, none⟩ (.int .i64 a2)).setCell ⟨w.heap.size, 4, none⟩ (.int .i64 a3)).setCell ⟨w.heap.size, 5, none⟩ (.int .i64 a4)).setCell ⟨w.heap.size, 6, none⟩ (.int .i64 a5)).setCell ⟨w.heap.size, 7, none⟩ (.slice S s.length sc)).setCell ⟨w.heap.size, 8, none⟩ (.slice A acc.length cap)).setCell ⟨w.heap.size, 9, none⟩ (.slice A2 L.length cap2) = w12 at *
                  obtain ⟨d0, d1, d2, d3, d4, d5, d6, d7, d8, d9⟩ := ndb_cells hk12
                  clear x0 x1 x2 x3 x4 x5 x6 x7 x8 x9 z0 z1 z2 z3 z4 z5 z6 z7 z8 z9
                  refine bodyPost_ret (v := .agg #[.int .i64 kd, .int .i64 kk, .int .i64 a1, .int .i64 a2, .int .i64 a3, .int .i64 a4, .int .i64 a5, .slice S s.length sc, .slice A acc.length cap, .slice A2 L.length cap2]) (by simp [results, Try.results27, go_sem, d0, d1, d2, d3, d4, d5, d6, d7, d8, d9]) rfl ?_
                  exact node_fin HRD6.out hrl (by omega) (by omega) hC12 hCC HU.out.1 HU.out.2.1 HI.out HJ.out HO.out hF12
end Go.Proofs.Ytnofeebcmmmlhaa
/- Layer 12 (file): Decode: contract. -/
namespace Go.Proofs.Ytnofeebcmmmlhaa
open Go.RowKit
theorem NodeD.ok_of {v : NodeD} (h : Fn.mild v) : v.ok := by
  obtain ⟨h1, h2, h3, h4, h5, h6⟩ := h
  exact ⟨h1, by omega, by omega, by omega, fun s hs => by have := h5 s hs; omega, fun z hz => by have := h6 z hz; omega⟩
theorem endO_eq (st : Fn.St) : Fp.endO st = Fn.endO st := by cases st <;> rfl
theorem NdX.len (x : NdX) : x.cells.length = 10 := rfl
abbrev NdRow (B C : Nat) (w : World) (v : Value) (L : List NdX) : Prop := OwnRow B C w 68 10 v NdX.cells NdX.ok L
theorem NdRow.nodes {B C : Nat} {w : World} {A : Option Addr} {n c : Nat} {L : List NdX} (h : NdRow B C w (.slice A n c) L) : Nodes w A (L.map (·.v)) ∧ L.length ≤ c := by
  refine ⟨fun j hj => ?_, ?_⟩
  · rw [List.length_map] at hj
    obtain ⟨b, cap, hv, _, _, _, hc⟩ := OwnRow.at_ h NdX.len hj
    injection hv with hA
    obtain ⟨q1, q2, q3⟩ := h.now L[j] (List.getElem_mem hj)
    rw [List.getElem_map]
    have hl := World.block_lt_of_cell? _ _ (hc 0 (by omega))
    refine ⟨b, 0, L[j].S, L[j].sc, L[j].J, L[j].ic, L[j].Q, L[j].qc, hA, hl, ?_, ?_, ?_, ?_, ?_, ?_, ?_, ?_, ?_, ?_, q1, q2, q3⟩
    · rw [Nat.zero_add]; exact hc 0 (by omega)
    all_goals rw [Nat.zero_add]
    · exact hc 1 (by omega)
    · exact hc 2 (by omega)
    · exact hc 3 (by omega)
    · exact hc 4 (by omega)
    · exact hc 5 (by omega)
    · exact hc 6 (by omega)
    · exact hc 7 (by omega)
    · exact hc 8 (by omega)
    · exact hc 9 (by omega)
  · obtain ⟨A', cap, hv, hc⟩ := h.form
    injection hv with _ _ hv; omega
theorem nodeB_info : (Try.prog.info? 68).map (fun i => (i.zero, i.size, i.bytes)) = some (some (.agg #[.int .i64 0, .int .i64 0, .int .i64 0, .int .i64 0, .int .i64 0, .int .i64 0, .int .i64 0, .slice none 0 0, .slice none 0 0, .slice none 0 0]), 10, 128) := by kernel_rfl
/-- A net that is being read: the reader, the boxes. -/
def NetU (r a q : Nat) (x y : Value) (w : World) (st : Fn.St) (wr : World) : Prop :=
  RdO r st wr ∧ Below w.heap.size w wr ∧ Blk wr a 28 #[.slice none 0 0, .slice none 0 0] ∧ Blk wr q 28 #[x, y]
theorem NetU.fr {r a q : Nat} {x y : Value} {w wr w' : World} {st st' : Fn.St} (h : NetU r a q x y w st wr) (ha : w.heap.size ≤ a) (har : a < r) (hrq : r < q) (hR : RdO r st' w') (hF : Fr (fun b => b = r) wr w') : NetU r a q x y w st' w' := by
  obtain ⟨_, h2, h3, h4⟩ := h
  exact ⟨hR, h2.trans (hF.below (B := w.heap.size) (fun b e => by omega) h2.size), hF.blk h3 (by omega), hF.blk h4 (by omega)⟩
theorem NetU.row {r a q B : Nat} {x y : Value} {w wr w' : World} {st : Fn.St} {row : Option Nat} (h : NetU r a q x y w st wr) (ha : w.heap.size ≤ a) (har : a < r) (hrq : r < q) (hB : q < B) (hg : wr.grownBy w' row) (hrow : ∀ b, row = some b → B ≤ b) : NetU r a q x y w st w' := by
  obtain ⟨h1, h2, h3, h4⟩ := h
  exact ⟨h1.grown hg (fun k e => by have := hrow k e; omega), h2.grown hg h2.size (fun b e => by have := hrow b e; omega), h3.grown hg (fun e => by have := hrow _ e.symm; omega), h4.grown hg (fun e => by have := hrow _ e.symm; omega)⟩
theorem NetU.alloc {r a q : Nat} {x y : Value} {w wr : World} {st : Fn.St} (h : NetU r a q x y w st wr) (o : Obj) : NetU r a q x y w st (wr.alloc o) := by
  obtain ⟨h1, h2, h3, h4⟩ := h
  exact ⟨h1.alloc o, h2.alloc h2.size o, h3.alloc o, h4.alloc o⟩
theorem NetU.drew {r a q : Nat} {x y : Value} {w wr : World} {st : Fn.St} (h : NetU r a q x y w st wr) : NetU r a q x y w st wr.drew := ⟨h.1.drew, h.2.1.drew, h.2.2.1, h.2.2.2⟩
theorem NetU.set1 {r a q : Nat} {x y : Value} {w wr : World} {st : Fn.St} (h : NetU r a q x y w st wr) (ha : w.heap.size ≤ a) (har : a < r) (hrq : r < q) (z : Value) : NetU r a q x z w st (wr.setCell ⟨q, 1, none⟩ z) := by
  obtain ⟨h1, h2, h3, h4⟩ := h
  exact ⟨h1.fr2 (S := fun b => b = q) ((Fr.refl (fun b => b = q) _).setCell (p := ⟨q, 1, none⟩) (fun _ => rfl) _) (fun b e => by omega), h2.setCell (p := ⟨q, 1, none⟩) (by simp; omega) _, h3.far (p := ⟨q, 1, none⟩) (by simp; omega) _, h4.set_ 1 z⟩
/-- The result's box is written. -/
theorem box2 {B a : Nat} {w wr : World} (hb : Below B w wr) (ha : B ≤ a) (h : Blk wr a 28 #[.slice none 0 0, .slice none 0 0]) (x y : Value) :
    Below B w ((wr.setCell ⟨a, 0, none⟩ x).setCell ⟨a, 1, none⟩ y) ∧ Blk ((wr.setCell ⟨a, 0, none⟩ x).setCell ⟨a, 1, none⟩ y) a 28 #[x, y] ∧ Fr (fun b => b = a) wr ((wr.setCell ⟨a, 0, none⟩ x).setCell ⟨a, 1, none⟩ y) :=
  ⟨(hb.setCell (p := ⟨a, 0, none⟩) ha _).setCell (p := ⟨a, 1, none⟩) ha _, (h.set_ 0 x).set_ 1 y, ((Fr.refl (fun b => b = a) _).setCell (p := ⟨a, 0, none⟩) (fun _ => rfl) _).setCell (p := ⟨a, 1, none⟩) (fun _ => rfl) _⟩
theorem Blk.two {w : World} {a : Nat} {x y : Value} {t : TypeId} (h : Blk w a t #[x, y]) : (w.cell? ⟨a, 0, none⟩ = some x ∧ w.cell? ⟨a, 1, none⟩ = some y) ∧ w.frozen? ⟨a, 0, none⟩ = false ∧ w.frozen? ⟨a, 1, none⟩ = false :=
  ⟨⟨by rw [h.cell]; rfl, by rw [h.cell]; rfl⟩, h.frozen 0, h.frozen 1⟩
def DecNP (q : Int × NetD) (w : World) (e : Ending) (w' : World) : Prop :=
  (q.1 ≠ 0 ∧ e = .returned (.tuple #[.agg #[.slice none 0 0, .slice none 0 0], .int .i64 q.1]) ∧ q.2 = Fn.none_ ∨ q.1 = 0 ∧ ∃ A N c d, e = .returned (.tuple #[.agg #[.slice A q.2.inn.length c, .slice N q.2.nodes.length d], .int .i64 0]) ∧ NetR w' A N q.2 ∧ q.2.inn.length ≤ c ∧ q.2.nodes.length ≤ d ∧ q.2.ok) ∧ Below w.heap.size w w'
set_option maxHeartbeats 8000000 in
set_option maxRecDepth 100000 in
theorem file_decode (A : Option Addr) (c : Nat) (bs : List Int) (w : World) (hI : Ints .u8 w A bs) (hcap : bs.length ≤ c) (hlen : bs.length ≤ 1000000000) (hby : ∀ x ∈ bs, 0 ≤ x ∧ x ≤ 255) :
    Calls Try.prog 8 #[.slice A bs.length c] w (DecNP (Fn.decode bs (Fp.openE bs) (Fp.body bs)) w) := by
  obtain ⟨dec, hdec⟩ : ∃ d, Fn.decode bs (Fp.openE bs) (Fp.body bs) = d := ⟨_, rfl⟩
  rw [hdec]
  have hk0 := Blk.new w 28 #[.slice none 0 0, .slice none 0 0]
  have hI0 := hI.alloc (.cells #[.slice none 0 0, .slice none 0 0] 28)
  have hb0 : Below w.heap.size w (w.alloc (.cells #[.slice none 0 0, .slice none 0 0] 28)) := (Below.refl _ _).alloc (Nat.le_refl _) _
  have Hk0 := Lib.hid hk0
  have HI0 := Lib.hid hI0
  have Hby := Lib.hid hby
  clear hk0 hI0 hby
  clear hI
  go_enter Try.func8, Try.ntmps8
  go_wp2_with fail
  refine (new_reader A c bs _ HI0.out hcap hlen Hby.out).mono ?_
  rintro e w1 ⟨hcase, h1⟩
  have hk1 := Hk0.out.below h1 Hk0.out.lt
  have hb1 := hb0.trans (h1.mono hb0.size)
  have hsz1 := h1.size
  rw [World.size_alloc] at hsz1
  clear h1 hb0 Hk0 HI0
  rcases hcase with ⟨he, rfl⟩ | ⟨he, r, rfl, hrb, hR1⟩
  · have HE := Lib.hid (show dec = (Fp.openE bs, Fn.none_) by rw [← hdec]; unfold Fn.decode; rw [if_pos he])
    clear hdec
    have hne : (Fp.openE bs != 0) = true := by simp [he]
    obtain ⟨hb2, hk2, -⟩ := box2 hb1 (Nat.le_refl _) hk1 (.slice none 0 0) (.slice none 0 0)
    obtain ⟨⟨c0, c1⟩, f0, f1⟩ := hk1.two
    have He := Lib.hid he
    clear he
    clear hk1 hb1
    generalize Fp.openE bs = er at *
    go_wp2_with fail
    refine bodyPost_ret (v := .tuple #[.agg #[.slice none 0 0, .slice none 0 0], .int .i64 er]) (by simp [results, Try.results8, go_sem, c0, c1]) rfl ?_
    exact ⟨.inl ⟨by rw [HE.out]; exact He.out, by rw [HE.out], by rw [HE.out]⟩, hb2⟩
  · have HD2 := Lib.hid (show dec = Fn.dec1 ((Fp.get 4 (some (Fp.body bs))).1, (Fp.get 4 (some (Fp.body bs))).2) by rw [← hdec]; unfold Fn.decode; rw [if_neg (by simp [he])])
    clear hdec
    rw [World.size_alloc] at hrb
    have hO1 : RdO r (some (Fp.body bs)) w1 := ⟨hR1, (fun x hx => Hby.out x (List.mem_of_mem_take hx)), by unfold Fp.body; rw [List.length_take]; omega⟩
    have HO1 := Lib.hid hO1
    have Hk1 := Lib.hid hk1
    clear hO1 hk1
    clear hR1 he
    go_wp2_with fail
    refine (reader_getO r 4 (some (Fp.body bs)) _ HO1.out (by omega) (by omega)).mono ?_
    rintro e w2 ⟨rfl, hR2, hg2⟩
    have hF2 := Fr.of_grown (S := fun b => b = r) hg2 (fun k e _ => by injection e with e; exact e.symm)
    have hk2 := hF2.blk Hk1.out (by omega)
    have hb2 := hb1.trans (hF2.below (B := w.heap.size) (fun b e => by omega) hb1.size)
    have ⟨hfd0, hfd1⟩ := Fn.num_le 4 (by omega) HO1.out.ok
    generalize (Fp.get 4 (some (Fp.body bs))).1 = fd at *
    generalize (Fp.get 4 (some (Fp.body bs))).2 = st2 at *
    have HR2 := Lib.hid hR2
    have Hk2 := Lib.hid hk2
    clear hR2 hk2
    clear HO1 Hk1 hg2 hF2 hb1
    go_wp2_with fail
    refine (reader_shape r st2 _ HR2.out).mono ?_
    rintro e w3 ⟨v3, rfl, hown3, hR3, hg3⟩
    obtain ⟨S, sc, rfl, hI3⟩ := IRow.of_own hown3
    have hsl := Fn.shapeR_len HR2.out.ok
    have hF3 := Fr.of_grown (S := fun b => b = r) hg3 (fun k e _ => by injection e with e; exact e.symm)
    have hk3 := hF3.blk Hk2.out (by omega)
    have hb3 := hb2.trans (hF3.below (B := w.heap.size) (fun b e => by omega) hb2.size)
    have hs3 := hg3.size
    have HD3 := Lib.hid (show dec = Fn.dec2 fd ((Fp.shapeR st2).1, (Fp.shapeR st2).2) from HD2.out)
    have hr2 := HR2.out.lt
    generalize (Fp.shapeR st2).1 = s at *
    generalize (Fp.shapeR st2).2 = st3 at *
    have hU4 : NetU r w.heap.size w3.heap.size (.slice S s.length sc) (.slice none 0 0) w st3 (w3.alloc (.cells #[.slice S s.length sc, .slice none 0 0] 28)) := ⟨hR3.alloc _, hb3.alloc hb3.size _, hk3.alloc _, Blk.new w3 _ _⟩
    have hI4 := hI3.fr ((Fr.refl (fun _ => False) w3).alloc (.cells #[.slice S s.length sc, .slice none 0 0] 28)) (Nat.le_refl _) (fun _ _ _ h => h)
    have hs4 : (w3.alloc (.cells #[.slice S s.length sc, .slice none 0 0] 28)).heap.size = w3.heap.size + 1 := by simp
    generalize hq : w3.heap.size = q at *
    have HU4 := Lib.hid hU4
    have HI4 := Lib.hid hI4
    clear hU4 hI4
    clear HR2 Hk2 hown3 hR3 hg3 hI3 hF3 hk3 hb3 HD2 hb2
    go_wp2_with fail
    generalize w3.alloc (.cells #[.slice S s.length sc, .slice none 0 0] 28) = w4 at *
    refine (reader_getO r 2 st3 _ HU4.out.1 (by omega) (by omega)).mono ?_
    rintro e w5 ⟨rfl, hR5, hg5⟩
    have ⟨hn0, hn1⟩ := Fn.num_le 2 (by omega) HU4.out.1.ok
    have hF5 := Fr.of_grown (S := fun b => b = r) hg5 (fun k e _ => by injection e with e; exact e.symm)
    have hU5 := HU4.out.fr (Nat.le_refl _) (by omega) (by omega) hR5 hF5
    have hI5 := HI4.out.fr hF5 (by omega) (fun b h1 h2 e => by omega)
    have hs5 := hg5.size
    have HD4 := Lib.hid (show dec = Fn.judge fd s (Fn.nodesR (Fp.get 2 st3).1.toNat [] (Fp.get 2 st3).2) from HD3.out)
    generalize (Fp.get 2 st3).1 = nn at *
    generalize (Fp.get 2 st3).2 = st5 at *
    obtain ⟨m, rfl⟩ := Int.eq_ofNat_of_zero_le hn0
    rw [Int.toNat_natCast] at HD4
    have hm : m ≤ 65535 := by simp at hn1; omega
    generalize hC5 : w5.heap.size = C5 at *
    generalize hB2 : w2.heap.size = B2 at *
    have hO5 : NdRow C5 C5 w5 (.slice none 0 0) [] := by subst hC5; exact OwnRow.nil _ _ _ _ _ _
    obtain ⟨i0, hi, hz0, hz1, hz2⟩ := info_parts nodeB_info
    have HU5 := Lib.hid hU5
    have HI5 := Lib.hid hI5
    have HO5 := Lib.hid hO5
    clear hU5 hI5 hO5
    clear HU4 HI4 hR5 hg5 hF5 hn0 hn1 HD3
    go_wp2_with fail
    go_loopw [8] (fun u wr => ∃ (k : Nat) (L : List NdX) (s' : Fn.St) (A : Option Addr) (cap : Nat), u = .int .u64 k ∧ L.length + k ≤ 65535 ∧ Fn.nodesR m [] st5 = Fn.nodesR k (L.map (·.v)) s' ∧ NetU r w.heap.size q (.slice S s.length sc) (.slice A L.length cap) w s' wr ∧ NdRow C5 wr.heap.size wr (.slice A L.length cap) L ∧ IRow B2 q wr S sc s ∧ C5 ≤ wr.heap.size ∧ (∀ x ∈ L, x.v.ok)) (fun u _ => (intOf u).toNat)
    case atStart => exact ⟨m, [], st5, none, 0, rfl, by simp; omega, rfl, HU5.out, by rw [hC5]; exact HO5.out, HI5.out, by omega, by simp⟩
    case round =>
      clear HU5 HI5 HO5
      obtain ⟨k, L, s', A1, cap, rfl, hkL, hNs, hU, hO, hI, hC, hOk⟩ := hrel
      have hcell := hU.1.cell1
      by_cases hgo : k ≠ 0 ∧ s' ≠ none
      · obtain ⟨hk0, hs0⟩ := hgo
        obtain ⟨bs', rfl⟩ : ∃ bs', s' = some bs' := by cases s' with
          | none => exact absurd rfl hs0
          | some bs' => exact ⟨bs', rfl⟩
        obtain ⟨j, rfl⟩ : ∃ j, k = j + 1 := ⟨k - 1, by omega⟩
        have hmild := (Fn.nodeR_mild hU.1.ok).1
        have HNs := Lib.hid (show Fn.nodesR m [] st5 = Fn.nodesR j (L.map (·.v) ++ [(Fn.nodeR (some bs')).1]) (Fn.nodeR (some bs')).2 from hNs)
        have hget : ∀ W, RdO r (some bs') W → Calls Try.prog 27 #[.pointer (some ⟨r, 0, none⟩)] W (fun e w' => ∃ S2 sc2 J2 ic2 Q2 qc2, e = .returned (.agg #[.int .i64 (Fn.nodeR (some bs')).1.op.kind, .int .i64 (Fn.nodeR (some bs')).1.op.k, .int .i64 (Fn.nodeR (some bs')).1.op.width, .int .i64 (Fn.nodeR (some bs')).1.op.step, .int .i64 (Fn.nodeR (some bs')).1.op.side, .int .i64 (Fn.nodeR (some bs')).1.op.frm, .int .i64 (Fn.nodeR (some bs')).1.op.to, .slice S2 (Fn.nodeR (some bs')).1.op.s.length sc2, .slice J2 (Fn.nodeR (some bs')).1.ins.length ic2, .slice Q2 (Fn.nodeR (some bs')).1.p.length qc2]) ∧ On (fun b => W.heap.size ≤ b ∧ b < w'.heap.size) w' (NdX.ok ⟨(Fn.nodeR (some bs')).1, S2, sc2, J2, ic2, Q2, qc2⟩) ∧ RdO r (Fn.nodeR (some bs')).2 w' ∧ Fr (fun b => b = r) W w') := fun W h => by
          refine (reader_node r (some bs') W h).mono ?_
          rintro e w' ⟨⟨v', S2, sc2, J2, ic2, Q2, qc2⟩, h1, rfl, h2, h3, h4⟩
          have h1' : v' = (Fn.nodeR (some bs')).1 := h1
          subst h1'
          exact ⟨S2, sc2, J2, ic2, Q2, qc2, rfl, h2, h3, h4⟩
        generalize (Fn.nodeR (some bs')).1 = v at *
        generalize (Fn.nodeR (some bs')).2 = st6 at *
        have hvok := NodeD.ok_of hmild
        obtain ⟨⟨c0, c1⟩, f0, f1⟩ := hU.2.2.2.two
        have v1 : ((j + 1 : Nat) : Int) - 1 = j := by omega
        have HU := Lib.hid hU
        have HO := Lib.hid hO
        have HI := Lib.hid hI
        have Hget := Lib.hid hget
        have HOk := Lib.hid hOk
        have Hvok := Lib.hid hvok
        clear hU hO hI hget hOk hvok
        clear hNs hmild f0 f1 c0
        go_wp2_with fail
        go_region_law ((first
          | (refine step_append_lies _ (by rfl) _ _ _ (by rfl) C5 68 i0 _ 10 128 Try.underlying26 hi hz0 hz1 hz2 rfl (by omega) (.slice A1 L.length cap) L.length (L.flatMap NdX.cells) (by rfl) (HO2.out.1.alloc _) ⟨w6.heap.size, 0, none⟩ 1 1 (NdX.cells ⟨v, S2, sc2, J2, ic2, Q2, qc2⟩) (by rfl) (by rfl) (World.news_of_block (cs := #[.int .i64 v.op.kind, .int .i64 v.op.k, .int .i64 v.op.width, .int .i64 v.op.step, .int .i64 v.op.side, .int .i64 v.op.frm, .int .i64 v.op.to, .slice S2 v.op.s.length sc2, .slice J2 v.ins.length ic2, .slice Q2 v.p.length qc2]) (t := 68) (fr := (0, 0)) (heap_alloc_new w6 _)) (by simp [Value.oneCell', NdX.cells]) (by omega) (by unfold maxLen; omega) (by omega) (by simp; omega) (w6.heap.size + 1) (by simp) ?_; intro gg cap3 w7 hown7 hgrow hat hlt7; have HU7 := Lib.hid ((HU2.out.alloc (.cells #[.int .i64 v.op.kind, .int .i64 v.op.k, .int .i64 v.op.width, .int .i64 v.op.step, .int .i64 v.op.side, .int .i64 v.op.frm, .int .i64 v.op.to, .slice S2 v.op.s.length sc2, .slice J2 v.ins.length ic2, .slice Q2 v.p.length qc2] 68)).row (Nat.le_refl _) (by omega) (by omega) (by omega) hgrow (fun b hb => (HO2.out.1.lt b hb).1)); obtain ⟨⟨d0, d1⟩, g0, g1⟩ := HU7.out.2.2.2.two)
          | (go_simp; go_at_call 27; refine (Hget.out _ HU.out.1.drew).mono ?_; rintro e w6 ⟨S2, sc2, J2, ic2, Q2, qc2, rfl, hon, hR6, hF6⟩; have HON := Lib.hid hon; have HU2 := Lib.hid (HU.out.drew.fr (Nat.le_refl _) (by omega) (by omega) hR6 hF6); have HO2 := Lib.hid (OwnRow.fr (w := wr.drew) HO.out hF6 (fun b h1 h2 e => by omega)); have HI2 := Lib.hid (IRow.fr (w := wr.drew) HI.out hF6 (show q ≤ wr.heap.size by omega) (fun b h1 h2 e => by omega)); have hs2 : wr.heap.size ≤ w6.heap.size := hF6.size; obtain ⟨⟨e0, e1⟩, k0, k1⟩ := HU2.out.2.2.2.two; have e10 : (w6.alloc (.cells #[.int .i64 v.op.kind, .int .i64 v.op.k, .int .i64 v.op.width, .int .i64 v.op.step, .int .i64 v.op.side, .int .i64 v.op.frm, .int .i64 v.op.to, .slice S2 v.op.s.length sc2, .slice J2 v.ins.length ic2, .slice Q2 v.p.length qc2] 68)).cell? ⟨q, 1, none⟩ = some (.slice A1 L.length cap) := Lib.cell?_alloc_some _ e1; clear hR6 hF6 hon)))
        all_goals
          have hU8 := HU7.out.set1 (Nat.le_refl _) (by omega) (by omega) (.slice (some ⟨gg, 0, none⟩) (L.length + 1) cap3)
          have hs7 := hgrow.size
          simp only [World.size_alloc] at hs7
          have hT8 : Fr (fun b => b = q) w7 (w7.setCell ⟨q, 1, none⟩ (.slice (some ⟨gg, 0, none⟩) (L.length + 1) cap3)) := (Fr.refl (fun b => b = q) _).setCell (p := ⟨q, 1, none⟩) (fun _ => rfl) _
          have hI8 := ((HI2.out.fr ((Fr.refl (fun b => C5 ≤ b) w6).alloc (.cells #[.int .i64 v.op.kind, .int .i64 v.op.k, .int .i64 v.op.width, .int .i64 v.op.step, .int .i64 v.op.side, .int .i64 v.op.frm, .int .i64 v.op.to, .slice S2 v.op.s.length sc2, .slice J2 v.ins.length ic2, .slice Q2 v.p.length qc2] 68)) (by omega) (fun b h1 h2 e => by omega)).fr (Fr.of_grown (S := fun b => C5 ≤ b) hgrow (fun k e _ => (HO2.out.1.lt k e).1)) (by simp; omega) (fun b h1 h2 e => by omega)).fr hT8 (by omega) (fun b h1 h2 e => by omega)
          have hO3 := OwnRow.fr (S := fun _ => False) HO2.out ((Fr.refl (fun _ => False) w6).alloc (.cells #[.int .i64 v.op.kind, .int .i64 v.op.k, .int .i64 v.op.width, .int .i64 v.op.step, .int .i64 v.op.side, .int .i64 v.op.frm, .int .i64 v.op.to, .slice S2 v.op.s.length sc2, .slice J2 v.ins.length ic2, .slice Q2 v.p.length qc2] 68)) (fun _ _ _ h => h)
          have hO4 := OwnRow.push (x := (⟨v, S2, sc2, J2, ic2, Q2, qc2⟩ : NdX)) hO3 hown7 hgrow (by rcases hat with e | e; exact .inl e.symm; exact .inr (by rw [e]; simp [Value.ownBlock])) (HON.out.fr ((Fr.refl (fun _ => False) w6).alloc (.cells #[.int .i64 v.op.kind, .int .i64 v.op.k, .int .i64 v.op.width, .int .i64 v.op.step, .int .i64 v.op.side, .int .i64 v.op.frm, .int .i64 v.op.to, .slice S2 v.op.s.length sc2, .slice J2 v.ins.length ic2, .slice Q2 v.p.length qc2] 68)) (fun b hb => ⟨hb.2, fun h => h⟩)) (fun b hb => by
            have h1' : wr.heap.size ≤ b := hb.1
            have h2' := hb.2
            refine ⟨by omega, by simp; omega, fun e => ?_⟩
            have := HO.out.2.1 b e.symm
            omega)
          have hO5 := OwnRow.fr hO4 hT8 (fun b h1 h2 e => by omega)
          have hs8 : (w7.setCell ⟨q, 1, none⟩ (.slice (some ⟨gg, 0, none⟩) (L.length + 1) cap3)).heap.size = w7.heap.size := by simp
          have hlen : L.length + 1 = (L ++ [(⟨v, S2, sc2, J2, ic2, Q2, qc2⟩ : NdX)]).length := by simp
          have hlen2 : L.length + (j + 1) = (L ++ [(⟨v, S2, sc2, J2, ic2, Q2, qc2⟩ : NdX)]).length + j := by simp; omega
          have HP2 := Lib.hid (show Fn.nodesR m [] st5 = Fn.nodesR j ((L ++ [(⟨v, S2, sc2, J2, ic2, Q2, qc2⟩ : NdX)]).map (·.v)) st6 by rw [HNs.out]; simp)
          have hOk8 : ∀ x ∈ L ++ [(⟨v, S2, sc2, J2, ic2, Q2, qc2⟩ : NdX)], x.v.ok := fun x hx => by
            rcases List.mem_append.1 hx with hx | hx
            · exact HOk.out x hx
            · rw [List.mem_singleton] at hx; subst hx; exact Hvok.out
          rw [hlen2] at hkL
          rw [hlen] at hU8 hO5 hI8 hs8 ⊢
          rw [← hs8] at hO5
          generalize L ++ [(⟨v, S2, sc2, J2, ic2, Q2, qc2⟩ : NdX)] = L5 at *
          have hs9 : C5 ≤ (w7.setCell ⟨q, 1, none⟩ (.slice (some ⟨gg, 0, none⟩) L5.length cap3)).heap.size := by rw [hs8]; omega
          have HU8 := Lib.hid hU8
          have HO5 := Lib.hid hO5
          have HI8 := Lib.hid hI8
          have HOk8 := Lib.hid hOk8
          clear hU8 hO5 hI8 hOk8
          clear hown7 hgrow hat hT8 d0 d1 g0 g1 c1 e0 e1 e10 k0 k1 HU HU2 HU7 HO HO2 HI HI2 Hget hcell hO3 hO4 hs8 hlen hlen2 HNs HON
          go_wp2_with fail
          go_roundw
          case rel => exact ⟨j, L5, st6, some ⟨gg, 0, none⟩, cap3, by go_num, hkL, HP2.out, HU8.out, HO5.out, HI8.out, hs9, HOk8.out⟩
          case measure => simp [intOf]
      · have hEnd : Fn.nodesR m [] st5 = (L.map (·.v), s') := by
          rw [hNs]
          cases k with
          | zero => rfl
          | succ k => cases s' with
            | none => rfl
            | some bs => exact absurd ⟨by omega, by simp⟩ hgo
        have HD5 := Lib.hid (show dec = Fn.judge fd s (L.map (·.v), s') by rw [HD4.out, hEnd])
        have hcond : k = 0 ∨ ∃ j, k = j + 1 ∧ s'.isNone = true := by
          rcases Nat.eq_zero_or_pos k with h | h
          · exact .inl h
          · refine .inr ⟨k - 1, by omega, ?_⟩
            cases s' with
            | none => rfl
            | some bs => exact absurd ⟨by omega, by simp⟩ hgo
        have hLl : (L.map (·.v)).length = L.length := List.length_map _
        obtain ⟨hnd, hcp⟩ := NdRow.nodes hO
        have hNR : NetR wr S A1 ⟨s, L.map (·.v)⟩ := ⟨hI.ints.1, hnd⟩
        have hnok : NetD.ok ⟨s, L.map (·.v)⟩ := ⟨by show s.length ≤ 1048576; omega, by show (L.map (·.v)).length ≤ 1048576; omega, fun v hv => by
          obtain ⟨x, hx, rfl⟩ := List.mem_map.1 hv
          exact hOk x hx⟩
        have hsc := hI.ints.2.1
        rw [← hLl] at hU hcp hO
        have hnd2 : ∀ W, NdRow C5 wr.heap.size W (.slice A1 (L.map (·.v)).length cap) L → Nodes W A1 (L.map (·.v)) := fun W h => (NdRow.nodes h).1
        generalize L.map (·.v) = nv at *
        have HU := Lib.hid hU
        have HNR := Lib.hid hNR
        have Hnok := Lib.hid hnok
        have HO := Lib.hid hO
        have HI := Lib.hid hI
        have Hnd2 := Lib.hid hnd2
        clear hU hNR hnok hO hI hnd2
        clear hNs hEnd hgo hOk hnd hLl
        rcases hcond with rfl | ⟨j, rfl, hcond⟩
        all_goals
          first
          | rw [hcond] at hcell
          | skip
          go_wp2_with fail
          refine (reader_endO r s' _ HU.out.1).mono ?_
          rintro e w8 ⟨rfl, rfl⟩
          rw [endO_eq]
          have HJ := Lib.hid (show dec = if Fn.endO s' = 16 then (16, Fn.none_) else if fd ≠ 1096042545 then (10, Fn.none_) else if Fn.endO s' ≠ 0 then (Fn.endO s', Fn.none_) else if Nt.check ⟨s, nv⟩ ≠ 0 then (Nt.check ⟨s, nv⟩, Fn.none_) else (0, ⟨s, nv⟩) from HD5.out)
          obtain ⟨⟨c0, c1⟩, f0, f1⟩ := HU.out.2.2.1.two
          obtain ⟨⟨x0, x1⟩, -, -⟩ := HU.out.2.2.2.two
          have hbz := (box2 HU.out.2.1 (Nat.le_refl _) HU.out.2.2.1 (.slice none 0 0) (.slice none 0 0)).1
          generalize Fn.endO s' = en at *
          clear HD5
          by_cases h16 : en = 16
          · have HE := Lib.hid (show dec = (16, Fn.none_) by rw [HJ.out, if_pos h16])
            subst h16
            clear HJ x0 x1
            go_wp2_with fail
            refine bodyPost_ret (v := .tuple #[.agg #[.slice none 0 0, .slice none 0 0], .int .i64 16]) (by simp [results, Try.results8, go_sem, c0, c1]) rfl ?_
            exact ⟨.inl ⟨by rw [HE.out]; decide, by rw [HE.out], by rw [HE.out]⟩, hbz⟩
          have h16b : (en == 16) = false := by simp [h16]
          by_cases hfd : fd = 1096042545
          rotate_left
          · have HE := Lib.hid (show dec = (10, Fn.none_) by rw [HJ.out, if_neg h16, if_pos hfd])
            have hfb : (fd != 1096042545) = true := by simp [hfd]
            clear HJ x0 x1 h16 hfd
            go_wp2_with fail
            refine bodyPost_ret (v := .tuple #[.agg #[.slice none 0 0, .slice none 0 0], .int .i64 10]) (by simp [results, Try.results8, go_sem, c0, c1]) rfl ?_
            exact ⟨.inl ⟨by rw [HE.out]; decide, by rw [HE.out], by rw [HE.out]⟩, hbz⟩
          have hfb : (fd != 1096042545) = false := by simp [hfd]
          by_cases h0 : en = 0
          rotate_left
          · have HE := Lib.hid (show dec = (en, Fn.none_) by rw [HJ.out, if_neg h16, if_neg (by simp [hfd]), if_pos h0])
            have h0b : (en != 0) = true := by simp [h0]
            clear HJ x0 x1 h16 hfd
            have H0 := Lib.hid h0
            clear h0
            go_wp2_with fail
            refine bodyPost_ret (v := .tuple #[.agg #[.slice none 0 0, .slice none 0 0], .int .i64 en]) (by simp [results, Try.results8, go_sem, c0, c1]) rfl ?_
            exact ⟨.inl ⟨by rw [HE.out]; exact H0.out, by rw [HE.out], by rw [HE.out]⟩, hbz⟩
          have HJ2 := Lib.hid (show dec = if Nt.check ⟨s, nv⟩ ≠ 0 then (Nt.check ⟨s, nv⟩, Fn.none_) else (0, ⟨s, nv⟩) by rw [HJ.out, if_neg h16, if_neg (by simp [hfd]), if_neg (by simp [h0])])
          subst h0
          clear HJ h16 hbz hfd
          go_wp2_with fail
          refine (net_check S A1 sc cap ⟨s, nv⟩ _ Hnok.out HNR.out hcp).mono ?_
          rintro e w9 ⟨rfl, hb9⟩
          have hR9 := HNR.out.below hb9 (Nat.le_refl _)
          have hk9 := HU.out.2.2.1.below hb9 HU.out.2.2.1.lt
          have hq9 := HU.out.2.2.2.below hb9 HU.out.2.2.2.lt
          have hbw9 := HU.out.2.1.trans (hb9.mono HU.out.2.1.size)
          have hI9 := HI.out.agree (w' := w9) fun b h1 h2 => hb9.block b (by omega)
          have hO9 := OwnRow.fr HO.out (Fr.of_below (S := fun _ => False) hb9 (fun b hb _ => hb)) (fun _ _ _ h => h)
          obtain ⟨⟨c0, c1⟩, f0, f1⟩ := hk9.two
          obtain ⟨⟨y0, y1⟩, -, -⟩ := hq9.two
          clear HU HNR x0 x1 HI HO
          generalize hch : Nt.check ⟨s, nv⟩ = ch at *
          by_cases hc0 : ch = 0
          · have HE := Lib.hid (show dec = (0, ⟨s, nv⟩) by rw [HJ2.out, if_neg (by simp [hc0])])
            obtain ⟨hbz, hkz, hFz⟩ := box2 hbw9 (Nat.le_refl _) hk9 (.slice S s.length sc) (.slice A1 nv.length cap)
            have hRz : NetR ((w9.setCell ⟨w.heap.size, 0, none⟩ (.slice S s.length sc)).setCell ⟨w.heap.size, 1, none⟩ (.slice A1 nv.length cap)) S A1 ⟨s, nv⟩ := by
              have q1 := hI9.agree fun b h1 h2 => hFz.2 b (by have := hb9.size; omega) (by omega)
              have q2 := OwnRow.fr hO9 hFz (fun b h1 h2 e => by omega)
              exact ⟨q1.ints.1, Hnd2.out _ q2⟩
            obtain ⟨⟨d0, d1⟩, -, -⟩ := hkz.two
            subst hc0
            have HRz := Lib.hid hRz
            have Hbz := Lib.hid hbz
            have Hch := Lib.hid hch
            clear hRz hbz hch
            clear hk9 hq9 hkz hFz hR9 hbw9 HJ2 hb9 hI9 hO9
            go_wp2_with fail
            refine bodyPost_ret (v := .tuple #[.agg #[.slice S s.length sc, .slice A1 nv.length cap], .int .i64 0]) (by simp [results, Try.results8, go_sem, c0, c1]) rfl ?_
            exact ⟨.inr ⟨by rw [HE.out], S, A1, sc, cap, by rw [HE.out], by rw [HE.out]; exact HRz.out, by rw [HE.out]; exact hsc, by rw [HE.out]; exact hcp, by rw [HE.out]; exact Hnok.out⟩, Hbz.out⟩
          · have HE := Lib.hid (show dec = (ch, Fn.none_) by rw [HJ2.out, if_pos hc0])
            have h0b : (ch != 0) = true := by simp [hc0]
            have hbz := (box2 hbw9 (Nat.le_refl _) hk9 (.slice none 0 0) (.slice none 0 0)).1
            have Hc0 := Lib.hid hc0
            have Hch := Lib.hid hch
            clear hc0 hch
            clear hk9 hq9 hR9 hbw9 HJ2 y0 y1 hb9 hI9 hO9
            go_wp2_with fail
            refine bodyPost_ret (v := .tuple #[.agg #[.slice none 0 0, .slice none 0 0], .int .i64 ch]) (by simp [results, Try.results8, go_sem, c0, c1]) rfl ?_
            exact ⟨.inl ⟨by rw [HE.out]; exact Hc0.out, by rw [HE.out], by rw [HE.out]⟩, hbz⟩
end Go.Proofs.Ytnofeebcmmmlhaa
/- A node's cells. No program is named here. -/
namespace Go.Proofs.Ytnofeebcmmmlhaa
open Go.RowKit
theorem node_cells10 {W : World} {g : Nat} {t : TypeId} {v : NodeD} {S J Q : Option Addr} {c ic qc : Nat} (h : Blk W g t #[.int .i64 v.op.kind, .int .i64 v.op.k, .int .i64 v.op.width, .int .i64 v.op.step, .int .i64 v.op.side, .int .i64 v.op.frm, .int .i64 v.op.to, .slice S v.op.s.length c, .slice J v.ins.length ic, .slice Q v.p.length qc]) :
    W.cell? ⟨g, 0, none⟩ = some (.int .i64 v.op.kind) ∧ W.cell? ⟨g, 1, none⟩ = some (.int .i64 v.op.k) ∧ W.cell? ⟨g, 2, none⟩ = some (.int .i64 v.op.width) ∧ W.cell? ⟨g, 3, none⟩ = some (.int .i64 v.op.step) ∧ W.cell? ⟨g, 4, none⟩ = some (.int .i64 v.op.side) ∧ W.cell? ⟨g, 5, none⟩ = some (.int .i64 v.op.frm) ∧ W.cell? ⟨g, 6, none⟩ = some (.int .i64 v.op.to) ∧ W.cell? ⟨g, 7, none⟩ = some (.slice S v.op.s.length c) ∧ W.cell? ⟨g, 8, none⟩ = some (.slice J v.ins.length ic) ∧ W.cell? ⟨g, 9, none⟩ = some (.slice Q v.p.length qc) :=
  ⟨h.cell 0, h.cell 1, h.cell 2, h.cell 3, h.cell 4, h.cell 5, h.cell 6, h.cell 7, h.cell 8, h.cell 9⟩
end Go.Proofs.Ytnofeebcmmmlhaa
/- Layer 11 (net): Users, copies, the equalities: contracts. -/
namespace Go.Proofs.Ytnofeebcmmmlhaa
open Go.RowKit
def AnyBool (w : World) (e : Ending) (w' : World) : Prop := ∃ b, e = .returned (.bool b) ∧ Below w.heap.size w w'
set_option maxRecDepth 20000 in
set_option maxHeartbeats 8000000 in
theorem small_12 (A N : Option Addr) (c d : Nat) (n : NetD) (w : World) (hok : n.ok) (hR : NetR w A N n) :
    Calls Try.prog 13 #[.agg #[.slice A n.inn.length c, .slice N n.nodes.length d]] w (AnyBool w) := by
  have hnl := hok.2.1
  have hb0 : Below w.heap.size w (w.alloc (.cells #[.slice A n.inn.length c, .slice N n.nodes.length d] 28)) := (Below.refl _ _).alloc (Nat.le_refl _) _
  have Hok := Lib.hid hok
  have HR := Lib.hid hR
  clear hok hR
  go_enter Try.func13, Try.ntmps13
  go_wp2_with fail
  generalize w.alloc (.cells #[.slice A n.inn.length c, .slice N n.nodes.length d] 28) = w1 at *
  go_loopw [3, 14] (fun t i wx => ∃ (k : Nat) (z : Int), k ≤ n.nodes.length ∧ i = .int .i64 (k : Int) ∧ t = .int .i64 z ∧ Below w.heap.size w wx) (fun _ i _ => n.nodes.length - (intOf i).toNat)
  case atStart => exact ⟨0, _, Nat.zero_le _, rfl, rfl, hb0⟩
  case round =>
    obtain ⟨k, z, hk, rfl, rfl, hbw⟩ := hrel
    clear hb0
    by_cases hlt : k < n.nodes.length
    · obtain ⟨b, off, S, sc, J, ic, Q, qc, rfl, hNA, -, -, -⟩ := HR.out.2.at_ hlt
      have hnok := Hok.out.2.2 _ (List.getElem_mem hlt)
      have hpl := hnok.2.2.2.1
      have hQi := hNA.2.2.2
      generalize n.nodes[k] = v at *
      obtain ⟨⟨y0, y1, y2, y3, y4, y5, y6, y7, y8, y9⟩, -⟩ := hNA.below hbw
      have hbn := hbw.alloc hbw.size (.cells #[.int .i64 v.op.kind, .int .i64 v.op.k, .int .i64 v.op.width, .int .i64 v.op.step, .int .i64 v.op.side, .int .i64 v.op.frm, .int .i64 v.op.to, .slice S v.op.s.length sc, .slice J v.ins.length ic, .slice Q v.p.length qc] 68)
      have HNA := Lib.hid hNA
      have Hnok := Lib.hid hnok
      have HQi := Lib.hid hQi
      clear hNA hnok hQi
      go_wp2_with fail
      clear y0 y1 y2 y3 y4 y5 y6 y7 y8 y9
      generalize wr.alloc (.cells #[.int .i64 v.op.kind, .int .i64 v.op.k, .int .i64 v.op.width, .int .i64 v.op.step, .int .i64 v.op.side, .int .i64 v.op.frm, .int .i64 v.op.to, .slice S v.op.s.length sc, .slice J v.ins.length ic, .slice Q v.p.length qc] 68) = w2 at *
      go_loop [3, 32] (fun t i => ∃ (m : Nat) (z : Int), m ≤ v.p.length ∧ i = .int .i64 (m : Int) ∧ t = .int .i64 z) (fun _ i => v.p.length - (intOf i).toNat)
      case atStart => exact ⟨0, _, Nat.zero_le _, rfl, rfl⟩
      case round =>
        obtain ⟨m, z2, hm, rfl, rfl⟩ := hrel
        by_cases hlm : m < v.p.length
        · obtain ⟨b5, o5, Ss, cs, rfl, -, hcs, -⟩ := HQi.out m hlm
          have hcs2 := cell_below hbn hcs
          clear hcs
          go_wp2_with fail
          go_round
          case rel => exact ⟨m + 1, _, by omega, by go_num, rfl⟩
          case measure => simp [intOf]; omega
        · obtain rfl : m = v.p.length := by omega
          by_cases h3 : 300 < z2
          · have d3 : decide (300 < z2) = true := by simpa using h3
            clear h3
            go_wp2_with fail
            go_ret
            exact ⟨_, rfl, hbn⟩
          · have d3 : decide (300 < z2) = false := by simpa using h3
            clear h3
            go_wp2_with fail
            go_roundw
            case rel => exact ⟨k + 1, _, by omega, by go_num, rfl, hbn⟩
            case measure => simp [intOf]; omega
    · obtain rfl : k = n.nodes.length := by omega
      go_wp2_with fail
      go_ret
      exact ⟨_, rfl, hbw⟩
end Go.Proofs.Ytnofeebcmmmlhaa
/- Layer 11 (net): the equalities: contracts. -/
namespace Go.Proofs.Ytnofeebcmmmlhaa
open Go.RowKit
def eqSs (a b : List (List Int)) : Bool := decide (a = b)
def eqNode (a b : NodeD) : Bool := decide (a = b)
def eqNodes (a b : List NodeD) : Bool := decide (a = b)
def eqNet (a b : NetD) : Bool := decide (a = b)
theorem beq_dec (a b : List Int) : (a == b) = decide (a = b) := by
  rw [Bool.eq_iff_iff]; simp
theorem enters_shEq : ∀ args w, (callFunc 31 args).run Try.prog w = .ok (.enter 31 args) w := enters Try.func31 (by kernel_rfl) rfl
set_option maxRecDepth 20000 in
set_option maxHeartbeats 8000000 in
theorem eqf_shapes (A A' : Option Addr) (c c' : Nat) (ss ts : List (List Int)) (w : World) (hl : ss.length ≤ 1048576) (hl' : ts.length ≤ 1048576) (hs : ∀ s ∈ ss, s.length ≤ 1048576) (ht : ∀ s ∈ ts, s.length ≤ 1048576) (hS : Shps w A ss) (hT : Shps w A' ts) :
    Calls Try.prog 44 #[.slice A ss.length c, .slice A' ts.length c', .func (.func 31) #[] #[]] w fun e w' => e = .returned (.bool (eqSs ss ts)) ∧ ∃ q, w' = w.drewN q := by
  have eg := enters_shEq
  by_cases hlen : ss.length = ts.length
  · have hlen2 : ts.length = ss.length := hlen.symm
    rw [hlen2]
    have HS := Lib.hid hS
    have HT := Lib.hid hT
    have Hs := Lib.hid hs
    have Ht := Lib.hid ht
    have Hlen := Lib.hid hlen
    have Hlen2 := Lib.hid hlen2
    clear hS hT hs ht hlen hlen2
    go_enter Try.func44, Try.ntmps44
    go_wp2_with fail
    go_loopw [17] (fun i wr => ∃ k q : Nat, k ≤ ss.length ∧ i = .int .i64 k ∧ ss.take k = ts.take k ∧ wr = w.drewN q) (fun i _ => ss.length - (intOf i).toNat)
    case atStart => exact ⟨0, 0, Nat.zero_le _, rfl, rfl, rfl⟩
    case round =>
      obtain ⟨k, q, hk, rfl, htk, rfl⟩ := hrel
      by_cases hlt : k < ss.length
      · have hlt2 : k < ts.length := by have := Hlen.out; omega
        obtain ⟨b, off, S, sc, rfl, -, hc, hI, -⟩ := HS.out k hlt
        obtain ⟨b', off', T, tc, rfl, -, hc', hI', -⟩ := HT.out k hlt2
        have l1 := Hs.out _ (List.getElem_mem hlt)
        have l2 := Ht.out _ (List.getElem_mem hlt2)
        have hnx : ss[k] = ts[k] → ss.take (k + 1) = ts.take (k + 1) := fun e => by rw [List.take_succ_eq_append_getElem hlt, List.take_succ_eq_append_getElem hlt2, htk, e]
        have hno : ss[k] ≠ ts[k] → eqSs ss ts = false := fun e => by unfold eqSs; simp; intro h; subst h; exact e rfl
        generalize ss[k] = x at *
        generalize ts[k] = y at *
        have hcall := shape_equal S T sc tc x y (w.drewN q) (by omega) (by omega) (hI.drewN q) (hI'.drewN q)
        rw [beq_dec] at hcall
        have HI := Lib.hid hI
        have HI' := Lib.hid hI'
        have Hnx := Lib.hid hnx
        have Hno := Lib.hid hno
        have Htk := Lib.hid htk
        have Hcall := Lib.hid hcall
        clear hI hI' hnx hno htk hcall
        go_wp2_with fail
        refine (Hcall.out).mono ?_
        rintro e w1 ⟨rfl, q2, rfl⟩
        by_cases hxy : x = y
        · have HX := Lib.hid (Hnx.out hxy)
          rw [decide_eq_true hxy]
          clear hxy
          go_wp2_with fail
          go_roundw
          case rel => exact ⟨k + 1, _, by omega, by go_num, HX.out, by first | rfl | exact World.drewN_drewN _ _ _⟩
          case measure => simp [intOf]; omega
        · have HX := Lib.hid (Hno.out hxy)
          rw [decide_eq_false hxy]
          clear hxy
          go_wp2_with fail
          go_ret
          exact ⟨by rw [HX.out]; rfl, _, by first | rfl | exact World.drewN_drewN _ _ _⟩
      · obtain rfl : k = ss.length := by omega
        have HX := Lib.hid (show eqSs ss ts = true by
          rw [List.take_length] at htk
          unfold eqSs
          rw [htk, Hlen.out, List.take_length]; simp)
        clear htk
        go_wp2_with fail
        go_ret
        exact ⟨by rw [HX.out]; rfl, _, rfl⟩
  · have HX := Lib.hid (show eqSs ss ts = false by unfold eqSs; simp; intro h; exact hlen (by rw [h]))
    have e1 : ((ss.length : Int) != (ts.length : Int)) = true := by rw [bne_iff_ne]; omega
    have e2 : (ss.length != ts.length) = true := by rw [bne_iff_ne]; omega
    have HS := Lib.hid hS
    have HT := Lib.hid hT
    have Hs := Lib.hid hs
    have Ht := Lib.hid ht
    have Hlen := Lib.hid hlen
    clear hS hT hs ht hlen
    go_enter Try.func44, Try.ntmps44
    go_wp2_with fail
    go_ret
    exact ⟨by rw [HX.out]; rfl, 0, rfl⟩
theorem equal_ints (A A' : Option Addr) (c c' : Nat) (xs ys : List Int) (w : World) (hl : xs.length ≤ 1048576) (hl' : ys.length ≤ 1048576) (hI : Ints .i64 w A xs) (hI' : Ints .i64 w A' ys) :
    Calls Try.prog 43 #[.slice A xs.length c, .slice A' ys.length c'] w fun e w' => e = .returned (.bool (decide (xs = ys))) ∧ ∃ q, w' = w.drewN q := by
  by_cases h : xs = []
  · subst h
    refine (Try.slices_Equal_int_empty A A' c ys.length c' w (by omega)).mono ?_
    rintro e w' ⟨rfl, rfl⟩
    refine ⟨ret_bool ?_, 0, rfl⟩
    rw [Bool.eq_iff_iff]
    simp
  · obtain ⟨b, off, rfl, -, -⟩ := hI 0 (List.length_pos_iff.2 h)
    by_cases h2 : ys = []
    · subst h2
      refine (Try.slices_Equal_int_lens _ A' xs.length c 0 c' w (by intro q; exact h (List.eq_nil_of_length_eq_zero q))).mono ?_
      rintro e w' ⟨rfl, rfl⟩
      exact ⟨ret_bool (by simp [h]), 0, rfl⟩
    · obtain ⟨b', off', rfl, -, -⟩ := hI' 0 (List.length_pos_iff.2 h2)
      refine (Try.slices_Equal_int b off xs.length c b' off' ys.length c' xs ys w (Nat.le_refl _) (Nat.le_refl _) (by omega) (by omega) (fun j hj => ?_) (fun j hj => ?_)).mono ?_
      · obtain ⟨b1, o1, e, -, hc⟩ := hI j hj
        injection e with e; injection e with e1 e2; subst e1 e2
        exact hc
      · obtain ⟨b1, o1, e, -, hc⟩ := hI' j hj
        injection e with e; injection e with e1 e2; subst e1 e2
        exact hc
      · rintro e w' ⟨rfl, q, rfl⟩
        rw [List.take_length, List.take_length]
        exact ⟨ret_bool (beq_dec xs ys), q, rfl⟩
theorem node_split (v u : NodeD) : eqNode v u = (decide (v.op = u.op) && decide (v.ins = u.ins) && eqSs v.p u.p) := by
  obtain ⟨a, b, c⟩ := v
  obtain ⟨d, e, f⟩ := u
  unfold eqNode eqSs
  rw [Bool.eq_iff_iff]
  simp [and_assoc]
set_option maxRecDepth 20000 in
set_option maxHeartbeats 8000000 in
theorem node_equal (v u : NodeD) (S J Q S' J' Q' : Option Addr) (sc ic qc sc' ic' qc' : Nat) (w : World) (hv : v.ok) (hu : u.ok) (h1 : Ints .i64 w S v.op.s) (h2 : Ints .i64 w J v.ins) (h3 : Shps w Q v.p) (h1' : Ints .i64 w S' u.op.s) (h2' : Ints .i64 w J' u.ins) (h3' : Shps w Q' u.p) :
    Calls Try.prog 33 #[.agg #[.int .i64 v.op.kind, .int .i64 v.op.k, .int .i64 v.op.width, .int .i64 v.op.step, .int .i64 v.op.side, .int .i64 v.op.frm, .int .i64 v.op.to, .slice S v.op.s.length sc, .slice J v.ins.length ic, .slice Q v.p.length qc], .agg #[.int .i64 u.op.kind, .int .i64 u.op.k, .int .i64 u.op.width, .int .i64 u.op.step, .int .i64 u.op.side, .int .i64 u.op.frm, .int .i64 u.op.to, .slice S' u.op.s.length sc', .slice J' u.ins.length ic', .slice Q' u.p.length qc']] w fun e w' => e = .returned (.bool (eqNode v u)) ∧ Below w.heap.size w w' := by
  have hsp := node_split v u
  have hb0 := below2 w (.cells #[.int .i64 v.op.kind, .int .i64 v.op.k, .int .i64 v.op.width, .int .i64 v.op.step, .int .i64 v.op.side, .int .i64 v.op.frm, .int .i64 v.op.to, .slice S v.op.s.length sc, .slice J v.ins.length ic, .slice Q v.p.length qc] 68) (.cells #[.int .i64 u.op.kind, .int .i64 u.op.k, .int .i64 u.op.width, .int .i64 u.op.step, .int .i64 u.op.side, .int .i64 u.op.frm, .int .i64 u.op.to, .slice S' u.op.s.length sc', .slice J' u.ins.length ic', .slice Q' u.p.length qc'] 68)
  have hk1 := (Blk.new w 68 #[.int .i64 v.op.kind, .int .i64 v.op.k, .int .i64 v.op.width, .int .i64 v.op.step, .int .i64 v.op.side, .int .i64 v.op.frm, .int .i64 v.op.to, .slice S v.op.s.length sc, .slice J v.ins.length ic, .slice Q v.p.length qc]).alloc (.cells #[.int .i64 u.op.kind, .int .i64 u.op.k, .int .i64 u.op.width, .int .i64 u.op.step, .int .i64 u.op.side, .int .i64 u.op.frm, .int .i64 u.op.to, .slice S' u.op.s.length sc', .slice J' u.ins.length ic', .slice Q' u.p.length qc'] 68)
  have hk2 := Blk.new (w.alloc (.cells #[.int .i64 v.op.kind, .int .i64 v.op.k, .int .i64 v.op.width, .int .i64 v.op.step, .int .i64 v.op.side, .int .i64 v.op.frm, .int .i64 v.op.to, .slice S v.op.s.length sc, .slice J v.ins.length ic, .slice Q v.p.length qc] 68)) 68 #[.int .i64 u.op.kind, .int .i64 u.op.k, .int .i64 u.op.width, .int .i64 u.op.step, .int .i64 u.op.side, .int .i64 u.op.frm, .int .i64 u.op.to, .slice S' u.op.s.length sc', .slice J' u.ins.length ic', .slice Q' u.p.length qc']
  rw [World.size_alloc] at hk2
  have ho1 := hv.2.1
  have ho2 := hu.2.1
  have hi1 := hv.2.2.1
  have hi2 := hu.2.2.1
  have hp1 := hv.2.2.2.1
  have hp2 := hu.2.2.2.1
  have q1 := h1.below hb0 (Nat.le_refl _)
  have q1' := h1'.below hb0 (Nat.le_refl _)
  have Hsp := Lib.hid hsp
  have Hv := Lib.hid hv
  have Hu := Lib.hid hu
  have H1 := Lib.hid h1
  have H2 := Lib.hid h2
  have H3 := Lib.hid h3
  have H1' := Lib.hid h1'
  have H2' := Lib.hid h2'
  have H3' := Lib.hid h3'
  have Hk1 := Lib.hid hk1
  have Hk2 := Lib.hid hk2
  have Hq1 := Lib.hid q1
  have Hq1' := Lib.hid q1'
  clear hsp hv hu h1 h2 h3 h1' h2' h3' hk1 hk2 q1 q1'
  go_enter Try.func33, Try.ntmps33
  go_wp2_with fail
  generalize (w.alloc (.cells #[.int .i64 v.op.kind, .int .i64 v.op.k, .int .i64 v.op.width, .int .i64 v.op.step, .int .i64 v.op.side, .int .i64 v.op.frm, .int .i64 v.op.to, .slice S v.op.s.length sc, .slice J v.ins.length ic, .slice Q v.p.length qc] 68)).alloc (.cells #[.int .i64 u.op.kind, .int .i64 u.op.k, .int .i64 u.op.width, .int .i64 u.op.step, .int .i64 u.op.side, .int .i64 u.op.frm, .int .i64 u.op.to, .slice S' u.op.s.length sc', .slice J' u.ins.length ic', .slice Q' u.p.length qc'] 68) = w1 at *
  refine (op_equal v.op u.op S S' sc sc' _ (by omega) (by omega) Hq1.out Hq1'.out).mono ?_
  rintro e w2 ⟨rfl, hb2⟩
  have hbw2 := hb0.trans (hb2.mono hb0.size)
  have hl1 := Hk1.out.lt
  have hl2 := Hk2.out.lt
  obtain ⟨-, -, -, -, -, -, -, -, y8, y9⟩ := node_cells10 (Hk1.out.below hb2 hl1)
  obtain ⟨-, -, -, -, -, -, -, -, z8, z9⟩ := node_cells10 (Hk2.out.below hb2 hl2)
  by_cases a1 : v.op = u.op
  rotate_left
  · have HN := Lib.hid (show eqNode v u = false by rw [Hsp.out, decide_eq_false a1]; simp)
    rw [decide_eq_false a1]
    clear a1
    go_wp2_with fail
    go_ret
    exact ⟨by rw [HN.out]; rfl, hbw2⟩
  · have ha := Hsp.out
    rw [decide_eq_true a1, Bool.true_and] at ha
    rw [decide_eq_true a1]
    clear a1
    have Ha := Lib.hid ha
    clear ha
    go_wp2_with fail
    refine (equal_ints J J' ic ic' v.ins u.ins _ hi1 hi2 (H2.out.below hbw2 (Nat.le_refl _)) (H2'.out.below hbw2 (Nat.le_refl _))).mono ?_
    rintro e w3 ⟨rfl, q3, rfl⟩
    by_cases a2 : v.ins = u.ins
    rotate_left
    · have HN := Lib.hid (show eqNode v u = false by rw [Ha.out, decide_eq_false a2]; simp)
      rw [decide_eq_false a2]
      clear a2
      go_wp2_with fail
      go_ret
      exact ⟨by rw [HN.out]; rfl, Bdrawn hbw2 _⟩
    · have ha2 := Ha.out
      rw [decide_eq_true a2, Bool.true_and] at ha2
      rw [decide_eq_true a2]
      clear a2
      have Ha2 := Lib.hid ha2
      clear ha2
      go_wp2_with fail
      refine (eqf_shapes Q Q' qc qc' v.p u.p _ hp1 hp2 Hv.out.2.2.2.2.1 Hu.out.2.2.2.2.1 ((H3.out.below hbw2 (Nat.le_refl _)).drewN q3) ((H3'.out.below hbw2 (Nat.le_refl _)).drewN q3)).mono ?_
      rintro e w4 ⟨rfl, q4, rfl⟩
      go_wp2_with fail
      go_ret
      exact ⟨by rw [Ha2.out]; rfl, by first | exact Bdrawn2 hbw2 _ _ | exact Bdrawn hbw2 _⟩
theorem enters_nodeEq : ∀ args w, (callFunc 33 args).run Try.prog w = .ok (.enter 33 args) w := enters Try.func33 (by kernel_rfl) rfl
set_option maxRecDepth 20000 in
set_option maxHeartbeats 8000000 in
theorem eqf_nodes (A A' : Option Addr) (c c' : Nat) (ss ts : List NodeD) (w : World) (hl : ss.length ≤ 1048576) (hl' : ts.length ≤ 1048576) (hs : ∀ s ∈ ss, s.ok) (ht : ∀ s ∈ ts, s.ok) (hS : Nodes w A ss) (hT : Nodes w A' ts) :
    Calls Try.prog 32 #[.slice A ss.length c, .slice A' ts.length c', .func (.func 33) #[] #[]] w fun e w' => e = .returned (.bool (eqNodes ss ts)) ∧ Below w.heap.size w w' := by
  have eg := enters_nodeEq
  by_cases hlen : ss.length = ts.length
  · have hlen2 : ts.length = ss.length := hlen.symm
    rw [hlen2]
    have HS := Lib.hid hS
    have HT := Lib.hid hT
    have Hs := Lib.hid hs
    have Ht := Lib.hid ht
    have Hlen := Lib.hid hlen
    have Hlen2 := Lib.hid hlen2
    clear hS hT hs ht hlen hlen2
    go_enter Try.func32, Try.ntmps32
    go_wp2_with fail
    go_loopw [17] (fun i wr => ∃ k : Nat, k ≤ ss.length ∧ i = .int .i64 k ∧ ss.take k = ts.take k ∧ Below w.heap.size w wr) (fun i _ => ss.length - (intOf i).toNat)
    case atStart => exact ⟨0, Nat.zero_le _, rfl, rfl, Below.refl _ _⟩
    case round =>
      obtain ⟨k, hk, rfl, htk, hbw⟩ := hrel
      by_cases hlt : k < ss.length
      · have hlt2 : k < ts.length := by have := Hlen.out; omega
        obtain ⟨b, off, S, sc, J, ic, Q, qc, rfl, hNA, -, -, -⟩ := HS.out.at_ hlt
        obtain ⟨b', off', S', sc', J', ic', Q', qc', rfl, hNB, -, -, -⟩ := HT.out.at_ hlt2
        have l1 := Hs.out _ (List.getElem_mem hlt)
        have l2 := Ht.out _ (List.getElem_mem hlt2)
        have hnx : ss[k] = ts[k] → ss.take (k + 1) = ts.take (k + 1) := fun e => by rw [List.take_succ_eq_append_getElem hlt, List.take_succ_eq_append_getElem hlt2, htk, e]
        have hno : ss[k] ≠ ts[k] → eqNodes ss ts = false := fun e => by unfold eqNodes; simp; intro h; subst h; exact e rfl
        generalize ss[k] = v at *
        generalize ts[k] = u at *
        obtain ⟨⟨y0, y1, y2, y3, y4, y5, y6, y7, y8, y9⟩, -⟩ := hNA.below hbw
        obtain ⟨⟨z0, z1, z2, z3, z4, z5, z6, z7, z8, z9⟩, -⟩ := hNB.below (hbw.alloc hbw.size (.cells #[.int .i64 v.op.kind, .int .i64 v.op.k, .int .i64 v.op.width, .int .i64 v.op.step, .int .i64 v.op.side, .int .i64 v.op.frm, .int .i64 v.op.to, .slice S v.op.s.length sc, .slice J v.ins.length ic, .slice Q v.p.length qc] 68))
        have hb2 : Below wr.heap.size wr _ := below2 wr (.cells #[.int .i64 v.op.kind, .int .i64 v.op.k, .int .i64 v.op.width, .int .i64 v.op.step, .int .i64 v.op.side, .int .i64 v.op.frm, .int .i64 v.op.to, .slice S v.op.s.length sc, .slice J v.ins.length ic, .slice Q v.p.length qc] 68) (.cells #[.int .i64 u.op.kind, .int .i64 u.op.k, .int .i64 u.op.width, .int .i64 u.op.step, .int .i64 u.op.side, .int .i64 u.op.frm, .int .i64 u.op.to, .slice S' u.op.s.length sc', .slice J' u.ins.length ic', .slice Q' u.p.length qc'] 68)
        have hbw2 := hbw.trans (hb2.mono hbw.size)
        have hN1 := hNA.below hbw2
        have hN2 := hNB.below hbw2
        have k0 : (k : Int) < (ss.length : Int) := by omega
        have HNA := Lib.hid hNA
        have HNB := Lib.hid hNB
        have Hnx := Lib.hid hnx
        have Hno := Lib.hid hno
        have Htk := Lib.hid htk
        have Hl1 := Lib.hid l1
        have Hl2 := Lib.hid l2
        have HN1 := Lib.hid hN1
        have HN2 := Lib.hid hN2
        clear hNA hNB hnx hno htk l1 l2 hN1 hN2
        go_wp2_with fail
        clear y0 y1 y2 y3 y4 y5 y6 y7 y8 y9 z0 z1 z2 z3 z4 z5 z6 z7 z8 z9
        generalize (wr.alloc (.cells #[.int .i64 v.op.kind, .int .i64 v.op.k, .int .i64 v.op.width, .int .i64 v.op.step, .int .i64 v.op.side, .int .i64 v.op.frm, .int .i64 v.op.to, .slice S v.op.s.length sc, .slice J v.ins.length ic, .slice Q v.p.length qc] 68)).alloc (.cells #[.int .i64 u.op.kind, .int .i64 u.op.k, .int .i64 u.op.width, .int .i64 u.op.step, .int .i64 u.op.side, .int .i64 u.op.frm, .int .i64 u.op.to, .slice S' u.op.s.length sc', .slice J' u.ins.length ic', .slice Q' u.p.length qc'] 68) = w2 at *
        refine (node_equal v u S J Q S' J' Q' sc ic qc sc' ic' qc' _ Hl1.out Hl2.out HN1.out.2.1 HN1.out.2.2.1 HN1.out.2.2.2 HN2.out.2.1 HN2.out.2.2.1 HN2.out.2.2.2).mono ?_
        rintro e w3 ⟨rfl, hb3⟩
        have hbw3 := hbw2.trans (hb3.mono hbw2.size)
        by_cases hxy : v = u
        · have HX := Lib.hid (Hnx.out hxy)
          rw [show eqNode v u = true from decide_eq_true hxy]
          clear hxy
          go_wp2_with fail
          go_roundw
          case rel => exact ⟨k + 1, by omega, by go_num, HX.out, hbw3⟩
          case measure => simp [intOf]; omega
        · have HX := Lib.hid (Hno.out hxy)
          rw [show eqNode v u = false from decide_eq_false hxy]
          clear hxy
          go_wp2_with fail
          go_ret
          exact ⟨by rw [HX.out]; rfl, hbw3⟩
      · obtain rfl : k = ss.length := by omega
        have HX := Lib.hid (show eqNodes ss ts = true by
          rw [List.take_length] at htk
          unfold eqNodes
          rw [htk, Hlen.out, List.take_length]; simp)
        clear htk
        go_wp2_with fail
        go_ret
        exact ⟨by rw [HX.out]; rfl, hbw⟩
  · have HX := Lib.hid (show eqNodes ss ts = false by unfold eqNodes; simp; intro h; exact hlen (by rw [h]))
    have e1 : ((ss.length : Int) != (ts.length : Int)) = true := by rw [bne_iff_ne]; omega
    have e2 : (ss.length != ts.length) = true := by rw [bne_iff_ne]; omega
    have HS := Lib.hid hS
    have HT := Lib.hid hT
    have Hs := Lib.hid hs
    have Ht := Lib.hid ht
    have Hlen := Lib.hid hlen
    clear hS hT hs ht hlen
    go_enter Try.func32, Try.ntmps32
    go_wp2_with fail
    go_ret
    exact ⟨by rw [HX.out]; rfl, Below.refl _ _⟩
theorem net_split (n m : NetD) : eqNet n m = (decide (n.inn = m.inn) && eqNodes n.nodes m.nodes) := by
  obtain ⟨a, b⟩ := n
  obtain ⟨c, d⟩ := m
  unfold eqNet eqNodes
  rw [Bool.eq_iff_iff]
  simp
set_option maxRecDepth 20000 in
set_option maxHeartbeats 8000000 in
theorem net_equal (A N A' N' : Option Addr) (c d c' d' : Nat) (n m : NetD) (w : World) (hok : n.ok) (hok' : m.ok) (hR : NetR w A N n) (hR' : NetR w A' N' m) :
    Calls Try.prog 26 #[.agg #[.slice A n.inn.length c, .slice N n.nodes.length d], .agg #[.slice A' m.inn.length c', .slice N' m.nodes.length d']] w fun e w' => e = .returned (.bool (eqNet n m)) ∧ Below w.heap.size w w' := by
  have hb0 := below2 w (.cells #[.slice A n.inn.length c, .slice N n.nodes.length d] 28) (.cells #[.slice A' m.inn.length c', .slice N' m.nodes.length d'] 28)
  have hk1 := (Blk.new w 28 #[.slice A n.inn.length c, .slice N n.nodes.length d]).alloc (.cells #[.slice A' m.inn.length c', .slice N' m.nodes.length d'] 28)
  have hk2 := Blk.new (w.alloc (.cells #[.slice A n.inn.length c, .slice N n.nodes.length d] 28)) 28 #[.slice A' m.inn.length c', .slice N' m.nodes.length d']
  rw [World.size_alloc] at hk2
  have hsp := net_split n m
  have l1 := hok.1
  have l2 := hok'.1
  have l3 := hok.2.1
  have l4 := hok'.2.1
  have x1 : ((w.alloc (.cells #[.slice A n.inn.length c, .slice N n.nodes.length d] 28)).alloc (.cells #[.slice A' m.inn.length c', .slice N' m.nodes.length d'] 28)).cell? ⟨w.heap.size, 1, none⟩ = some (.slice N n.nodes.length d) := by rw [hk1.cell]; rfl
  have x2 : ((w.alloc (.cells #[.slice A n.inn.length c, .slice N n.nodes.length d] 28)).alloc (.cells #[.slice A' m.inn.length c', .slice N' m.nodes.length d'] 28)).cell? ⟨w.heap.size + 1, 1, none⟩ = some (.slice N' m.nodes.length d') := by rw [hk2.cell]; rfl
  have hR1 := hR.below hb0 (Nat.le_refl _)
  have hR2 := hR'.below hb0 (Nat.le_refl _)
  have Hok := Lib.hid hok
  have Hok' := Lib.hid hok'
  have HR := Lib.hid hR
  have HR' := Lib.hid hR'
  have Hsp := Lib.hid hsp
  have HR1 := Lib.hid hR1
  have HR2 := Lib.hid hR2
  have Hk1 := Lib.hid hk1
  have Hk2 := Lib.hid hk2
  clear hok hok' hR hR' hsp hR1 hR2 hk1 hk2
  go_enter Try.func26, Try.ntmps26
  go_wp2_with fail
  generalize (w.alloc (.cells #[.slice A n.inn.length c, .slice N n.nodes.length d] 28)).alloc (.cells #[.slice A' m.inn.length c', .slice N' m.nodes.length d'] 28) = w1 at *
  have hcall := shape_equal A A' c c' n.inn m.inn w1 (by omega) (by omega) HR1.out.1 HR2.out.1
  rw [beq_dec] at hcall
  have Hcall := Lib.hid hcall
  clear hcall
  refine (Hcall.out).mono ?_
  rintro e w2 ⟨rfl, q, rfl⟩
  by_cases a1 : n.inn = m.inn
  rotate_left
  · have HN := Lib.hid (show eqNet n m = false by rw [Hsp.out, decide_eq_false a1]; rfl)
    rw [decide_eq_false a1]
    clear a1
    go_wp2_with fail
    go_ret
    exact ⟨by rw [HN.out]; rfl, Bdrawn hb0 _⟩
  · have ha := Hsp.out
    rw [decide_eq_true a1, Bool.true_and] at ha
    rw [decide_eq_true a1]
    clear a1
    have Ha := Lib.hid ha
    clear ha
    go_wp2_with fail
    refine (eqf_nodes N N' d d' n.nodes m.nodes _ l3 l4 Hok.out.2.2 Hok'.out.2.2 (by exact HR1.out.2) (by exact HR2.out.2)).mono ?_
    rintro e w4 ⟨rfl, hb4⟩
    go_wp2_with fail
    go_ret
    exact ⟨by rw [Ha.out]; rfl, (Bdrawn hb0 q).trans (hb4.mono hb0.size)⟩
end Go.Proofs.Ytnofeebcmmmlhaa
/- A world later than another: all that was there reads as it did. No program is named here. -/
namespace Go.Proofs.Ytnofeebcmmmlhaa
open Go.RowKit
/-- All that was there is there. -/
def Later (w w' : World) : Prop := Below w.heap.size w w'
section
variable {w w1 w2 : World}
theorem Later.refl (w : World) : Later w w := Below.refl _ _
theorem Later.alloc (h : Later w w1) (o : Obj) : Later w (w1.alloc o) := Below.alloc h h.size o
theorem Later.drew (h : Later w w1) : Later w w1.drew := Below.drew h
theorem Later.drewN (h : Later w w1) (n : Nat) : Later w (w1.drewN n) := Bdrawn h n
theorem Later.call (h : Later w w1) (k : Below w1.heap.size w1 w2) : Later w w2 := Below.trans h (k.mono h.size)
theorem Later.trans (h : Later w w1) (k : Later w1 w2) : Later w w2 := h.call k
theorem Later.set (h : Later w w1) {p : Addr} (hp : w.heap.size ≤ p.block) (u : Value) : Later w (w1.setCell p u) := Below.setCell h hp u
theorem Later.cell {p : Addr} {v : Value} (h : Later w w1) (hc : w.cell? p = some v) : w1.cell? p = some v := (Below.cell h (World.block_lt_of_cell? _ _ hc)).trans hc
theorem Later.blk {g : Nat} {t : TypeId} {cs : Array Value} (h : Later w w1) (hb : Blk w g t cs) : Blk w1 g t cs := hb.below h hb.lt
theorem Later.below {B : Nat} {w0 : World} (h : Later w w1) (hb : Below B w0 w) (hB : B ≤ w.heap.size) : Below B w0 w1 := hb.trans (Below.mono h hB)
end
end Go.Proofs.Ytnofeebcmmmlhaa
/- Rows of bytes that are the call's own, written to_. -/
namespace Go.Proofs.Ytnofeebcmmmlhaa
open Go.RowKit
/-- Block g begins with the bytes zs, and has room for n. -/
def BRow (w : World) (g n : Nat) (zs : List Int) : Prop := ∃ cur : Array Value, Blk w g 5 cur ∧ cur.size = n ∧ zs.length ≤ n ∧ cur.toList.take zs.length = bytesV zs
section
variable {w w' : World} {g n : Nat} {zs : List Int}
theorem BRow.lt (h : BRow w g n zs) : g < w.heap.size := by obtain ⟨cur, h1, _⟩ := h; exact h1.lt
theorem BRow.room (h : BRow w g n zs) : zs.length ≤ n := h.choose_spec.2.2.1
theorem BRow.later (h : BRow w g n zs) (hl : Later w w') : BRow w' g n zs := by
  obtain ⟨cur, h1, h2⟩ := h
  exact ⟨cur, hl.blk h1, h2⟩
theorem BRow.at_ (h : BRow w g n zs) {j : Nat} (hj : j < zs.length) : w.cell? ⟨g, j, none⟩ = some (.int .u8 zs[j]) := by
  obtain ⟨cur, h1, h2, h3, h4⟩ := h
  rw [h1.cell]
  have := congrArg (fun l => l[j]?) h4
  simp [bytesV, hj] at this
  exact this
theorem BRow.ints (h : BRow w g n zs) : Ints .u8 w (some ⟨g, 0, none⟩) zs := Ints.of_row fun j hj => by
  rw [Nat.zero_add, h.at_ hj, List.getD_eq_getElem?_getD, List.getElem?_eq_getElem hj]; rfl
theorem BRow.frozen (h : BRow w g n zs) (i : Nat) : w.frozen? ⟨g, i, none⟩ = false := by obtain ⟨cur, h1, _⟩ := h; exact h1.frozen i
theorem BRow.set (h : BRow w g n zs) {i : Nat} (hi : i < zs.length) (x : Int) : BRow (w.setCell ⟨g, i, none⟩ (.int .u8 x)) g n (zs.set i x) := by
  obtain ⟨cur, h1, h2, h3, h4⟩ := h
  refine ⟨_, h1.set_ i _, by simpa using h2, by simpa using h3, ?_⟩
  rw [List.length_set, Array.toList_setIfInBounds, List.take_set, h4]
  simp [bytesV]
theorem BRow.own {v : Value} (h : w.ownsRow n 5 1 v zs.length (bytesV zs)) (hz : 0 < zs.length) : ∃ g c, v = .slice (some ⟨g, 0, none⟩) zs.length c ∧ n ≤ g ∧ BRow w g c zs ∧ c ≤ 9223372036854775807 ∧ w.ownsRow n 5 1 (.slice (some ⟨g, 0, none⟩) zs.length c) zs.length (bytesV zs) := by
  have h' := h
  rcases h.2 with ⟨_, h0⟩ | ⟨g, cap, cur, rfl, h1, h2, h3, h4, h5, h6⟩
  · omega
  · exact ⟨g, cap, rfl, h1, ⟨cur, h2, by omega, h3, by simpa using h6⟩, by unfold maxLen at h4; omega, h'⟩
end
end Go.Proofs.Ytnofeebcmmmlhaa
/- The document's bytes (reference 12: Big, Sum, Shape): contracts. -/
namespace Go.Proofs.Ytnofeebcmmmlhaa
open Go.RowKit

/-- A string's bytes as numbers. -/
def numsOf (s : ByteArray) : List Int := s.data.toList.map fun c => (c.toNat : Int)
theorem numsOf_length (s : ByteArray) : (numsOf s).length = s.size := by unfold numsOf; rw [List.length_map]; rfl
theorem numsOf_byte (s : ByteArray) : ∀ x ∈ numsOf s, 0 ≤ x ∧ x ≤ 255 := fun x hx => by
  obtain ⟨c, _, rfl⟩ := List.mem_map.1 hx
  have := c.toNat_lt
  omega
theorem numsOf_str {bs : List Int} (h : ∀ x ∈ bs, 0 ≤ x ∧ x ≤ 255) : numsOf (strOfNums bs) = bs := by
  unfold numsOf strOfNums
  simp only [List.map_map]
  conv => rhs; rw [← List.map_id bs]
  apply List.map_congr_left
  intro x hx
  have := h x hx
  simp only [Function.comp, id, UInt8.toNat_ofNat']
  omega
theorem str_numsOf (s : ByteArray) : strOfNums (numsOf s) = s := by
  unfold numsOf strOfNums
  simp only [List.map_map]
  have : (s.data.toList.map ((fun n : Int => UInt8.ofNat n.toNat) ∘ fun c : UInt8 => (c.toNat : Int))) = s.data.toList := by
    conv => rhs; rw [← List.map_id s.data.toList]
    apply List.map_congr_left
    intro c _
    simp
  rw [this]
theorem numsOf_get (s : ByteArray) (k : Nat) (h : k < s.size) : (numsOf s)[k]'(by rw [numsOf_length]; exact h) = ((s[k]).toNat : Int) := by
  simp [numsOf]; rfl
theorem str_inj {a b : List Int} (ha : ∀ x ∈ a, 0 ≤ x ∧ x ≤ 255) (hb : ∀ x ∈ b, 0 ≤ x ∧ x ≤ 255) (h : strOfNums a = strOfNums b) : a = b := by
  rw [← numsOf_str ha, h, numsOf_str hb]
theorem str_size_le {bs : List Int} {n : Nat} (h : bs.length ≤ n) : (strOfNums bs).size ≤ n := by rw [strOfNums_size]; exact h

theorem run_str1 (W : World) (x : Int) : (convert 22 9 (.slice (some ⟨W.heap.size, 0, none⟩) 1 1)).run Try.prog (W.alloc (.cells #[.int .u8 x] 5)) = .ok (.string (strOfNums [x])) (W.alloc (.cells #[.int .u8 x] 5)) :=
  run_string_of (zs := [x]) 1 22 5 9 Try.underlying22 Try.underlying5 Try.underlying9 (Ints.of_row fun j hj => by obtain rfl : j = 0 := (by simpa using hj); simp)
set_option maxHeartbeats 1000000 in
theorem ref_big (n : Int) (size : Nat) (w : World) (h0 : 0 ≤ n) (h1 : n < 18446744073709551616) (hs : size ≤ 8) :
    Calls Try.prog 9 #[.int .u64 n, .int .i64 size] w fun e w' => e = .returned (.string (strOfNums (Fp.big n size))) ∧ Below w.heap.size w w' := by
  have hcv := run_str1
  have hs1 : ∀ x : Int, (strOfNums [x]).size = 1 := fun _ => rfl
  go_enter Try.func9, Try.ntmps9
  go_wp2_with fail
  go_loopw [0, 5, 6] (fun m s i wr => ∃ (k : Nat) (q : Int) (t : ByteArray), k ≤ size ∧ i = .int .i64 k ∧ m = .int .u64 q ∧ q = n / 256 ^ k ∧ 0 ≤ q ∧ q < 18446744073709551616 ∧ s = .string t ∧ t = strOfNums (Fp.big n k) ∧ t.size ≤ 8 ∧ Below w.heap.size w wr) (fun _ _ i _ => size - (intOf i).toNat)
  case atStart => exact ⟨0, n, _, Nat.zero_le _, rfl, rfl, by simp, h0, h1, rfl, rfl, by simp [ByteArray.size], Below.refl _ _⟩
  case round =>
    obtain ⟨k, q, t, hk, rfl, rfl, hq, hq0, hq1, rfl, ht, hts, hbel⟩ := hrel
    have Hq := Lib.hid hq
    have Ht := Lib.hid ht
    clear hq ht
    by_cases hlt : k < size
    · have hx : IntKind.u8.wrap (q % 256) = q % 256 := by rw [IntKind.wrap_u8']; omega
      have HT := Lib.hid (show strOfNums [q % 256] ++ t = strOfNums (Fp.big n (k + 1)) by rw [Ht.out, ← strOfNums_append, Fp.big, Hq.out]; rfl)
      have HQ := Lib.hid (show q / 256 = n / 256 ^ (k + 1) by rw [Hq.out, Int.ediv_ediv_of_nonneg (Int.pow_nonneg (by decide)), Int.pow_succ])
      have HZ := Lib.hid (show (strOfNums [q % 256] ++ t).size ≤ 8 by rw [HT.out, strOfNums_size, Fp.big_length]; omega)
      go_wp2_with fail
      go_roundw
      case rel => exact ⟨k + 1, q / 256, _, by omega, by go_num, rfl, HQ.out, by omega, by omega, rfl, HT.out, HZ.out, hbel.alloc hbel.size _⟩
      case measure => simp [intOf]; omega
    · obtain rfl : k = size := by omega
      go_wp2_with fail
      go_ret
      exact ⟨by rw [← Ht.out]; rfl, hbel⟩

set_option maxHeartbeats 1000000 in
theorem ref_sum (s : ByteArray) (w : World) (hs : s.size ≤ 1000000000) :
    Calls Try.prog 10 #[.string s] w fun e w' => e = .returned (.int .u64 (Fp.sum (numsOf s))) ∧ w = w' := by
  go_enter Try.func10, Try.ntmps10
  go_wp2_with fail
  go_loopw [3, 4] (fun n i wr => wr = w ∧ ∃ k : Nat, k ≤ s.size ∧ i = .int .i64 k ∧ n = .int .u64 (Fp.sum ((numsOf s).take k))) (fun _ i _ => s.size - (intOf i).toNat)
  case atStart => exact ⟨rfl, 0, Nat.zero_le _, rfl, rfl⟩
  case round =>
    obtain ⟨rfl, k, hk, rfl, rfl⟩ := hrel
    by_cases hlt : k < s.size
    · have hl := numsOf_length s
      have HS := Lib.hid (Fp.sum_step (numsOf s) k (by omega))
      have hg := numsOf_get s k hlt
      rw [hg] at HS
      have hb := (s[k]).toNat_lt
      have ⟨hs0, hs1⟩ := Fp.sum_range ((numsOf s).take k)
      clear hl hg
      generalize Fp.sum ((numsOf s).take k) = sm at *
      have hx0 : (0 : Int) ≤ (s[k].toNat : Int) := by omega
      have hx1 : (s[k].toNat : Int) ≤ 255 := by omega
      have hpr := Int.mul_nonneg (show (0 : Int) ≤ (k : Int) + 1 by omega) hx0
      have hpr2 := Int.mul_le_mul (show (k : Int) + 1 ≤ 1000000000 by omega) hx1 hx0 (by omega)
      go_wp2_with fail
      go_roundw
      case rel => exact ⟨trivial, k + 1, by omega, by go_num, by rw [HS.out]⟩
      case measure => simp [intOf]; omega
    · obtain rfl : k = s.size := by omega
      have HE := Lib.hid (show (numsOf s).take s.size = numsOf s by rw [← numsOf_length, List.take_length])
      go_wp2_with fail
      go_ret
      exact ⟨by rw [HE.out]; rfl, rfl⟩

set_option maxHeartbeats 1000000 in
theorem ref_shape (A : Option Addr) (c : Nat) (zs : List Int) (w : World) (hl : zs.length ≤ 1000000) (hI : Ints .i64 w A zs) :
    Calls Try.prog 17 #[.slice A zs.length c] w fun e w' => e = .returned (.string (strOfNums (Fp.shape zs))) ∧ Below w.heap.size w w' := by
  have HI := Lib.hid hI
  clear hI
  have hu0 : IntKind.u64.wrap (zs.length : Int) = zs.length := IntWalk.u64_in _ (by omega)
  go_enter Try.func17, Try.ntmps17
  go_wp2_with fail
  refine (ref_big zs.length 1 _ (by omega) (by omega) (by omega)).mono ?_
  rintro e w1 ⟨rfl, h1⟩
  go_wp2_with fail
  go_loopw [3, 4] (fun s i wr => ∃ (k : Nat) (t : ByteArray), k ≤ zs.length ∧ i = .int .i64 k ∧ s = .string t ∧ t = strOfNums (Fp.shapeTo zs k) ∧ t.size ≤ 1 + 2 * k ∧ Below w.heap.size w wr) (fun _ i _ => zs.length - (intOf i).toNat)
  case atStart => exact ⟨0, _, Nat.zero_le _, rfl, rfl, by rw [Fp.shapeTo_zero], by rw [strOfNums_size, Fp.big_length]; omega, h1⟩
  case round =>
    clear h1
    obtain ⟨k, t, hk, rfl, rfl, ht, hts, hbel⟩ := hrel
    have Ht := Lib.hid ht
    clear ht
    by_cases hlt : k < zs.length
    · obtain ⟨b, off, rfl, hb, hc⟩ := HI.out.below hbel (Nat.le_refl _) k hlt
      have hu : IntKind.u64.wrap zs[k] = zs[k] % 18446744073709551616 := IntKind.wrap_u64 _
      have HS := Lib.hid (Fp.shapeTo_succ zs k hlt)
      have HL := Lib.hid (Fp.shapeTo_length zs (k + 1) hlt)
      go_wp2_with fail
      refine (ref_big (zs[k] % 18446744073709551616) 2 _ (by omega) (by omega) (by omega)).mono ?_
      rintro e w2 ⟨rfl, h2⟩
      have hb2 := hbel.trans (h2.mono hbel.size)
      rw [Fp.big_wrap _ _ (by omega)]
      have HT := Lib.hid (show t ++ strOfNums (Fp.big zs[k] 2) = strOfNums (Fp.shapeTo zs (k + 1)) by rw [Ht.out, HS.out, strOfNums_append])
      have HZ := Lib.hid (show (t ++ strOfNums (Fp.big zs[k] 2)).size ≤ 1 + 2 * (k + 1) by rw [HT.out, strOfNums_size, HL.out]; omega)
      have hz : (strOfNums (Fp.big zs[k] 2)).size ≤ 2 := str_size_le (by rw [Fp.big_length]; omega)
      clear h2 hbel
      generalize strOfNums (Fp.big zs[k] 2) = t2 at *
      go_wp2_with fail
      go_roundw
      case rel => exact ⟨k + 1, _, by omega, by go_num, rfl, HT.out, HZ.out, hb2⟩
      case measure => simp [intOf]; omega
    · obtain rfl : k = zs.length := by omega
      rw [Fp.shapeTo_all] at Ht
      go_wp2_with fail
      go_ret
      exact ⟨by rw [← Ht.out]; rfl, hbel⟩
end Go.Proofs.Ytnofeebcmmmlhaa
/- Layer 12's statements: the fixed answer. -/
namespace Go.Proofs.Ytnofeebcmmmlhaa
open Go.RowKit
def af : NetD := ⟨[2], [⟨⟨12, 0, 2, 1, 0, 0, 0, []⟩, [0], []⟩]⟩
def afE : List Int := Fn.enc af
theorem af_check : Nt.check af = 0 := by decide +kernel
theorem af_ok : af.ok := by
  refine ⟨by decide, by decide, fun v hv => ?_⟩
  simp [af] at hv
  subst hv; exact ⟨by intro z hz; simp at hz; omega, by decide, by decide, by decide, by simp, by intro z hz; simp at hz; omega⟩
theorem afE_len : afE.length = 37 := by decide +kernel
theorem afE_five : afE.getD 5 0 = 0 := by decide +kernel
theorem afE_four : strOfNums (afE.take 4) = ⟨#[65, 84, 72, 49]⟩ := by decide +kernel
theorem afE_dec : Fn.dec afE = (0, af) := Fn.dec_enc (Fn.fitsN_of af_ok af_check) af_check
theorem afE_set : Fp.openE (afE.set 5 1) = 30 := by decide +kernel
theorem afE_byte : ∀ x ∈ afE, 0 ≤ x ∧ x ≤ 255 := by decide +kernel
theorem afS_byte : ∀ x ∈ afE.set 5 1, 0 ≤ x ∧ x ≤ 255 := by decide +kernel
theorem dec_wrong {bs : List Int} (h : Fp.openE bs ≠ 0) : Fn.decode bs (Fp.openE bs) (Fp.body bs) = (Fp.openE bs, Fn.none_) := by unfold Fn.decode; rw [if_pos h]
theorem afS_dec : Fn.decode (afE.set 5 1) (Fp.openE (afE.set 5 1)) (Fp.body (afE.set 5 1)) = (30, Fn.none_) := by rw [dec_wrong (by rw [afE_set]; decide), afE_set]
theorem Blk.ints1 {w : World} {g : Nat} {t : TypeId} {x : Int} (h : Blk w g t #[.int .i64 x]) : Ints .i64 w (some ⟨g, 0, none⟩) [x] := Ints.of_row fun j hj => by
  obtain rfl : j = 0 := by simpa using hj
  rw [h.cell]; rfl
/-- The fixed net, in memory. -/
theorem af_net {W : World} {p q g : Nat} (hp : Blk W p 3 #[.int .i64 2]) (hq : Blk W q 3 #[.int .i64 0])
    (hg : Blk W g 68 #[.int .i64 12, .int .i64 0, .int .i64 2, .int .i64 1, .int .i64 0, .int .i64 0, .int .i64 0, .slice none 0 0, .slice (some ⟨q, 0, none⟩) 1 1, .slice none 0 0]) :
    NetR W (some ⟨p, 0, none⟩) (some ⟨g, 0, none⟩) af := by
  refine ⟨hp.ints1, fun j hj => ?_⟩
  obtain rfl : j = 0 := by simpa [af] using hj
  exact ⟨g, 0, none, 0, some ⟨q, 0, none⟩, 1, none, 0, rfl, hg.lt, hg.cell 0, hg.cell 1, hg.cell 2, hg.cell 3, hg.cell 4, hg.cell 5, hg.cell 6, hg.cell 7, hg.cell 8, hg.cell 9, ⟨Ints.nil, by simp [af], by omega⟩, ⟨hq.ints1, by simp [af], by omega⟩, Shps.nil, by simp [af], by omega⟩
abbrev afW (w : World) : World := (((w.alloc (.cells #[.int .i64 2] 3)).alloc (.cells #[.int .i64 0] 3)).alloc (.cells #[.int .i64 12, .int .i64 0, .int .i64 2, .int .i64 1, .int .i64 0, .int .i64 0, .int .i64 0, .slice none 0 0, .slice (some ⟨w.heap.size + 1, 0, none⟩) 1 1, .slice none 0 0] 68)).alloc (.cells #[.slice (some ⟨w.heap.size, 0, none⟩) 1 1, .slice (some ⟨w.heap.size + 1 + 1, 0, none⟩) 1 1] 28)
theorem af_start (w : World) : NetR (afW w) (some ⟨w.heap.size, 0, none⟩) (some ⟨w.heap.size + 1 + 1, 0, none⟩) af ∧ Blk (afW w) (w.heap.size + 1 + 1 + 1) 28 #[.slice (some ⟨w.heap.size, 0, none⟩) 1 1, .slice (some ⟨w.heap.size + 1 + 1, 0, none⟩) 1 1] ∧ Later w (afW w) := by
  have k0 := (((Blk.new w 3 #[.int .i64 2]).alloc (.cells #[.int .i64 0] 3)).alloc (.cells #[.int .i64 12, .int .i64 0, .int .i64 2, .int .i64 1, .int .i64 0, .int .i64 0, .int .i64 0, .slice none 0 0, .slice (some ⟨w.heap.size + 1, 0, none⟩) 1 1, .slice none 0 0] 68)).alloc (.cells #[.slice (some ⟨w.heap.size, 0, none⟩) 1 1, .slice (some ⟨w.heap.size + 1 + 1, 0, none⟩) 1 1] 28)
  have k1 := ((Blk.new (w.alloc (.cells #[.int .i64 2] 3)) 3 #[.int .i64 0]).alloc (.cells #[.int .i64 12, .int .i64 0, .int .i64 2, .int .i64 1, .int .i64 0, .int .i64 0, .int .i64 0, .slice none 0 0, .slice (some ⟨w.heap.size + 1, 0, none⟩) 1 1, .slice none 0 0] 68)).alloc (.cells #[.slice (some ⟨w.heap.size, 0, none⟩) 1 1, .slice (some ⟨w.heap.size + 1 + 1, 0, none⟩) 1 1] 28)
  have k2 := (Blk.new ((w.alloc (.cells #[.int .i64 2] 3)).alloc (.cells #[.int .i64 0] 3)) 68 #[.int .i64 12, .int .i64 0, .int .i64 2, .int .i64 1, .int .i64 0, .int .i64 0, .int .i64 0, .slice none 0 0, .slice (some ⟨w.heap.size + 1, 0, none⟩) 1 1, .slice none 0 0]).alloc (.cells #[.slice (some ⟨w.heap.size, 0, none⟩) 1 1, .slice (some ⟨w.heap.size + 1 + 1, 0, none⟩) 1 1] 28)
  have k3 := Blk.new (((w.alloc (.cells #[.int .i64 2] 3)).alloc (.cells #[.int .i64 0] 3)).alloc (.cells #[.int .i64 12, .int .i64 0, .int .i64 2, .int .i64 1, .int .i64 0, .int .i64 0, .int .i64 0, .slice none 0 0, .slice (some ⟨w.heap.size + 1, 0, none⟩) 1 1, .slice none 0 0] 68)) 28 #[.slice (some ⟨w.heap.size, 0, none⟩) 1 1, .slice (some ⟨w.heap.size + 1 + 1, 0, none⟩) 1 1]
  simp only [World.size_alloc] at k1 k2 k3
  exact ⟨af_net k0 k1 k2, k3, ((((Later.refl w).alloc _).alloc _).alloc _).alloc _⟩
set_option maxHeartbeats 8000000 in
set_option maxRecDepth 100000 in
theorem awake12 (w : World) : Calls Try.prog 7 #[] w fun e w' => e = .returned (.bool true) ∧ Below w.heap.size w w' := by
  obtain ⟨hR1, hk1, hl1⟩ := af_start w
  obtain ⟨i0, hi, hz0, hz1, hz2⟩ := info_parts byte_info
  have kc := fun (w : World) (C : Array Value) (n c : Nat) => Lib.run_convert_bytes_const (P := Try.prog) w 22 5 C n c Try.underlying22 Try.underlying5
  have HR1 := Lib.hid hR1
  have Hk1 := Lib.hid hk1
  have Hl1 := Lib.hid hl1
  have Hkc := Lib.hid kc
  clear hR1 hk1 hl1 kc
  go_enter Try.func7, Try.ntmps7
  go_wp2_with fail
  show Calls Try.prog 11 _ (afW w) _
  generalize afW w = W1 at *
  obtain ⟨p, hp⟩ : ∃ p, p = w.heap.size := ⟨_, rfl⟩
  have hR1 := HR1.out
  have hk1 := Hk1.out
  have hl1 := Hl1.out
  generalize w.heap.size + 1 + 1 + 1 = b at *
  generalize w.heap.size + 1 + 1 = q at *
  rw [← hp] at *
  clear HR1 Hk1 Hl1
  refine (file_encode (some ⟨p, 0, none⟩) (some ⟨q, 0, none⟩) 1 1 af W1 af_ok hR1 (by decide)).mono ?_
  rintro e W2 ⟨hcase, hb2⟩
  rcases hcase with ⟨hne, _⟩ | ⟨_, A2, c2, rfl, hI2, hc2⟩
  · exact absurd af_check hne
  have h12 : Later W1 W2 := hb2
  have hl2 := hl1.trans h12
  have hR2 := hR1.below h12 (Nat.le_refl _)
  have hk2 := h12.blk hk1
  have hE : Fn.enc af = afE := rfl
  rw [hE] at hI2 hc2 ⊢
  rw [afE_len] at hc2 ⊢
  have hdec := fun W (h : Ints .u8 W A2 afE) => file_decode A2 c2 afE W h (by rw [afE_len]; exact hc2) (by rw [afE_len]; omega) afE_byte
  rw [show Fn.decode afE (Fp.openE afE) (Fp.body afE) = (0, af) from afE_dec, afE_len] at hdec
  have HR2 := Lib.hid hR2
  have Hk2 := Lib.hid hk2
  have Hl2 := Lib.hid hl2
  have HI2 := Lib.hid hI2
  have Hdec := Lib.hid hdec
  clear hR2 hk2 hl2 hI2 hdec
  clear hb2 h12 hR1 hk1 hl1 hE
  go_wp2_with fail
  refine (Hdec.out _ HI2.out).mono ?_
  rintro e W3 ⟨hcase, hb3⟩
  rcases hcase with ⟨hne, _⟩ | ⟨_, A3, N3, c3, d3, rfl, hN3, hc3, hd3, _⟩
  · exact absurd rfl hne
  rw [show ((0, af) : Int × NetD).2.inn.length = 1 from rfl, show ((0, af) : Int × NetD).2.nodes.length = 1 from rfl]
  have h24 : Later W2 (W3.alloc (.cells #[.slice A3 1 c3, .slice N3 1 d3] 28)) := (show Later W2 W3 from hb3).alloc _
  have h34 : Later W3 (W3.alloc (.cells #[.slice A3 1 c3, .slice N3 1 d3] 28)) := (Later.refl _).alloc _
  have hm4 := Blk.new W3 28 #[.slice A3 1 c3, .slice N3 1 d3]
  have hR4 := HR2.out.below h24 (Nat.le_refl _)
  have hk4 := h24.blk Hk2.out
  have hl4 := Hl2.out.trans h24
  have hI4 := HI2.out.below h24 (Nat.le_refl _)
  have hN4 : NetR (W3.alloc (.cells #[.slice A3 1 c3, .slice N3 1 d3] 28)) A3 N3 af := hN3.below h34 (Nat.le_refl _)
  have h45 : Later (W3.alloc (.cells #[.slice A3 1 c3, .slice N3 1 d3] 28)) ((W3.alloc (.cells #[.slice A3 1 c3, .slice N3 1 d3] 28)).alloc (.cells #[.int .u8 65, .int .u8 84, .int .u8 72, .int .u8 49] 5 (4, 5))) := (Later.refl _).alloc _
  have hC5 : Ints .u8 ((W3.alloc (.cells #[.slice A3 1 c3, .slice N3 1 d3] 28)).alloc (.cells #[.int .u8 65, .int .u8 84, .int .u8 72, .int .u8 49] 5 (4, 5))) (some ⟨W3.heap.size + 1, 0, none⟩) [65, 84, 72, 49] := Ints.of_row fun j hj => by
    have hn := heap_alloc_new (W3.alloc (.cells #[.slice A3 1 c3, .slice N3 1 d3] 28)) (.cells #[.int .u8 65, .int .u8 84, .int .u8 72, .int .u8 49] 5 (4, 5))
    rw [World.size_alloc] at hn
    rw [Nat.zero_add, cell_of_row _ _ j _ _ _ hn]
    match j, hj with
    | 0, _ => rfl
    | 1, _ => rfl
    | 2, _ => rfl
    | 3, _ => rfl
  have kc := Hkc.out (W3.alloc (.cells #[.slice A3 1 c3, .slice N3 1 d3] 28)) #[.int .u8 65, .int .u8 84, .int .u8 72, .int .u8 49] 4 4
  rw [World.size_alloc] at kc
  have HR4 := Lib.hid hR4
  have Hk4 := Lib.hid hk4
  have Hl4 := Lib.hid hl4
  have HI4 := Lib.hid hI4
  have HN4 := Lib.hid hN4
  have Hm4 := Lib.hid hm4
  have H45 := Lib.hid h45
  have HC5 := Lib.hid hC5
  clear hR4 hk4 hl4 hI4 hN4 hm4 h45 hC5
  clear HR2 Hk2 Hl2 HI2 Hdec hN3 hb3 h24 h34 Hkc
  go_wp2_with fail
  clear kc
  generalize hW5 : (W3.alloc (.cells #[.slice A3 1 c3, .slice N3 1 d3] 28)).alloc (.cells #[.int .u8 65, .int .u8 84, .int .u8 72, .int .u8 49] 5 (4, 5)) = W5 at *
  have HW4 := Lib.hid (show (W3.alloc (.cells #[.slice A3 1 c3, .slice N3 1 d3] 28)).heap.size = W3.heap.size + 1 by simp)
  generalize W3.alloc (.cells #[.slice A3 1 c3, .slice N3 1 d3] 28) = W4 at *
  have hl5 := Hl4.out.trans H45.out
  have hR5 := HR4.out.below H45.out (Nat.le_refl _)
  have hk5 := H45.out.blk Hk4.out
  have hm5 := H45.out.blk Hm4.out
  have hI5 := HI4.out.below H45.out (Nat.le_refl _)
  have hN5 : NetR W5 A3 N3 af := HN4.out.below H45.out (Nat.le_refl _)
  clear Hl4 HR4 Hk4 Hm4 HI4 HN4 H45 hW5 HW4
  generalize W3.heap.size = m at *
  refine (file_decode (some ⟨m + 1, 0, none⟩) 4 [65, 84, 72, 49] _ HC5.out (by decide) (by decide) (by decide)).mono ?_
  rintro e W6 ⟨hcase, hb6⟩
  rw [show Fn.decode [65, 84, 72, 49] (Fp.openE [65, 84, 72, 49]) (Fp.body [65, 84, 72, 49]) = (16, Fn.none_) from rfl] at hcase
  rcases hcase with ⟨_, rfl, _⟩ | ⟨he, _⟩
  case inr => exact absurd he (by decide)
  have h57 : Later W5 (W6.alloc (.cells #[.slice none 0 0, .slice none 0 0] 28)) := (show Later W5 W6 from hb6).alloc _
  have hl7 := hl5.trans h57
  have hR7 := hR5.below h57 (Nat.le_refl _)
  have hk7 := h57.blk hk5
  have hm7 := h57.blk hm5
  have hI7 := hI5.below h57 (Nat.le_refl _)
  have hN7 : NetR _ A3 N3 af := hN5.below h57 (Nat.le_refl _)
  have h78 : Later (W6.alloc (.cells #[.slice none 0 0, .slice none 0 0] 28)) ((W6.alloc (.cells #[.slice none 0 0, .slice none 0 0] 28)).alloc (.cells #[] 5)) := (Later.refl _).alloc _
  have hI8 := hI7.below h78 (Nat.le_refl _)
  have Hl7 := Lib.hid hl7
  have HR7 := Lib.hid hR7
  have Hk7 := Lib.hid hk7
  have Hm7 := Lib.hid hm7
  have HI7 := Lib.hid hI7
  have HN7 := Lib.hid hN7
  have H78 := Lib.hid h78
  have HI8 := Lib.hid hI8
  clear hl7 hR7 hk7 hm7 hI7 hN7 h78 hI8
  clear hb6 h57 hl5 hR5 hk5 hm5 hI5 hN5 HC5
  obtain ⟨b0, o0, rfl, -, -⟩ := HI7.out 0 (by rw [afE_len]; omega)
  go_upto_region 7 with fail
  generalize W6.alloc (.cells #[.slice none 0 0, .slice none 0 0] 28) = W7 at *
  go_wp2_with (at_builtin; refine wpList_append_own _ rfl _ _ 22 rfl W7.heap.size 5 i0 (.int .u8 0) 1 1 Try.underlying22 hi hz0 hz1 hz2 rfl (by decide) _ 0 [] rfl (World.ownsRow_made W7 #[] 0 (Nat.le_refl _) (Nat.zero_le _) rfl) ⟨b0, o0, none⟩ 37 c2 (bytesV afE) rfl ?c1 ?c2 ?c3 ?c4 ?c5 ?c6 ?_)
  case c1 => rw [bytesV_length, afE_len]
  case c2 =>
    intro j u hj
    unfold bytesV at hj
    obtain ⟨x, hx, rfl⟩ := List.getElem?_map .. ▸ hj |> Option.map_eq_some_iff.1
    obtain ⟨hjl, rfl⟩ := List.getElem?_eq_some_iff.1 hx
    obtain ⟨b, off, e, _, hcell⟩ := HI8.out j hjl
    cases e
    rw [Addr.add_lit]
    rw [hcell]
    simp [hjl]
  case c3 => intro u hu; obtain ⟨x, _, rfl⟩ := List.mem_map.1 hu; rfl
  case c4 => unfold maxLen; omega
  case c5 => omega
  case c6 => simp
  intro v' W9 hown hgrow hnil
  have hown' : W9.ownsRow W7.heap.size 5 1 v' afE.length (bytesV afE) := by rw [afE_len]; simpa using hown
  obtain ⟨g, cg, rfl, hg, hB9, hcg, -⟩ := BRow.own hown' (by rw [afE_len]; omega)
  have h79 : Later W7 W9 := ((Below.refl _ W7).alloc (Nat.le_refl _) _).grown hgrow (by simp) (by intro k hk; simp [Value.ownBlock] at hk; omega)
  have h7x : Later W7 (W9.setCell ⟨g, 5, none⟩ (.int .u8 1)) := h79.set (p := ⟨g, 5, none⟩) hg _
  have hBx := hB9.set (i := 5) (by rw [afE_len]; omega) 1
  have x5 := hB9.at_ (j := 5) (by rw [afE_len]; omega)
  have f5 := hB9.frozen 5
  have e5 : afE[5]'(by rw [afE_len]; omega) = 0 := by have := afE_five; rw [List.getD_eq_getElem?_getD, List.getElem?_eq_getElem (by rw [afE_len]; omega)] at this; exact this
  have hcg2 := hB9.room
  rw [e5] at x5
  rw [afE_len] at hcg2 ⊢
  have hlx := Hl7.out.trans h7x
  have hRx := HR7.out.below h7x (Nat.le_refl _)
  have hkx := h7x.blk Hk7.out
  have hmx := h7x.blk Hm7.out
  have hIx := HI7.out.below h7x (Nat.le_refl _)
  have hNx : NetR _ A3 N3 af := HN7.out.below h7x (Nat.le_refl _)
  have Hlx := Lib.hid hlx
  have HRx := Lib.hid hRx
  have Hkx := Lib.hid hkx
  have Hmx := Lib.hid hmx
  have HIx := Lib.hid hIx
  have HNx := Lib.hid hNx
  have HBx := Lib.hid hBx
  clear hlx hRx hkx hmx hIx hNx hBx
  clear hown hown' hgrow hnil h79 h7x Hl7 HR7 Hk7 Hm7 HI7 HN7 H78 HI8 hB9 e5
  go_wp2_with fail
  generalize W9.setCell ⟨g, 5, none⟩ (.int .u8 1) = Wx at *
  clear x5 f5
  have hls : (afE.set 5 1).length = 37 := by rw [List.length_set, afE_len]
  have hdx := file_decode (some ⟨g, 0, none⟩) cg (afE.set 5 1) Wx HBx.out.ints (by rw [hls]; exact hcg2) (by rw [hls]; omega) afS_byte
  rw [afS_dec, hls] at hdx
  refine hdx.mono ?_
  rintro e Wy ⟨hcase, hby⟩
  rcases hcase with ⟨_, rfl, _⟩ | ⟨he, _⟩
  case inr => exact absurd he (by decide)
  have hxz : Later Wx (Wy.alloc (.cells #[.slice none 0 0, .slice none 0 0] 28)) := (show Later Wx Wy from hby).alloc _
  have hlz := Hlx.out.trans hxz
  have hRz := HRx.out.below hxz (Nat.le_refl _)
  have hkz := hxz.blk Hkx.out
  have hmz := hxz.blk Hmx.out
  have hIz := HIx.out.below hxz (Nat.le_refl _)
  have hNz : NetR _ A3 N3 af := HNx.out.below hxz (Nat.le_refl _)
  have Hlz := Lib.hid hlz
  have HRz := Lib.hid hRz
  have Hkz := Lib.hid hkz
  have Hmz := Lib.hid hmz
  have HIz := Lib.hid hIz
  have HNz := Lib.hid hNz
  clear hlz hRz hkz hmz hIz hNz
  clear hdx hby hxz Hlx HRx Hkx Hmx HIx HNx HBx hls
  go_upto_region 10 with fail
  generalize Wy.alloc (.cells #[.slice none 0 0, .slice none 0 0] 28) = Wz at *
  generalize Wy.heap.size = y at *
  have hkeep : ∀ W, Later Wz W → (W.cell? ⟨b, 0, none⟩ = some (.slice (some ⟨p, 0, none⟩) 1 1) ∧ W.cell? ⟨b, 1, none⟩ = some (.slice (some ⟨q, 0, none⟩) 1 1) ∧ W.cell? ⟨m, 0, none⟩ = some (.slice A3 1 c3) ∧ W.cell? ⟨m, 1, none⟩ = some (.slice N3 1 d3)) ∧ (convert 22 9 (.slice (some ⟨b0, o0, none⟩) 4 c2)).run Try.prog W = .ok (.string ⟨#[65, 84, 72, 49]⟩) W := fun W hW => by
    have k1 := hW.blk Hkz.out
    have k2 := hW.blk Hmz.out
    have k3 := run_string_of c2 22 5 9 Try.underlying22 Try.underlying5 Try.underlying9 ((HIz.out.below hW (Nat.le_refl _)).taken 4)
    rw [afE_four, List.length_take, afE_len] at k3
    exact ⟨⟨k1.cell 0, k1.cell 1, k2.cell 0, k2.cell 1⟩, k3⟩
  have heq : ∀ W, Later Wz W → Calls Try.prog 26 #[.agg #[.slice A3 1 c3, .slice N3 1 d3], .agg #[.slice (some ⟨p, 0, none⟩) 1 1, .slice (some ⟨q, 0, none⟩) 1 1]] W fun e w' => e = .returned (.bool true) ∧ Below W.heap.size W w' := fun W hW => by
    have := net_equal A3 N3 (some ⟨p, 0, none⟩) (some ⟨q, 0, none⟩) c3 d3 1 1 af af W af_ok af_ok (HNz.out.below hW (Nat.le_refl _)) (HRz.out.below hW (Nat.le_refl _))
    rw [show eqNet af af = true from decide_eq_true rfl] at this
    exact this
  have hsum : ∀ W g, Ints .u8 W (some ⟨g, 0, none⟩) [1, 2] → Calls Try.prog 25 #[.slice (some ⟨g, 0, none⟩) 2 2] W fun e w' => e = .returned (.int .u32 5) ∧ W = w' := fun W g h => file_sum (some ⟨g, 0, none⟩) 2 [1, 2] W h (by decide) (by decide)
  have htwo : ∀ W : World, Ints .u8 (W.alloc (.cells #[.int .u8 1, .int .u8 2] 5)) (some ⟨W.heap.size, 0, none⟩) [1, 2] := fun W => Ints.of_row fun j hj => by
    rw [Nat.zero_add, cell_of_row _ _ j _ _ _ (heap_alloc_new W _)]
    match j, hj with
    | 0, _ => rfl
    | 1, _ => rfl
  obtain ⟨⟨a0, a1, a2, a3⟩, -⟩ := hkeep _ (Later.refl Wz)
  have Hkeep := Lib.hid hkeep
  have Heq := Lib.hid heq
  have Hsum := Lib.hid hsum
  have Htwo := Lib.hid htwo
  clear hkeep heq hsum htwo
  clear HRz Hkz Hmz HIz HNz
  go_wp2_with fail
  refine (Heq.out _ (Later.refl Wz)).mono ?_
  rintro e wa ⟨rfl, ha⟩
  have hla := Hlz.out.trans (show Later Wz wa from ha)
  obtain ⟨-, a4⟩ := Hkeep.out wa ha
  have Hla := Lib.hid hla
  clear hla
  clear a0 a1 a2 a3 Hkeep Heq ha Hlz
  go_wp2_with fail
  refine (Hsum.out _ _ (Htwo.out _)).mono ?_
  rintro e wc ⟨rfl, rfl⟩
  have hlb := Hla.out.alloc (.cells #[.int .u8 1, .int .u8 2] 5)
  have Hlb := Lib.hid hlb
  clear hlb
  clear a4 Hla
  go_wp2_with fail
  go_ret
  exact ⟨rfl, Hlb.out⟩
end Go.Proofs.Ytnofeebcmmmlhaa

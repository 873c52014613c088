/- Lemmas for the statements of this seat: contracts of functions and the plain laws. -/
import Derived.BigQuiet
import Derived.Test.YtnffjfjhbjeaiaaGreatDoorZ07
set_option linter.unusedVariables false
/- Layer 21 (roots): a lowering in memory. -/
namespace Go.Proofs.YtnffjfjhbjeaiaaGreatDoor
open Go.RowKit
/-- Where a lowering lies. -/
structure RtA where
  I : Option Addr
  N : Option Addr
  O : Option Addr
  cI : Nat
  cN : Nat
  cO : Nat
  gl : Nat
  p : Nat
  g1 : Nat
  g2 : Nat
  g3 : Nat
  B : Nat
def RtA.cells (a : RtA) (n : NetD) (v : Value) : Array Value :=
  #[.slice a.I n.inn.length a.cI, .slice a.N n.nodes.length a.cN, .slice a.O n.nodes.length a.cO, .slice (some ⟨a.gl, 0, none⟩) (n.nodes.length + 1) (n.nodes.length + 1), .slice (some ⟨a.g1, 0, none⟩) (n.nodes.length + 1) (n.nodes.length + 1), .int .i64 (Nt.loss n.nodes), .slice (some ⟨a.g2, 0, none⟩) (n.nodes.length + 1) (n.nodes.length + 1), .slice (some ⟨a.g3, 0, none⟩) (n.nodes.length + 1) (n.nodes.length + 1), v]
/-- What stays as it is. -/
structure RtA.Still (a : RtA) (n : NetD) (W0 : World) : Prop where
  ok : n.ok
  chk : Nt.check n = 0
  m12 : n.nodes.length ≤ 12
  net : NetR W0 a.I a.N n
  hN : n.nodes.length ≤ a.cN
  ord : Ints .i64 W0 a.O (Nt.sorted n.nodes)
  last : Blk W0 a.gl 3 (intV (Nt.lastMid n n.nodes.length [])).toArray
  hp : W0.heap.size ≤ a.p
  h1 : a.p < a.g1
  h2 : a.p < a.g2
  h3 : a.p < a.g3
  n12 : a.g1 ≠ a.g2
  n13 : a.g1 ≠ a.g3
  n23 : a.g2 ≠ a.g3
  b1 : a.g1 < a.B
  b2 : a.g2 < a.B
  b3 : a.g3 < a.B
/-- A lowering in memory. -/
structure RtM (a : RtA) (n : NetD) (kb : List Bool) (W0 : World) (s : RtS) (W : World) : Prop where
  later : Later W0 W
  box : ∃ v, Blk W a.p 74 (a.cells n v) ∧ W.ownsRow a.B 44 2 v s.code.length (pairCells s.code)
  first : Blk W a.g1 3 (intV (Rt.firstMid n (Nt.sorted n.nodes).length [])).toArray
  kept : Blk W a.g2 4 (kb.map Value.bool).toArray
  pres : Blk W a.g3 4 (s.pres.map Value.bool).toArray
  lk : kb.length = n.nodes.length + 1
  lp : s.pres.length = n.nodes.length + 1
  hB : a.B ≤ W.heap.size
/-- All else is as it was: but the box, the row of what is present, and instructions. -/
def RtK (a : RtA) (w w' : World) : Prop := w.heap.size ≤ w'.heap.size ∧ ∀ b o, w.heap[b]? = some o → b ≠ a.p → b ≠ a.g3 → (∀ c f, o ≠ .cells c 44 f) → w'.heap[b]? = some o
section
variable {a : RtA} {n : NetD} {kb : List Bool} {W0 W W' w1 : World} {s : RtS}
theorem RtK.refl (a : RtA) (w : World) : RtK a w w := ⟨Nat.le_refl _, fun _ _ h _ _ _ => h⟩
theorem RtK.trans {w w1 w2 : World} (h : RtK a w w1) (k : RtK a w1 w2) : RtK a w w2 := ⟨Nat.le_trans h.1 k.1, fun b o hb h1 h2 h3 => k.2 b o (h.2 b o hb h1 h2 h3) h1 h2 h3⟩
theorem RtK.of_later (h : Later W W') : RtK a W W' := ⟨Below.size h, fun b o hb _ _ _ => (h.block b (lt_of_block hb)).trans hb⟩
theorem RtK.blk {g : Nat} {t : TypeId} {cs : Array Value} (h : RtK a W W') (hb : Blk W g t cs) (ht : t ≠ 44) (h1 : g ≠ a.p) (h2 : g ≠ a.g3) : Blk W' g t cs :=
  h.2 g _ hb h1 h2 fun c f e => by injection e with _ e _; exact ht e
theorem RtM.to_later (h : RtM a n kb W0 s W) (hl : Later W W') : RtM a n kb W0 s W' := by
  obtain ⟨v, hb, ho⟩ := h.box
  exact ⟨h.later.trans hl, ⟨v, hl.blk hb, ownsRow_heap ho fun g hg => hl.block g (ho.lt g hg).2⟩, hl.blk h.first, hl.blk h.kept, hl.blk h.pres, h.lk, h.lp, Nat.le_trans h.hB (Below.size hl)⟩
theorem own_instr {e : TypeId} {B z m : Nat} {v : Value} {xs : List Value} (h : W.ownsRow B e z v m xs) : ∀ g, v.ownBlock = some g → ∃ c fz, W.heap[g]? = some (.cells c e fz) := by
  intro g hg
  rcases h.2 with ⟨rfl, _⟩ | ⟨g', cap, cur, rfl, _, hgg, _⟩
  · simp [Value.ownBlock] at hg
  · simp [Value.ownBlock] at hg
    subst hg
    exact ⟨cur, _, hgg⟩
/-- An instruction was appended. -/
theorem RtM.put {v v' : Value} {k id : Int} {o : Obj} (hS : a.Still n W0) (h : RtM a n kb W0 s W) (hb : Blk W a.p 74 (a.cells n v)) (ho : W.ownsRow a.B 44 2 v s.code.length (pairCells s.code))
    (hg : (W.alloc o).grownBy w1 v.ownBlock) (hown1 : w1.ownsRow a.B 44 2 v' (s.code.length + 1) (pairCells (s.code ++ [(k, id)]))) :
    RtM a n kb W0 (Rt.add k id s) (w1.setCell ⟨a.p, 8, none⟩ v') ∧ RtK a W (w1.setCell ⟨a.p, 8, none⟩ v') := by
  have i1 := hS.hp; have i2 := hS.h1; have i3 := hS.h2; have i4 := hS.h3; have i5 := hS.b1; have i6 := hS.b2; have i7 := hS.b3; have i8 := h.hB
  have hob : ∀ b, v.ownBlock = some b → a.B ≤ b := fun b hb => (ho.lt b hb).1
  have hsz : (W.alloc o).heap.size = W.heap.size + 1 := by simp
  have hkeep : ∀ b, b < W.heap.size → v.ownBlock ≠ some b → w1.heap[b]? = W.heap[b]? := fun b hb hne =>
    (hg.block b (by omega) (fun e => hne e.symm)).trans (Below.heap_alloc W o b hb)
  have far : ∀ g, g < a.B → v.ownBlock ≠ some g := fun g hg e => by have := hob g e; omega
  have hblk : ∀ {g : Nat} {t : TypeId} {cs : Array Value}, g < a.B → Blk W g t cs → Blk w1 g t cs := fun hg3 hb => (hkeep _ hb.lt (far _ hg3)).trans hb
  have hs2 := Below.heap_setCell w1 ⟨a.p, 8, none⟩ v'
  have hset : ∀ {g : Nat} {t : TypeId} {cs : Array Value}, g ≠ a.p → Blk w1 g t cs → Blk (w1.setCell ⟨a.p, 8, none⟩ v') g t cs := fun hne hb => hb.far (p := ⟨a.p, 8, none⟩) hne v'
  refine ⟨⟨?_, ⟨v', (hblk (by omega) hb).set_ 8 v', ?_⟩, hset (by omega) (hblk (by omega) h.first), hset (by omega) (hblk (by omega) h.kept), hset (by omega) (hblk (by omega) h.pres), h.lk, h.lp, ?_⟩, ?_, fun b ob hbb n1 n2 n3 => ?_⟩
  · have hl := h.later
    have h1 : Later W0 (W.alloc o) := hl.alloc o
    exact (Below.grown h1 hg (by have := hl.size; omega) (fun b hb => by have := hob b hb; omega)).setCell (by show W0.heap.size ≤ a.p; exact i1) v'
  · show (w1.setCell ⟨a.p, 8, none⟩ v').ownsRow _ _ 2 v' (s.code ++ [(k, id)]).length (pairCells (s.code ++ [(k, id)]))
    rw [List.length_append, List.length_singleton]
    exact ownsRow_heap hown1 fun g hg => hs2 g (by have := (hown1.lt g hg).1; show g ≠ a.p; omega)
  · have := hg.size
    have e : (w1.setCell ⟨a.p, 8, none⟩ v').heap.size = w1.heap.size := by simp
    omega
  · have := hg.size
    have e : (w1.setCell ⟨a.p, 8, none⟩ v').heap.size = w1.heap.size := by simp
    omega
  · rw [hs2 b n1, hkeep b (lt_of_block hbb) (fun e => ?_)]
    · exact hbb
    · obtain ⟨c, fz, hx⟩ := own_instr ho b e
      rw [hbb] at hx
      injection hx with hx
      exact n3 _ _ hx
/-- A node is there, or no more. -/
theorem RtM.set_pres (hS : a.Still n W0) (h : RtM a n kb W0 s W) (i : Nat) (b : Bool) : RtM a n kb W0 ⟨s.pres.set i b, s.code⟩ (W.setCell ⟨a.g3, i, none⟩ (.bool b)) ∧ RtK a W (W.setCell ⟨a.g3, i, none⟩ (.bool b)) := by
  have i1 := hS.hp; have i2 := hS.h1; have i3 := hS.h2; have i4 := hS.h3; have i5 := hS.n13; have i6 := hS.n23; have i7 := hS.b3; have i8 := h.hB
  obtain ⟨v, hb, ho⟩ := h.box
  have hk := h.pres.set_ i (.bool b)
  rw [bools_set] at hk
  have hs2 := Below.heap_setCell W ⟨a.g3, i, none⟩ (.bool b)
  refine ⟨⟨h.later.set (p := ⟨a.g3, i, none⟩) (by simp; omega) _, ⟨v, hb.far (p := ⟨a.g3, i, none⟩) (by simp; omega) _, ownsRow_heap ho fun g hg => hs2 g (by have := (ho.lt g hg).1; show g ≠ a.g3; omega)⟩, h.first.far (p := ⟨a.g3, i, none⟩) (by simp; omega) _, h.kept.far (p := ⟨a.g3, i, none⟩) (by simp; omega) _, hk, h.lk, by simpa using h.lp, by simpa using h.hB⟩, by simp, fun b' o hbb n1 n2 n3 => ?_⟩
  rw [hs2 b' n2]; exact hbb
theorem RtM.cells9 (h : RtM a n kb W0 s W) : ∃ v, Blk W a.p 74 (a.cells n v) ∧ W.ownsRow a.B 44 2 v s.code.length (pairCells s.code) ∧
    W.cell? ⟨a.p, 0, none⟩ = some (.slice a.I n.inn.length a.cI) ∧ W.cell? ⟨a.p, 1, none⟩ = some (.slice a.N n.nodes.length a.cN) ∧ W.cell? ⟨a.p, 2, none⟩ = some (.slice a.O n.nodes.length a.cO) ∧ W.cell? ⟨a.p, 3, none⟩ = some (.slice (some ⟨a.gl, 0, none⟩) (n.nodes.length + 1) (n.nodes.length + 1)) ∧ W.cell? ⟨a.p, 4, none⟩ = some (.slice (some ⟨a.g1, 0, none⟩) (n.nodes.length + 1) (n.nodes.length + 1)) ∧ W.cell? ⟨a.p, 5, none⟩ = some (.int .i64 (Nt.loss n.nodes)) ∧ W.cell? ⟨a.p, 6, none⟩ = some (.slice (some ⟨a.g2, 0, none⟩) (n.nodes.length + 1) (n.nodes.length + 1)) ∧ W.cell? ⟨a.p, 7, none⟩ = some (.slice (some ⟨a.g3, 0, none⟩) (n.nodes.length + 1) (n.nodes.length + 1)) ∧ W.cell? ⟨a.p, 8, none⟩ = some v := by
  obtain ⟨v, hb, ho⟩ := h.box
  exact ⟨v, hb, ho, hb.cell 0, hb.cell 1, hb.cell 2, hb.cell 3, hb.cell 4, hb.cell 5, hb.cell 6, hb.cell 7, hb.cell 8⟩
theorem RtM.pres_at (h : RtM a n kb W0 s W) {i : Nat} (hi : i ≤ n.nodes.length) : W.cell? ⟨a.g3, i, none⟩ = some (.bool (Ck.at_ s.pres i)) := by
  rw [Ck.at_nat]; exact bool_at h.pres (by rw [h.lp]; omega)
theorem RtM.kept_at (h : RtM a n kb W0 s W) {i : Nat} (hi : i ≤ n.nodes.length) : W.cell? ⟨a.g2, i, none⟩ = some (.bool (Ck.at_ kb i)) := by
  rw [Ck.at_nat]; exact bool_at h.kept (by rw [h.lk]; omega)
end
/-- A step's answer. -/
def RtP (a : RtA) (n : NetD) (kb : List Bool) (W0 : World) (s : RtS) (W : World) (e : Ending) (w' : World) : Prop := e = .returned (.tuple #[]) ∧ RtM a n kb W0 s w' ∧ RtK a W w'
set_option maxHeartbeats 4000000 in
set_option maxRecDepth 100000 in
theorem roots_add (a : RtA) (n : NetD) (kb : List Bool) (W0 : World) (s : RtS) (W : World) (hS : a.Still n W0) (hM : RtM a n kb W0 s W) (k id : Int) (hlen : s.code.length ≤ 100000) :
    Calls Tryz.prog 28 #[.pointer (some ⟨a.p, 0, none⟩), .int .i64 k, .int .i64 id] W (RtP a n kb W0 (Rt.add k id s) W) := by
  obtain ⟨i0, hi, hz0, hz1, hz2⟩ := info_parts instr_info
  obtain ⟨v, hb, ho, -, -, -, -, -, -, -, -, c8⟩ := hM.cells9
  have hplt : a.p < W.heap.size := hb.lt
  have hB : a.B ≤ W.heap.size := hM.hB
  have ag : ∀ g, v.ownBlock = some g → a.p < g := fun g hg => by have := (ho.lt g hg).1; have := hS.h1; have := hS.b1; omega
  have grown_blk : ∀ (o : Obj) (w1 : World), (W.alloc o).grownBy w1 v.ownBlock → Blk w1 a.p 74 (a.cells n v) := fun o w1 hg => by
    show w1.heap[a.p]? = _
    rw [hg.block a.p (by simp; omega) (fun e => by have := ag _ e.symm; omega)]
    exact (Lib.alloc_old W _ a.p hplt).trans hb
  have HPut := Lib.hid (fun (o : Obj) (w1 : World) (v' : Value) (hg : (W.alloc o).grownBy w1 v.ownBlock) (hown1 : w1.ownsRow a.B 44 2 v' (s.code.length + 1) (pairCells s.code ++ [.int .i64 k, .int .i64 id])) => hM.put (v' := v') (k := k) (id := id) hS hb ho hg (by rw [pairCells_append]; exact hown1))
  have Hg := Lib.hid grown_blk
  clear grown_blk hM hS ag
  go_enter Tryz.func28, Tryz.ntmps28
  go_wp2_with (at_builtin; refine wpList_append_own_at _ rfl _ _ 30 rfl a.B 44 i0 _ 2 16 Tryz.underlying30 hi hz0 hz1 hz2 rfl (by decide) v s.code.length (pairCells s.code) rfl (ownsRow_new ho _) ⟨W.heap.size, 0, none⟩ 1 1 [.int .i64 k, .int .i64 id] rfl rfl ?c1 (by intro u hu; simp at hu; rcases hu with rfl | rfl <;> rfl) (by unfold maxLen; omega) (by omega) ?c2 ?_)
  first | (case c1 => exact World.news_of_block (cs := #[.int .i64 k, .int .i64 id]) (t := 44) (fr := (0, 0)) (heap_alloc_new W _)) | skip
  case c2 => simp; omega
  intro v' w1 hown1 hgrow _ hat
  have hb2 := Hg.out _ _ hgrow
  have d0 : w1.cell? ⟨a.p, 8, none⟩ = some v := hb2.cell 8
  have f0 : w1.frozen? ⟨a.p, 8, none⟩ = false := hb2.frozen 8
  have hR := HPut.out _ _ _ hgrow hown1
  obtain ⟨A9, c9, rfl⟩ := own_form hown1
  clear hgrow hown1 hat hb2 HPut Hg ho hb c8
  have HR := Lib.hid hR
  clear hR
  go_wp2_with fail
  go_end0
  exact ⟨rfl, HR.out.1, HR.out.2⟩
end Go.Proofs.YtnffjfjhbjeaiaaGreatDoor
/- Layer 21 (roots): many, compute, drop: contracts. -/
namespace Go.Proofs.YtnffjfjhbjeaiaaGreatDoor
open Go.RowKit
set_option maxHeartbeats 4000000 in
theorem roots_many (a : RtA) (n : NetD) (kb : List Bool) (W0 : World) (s : RtS) (W : World) (hM : RtM a n kb W0 s W) (hlen : s.code.length ≤ 60000) :
    Calls Tryz.prog 31 #[.pointer (some ⟨a.p, 0, none⟩)] W fun e w' => e = .returned (.bool false) ∧ W = w' := by
  obtain ⟨v, hb, ho, -, -, -, -, -, -, -, -, c8⟩ := hM.cells9
  obtain ⟨A, c, rfl⟩ := own_form ho
  have h1 : decide ((65536 : Int) < (s.code.length : Int)) = false := by simp; omega
  clear ho hb hM
  go_enter Tryz.func31, Tryz.ntmps31
  go_wp2_with fail
  go_ret
  exact ⟨rfl, rfl⟩
set_option maxHeartbeats 4000000 in
set_option maxRecDepth 100000 in
theorem roots_compute (a : RtA) (n : NetD) (kb : List Bool) (W0 : World) (s : RtS) (W : World) (hS : a.Still n W0) (hM : RtM a n kb W0 s W) (k : Int) (id : Nat) (hid : id ≤ n.nodes.length) (hlen : s.code.length ≤ 60000) :
    Calls Tryz.prog 61 #[.pointer (some ⟨a.p, 0, none⟩), .int .i64 k, .int .i64 id] W (RtP a n kb W0 (Rt.comp k id s) W) := by
  have hm := hS.m12
  have HS := Lib.hid hS
  clear hS
  go_enter Tryz.func61, Tryz.ntmps61
  go_wp2_with fail
  refine (roots_add a n kb W0 s W HS.out hM k id (by omega)).mono ?_
  rintro e w1 ⟨rfl, hM1, hK1⟩
  obtain ⟨v, -, -, -, -, -, -, -, -, -, c7, -⟩ := hM1.cells9
  have hset := hM1.set_pres HS.out id true
  have he : Rt.comp k id s = ⟨(Rt.add k id s).pres.set id true, (Rt.add k id s).code⟩ := by unfold Rt.comp Rt.add Ck.setB; rw [Int.toNat_natCast]
  rw [← he] at hset
  have f0 : w1.frozen? ⟨a.g3, id, none⟩ = false := hM1.pres.frozen id
  have x0 := hM1.pres_at hid
  have q1 : (0 : Int) ≤ (id : Int) := by omega
  have q2 : (id : Int) < ((n.nodes.length + 1 : Nat) : Int) := by omega
  have Hset := Lib.hid hset
  have HK1 := Lib.hid hK1
  clear hset hK1
  clear hM hM1 he
  go_wp2_with fail
  go_end0
  exact ⟨rfl, Hset.out.1, HK1.out.trans Hset.out.2⟩
set_option maxHeartbeats 4000000 in
set_option maxRecDepth 100000 in
theorem roots_drop (a : RtA) (n : NetD) (kb : List Bool) (W0 : World) (s : RtS) (W : World) (hS : a.Still n W0) (hM : RtM a n kb W0 s W) (id : Nat) (hid : id ≤ n.nodes.length) (hlen : s.code.length ≤ 60000) :
    Calls Tryz.prog 29 #[.pointer (some ⟨a.p, 0, none⟩), .int .i64 id] W (RtP a n kb W0 (Rt.drop id s) W) := by
  have hm := hS.m12
  have HS := Lib.hid hS
  clear hS
  go_enter Tryz.func29, Tryz.ntmps29
  go_wp2_with fail
  refine (roots_add a n kb W0 s W HS.out hM 3 id (by omega)).mono ?_
  rintro e w1 ⟨rfl, hM1, hK1⟩
  obtain ⟨v, -, -, -, -, -, -, -, -, -, c7, -⟩ := hM1.cells9
  have hset := hM1.set_pres HS.out id false
  have he : Rt.drop id s = ⟨(Rt.add 3 id s).pres.set id false, (Rt.add 3 id s).code⟩ := by unfold Rt.drop Rt.add Ck.setB; rw [Int.toNat_natCast]
  rw [← he] at hset
  have f0 : w1.frozen? ⟨a.g3, id, none⟩ = false := hM1.pres.frozen id
  have x0 := hM1.pres_at hid
  have q1 : (0 : Int) ≤ (id : Int) := by omega
  have q2 : (id : Int) < ((n.nodes.length + 1 : Nat) : Int) := by omega
  have Hset := Lib.hid hset
  have HK1 := Lib.hid hK1
  clear hset hK1
  clear hM hM1 he
  go_wp2_with fail
  go_end0
  exact ⟨rfl, Hset.out.1, HK1.out.trans Hset.out.2⟩
end Go.Proofs.YtnffjfjhbjeaiaaGreatDoor
/- The plain law of layer 21: number 0 stays there; lengths grow. -/
namespace Go.Proofs.YtnffjfjhbjeaiaaGreatDoor
namespace Rt
theorem at_set {l : List Bool} {i : Nat} {b : Bool} (h : l.getD 0 false = true) (hb : i = 0 → b = true) : (l.set i b).getD 0 false = true := by
  rcases i with _ | i
  · rw [hb rfl]
    cases l with
    | nil => simp at h
    | cons x r => simp
  · cases l with
    | nil => simp at h
    | cons x r => simpa using h
theorem comp_zero {k id : Int} {s : RtS} (h : Ck.at_ s.pres 0 = true) : Ck.at_ (comp k id s).pres 0 = true := at_set (l := s.pres) h (fun _ => rfl)
theorem drop_zero {id : Int} {s : RtS} (h : Ck.at_ s.pres 0 = true) (h1 : 1 ≤ id) : Ck.at_ (drop id s).pres 0 = true := at_set (l := s.pres) h (fun e => by omega)
theorem sweep_zero {f : Int → Bool} {s : RtS} (h : Ck.at_ s.pres 0 = true) : ∀ m, Ck.at_ (sweep f m s).pres 0 = true
  | 0 => h
  | m + 1 => by
    unfold sweep
    split
    · exact drop_zero (sweep_zero h m) (by omega)
    · exact sweep_zero h m
theorem fetch_zero {I : Int → List Int} : ∀ (m : Nat) (id : Int) (s : RtS), Ck.at_ s.pres 0 = true → Ck.at_ (fetch I m id s).pres 0 = true
  | 0, _, _, h => h
  | m + 1, id, s, h => by
    unfold fetch
    split
    · exact h
    · have fold : ∀ (l : List Int) (y : RtS), Ck.at_ y.pres 0 = true → Ck.at_ (l.foldl (fun s i => fetch I m i s) y).pres 0 = true := by
        intro l
        induction l with
        | nil => intro y h; exact h
        | cons i t ih => intro y h; exact ih _ (fetch_zero m i y h)
      exact comp_zero (fold _ _ h)
theorem fetches_zero {I : Int → List Int} {m : Nat} : ∀ (l : List Int) (y : RtS), Ck.at_ y.pres 0 = true → Ck.at_ (l.foldl (fun s i => fetch I m i s) y).pres 0 = true
  | [], _, h => h
  | i :: t, y, h => fetches_zero t _ (fetch_zero m i y h)
theorem fetch_zero_id {I : Int → List Int} (m : Nat) {s : RtS} (h : Ck.at_ s.pres 0 = true) : fetch I m 0 s = s := by
  cases m with
  | zero => rfl
  | succ m => rw [fetch_step, if_pos h]
theorem fetchD_mono {I : Int → List Int} : ∀ (m : Nat) (id : Int) (x : RtD), x.code.length ≤ (fetchD I m id x).code.length ∧ x.there.length ≤ (fetchD I m id x).there.length
  | 0, _, _ => ⟨Nat.le_refl _, Nat.le_refl _⟩
  | m + 1, id, x => by
    unfold fetchD
    split
    · exact ⟨Nat.le_refl _, Nat.le_refl _⟩
    · have fold : ∀ (l : List Int) (y : RtD), y.code.length ≤ (l.foldl (fun x i => fetchD I m i x) y).code.length ∧ y.there.length ≤ (l.foldl (fun x i => fetchD I m i x) y).there.length := by
        intro l
        induction l with
        | nil => intro y; exact ⟨Nat.le_refl _, Nat.le_refl _⟩
        | cons i t ih =>
          intro y
          have h1 := ih (fetchD I m i y)
          have h2 := fetchD_mono (I := I) m i y
          exact ⟨Nat.le_trans h2.1 h1.1, Nat.le_trans h2.2 h1.2⟩
      have := fold (I id) x
      simp only [compD, List.length_append, List.length_singleton]
      omega
theorem fetchesD_mono {I : Int → List Int} {m : Nat} : ∀ (l : List Int) (y : RtD), y.code.length ≤ (l.foldl (fun x i => fetchD I m i x) y).code.length ∧ y.there.length ≤ (l.foldl (fun x i => fetchD I m i x) y).there.length
  | [], _ => ⟨Nat.le_refl _, Nat.le_refl _⟩
  | i :: t, y => by
    have h1 := fetchesD_mono (I := I) (m := m) t (fetchD I m i y)
    have h2 := fetchD_mono (I := I) m i y
    exact ⟨Nat.le_trans h2.1 h1.1, Nat.le_trans h2.2 h1.2⟩
theorem foldD_take {I : Int → List Int} {m : Nat} {l : List Int} {k : Nat} (hk : k < l.length) (x : RtD) : (l.take (k + 1)).foldl (fun x i => fetchD I m i x) x = fetchD I m l[k] ((l.take k).foldl (fun x i => fetchD I m i x) x) := by
  rw [List.take_succ_eq_append_getElem hk, List.foldl_append]
  rfl
theorem take_monoD {I : Int → List Int} {m : Nat} (l : List Int) (k : Nat) (x : RtD) : ((l.take k).foldl (fun x i => fetchD I m i x) x).code.length ≤ (l.foldl (fun x i => fetchD I m i x) x).code.length ∧ ((l.take k).foldl (fun x i => fetchD I m i x) x).there.length ≤ (l.foldl (fun x i => fetchD I m i x) x).there.length := by
  have e : l.foldl (fun x i => fetchD I m i x) x = (l.drop k).foldl (fun x i => fetchD I m i x) ((l.take k).foldl (fun x i => fetchD I m i x) x) := by rw [← List.foldl_append, List.take_append_drop]
  rw [e]; exact fetchesD_mono _ _
theorem take_mono {I : Int → List Int} {m : Nat} (l : List Int) (k : Nat) (s : RtS) : ((l.take k).foldl (fun s i => fetch I m i s) s).code.length ≤ (l.foldl (fun s i => fetch I m i s) s).code.length := by
  have e : l.foldl (fun s i => fetch I m i s) s = (l.drop k).foldl (fun s i => fetch I m i s) ((l.take k).foldl (fun s i => fetch I m i s) s) := by rw [← List.foldl_append, List.take_append_drop]
  rw [e]; exact fetches_mono _ _ _
end Rt
end Go.Proofs.YtnffjfjhbjeaiaaGreatDoor
/- Layer 21 (roots): sweep, with its two closures: contracts. -/
namespace Go.Proofs.YtnffjfjhbjeaiaaGreatDoor
open Go.RowKit
theorem Rt.sweep_at (f : Int → Bool) (s : RtS) {j : Nat} (h : 1 ≤ j) : sweep f j s = if Ck.at_ (sweep f (j - 1) s).pres j && f j then drop j (sweep f (j - 1) s) else sweep f (j - 1) s := by
  obtain ⟨m, rfl⟩ : ∃ m, j = m + 1 := ⟨j - 1, by omega⟩
  exact sweep_step f m s
theorem Rt.sweep_le (f : Int → Bool) : ∀ (m : Nat) (s : RtS), (sweep f m s).code.length ≤ s.code.length + m
  | 0, _ => Nat.le_refl _
  | m + 1, s => by
    have := Rt.sweep_le f m s
    unfold sweep
    split
    · show ((sweep f m s).code ++ _).length ≤ _
      rw [List.length_append, List.length_singleton]; omega
    · omega
set_option maxHeartbeats 8000000 in
set_option maxRecDepth 100000 in
theorem roots_sweep_fwd (a : RtA) (n : NetD) (kb : List Bool) (W0 : World) (s : RtS) (W : World) (f : Int → Bool) (b1 b2 : Nat) (hS : a.Still n W0) (hM : RtM a n kb W0 s W) (hlen : s.code.length ≤ 50000)
    (hC : ∀ s' W', RtM a n kb W0 s' W' → RtK a W W' → ∀ id : Nat, 1 ≤ id → id ≤ n.nodes.length → Calls Tryz.prog 63 #[.int .i64 id, .pointer (some ⟨b1, 0, none⟩), .pointer (some ⟨b2, 0, none⟩)] W' fun e w' => e = .returned (.bool (f id)) ∧ Later W' w') :
    Calls Tryz.prog 62 #[.pointer (some ⟨a.p, 0, none⟩), .func (.func 63) #[] #[.pointer (some ⟨b1, 0, none⟩), .pointer (some ⟨b2, 0, none⟩)]] W (RtP a n kb W0 (Rt.sweep f n.nodes.length s) W) := by
  have hm := hS.m12
  have HS := Lib.hid hS
  have HC := Lib.hid hC
  have HM := Lib.hid hM
  clear hS hC hM
  go_enter Tryz.func62, Tryz.ntmps62
  go_wp2_with fail
  go_loopw [4] (fun i wx => ∃ j : Nat, 1 ≤ j ∧ j ≤ n.nodes.length + 1 ∧ i = .int .i64 (j : Int) ∧ RtM a n kb W0 (Rt.sweep f (j - 1) s) wx ∧ RtK a W wx) (fun i _ => n.nodes.length + 1 - (intOf i).toNat)
  case atStart => exact ⟨1, Nat.le_refl _, by omega, rfl, HM.out, RtK.refl _ _⟩
  case round =>
    obtain ⟨j, hj1, hj2, rfl, hMj, hKj⟩ := hrel
    clear HM
    have hstep := Rt.sweep_at f s hj1
    have hle := Rt.sweep_le f (j - 1) s
    obtain ⟨v, -, -, -, -, -, -, -, -, -, c7, -⟩ := hMj.cells9
    by_cases hlt : j ≤ n.nodes.length
    · have x0 := hMj.pres_at hlt
      have hsl : (Rt.sweep f (j - 1) s).code.length ≤ 60000 := by omega
      generalize Rt.sweep f (j - 1) s = s' at *
      have HCl := Lib.hid (HC.out s' wr hMj hKj j hj1 hlt)
      have HDr := Lib.hid (fun W2 (h : RtM a n kb W0 s' W2) => roots_drop a n kb W0 s' W2 HS.out h j hlt hsl)
      have q1 : (0 : Int) ≤ (j : Int) := by omega
      have q2 : (j : Int) < ((n.nodes.length + 1 : Nat) : Int) := by omega
      clear hle hsl
      cases hv : Ck.at_ s'.pres j
      · rw [hv] at x0 hstep
        have HE := Lib.hid (show Rt.sweep f (j + 1 - 1) s = s' by rw [show j + 1 - 1 = j by omega, hstep]; rfl)
        have HMj := Lib.hid hMj
        have HKj := Lib.hid hKj
        clear hMj hKj
        clear hv hstep HCl HDr
        go_wp2_with fail
        go_roundw
        case rel => exact ⟨j + 1, by omega, by omega, by go_num, by rw [HE.out]; exact HMj.out, HKj.out⟩
        case measure => simp [intOf]; omega
      · rw [hv] at x0 hstep
        cases hf : f j
        · rw [hf] at hstep HCl
          have HE := Lib.hid (show Rt.sweep f (j + 1 - 1) s = s' by rw [show j + 1 - 1 = j by omega, hstep]; rfl)
          have HMj := Lib.hid hMj
          have HKj := Lib.hid hKj
          clear hMj hKj
          clear hv hf hstep HDr
          go_wp2_with fail
          refine HCl.out.mono ?_
          rintro e w2 ⟨rfl, hl2⟩
          have hM2 := HMj.out.to_later hl2
          have hK2 := HKj.out.trans (RtK.of_later hl2)
          have HM2 := Lib.hid hM2
          have HK2 := Lib.hid hK2
          clear hM2 hK2
          clear HCl hl2 x0 c7 HMj HKj
          go_wp2_with fail
          go_roundw
          case rel => exact ⟨j + 1, by omega, by omega, by go_num, by rw [HE.out]; exact HM2.out, HK2.out⟩
          case measure => simp [intOf]; omega
        · rw [hf] at hstep HCl
          have HE := Lib.hid (show Rt.sweep f (j + 1 - 1) s = Rt.drop j s' by rw [show j + 1 - 1 = j by omega, hstep]; rfl)
          have HMj := Lib.hid hMj
          have HKj := Lib.hid hKj
          clear hMj hKj
          clear hv hf hstep
          go_wp2_with fail
          refine HCl.out.mono ?_
          rintro e w2 ⟨rfl, hl2⟩
          have hM2 := HMj.out.to_later hl2
          have hK2 := HKj.out.trans (RtK.of_later hl2)
          have HD2 := Lib.hid (HDr.out w2 hM2)
          have HK2 := Lib.hid hK2
          clear hK2
          clear HCl HDr hl2 x0 c7 HMj HKj hM2
          go_wp2_with fail
          refine HD2.out.mono ?_
          rintro e w3 ⟨rfl, hM3, hK3⟩
          have hK4 := HK2.out.trans hK3
          have HM3 := Lib.hid hM3
          have HK4 := Lib.hid hK4
          clear hM3 hK4
          clear HD2 HK2 hK3
          go_wp2_with fail
          go_roundw
          case rel => exact ⟨j + 1, by omega, by omega, by go_num, by rw [HE.out]; exact HM3.out, HK4.out⟩
          case measure => simp [intOf]; omega
    · obtain rfl : j = n.nodes.length + 1 := by omega
      rw [show n.nodes.length + 1 - 1 = n.nodes.length by omega] at hMj
      have hge : ¬ ((n.nodes.length + 1 : Nat) : Int) < ((n.nodes.length + 1 : Nat) : Int) := by omega
      have HMj := Lib.hid hMj
      have HKj := Lib.hid hKj
      clear hMj hKj
      clear hstep hle
      go_wp2_with fail
      go_end0
      exact ⟨rfl, HMj.out, HKj.out⟩
set_option maxHeartbeats 8000000 in
set_option maxRecDepth 100000 in
theorem roots_sweep_bwd (a : RtA) (n : NetD) (kb : List Bool) (W0 : World) (s : RtS) (W : World) (f : Int → Bool) (b1 b2 : Nat) (hS : a.Still n W0) (hM : RtM a n kb W0 s W) (hlen : s.code.length ≤ 50000)
    (hC : ∀ s' W', RtM a n kb W0 s' W' → RtK a W W' → ∀ id : Nat, 1 ≤ id → id ≤ n.nodes.length → Calls Tryz.prog 65 #[.int .i64 id, .pointer (some ⟨b1, 0, none⟩), .pointer (some ⟨b2, 0, none⟩)] W' fun e w' => e = .returned (.bool (f id)) ∧ Later W' w') :
    Calls Tryz.prog 62 #[.pointer (some ⟨a.p, 0, none⟩), .func (.func 65) #[] #[.pointer (some ⟨b1, 0, none⟩), .pointer (some ⟨b2, 0, none⟩)]] W (RtP a n kb W0 (Rt.sweep f n.nodes.length s) W) := by
  have hm := hS.m12
  have HS := Lib.hid hS
  have HC := Lib.hid hC
  have HM := Lib.hid hM
  clear hS hC hM
  go_enter Tryz.func62, Tryz.ntmps62
  go_wp2_with fail
  go_loopw [4] (fun i wx => ∃ j : Nat, 1 ≤ j ∧ j ≤ n.nodes.length + 1 ∧ i = .int .i64 (j : Int) ∧ RtM a n kb W0 (Rt.sweep f (j - 1) s) wx ∧ RtK a W wx) (fun i _ => n.nodes.length + 1 - (intOf i).toNat)
  case atStart => exact ⟨1, Nat.le_refl _, by omega, rfl, HM.out, RtK.refl _ _⟩
  case round =>
    obtain ⟨j, hj1, hj2, rfl, hMj, hKj⟩ := hrel
    clear HM
    have hstep := Rt.sweep_at f s hj1
    have hle := Rt.sweep_le f (j - 1) s
    obtain ⟨v, -, -, -, -, -, -, -, -, -, c7, -⟩ := hMj.cells9
    by_cases hlt : j ≤ n.nodes.length
    · have x0 := hMj.pres_at hlt
      have hsl : (Rt.sweep f (j - 1) s).code.length ≤ 60000 := by omega
      generalize Rt.sweep f (j - 1) s = s' at *
      have HCl := Lib.hid (HC.out s' wr hMj hKj j hj1 hlt)
      have HDr := Lib.hid (fun W2 (h : RtM a n kb W0 s' W2) => roots_drop a n kb W0 s' W2 HS.out h j hlt hsl)
      have q1 : (0 : Int) ≤ (j : Int) := by omega
      have q2 : (j : Int) < ((n.nodes.length + 1 : Nat) : Int) := by omega
      clear hle hsl
      cases hv : Ck.at_ s'.pres j
      · rw [hv] at x0 hstep
        have HE := Lib.hid (show Rt.sweep f (j + 1 - 1) s = s' by rw [show j + 1 - 1 = j by omega, hstep]; rfl)
        have HMj := Lib.hid hMj
        have HKj := Lib.hid hKj
        clear hMj hKj
        clear hv hstep HCl HDr
        go_wp2_with fail
        go_roundw
        case rel => exact ⟨j + 1, by omega, by omega, by go_num, by rw [HE.out]; exact HMj.out, HKj.out⟩
        case measure => simp [intOf]; omega
      · rw [hv] at x0 hstep
        cases hf : f j
        · rw [hf] at hstep HCl
          have HE := Lib.hid (show Rt.sweep f (j + 1 - 1) s = s' by rw [show j + 1 - 1 = j by omega, hstep]; rfl)
          have HMj := Lib.hid hMj
          have HKj := Lib.hid hKj
          clear hMj hKj
          clear hv hf hstep HDr
          go_wp2_with fail
          refine HCl.out.mono ?_
          rintro e w2 ⟨rfl, hl2⟩
          have hM2 := HMj.out.to_later hl2
          have hK2 := HKj.out.trans (RtK.of_later hl2)
          have HM2 := Lib.hid hM2
          have HK2 := Lib.hid hK2
          clear hM2 hK2
          clear HCl hl2 x0 c7 HMj HKj
          go_wp2_with fail
          go_roundw
          case rel => exact ⟨j + 1, by omega, by omega, by go_num, by rw [HE.out]; exact HM2.out, HK2.out⟩
          case measure => simp [intOf]; omega
        · rw [hf] at hstep HCl
          have HE := Lib.hid (show Rt.sweep f (j + 1 - 1) s = Rt.drop j s' by rw [show j + 1 - 1 = j by omega, hstep]; rfl)
          have HMj := Lib.hid hMj
          have HKj := Lib.hid hKj
          clear hMj hKj
          clear hv hf hstep
          go_wp2_with fail
          refine HCl.out.mono ?_
          rintro e w2 ⟨rfl, hl2⟩
          have hM2 := HMj.out.to_later hl2
          have hK2 := HKj.out.trans (RtK.of_later hl2)
          have HD2 := Lib.hid (HDr.out w2 hM2)
          have HK2 := Lib.hid hK2
          clear hK2
          clear HCl HDr hl2 x0 c7 HMj HKj hM2
          go_wp2_with fail
          refine HD2.out.mono ?_
          rintro e w3 ⟨rfl, hM3, hK3⟩
          have hK4 := HK2.out.trans hK3
          have HM3 := Lib.hid hM3
          have HK4 := Lib.hid hK4
          clear hM3 hK4
          clear HD2 HK2 hK3
          go_wp2_with fail
          go_roundw
          case rel => exact ⟨j + 1, by omega, by omega, by go_num, by rw [HE.out]; exact HM3.out, HK4.out⟩
          case measure => simp [intOf]; omega
    · obtain rfl : j = n.nodes.length + 1 := by omega
      rw [show n.nodes.length + 1 - 1 = n.nodes.length by omega] at hMj
      have hge : ¬ ((n.nodes.length + 1 : Nat) : Int) < ((n.nodes.length + 1 : Nat) : Int) := by omega
      have HMj := Lib.hid hMj
      have HKj := Lib.hid hKj
      clear hMj hKj
      clear hstep hle
      go_wp2_with fail
      go_end0
      exact ⟨rfl, HMj.out, HKj.out⟩
end Go.Proofs.YtnffjfjhbjeaiaaGreatDoor
/- Layer 21 (roots): the two tests handed to_ sweep: contracts. -/
namespace Go.Proofs.YtnffjfjhbjeaiaaGreatDoor
open Go.RowKit
/-- A row of bools tells what is kept. -/
def RtKb (n : NetD) (keep : List Int) (kb : List Bool) : Prop := ∀ id : Nat, id ≤ n.nodes.length → Ck.at_ kb id = keep.contains (id : Int)
theorem Rt.order_len {n : NetD} (h : Nt.check n = 0) : (Nt.sorted n.nodes).length = n.nodes.length := (Nt.check_ok h).2.2.2.2.1
set_option maxHeartbeats 8000000 in
set_option maxRecDepth 100000 in
theorem roots_fwd1 (a : RtA) (n : NetD) (keep : List Int) (kb : List Bool) (W0 : World) (s : RtS) (W : World) (hS : a.Still n W0) (hM : RtM a n kb W0 s W) (hkb : RtKb n keep kb) (k id b1 b2 : Nat) (hk : k ≤ 1000) (hid : id ≤ n.nodes.length)
    (c1 : W.cell? ⟨b1, 0, none⟩ = some (.pointer (some ⟨a.p, 0, none⟩))) (c2 : W.cell? ⟨b2, 0, none⟩ = some (.int .i64 k)) :
    Calls Tryz.prog 63 #[.int .i64 id, .pointer (some ⟨b1, 0, none⟩), .pointer (some ⟨b2, 0, none⟩)] W fun e w' => e = .returned (.bool (Rt.fT n keep k id)) ∧ Later W w' := by
  have hso := Rt.order_len hS.chk
  have hm := hS.m12
  obtain ⟨v, -, -, -, -, -, c3, -, c5, c6, -, -⟩ := hM.cells9
  have x0 := hM.kept_at hid
  have xl : W.cell? ⟨a.gl, id, none⟩ = some (.int .i64 (Rt.lastP (Nt.insF n.nodes) (Nt.sorted n.nodes) id n.nodes.length)) := by
    rw [(hM.later.blk hS.last).cell]; simp [intV, Rt.lastMid_at hid]
  have hE : Rt.fT n keep k id = (!Ck.at_ kb id && (decide ((id : Int) ≠ Nt.loss n.nodes) && decide (Rt.lastP (Nt.insF n.nodes) (Nt.sorted n.nodes) id n.nodes.length ≤ (k : Int) + 1))) := by
    unfold Rt.fT; rw [hkb id hid, hso]; rfl
  have q1 : (0 : Int) ≤ (id : Int) := by omega
  have q2 : (id : Int) < ((n.nodes.length + 1 : Nat) : Int) := by omega
  have w1 : IntKind.i64.wrap ((k : Int) + 1) = (k : Int) + 1 := IntWalk.i64_in _ (by omega)
  generalize Rt.lastP (Nt.insF n.nodes) (Nt.sorted n.nodes) id n.nodes.length = lp at *
  generalize Nt.loss n.nodes = lz at *
  clear hS hM hkb hso
  cases hv : Ck.at_ kb id
  rotate_left
  · rw [hv] at x0 hE
    have HE := Lib.hid hE
    clear hE
    clear hv
    go_enter Tryz.func63, Tryz.ntmps63
    go_wp2_with fail
    go_quiet (fail)
    go_wp2_with fail
    go_ret
    exact ⟨by rw [HE.out]; rfl, by first | exact Later.refl _ | exact (Later.refl _).drew | exact (Later.refl _).drewN _⟩
  · rw [hv] at x0 hE
    by_cases he : (id : Int) = lz
    · subst he
      have hE2 : Rt.fT n keep k id = false := by rw [hE]; simp
      have HE2 := Lib.hid hE2
      clear hE2
      clear hv hE
      go_enter Tryz.func63, Tryz.ntmps63
      go_wp2_with fail
      go_quiet (fail)
      go_wp2_with fail
      go_ret
      exact ⟨by rw [HE2.out]; rfl, by first | exact Later.refl _ | exact (Later.refl _).drew | exact (Later.refl _).drewN _⟩
    · have e1 : ((id : Int) != lz) = true := by simp [he]
      have hE2 : Rt.fT n keep k id = decide (lp ≤ (k : Int) + 1) := by rw [hE]; simp [he]
      have HE2 := Lib.hid hE2
      clear hE2
      clear hv hE he
      go_enter Tryz.func63, Tryz.ntmps63
      go_wp2_with fail
      go_quiet (fail)
      go_wp2_with fail
      go_ret
      exact ⟨by rw [HE2.out]; rfl, by first | exact Later.refl _ | exact (Later.refl _).drew | exact (Later.refl _).drewN _⟩
set_option maxHeartbeats 8000000 in
set_option maxRecDepth 100000 in
theorem roots_bwd1 (a : RtA) (n : NetD) (keep : List Int) (kb : List Bool) (W0 : World) (s : RtS) (W : World) (hS : a.Still n W0) (hM : RtM a n kb W0 s W) (hkb : RtKb n keep kb) (p id b1 b2 : Nat) (hid : id ≤ n.nodes.length)
    (c1 : W.cell? ⟨b1, 0, none⟩ = some (.pointer (some ⟨a.p, 0, none⟩))) (c2 : W.cell? ⟨b2, 0, none⟩ = some (.int .i64 p)) :
    Calls Tryz.prog 65 #[.int .i64 id, .pointer (some ⟨b1, 0, none⟩), .pointer (some ⟨b2, 0, none⟩)] W fun e w' => e = .returned (.bool (Rt.bT n keep p id)) ∧ Later W w' := by
  have hm := hS.m12
  obtain ⟨v, -, -, -, -, -, -, c4, -, c6, -, -⟩ := hM.cells9
  have x0 := hM.kept_at hid
  have xl : W.cell? ⟨a.g1, id, none⟩ = some (.int .i64 (Rt.firstP (Nt.insF n.nodes) (Nt.sorted n.nodes) id (Nt.sorted n.nodes).length)) := by
    rw [hM.first.cell]; simp [intV, Rt.firstMid_at n _ hid]
  have hE : Rt.bT n keep p id = (!Ck.at_ kb id || decide ((p : Int) ≤ Rt.firstP (Nt.insF n.nodes) (Nt.sorted n.nodes) id (Nt.sorted n.nodes).length)) := by
    unfold Rt.bT; rw [hkb id hid]
  have q1 : (0 : Int) ≤ (id : Int) := by omega
  have q2 : (id : Int) < ((n.nodes.length + 1 : Nat) : Int) := by omega
  generalize Rt.firstP (Nt.insF n.nodes) (Nt.sorted n.nodes) id (Nt.sorted n.nodes).length = lp at *
  clear hS hM hkb
  cases hv : Ck.at_ kb id
  · rw [hv] at x0 hE
    have HE := Lib.hid hE
    clear hE
    clear hv
    go_enter Tryz.func65, Tryz.ntmps65
    go_wp2_with fail
    go_quiet (fail)
    go_wp2_with fail
    go_ret
    exact ⟨by rw [HE.out]; rfl, by first | exact Later.refl _ | exact (Later.refl _).drew | exact (Later.refl _).drewN _⟩
  · rw [hv] at x0 hE
    have hE2 : Rt.bT n keep p id = decide ((p : Int) ≤ lp) := by rw [hE]; rfl
    have HE2 := Lib.hid hE2
    clear hE2
    clear hv hE
    go_enter Tryz.func65, Tryz.ntmps65
    go_wp2_with fail
    go_quiet (fail)
    go_wp2_with fail
    go_ret
    exact ⟨by rw [HE2.out]; rfl, by first | exact Later.refl _ | exact (Later.refl _).drew | exact (Later.refl _).drewN _⟩
end Go.Proofs.YtnffjfjhbjeaiaaGreatDoor
/- Layer 21 (roots): fetch: contract. -/
namespace Go.Proofs.YtnffjfjhbjeaiaaGreatDoor
open Go.RowKit
theorem NetR.ins_at {w : World} {A N : Option Addr} {n : NetD} (h : NetR w A N n) {k : Nat} (hk : k < n.nodes.length) : ∃ b off J jc, N = some ⟨b, off, none⟩ ∧ w.cell? ⟨b, off + k * 10 + 8, none⟩ = some (.slice J n.nodes[k].ins.length jc) ∧ Ints .i64 w J n.nodes[k].ins := by
  obtain ⟨b, off, S, sc, J, jc, Q, qc, e, hA, -⟩ := h.2.at_ hk
  obtain ⟨⟨-, -, -, -, -, -, -, -, y8, -⟩, -, hI, -⟩ := hA
  exact ⟨b, off, J, jc, e, y8, hI⟩
theorem Rt.ins_rng {n : NetD} (h : Nt.check n = 0) {k : Nat} (hk : k < n.nodes.length) : ∀ i ∈ n.nodes[k].ins, 0 ≤ i ∧ i ≤ n.nodes.length := fun i hi => by
  have := (Nt.bads_all (Nt.check_ok h).2.2.2.1 _ (List.getElem_mem hk)).2 i hi
  omega
set_option maxHeartbeats 8000000 in
set_option maxRecDepth 100000 in
theorem roots_fetch (a : RtA) (n : NetD) (kb : List Bool) (W0 : World) (hS : a.Still n W0) : ∀ (m : Nat) (id : Nat) (s : RtS) (W : World), RtM a n kb W0 s W → Ck.at_ s.pres 0 = true → id ≤ n.nodes.length → (id = 0 ∨ Rt.rank n id < m) → (Rt.fetch (Nt.insF n.nodes) m id s).code.length ≤ 50000 →
    Calls Tryz.prog 64 #[.pointer (some ⟨a.p, 0, none⟩), .int .i64 id] W (RtP a n kb W0 (Rt.fetch (Nt.insF n.nodes) m id s) W) := by
  intro m
  induction m with
  | zero =>
    intro id s W hM hz hid hr _
    obtain rfl : id = 0 := by omega
    have x0 := hM.pres_at (i := 0) hid
    rw [show ((0 : Nat) : Int) = 0 from rfl, hz] at x0
    obtain ⟨v, -, -, -, -, -, -, -, -, -, c7, -⟩ := hM.cells9
    have q2 : (0 : Int) < ((n.nodes.length + 1 : Nat) : Int) := by omega
    have hq : Rt.fetch (Nt.insF n.nodes) 0 ((0 : Nat) : Int) s = s := rfl
    rw [hq]
    have HM := Lib.hid hM
    clear hM
    clear hz hr hS hq
    go_enter Tryz.func64, Tryz.ntmps64
    go_wp2_with fail
    go_end0
    exact ⟨rfl, HM.out, RtK.refl _ _⟩
  | succ m ih =>
    intro id s W hM hz hid hr hlen
    have hmn := hS.m12
    have x0 := hM.pres_at hid
    obtain ⟨v, -, -, -, c1, -, -, -, -, -, c7, -⟩ := hM.cells9
    have q1 : (0 : Int) ≤ (id : Int) := by omega
    have q2 : (id : Int) < ((n.nodes.length + 1 : Nat) : Int) := by omega
    cases hv : Ck.at_ s.pres id
    rotate_left
    · rw [hv] at x0
      have hq : Rt.fetch (Nt.insF n.nodes) (m + 1) id s = s := by rw [Rt.fetch_step, if_pos hv]
      rw [hq]
      have HM := Lib.hid hM
      clear hM
      clear hz hr hS hq hlen hv ih c1
      go_enter Tryz.func64, Tryz.ntmps64
      go_wp2_with fail
      go_end0
      exact ⟨rfl, HM.out, RtK.refl _ _⟩
    rw [hv] at x0
    have hid1 : 1 ≤ id := by
      rcases Nat.eq_zero_or_pos id with h0 | h0
      · subst h0; rw [show ((0 : Nat) : Int) = 0 from rfl, hz] at hv; cases hv
      · exact h0
    obtain ⟨j, rfl⟩ : ∃ j, id = j + 1 := ⟨id - 1, by omega⟩
    have hj : j < n.nodes.length := by omega
    have hiF : Nt.insF n.nodes ((j + 1 : Nat) : Int) = n.nodes[j].ins := by unfold Nt.insF; rw [Int.natCast_succ, Nt.node_at hj]
    have hq : Rt.fetch (Nt.insF n.nodes) (m + 1) ((j + 1 : Nat) : Int) s = Rt.comp 2 ((j + 1 : Nat) : Int) (n.nodes[j].ins.foldl (fun s i => Rt.fetch (Nt.insF n.nodes) m i s) s) := by
      rw [Rt.fetch_step, if_neg (by rw [hv]; simp), hiF]
    rw [hq] at hlen ⊢
    have hlt : ∀ i ∈ n.nodes[j].ins, i ≠ 0 → Rt.rank n i < m := fun i hi h0 => by
      have h1 := (Rt.net_ok hS.chk).lt ((j + 1 : Nat) : Int) (by omega) (by omega) i (by rw [hiF]; exact hi) h0
      have h2 : Rt.rank n ((j + 1 : Nat) : Int) < m + 1 := by rcases hr with h | h <;> omega
      omega
    have hrng := Rt.ins_rng hS.chk hj
    obtain ⟨b, off, J, jc, hN, y8, hJ⟩ := hS.net.ins_at hj
    have hil := (hS.ok.2.2 _ (List.getElem_mem hj)).2.2.1
    have hJL := fun (W' : World) (h : Later W0 W') => hJ.below h (Nat.le_refl _)
    have y8' := hM.later.cell y8
    rw [hN] at c1
    have hN2 := hS.hN
    have hcode : ∀ k, ((n.nodes[j].ins.take k).foldl (fun s i => Rt.fetch (Nt.insF n.nodes) m i s) s).code.length ≤ 49999 := fun k => by
      have h1 := Rt.take_mono (I := Nt.insF n.nodes) (m := m) n.nodes[j].ins k s
      have h2 : (Rt.comp 2 ((j + 1 : Nat) : Int) (n.nodes[j].ins.foldl (fun s i => Rt.fetch (Nt.insF n.nodes) m i s) s)).code.length = (n.nodes[j].ins.foldl (fun s i => Rt.fetch (Nt.insF n.nodes) m i s) s).code.length + 1 := by unfold Rt.comp; simp
      omega
    have htk := fun k (h : k < n.nodes[j].ins.length) => Rt.fold_take (I := Nt.insF n.nodes) (m := m) h s
    have hmany := roots_many a n kb W0 s W hM (by have := hcode 0; simp at this; omega)
    generalize n.nodes[j].ins = il at *
    have j1 : ((j + 1 : Nat) : Int) - 1 = (j : Int) := by omega
    have j2 : IntKind.i64.wrap (j : Int) = j := IntWalk.i64_in _ (by omega)
    have j3 : (0 : Int) ≤ (j : Int) := by omega
    have j4 : (j : Int) < n.nodes.length := by omega
    have hj0 : ((j + 1 : Nat) : Int) = (j : Int) + 1 := by omega
    have hKc := fun (s2 : RtS) (W2 : World) (h : RtM a n kb W0 s2 W2) (hl : s2.code.length ≤ 60000) => roots_compute a n kb W0 s2 W2 hS h 2 (j + 1) hid hl
    rw [hj0] at hq hKc q1 q2 ⊢
    have hzf := fun (l : List Int) => Rt.fetches_zero (I := Nt.insF n.nodes) (m := m) l s hz
    have HM := Lib.hid hM
    have HJL := Lib.hid hJL
    have Hlt := Lib.hid hlt
    have Hrng := Lib.hid hrng
    have Hcode := Lib.hid hcode
    have Htk := Lib.hid htk
    have Hmany := Lib.hid hmany
    have HKc := Lib.hid hKc
    have Hih := Lib.hid ih
    have Hzf := Lib.hid hzf
    clear hM hJL hlt hrng hcode htk hmany hKc ih hzf
    clear hz hr hS hq hlen hv hiF y8 hJ hN hj0
    go_enter Tryz.func64, Tryz.ntmps64
    go_wp2_with fail
    refine Hmany.out.mono ?_
    rintro e w2 ⟨rfl, rfl⟩
    clear Hmany
    go_wp2_with fail
    go_loopw [28] (fun i wx => ∃ k : Nat, k ≤ il.length ∧ i = .int .i64 (k : Int) ∧ RtM a n kb W0 ((il.take k).foldl (fun s i => Rt.fetch (Nt.insF n.nodes) m i s) s) wx ∧ RtK a W wx) (fun i _ => il.length - (intOf i).toNat)
    case atStart => exact ⟨0, Nat.zero_le _, rfl, HM.out, RtK.refl _ _⟩
    case round =>
      obtain ⟨k, hk, rfl, hMk, hKk⟩ := hrel
      clear HM x0 c7 c1 y8'
      by_cases hlt : k < il.length
      · obtain ⟨b2, off2, rfl, -, hc⟩ := HJL.out wr hMk.later k hlt
        rw [getD_at hlt] at hc
        have hr := Hrng.out _ (List.getElem_mem hlt)
        obtain ⟨u, hu⟩ := Int.eq_ofNat_of_zero_le hr.1
        have hfe := Hih.out u _ wr hMk (Hzf.out _) (by omega) (by
          rcases Nat.eq_zero_or_pos u with h0 | h0
          · exact .inl h0
          · exact .inr (by rw [← hu]; exact Hlt.out _ (List.getElem_mem hlt) (by omega))) (by
          have h1 := Hcode.out (k + 1)
          rw [Htk.out k hlt, hu] at h1; omega)
        rw [← hu, ← Htk.out k hlt] at hfe
        rw [hu] at hc hfe
        have m1 : (k : Int) < il.length := by omega
        have HMk := Lib.hid hMk
        have HKk := Lib.hid hKk
        have Hfe := Lib.hid hfe
        clear hMk hKk hfe
        clear hr hu
        go_wp2_with fail
        refine Hfe.out.mono ?_
        rintro e w3 ⟨rfl, hM3, hK3⟩
        have hK4 := HKk.out.trans hK3
        have HM3 := Lib.hid hM3
        have HK4 := Lib.hid hK4
        clear hM3 hK4
        clear Hfe hK3 hc HMk HKk
        go_wp2_with fail
        go_roundw
        case rel => exact ⟨k + 1, by omega, by go_num, HM3.out, HK4.out⟩
        case measure => simp [intOf]; omega
      · obtain rfl : k = il.length := by omega
        have hcd := Hcode.out il.length
        rw [List.take_length] at hMk hcd
        have hcp := HKc.out _ wr hMk (by omega)
        have Hcp := Lib.hid hcp
        have HKk := Lib.hid hKk
        clear hcp hKk
        clear hMk hcd
        go_wp2_with fail
        refine Hcp.out.mono ?_
        rintro e w3 ⟨rfl, hM3, hK3⟩
        have hK4 := HKk.out.trans hK3
        have HM3 := Lib.hid hM3
        have HK4 := Lib.hid hK4
        clear hM3 hK4
        clear Hcp hK3 HKk
        go_wp2_with fail
        go_end0
        exact ⟨rfl, HM3.out, HK4.out⟩
end Go.Proofs.YtnffjfjhbjeaiaaGreatDoor
/- Layer 21 (roots): forward: contract. -/
namespace Go.Proofs.YtnffjfjhbjeaiaaGreatDoor
open Go.RowKit
theorem RtA.Still.order {a : RtA} {n : NetD} {W0 : World} (h : a.Still n W0) {k : Nat} (hk : k < n.nodes.length) : ∃ b off u, a.O = some ⟨b, off, none⟩ ∧ W0.cell? ⟨b, off + k, none⟩ = some (.int .i64 ((u : Nat) : Int)) ∧ (Nt.sorted n.nodes).getD k 0 = ((u : Nat) : Int) ∧ 1 ≤ u ∧ u ≤ n.nodes.length := by
  have hso := Rt.order_len h.chk
  have hko : k < (Nt.sorted n.nodes).length := by omega
  obtain ⟨b, off, e, -, hc⟩ := h.ord k hko
  have hr := Kn.order_rng (Nt.insF n.nodes) n.nodes.length _ (show (Nt.sorted n.nodes)[k] ∈ Nt.sorted n.nodes from List.getElem_mem hko)
  rw [getD_at hko] at hc ⊢
  obtain ⟨u, hu⟩ := Int.eq_ofNat_of_zero_le (show 0 ≤ (Nt.sorted n.nodes)[k] by omega)
  rw [hu] at hr hc
  exact ⟨b, off, u, e, hc, hu, by omega, by omega⟩
theorem RtA.Still.orders {a : RtA} {n : NetD} {W0 : World} (h : a.Still n W0) : ∃ b off, a.O = some ⟨b, off, none⟩ ∧ ∀ k, k < n.nodes.length → ∃ u : Nat, W0.cell? ⟨b, off + k, none⟩ = some (.int .i64 ((u : Nat) : Int)) ∧ (Nt.sorted n.nodes).getD k 0 = ((u : Nat) : Int) ∧ 1 ≤ u ∧ u ≤ n.nodes.length := by
  have h0 : 0 < n.nodes.length := by
    have := Nt.loss_mem (Nt.check_ok h.chk).2.2.2.2.2.2.1
    omega
  obtain ⟨b, off, _, hO, -⟩ := h.order h0
  refine ⟨b, off, hO, fun k hk => ?_⟩
  obtain ⟨b2, off2, u, hO2, h2⟩ := h.order hk
  rw [hO] at hO2
  cases hO2
  exact ⟨u, h2⟩
set_option maxHeartbeats 8000000 in
set_option maxRecDepth 100000 in
theorem roots_forward (a : RtA) (n : NetD) (keep : List Int) (kb : List Bool) (W0 : World) (W : World) (hS : a.Still n W0) (hkb : RtKb n keep kb) (hM : RtM a n kb W0 (Rt.fwdN n keep 0) W) :
    Calls Tryz.prog 27 #[.pointer (some ⟨a.p, 0, none⟩)] W (RtP a n kb W0 (Rt.fwdN n keep n.nodes.length) W) := by
  have hmn := hS.m12
  have hso := Rt.order_len hS.chk
  have hg3 : a.p < W.heap.size ∧ a.g3 < W.heap.size := ⟨(by obtain ⟨v, hb, -⟩ := hM.box; exact hb.lt), hM.pres.lt⟩
  have hl1 : Later W (W.alloc (.cells #[.pointer (some ⟨a.p, 0, none⟩)] 69)) := (Later.refl W).alloc _
  have hb1 := Blk.new W 69 #[.pointer (some ⟨a.p, 0, none⟩)]
  have hM1 := hM.to_later hl1
  have hlen := fun k (hk : k ≤ n.nodes.length) => Rt.fwdN_len hS.chk keep k (by rw [hso]; exact hk)
  obtain ⟨b, off, hO, hord⟩ := hS.orders
  obtain ⟨v, -, -, -, -, c2, -, -, -, -, -, -⟩ := hM1.cells9
  rw [hO] at c2
  have HS := Lib.hid hS
  have Hkb := Lib.hid hkb
  have HM1 := Lib.hid hM1
  have Hl1 := Lib.hid hl1
  have Hb1 := Lib.hid hb1
  have Hlen := Lib.hid hlen
  have Hord := Lib.hid hord
  have Hso := Lib.hid hso
  clear hS hkb hM1 hl1 hb1 hlen hord hso
  clear hO
  clear hM
  go_enter Tryz.func27, Tryz.ntmps27
  go_wp2_with fail
  generalize W.alloc (.cells #[.pointer (some ⟨a.p, 0, none⟩)] 69) = w1 at *
  go_loopw [9] (fun i wx => ∃ k : Nat, k ≤ n.nodes.length ∧ i = .int .i64 (k : Int) ∧ RtM a n kb W0 (Rt.fwdN n keep k) wx ∧ RtK a w1 wx) (fun i _ => n.nodes.length - (intOf i).toNat)
  case atStart => exact ⟨0, Nat.zero_le _, rfl, HM1.out, RtK.refl _ _⟩
  case round =>
    obtain ⟨k, hk, rfl, hMk, hKk⟩ := hrel
    clear HM1 c2
    by_cases hlt : k < n.nodes.length
    · obtain ⟨u, hc0, hu, hu1, hu2⟩ := Hord.out k hlt
      have hc := hMk.later.cell hc0
      have hbK := hKk.blk Hb1.out (by decide) (by omega) (by omega)
      have hle := Hlen.out k hk
      have hmul : k * (n.nodes.length + 3) ≤ 12 * 15 := Nat.mul_le_mul (by omega) (by omega)
      have hst : Rt.fwdN n keep (k + 1) = Rt.sweep (Rt.fT n keep k) n.nodes.length (Rt.comp 1 (u : Int) (Rt.fwdN n keep k)) := by
        show Rt.sweep _ _ (Rt.comp 1 ((Nt.sorted n.nodes).getD k 0) _) = _
        rw [hu]; rfl
      generalize Rt.fwdN n keep k = s at *
      have hl2 : Later wr (wr.alloc (.cells #[.int .i64 k] 3)) := (Later.refl wr).alloc _
      have hb2 := Blk.new wr 3 #[.int .i64 k]
      have hM2 := hMk.to_later hl2
      have hsz : wr.heap.size > a.p ∧ wr.heap.size > a.g3 := by have := hKk.1; have := Below.size Hl1.out; omega
      have hK2 := hKk.trans (RtK.of_later hl2)
      have hbL := hl2.blk hbK
      have z1 : (wr.alloc (.cells #[.int .i64 k] 3)).cell? ⟨W.heap.size, 0, none⟩ = some (.pointer (some ⟨a.p, 0, none⟩)) := hbL.cell 0
      have m1 : (k : Int) < n.nodes.length := by omega
      have HM2 := Lib.hid hM2
      have HK2 := Lib.hid hK2
      have HbL := Lib.hid hbL
      have Hb2 := Lib.hid hb2
      have Hst := Lib.hid hst
      clear hM2 hK2 hbL hb2 hst
      clear hMk hKk hc0 hu hl2 hbK
      go_wp2_with fail
      generalize wr.alloc (.cells #[.int .i64 k] 3) = w2 at *
      generalize wr.heap.size = pi at *
      refine (roots_compute a n kb W0 s w2 HS.out HM2.out 1 u hu2 (by omega)).mono ?_
      rintro e w3 ⟨rfl, hM3, hK3⟩
      have hl3 : (Rt.comp 1 (u : Int) s).code.length ≤ 50000 := by unfold Rt.comp; simp; omega
      have hbL3 := hK3.blk HbL.out (by decide) (by omega) (by omega)
      have hb23 := hK3.blk Hb2.out (by decide) (by omega) (by omega)
      have z3 : w3.cell? ⟨W.heap.size, 0, none⟩ = some (.pointer (some ⟨a.p, 0, none⟩)) := hbL3.cell 0
      have hK3' := HK2.out.trans hK3
      have HSw := Lib.hid (roots_sweep_fwd a n kb W0 _ w3 (Rt.fT n keep k) W.heap.size pi HS.out hM3 hl3 (fun s' W' hM' hK' id h1 h2 =>
        roots_fwd1 a n keep kb W0 s' W' HS.out hM' Hkb.out k id W.heap.size pi (by omega) h2 ((hK'.blk hbL3 (by decide) (by omega) (by omega)).cell 0) ((hK'.blk hb23 (by decide) (by omega) (by omega)).cell 0)))
      rw [← Hst.out] at HSw
      have HK3' := Lib.hid hK3'
      clear hK3'
      clear hM3 hK3 HM2 HK2 HbL Hb2 z1 hbL3 hb23 hle hmul hl3 Hst hc
      go_wp2_with fail
      refine HSw.out.mono ?_
      rintro e w4 ⟨rfl, hM4, hK4⟩
      have hK5 := HK3'.out.trans hK4
      have HM4 := Lib.hid hM4
      have HK5 := Lib.hid hK5
      clear hM4 hK5
      clear HSw hK4 HK3' z3
      go_wp2_with fail
      go_roundw
      case rel => exact ⟨k + 1, by omega, by go_num, HM4.out, HK5.out⟩
      case measure => simp [intOf]; omega
    · obtain rfl : k = n.nodes.length := by omega
      have hK := (RtK.of_later (a := a) Hl1.out).trans hKk
      have HMk := Lib.hid hMk
      have HK := Lib.hid hK
      clear hMk hK
      clear hKk
      go_wp2_with fail
      go_end0
      exact ⟨rfl, HMk.out, HK.out⟩
end Go.Proofs.YtnffjfjhbjeaiaaGreatDoor
/- Layer 21 (roots): backward: contract. -/
namespace Go.Proofs.YtnffjfjhbjeaiaaGreatDoor
open Go.RowKit
/-- What a pointer to_ an int points to_. -/
def ptrVal (t : Value) (w : World) : Nat := match t with
  | .pointer (some ad) => (match w.cell? ad with
    | some v => (intOf v).toNat
    | none => 0)
  | _ => 0
theorem ptrVal_of {w : World} {ad : Addr} {z : Int} (h : w.cell? ad = some (.int .i64 z)) : ptrVal (.pointer (some ad)) w = z.toNat := by
  unfold ptrVal; simp only [h]; rfl
theorem Rt.insF_at {n : NetD} {j : Nat} (hj : j < n.nodes.length) : Nt.insF n.nodes ((j + 1 : Nat) : Int) = n.nodes[j].ins := by unfold Nt.insF; rw [Int.natCast_succ, Nt.node_at hj]
set_option maxHeartbeats 16000000 in
set_option maxRecDepth 100000 in
theorem roots_backward (a : RtA) (n : NetD) (keep : List Int) (kb : List Bool) (W0 : World) (W : World) (hS : a.Still n W0) (hkb : RtKb n keep kb) (hM : RtM a n kb W0 (Rt.bwdN n keep 0) W) (hz0 : ∀ k, k ≤ n.nodes.length → Ck.at_ (Rt.bwdN n keep k).pres 0 = true) :
    Calls Tryz.prog 30 #[.pointer (some ⟨a.p, 0, none⟩)] W (RtP a n kb W0 (Rt.bwdN n keep n.nodes.length) W) := by
  have hmn := hS.m12
  have hso := Rt.order_len hS.chk
  have hg3 : a.p < W.heap.size ∧ a.g3 < W.heap.size := ⟨(by obtain ⟨v, hb, -⟩ := hM.box; exact hb.lt), hM.pres.lt⟩
  have hl0 : Later W (W.alloc (.cells #[.pointer (some ⟨a.p, 0, none⟩)] 69)) := (Later.refl W).alloc _
  have hb0 := Blk.new W 69 #[.pointer (some ⟨a.p, 0, none⟩)]
  have hl1 : Later W ((W.alloc (.cells #[.pointer (some ⟨a.p, 0, none⟩)] 69)).alloc (.cells #[.int .i64 (n.nodes.length : Int)] 3)) := hl0.alloc _
  have hb1 := hb0.alloc (.cells #[.int .i64 (n.nodes.length : Int)] 3)
  have hb2 := Blk.new (W.alloc (.cells #[.pointer (some ⟨a.p, 0, none⟩)] 69)) 3 #[.int .i64 (n.nodes.length : Int)]
  rw [World.size_alloc] at hb2
  have hM0 := hM.to_later hl0
  obtain ⟨v, -, -, -, -, c2, -, -, -, -, -, -⟩ := hM0.cells9
  have z0 : (W.alloc (.cells #[.pointer (some ⟨a.p, 0, none⟩)] 69)).cell? ⟨W.heap.size, 0, none⟩ = some (.pointer (some ⟨a.p, 0, none⟩)) := hb0.cell 0
  have hM1 := hM.to_later hl1
  have hlen := fun k (hk : k ≤ n.nodes.length) => Rt.bwdN_short hS.chk hmn keep k (by rw [hso]; exact hk)
  have hlen1 := fun k (hk : k ≤ n.nodes.length) => Rt.bwdN_len hS.chk keep k (by rw [hso]; exact hk)
  have hord := fun k (hk : k < n.nodes.length) => hS.order hk
  have hins := fun k (hk : k < n.nodes.length) => hS.net.ins_at hk
  have hrk : ∀ id : Nat, 1 ≤ id → id ≤ n.nodes.length → Rt.rank n id < n.nodes.length + 1 := fun id h1 h2 => by
    have hu : (id : Int) ∈ Nt.sorted n.nodes := (Kn.order_full hso _).2 ⟨by omega, by omega⟩
    have := List.idxOf_lt_length_of_mem hu
    unfold Rt.rank
    omega
  have hmid : (Rt.midN n keep).code.length ≤ n.nodes.length * (n.nodes.length + 3) + 3 := Rt.midN_len hS.chk keep
  have HS := Lib.hid hS
  have Hkb := Lib.hid hkb
  have HM1 := Lib.hid hM1
  have Hl1 := Lib.hid hl1
  have Hb1 := Lib.hid hb1
  have Hb2 := Lib.hid hb2
  have Hlen := Lib.hid hlen
  have Hlen1 := Lib.hid hlen1
  have Hord := Lib.hid hord
  have Hso := Lib.hid hso
  have Hins := Lib.hid hins
  have Hrk := Lib.hid hrk
  have Hz0 := Lib.hid hz0
  have Hmid := Lib.hid hmid
  clear hS hkb hM1 hl1 hb1 hb2 hlen hlen1 hord hso hins hrk hz0 hmid
  clear hM hM0 hl0 hb0
  go_enter Tryz.func30, Tryz.ntmps30
  go_wp2_with fail
  generalize (W.alloc (.cells #[.pointer (some ⟨a.p, 0, none⟩)] 69)).alloc (.cells #[.int .i64 (n.nodes.length : Int)] 3) = w1 at *
  clear c2 z0
  go_loopw [2] (fun t wx => ∃ (k pp : Nat), k ≤ n.nodes.length ∧ t = .pointer (some ⟨pp, 0, none⟩) ∧ W.heap.size < pp ∧ Blk wx pp 3 #[.int .i64 ((n.nodes.length - k : Nat) : Int)] ∧ RtM a n kb W0 (Rt.bwdN n keep k) wx ∧ RtK a w1 wx) (fun t wx => ptrVal t wx)
  case atStart => exact ⟨0, W.heap.size + 1, Nat.zero_le _, rfl, by omega, Hb2.out, HM1.out, RtK.refl _ _⟩
  case round =>
    obtain ⟨k, pp, hk, rfl, hpp, hbp, hMk, hKk⟩ := hrel
    clear HM1 Hb2
    have hbL := hKk.blk Hb1.out (by decide) (by omega) (by omega)
    have z1 : wr.cell? ⟨W.heap.size, 0, none⟩ = some (.pointer (some ⟨a.p, 0, none⟩)) := hbL.cell 0
    by_cases hlt : k < n.nodes.length
    · obtain ⟨p, hp⟩ : ∃ p, n.nodes.length - k = p := ⟨_, rfl⟩
      obtain ⟨i, hi⟩ : ∃ i, n.nodes.length - 1 - k = i := ⟨_, rfl⟩
      have hil : i < n.nodes.length := by omega
      have hpi : p = i + 1 := by omega
      have HNI := Lib.hid (show n.nodes.length - (k + 1) = i by omega)
      subst hpi
      have hsh := Hlen.out k hk
      have hmany := roots_many a n kb W0 _ wr hMk (by omega)
      obtain ⟨bo, oo, u, hO, hco, hu, hu1, hu2⟩ := Hord.out i hil
      obtain ⟨j, rfl⟩ : ∃ j, u = j + 1 := ⟨u - 1, by omega⟩
      have hj : j < n.nodes.length := by omega
      obtain ⟨bN, oN, J, jc, hN, y8, hJ⟩ := Hins.out j hj
      have hrng := Rt.ins_rng HS.out.chk hj
      have hst : Rt.bwdN n keep (k + 1) = Rt.sweep (Rt.bT n keep (i + 1)) n.nodes.length (Rt.add 6 ((j + 1 : Nat) : Int) (n.nodes[j].ins.foldl (fun s i => Rt.fetch (Nt.insF n.nodes) (n.nodes.length + 1) i s) (Rt.bwdN n keep k))) := by
        show Rt.sweep (Rt.bT n keep ((Nt.sorted n.nodes).length - k)) _ (Rt.add 6 ((Nt.sorted n.nodes).getD ((Nt.sorted n.nodes).length - 1 - k) 0) ((Nt.insF n.nodes ((Nt.sorted n.nodes).getD ((Nt.sorted n.nodes).length - 1 - k) 0)).foldl _ _)) = _
        rw [Hso.out, hi, hp, hu, Rt.insF_at hj]; rfl
      have hl2 := Hlen.out (k + 1) (by omega)
      have hmn2 : (Rt.add 6 ((j + 1 : Nat) : Int) (n.nodes[j].ins.foldl (fun s i => Rt.fetch (Nt.insF n.nodes) (n.nodes.length + 1) i s) (Rt.bwdN n keep k))).code.length ≤ 1000 := by
        have h1 := Rt.sweep_mono (f := Rt.bT n keep (i + 1)) n.nodes.length (Rt.add 6 ((j + 1 : Nat) : Int) (n.nodes[j].ins.foldl (fun s i => Rt.fetch (Nt.insF n.nodes) (n.nodes.length + 1) i s) (Rt.bwdN n keep k)))
        rw [← hst] at h1
        omega
      have hcode : ∀ m, ((n.nodes[j].ins.take m).foldl (fun s i => Rt.fetch (Nt.insF n.nodes) (n.nodes.length + 1) i s) (Rt.bwdN n keep k)).code.length ≤ 1000 := fun m => by
        have h1 := Rt.take_mono (I := Nt.insF n.nodes) (m := n.nodes.length + 1) n.nodes[j].ins m (Rt.bwdN n keep k)
        have h2 : (Rt.add 6 ((j + 1 : Nat) : Int) (n.nodes[j].ins.foldl (fun s i => Rt.fetch (Nt.insF n.nodes) (n.nodes.length + 1) i s) (Rt.bwdN n keep k))).code.length = (n.nodes[j].ins.foldl (fun s i => Rt.fetch (Nt.insF n.nodes) (n.nodes.length + 1) i s) (Rt.bwdN n keep k)).code.length + 1 := by unfold Rt.add; simp
        omega
      have hzk := Hz0.out k hk
      have hzf := fun (l : List Int) => Rt.fetches_zero (I := Nt.insF n.nodes) (m := n.nodes.length + 1) l _ hzk
      have htk := fun m (h : m < n.nodes[j].ins.length) => Rt.fold_take (I := Nt.insF n.nodes) (m := n.nodes.length + 1) h (Rt.bwdN n keep k)
      have hill := (HS.out.ok.2.2 _ (List.getElem_mem hj)).2.2.1
      have hJL := fun (W' : World) (h : Later W0 W') => hJ.below h (Nat.le_refl _)
      obtain ⟨v, -, -, -, c1, c2, -, -, -, -, -, -⟩ := hMk.cells9
      have hco' := hMk.later.cell hco
      have y8' := hMk.later.cell y8
      rw [hN] at c1
      rw [hO] at c2
      rw [hp] at hbp
      have x1 : wr.cell? ⟨pp, 0, none⟩ = some (.int .i64 ((i + 1 : Nat) : Int)) := hbp.cell 0
      generalize n.nodes[j].ins = il at *
      generalize Rt.bwdN n keep k = s at *
      have hj0 : ((j + 1 : Nat) : Int) = (j : Int) + 1 := by omega
      have hi0 : ((i + 1 : Nat) : Int) = (i : Int) + 1 := by omega
      rw [hj0] at hco' hst
      rw [hi0] at x1
      have Hx1 := Lib.hid x1
      have j1 : (j : Int) + 1 - 1 = (j : Int) := by omega
      have j2 : IntKind.i64.wrap (j : Int) = j := IntWalk.i64_in _ (by omega)
      have j3 : (0 : Int) ≤ (j : Int) := by omega
      have j4 : (j : Int) < n.nodes.length := by omega
      have i1 : (i : Int) + 1 - 1 = (i : Int) := by omega
      have i2 : IntKind.i64.wrap (i : Int) = i := IntWalk.i64_in _ (by omega)
      have i3 : (0 : Int) ≤ (i : Int) := by omega
      have i4 : (i : Int) < n.nodes.length := by omega
      have i5 : decide ((1 : Int) ≤ (i : Int) + 1) = true := by simp; omega
      have hMd := fun (m : Nat) => hMk.to_later ((Later.refl wr).drewN m)
      have hKd := fun (m : Nat) => hKk.trans (RtK.of_later ((Later.refl wr).drewN m))
      have Hmany := Lib.hid hmany
      have HMd := Lib.hid hMd
      have HKd := Lib.hid hKd
      have Hbp := Lib.hid hbp
      have HJL := Lib.hid hJL
      have Hrng := Lib.hid hrng
      have Hcode := Lib.hid hcode
      have Hzf := Lib.hid hzf
      have Htk := Lib.hid htk
      have Hst := Lib.hid hst
      have Hmn2 := Lib.hid hmn2
      clear hmany hMd hKd hbp hJL hrng hcode hzf htk hst hmn2
      clear hMk hKk hbL hco y8 hJ hu hO hN hzk hl2 hsh hi hp hj0 hi0
      go_wp2_with fail
      refine Hmany.out.mono ?_
      rintro e w2 ⟨rfl, rfl⟩
      clear Hmany
      go_wp2_with fail
      go_quiet (fail)
      go_wp2_with fail
      obtain ⟨wo, rfl⟩ : ∃ wo, wo = wr := ⟨wr, rfl⟩
      go_loopw [39] (fun t wx => ∃ m : Nat, m ≤ il.length ∧ t = .int .i64 (m : Int) ∧ RtM a n kb W0 ((il.take m).foldl (fun s i => Rt.fetch (Nt.insF n.nodes) (n.nodes.length + 1) i s) s) wx ∧ RtK a w1 wx ∧ Blk wx pp 3 #[.int .i64 ((i + 1 : Nat) : Int)]) (fun t _ => il.length - (intOf t).toNat)
      case atStart => exact ⟨0, Nat.zero_le _, rfl, HMd.out _, HKd.out _, Hbp.out.drewN _⟩
      case round =>
        obtain ⟨m, hm, rfl, hMm, hKm, hbm⟩ := hrel
        clear HMd HKd Hbp x1 z1 hco' y8' c1 c2
        have hbL := hKm.blk Hb1.out (by decide) (by omega) (by omega)
        have z1 : wr.cell? ⟨W.heap.size, 0, none⟩ = some (.pointer (some ⟨a.p, 0, none⟩)) := hbL.cell 0
        by_cases hlt : m < il.length
        · obtain ⟨b2, off2, rfl, -, hc⟩ := HJL.out wr hMm.later m hlt
          rw [getD_at hlt] at hc
          have hr := Hrng.out _ (List.getElem_mem hlt)
          obtain ⟨u, hu⟩ := Int.eq_ofNat_of_zero_le hr.1
          have hfe := roots_fetch a n kb W0 HS.out (n.nodes.length + 1) u _ wr hMm (Hzf.out _) (by omega) (by
            rcases Nat.eq_zero_or_pos u with h0 | h0
            · exact .inl h0
            · exact .inr (Hrk.out u h0 (by omega))) (by
            have h1 := Hcode.out (m + 1)
            rw [Htk.out m hlt, hu] at h1; omega)
          rw [← hu, ← Htk.out m hlt] at hfe
          rw [hu] at hc hfe
          have m1 : (m : Int) < il.length := by omega
          have HMm := Lib.hid hMm
          have HKm := Lib.hid hKm
          have Hfe := Lib.hid hfe
          have Hbm := Lib.hid hbm
          clear hMm hKm hfe hbm
          clear hr hu hbL
          go_wp2_with fail
          refine Hfe.out.mono ?_
          rintro e w3 ⟨rfl, hM3, hK3⟩
          have hK4 := HKm.out.trans hK3
          have hb4 := hK3.blk Hbm.out (by decide) (by omega) (by omega)
          have HM3 := Lib.hid hM3
          have HK4 := Lib.hid hK4
          have Hb4 := Lib.hid hb4
          clear hM3 hK4 hb4
          clear Hfe hK3 hc HMm HKm Hbm z1
          go_wp2_with fail
          go_roundw
          case rel => exact ⟨m + 1, by omega, by go_num, HM3.out, HK4.out, Hb4.out⟩
          case measure => simp [intOf]; omega
        · obtain rfl : m = il.length := by omega
          have hcd := Hcode.out il.length
          rw [List.take_length] at hMm hcd
          have hcp := roots_add a n kb W0 _ wr HS.out hMm 6 ((j + 1 : Nat) : Int) (by omega)
          rw [Int.natCast_succ] at hcp
          have Hcp := Lib.hid hcp
          have HKm := Lib.hid hKm
          have Hbm := Lib.hid hbm
          clear hcp hKm hbm
          clear hMm hcd hbL
          go_wp2_with fail
          refine Hcp.out.mono ?_
          rintro e w3 ⟨rfl, hM3, hK3⟩
          have hK4 := HKm.out.trans hK3
          have hb4 := hK3.blk Hbm.out (by decide) (by omega) (by omega)
          have hbL := hK4.blk Hb1.out (by decide) (by omega) (by omega)
          have z3 : w3.cell? ⟨W.heap.size, 0, none⟩ = some (.pointer (some ⟨a.p, 0, none⟩)) := hbL.cell 0
          have HSw := Lib.hid (roots_sweep_bwd a n kb W0 _ w3 (Rt.bT n keep (i + 1)) W.heap.size pp HS.out hM3 (by have := Hmn2.out; rw [Int.natCast_succ] at this; omega) (fun s' W' hM' hK' id h1 h2 =>
            roots_bwd1 a n keep kb W0 s' W' HS.out hM' Hkb.out (i + 1) id W.heap.size pp h2 ((hK'.blk hbL (by decide) (by omega) (by omega)).cell 0) ((hK'.blk hb4 (by decide) (by omega) (by omega)).cell 0)))
          rw [← Hst.out] at HSw
          have HK4 := Lib.hid hK4
          have Hb4 := Lib.hid hb4
          clear hK4 hb4
          clear Hcp hM3 hK3 HKm Hbm hbL z1
          go_wp2_with fail
          refine HSw.out.mono ?_
          rintro e w4 ⟨rfl, hM4, hK5⟩
          have hK6 := HK4.out.trans hK5
          have hb6 := hK5.blk Hb4.out (by decide) (by omega) (by omega)
          have x4 : w4.cell? ⟨pp, 0, none⟩ = some (.int .i64 ((i : Int) + 1)) := by rw [hb6.cell]; rfl
          have hl7 : Later w4 (w4.alloc (.cells #[.int .i64 (i : Int)] 3)) := (Later.refl w4).alloc _
          have hM7 := hM4.to_later hl7
          have hK7 := hK6.trans (RtK.of_later hl7)
          have hb7 := Blk.new w4 3 #[.int .i64 (i : Int)]
          have hs4 : W.heap.size < w4.heap.size := by have := hb6.lt; omega
          have hpv : ptrVal (.pointer (some ⟨pp, 0, none⟩)) wo = i + 1 := by rw [ptrVal_of Hx1.out]; omega
          have hpv2 := ptrVal_of (w := w4.alloc (.cells #[.int .i64 (i : Int)] 3)) (ad := ⟨w4.heap.size, 0, none⟩) (z := (i : Int)) (hb7.cell 0)
          have HM7 := Lib.hid hM7
          have HK7 := Lib.hid hK7
          have Hb7 := Lib.hid hb7
          have Hpv := Lib.hid hpv
          have Hpv2 := Lib.hid hpv2
          clear hM7 hK7 hb7 hpv hpv2
          clear HSw hK5 HK4 hM4 hK6 hb6 hl7 Hb4 z3
          go_wp2_with fail
          go_roundw
          case rel => exact ⟨k + 1, w4.heap.size, by omega, rfl, hs4, by rw [HNI.out]; exact Hb7.out, HM7.out, HK7.out⟩
          case measure => rw [Hpv.out, Hpv2.out]; omega
    · obtain rfl : k = n.nodes.length := by omega
      have hK := (RtK.of_later (a := a) Hl1.out).trans hKk
      have x1 : wr.cell? ⟨pp, 0, none⟩ = some (.int .i64 0) := by rw [hbp.cell, Nat.sub_self]; rfl
      have HMk := Lib.hid hMk
      have HK := Lib.hid hK
      clear hMk hK
      clear hKk hbp hbL
      go_wp2_with fail
      go_end0
      exact ⟨rfl, HMk.out, HK.out⟩
end Go.Proofs.YtnffjfjhbjeaiaaGreatDoor

/- Lemmas for the statements of this seat: contracts of functions and the plain laws. -/
import Derived.Deep.DeepCutAuto
import Derived.Maps.AppendAt
import Derived.Test.YtkmhagjdafeebaaGreatZ07
set_option linter.unusedVariables false
/- Layer 11 (net): the order: contract. -/
namespace Go.Proofs.YtkmhagjdafeebaaGreat
open Go.RowKit

theorem intsT_info : (Tryz.prog.info? 22).map (fun i => (i.zero, i.size, i.bytes)) = some (some (.slice none 0 0), 1, 24) := by kernel_rfl
/-- Two rows of numbers, of the call's own, apart. -/
def Two (C : Nat) (t : TypeId) (w : World) (r o : Value) (zr zo : List Int) : Prop :=
  w.ownsRow C t 1 r zr.length (zr.map (Value.int .i64)) ∧ w.ownsRow C t 1 o zo.length (zo.map (Value.int .i64)) ∧ ∀ b, r.ownBlock = some b → o.ownBlock ≠ some b
section
variable {C : Nat} {t : TypeId} {w w' : World} {r o r' o' : Value} {zr zo zr' zo' : List Int} {S : Nat → Prop}
theorem Two.fr (h : Two C t w r o zr zo) (hf : Fr S w w') (hS : ∀ b, S b → ¬ C ≤ b) : Two C t w' r o zr zo :=
  ⟨ownsRow_fr h.1 hf fun b hb hs => hS b hs (h.1.lt b hb).1, ownsRow_fr h.2.1 hf fun b hb hs => hS b hs (h.2.1.lt b hb).1, h.2.2⟩
theorem Two.new (h : Two C t w r o zr zo) (x : Obj) : Two C t (w.alloc x) r o zr zo := h.fr ((Fr.refl (fun _ => False) w).alloc x) fun _ h => h.elim
theorem Two.left (h : Two C t w r o zr zo) (hf : Fr (fun b => r.ownBlock = some b) w w') (ho : w'.ownsRow C t 1 r' zr'.length (zr'.map (Value.int .i64))) (hat : r'.ownBlock = r.ownBlock ∨ r'.ownBlock = some w.heap.size) : Two C t w' r' o zr' zo :=
  ⟨ho, ownsRow_fr h.2.1 hf fun b hb hs => h.2.2 b hs hb, fun b hb ho => by
    rcases hat with e | e
    · exact h.2.2 b (e ▸ hb) ho
    · rw [e] at hb; injection hb with hb; subst hb; have := (h.2.1.lt _ ho).2; omega⟩
theorem Two.right (h : Two C t w r o zr zo) (hf : Fr (fun b => o.ownBlock = some b) w w') (ho : w'.ownsRow C t 1 o' zo'.length (zo'.map (Value.int .i64))) (hat : o'.ownBlock = o.ownBlock ∨ o'.ownBlock = some w.heap.size) : Two C t w' r o' zr zo' :=
  ⟨ownsRow_fr h.1 hf fun b hb hs => h.2.2 b hb hs, ho, fun b hb ho => by
    rcases hat with e | e
    · exact h.2.2 b hb (e ▸ ho)
    · rw [e] at ho; injection ho with ho; subst ho; have := (h.1.lt _ hb).2; omega⟩
end
def SortPost (os : List Int) (w : World) (e : Ending) (w' : World) : Prop :=
  ∃ A c, e = .returned (.slice A os.length c) ∧ Ints .i64 w' A os ∧ os.length ≤ c ∧ c ≤ 9223372036854775807 ∧ Below w.heap.size w w'
section
variable {X : Nat → Prop} {B : Nat} {w w' : World} {g : Nat} {t e : TypeId} {us : List (List Int)}
theorem URow.at3 (h : URow X B w g t e us) {j : Nat} (hj : j < us.length) (hlt : ∀ b, X b → b < w.heap.size) :
    ∃ v, w.cell? ⟨g, j, none⟩ = some v ∧ (∀ b, v.ownBlock = some b → ¬ X b) ∧ ∀ W : World, (∀ b, b < w.heap.size → (b = g ∨ ¬ X b) → W.heap[b]? = w.heap[b]?) → w.heap.size ≤ W.heap.size →
      W.ownsRow B e 1 v us[j].length (us[j].map (Value.int .i64)) ∧
      ∀ (v' : Value) (w1 : World) (x : Int), w1.ownsRow B e 1 v' (us[j].length + 1) (us[j].map (Value.int .i64) ++ [.int .i64 x]) → W.grownBy w1 v.ownBlock → (v'.ownBlock = v.ownBlock ∨ v'.ownBlock = some W.heap.size) →
        w1.cell? ⟨g, j, none⟩ = some v ∧ w1.frozen? ⟨g, j, none⟩ = false ∧ URow X B (w1.setCell ⟨g, j, none⟩ v') g t e (us.set j (us[j] ++ [x])) := by
  obtain ⟨v, hc, ho, hx, -⟩ := h.at_ hlt hj
  refine ⟨v, hc, hx, fun W ha hs => ?_⟩
  have hW := h.agree ha
  obtain ⟨v2, hc2, ho2, hx2, hn2⟩ := hW.at_ (fun b hb => Nat.lt_of_lt_of_le (hlt b hb) hs) hj
  have hv : v2 = v := by
    have e := World.cell?_of_block (w := w) (w' := W) (a := ⟨g, j, none⟩) (ha g h.lt (.inl rfl))
    rw [hc2, hc] at e
    injection e
  subst hv
  refine ⟨ho2, fun v' w1 x h1 h2 h3 => ?_⟩
  have hgb : some g ≠ v2.ownBlock := fun q => hx2 g q.symm h.1
  have hgW : g < W.heap.size := Nat.lt_of_lt_of_le h.lt hs
  refine ⟨h2.cell hc2 hgb, ?_, hn2 v' w1 x h1 h2 h3⟩
  obtain ⟨_, vs, _, hk, _⟩ := hW
  exact (hk.grown h2 hgb).frozen j
theorem URow.shut (h : URow (fun b => b < B) B w g t e us) : URow (fun b => b < B ∨ w.heap.size ≤ b) B w g t e us := by
  obtain ⟨hg, vs, hl, hk, ho, hx, hd⟩ := h
  refine ⟨.inl hg, vs, hl, hk, ho, fun j v b hv hb => ?_, hd⟩
  have h1 : ¬ b < B := hx j v b hv hb
  have hj : j < us.length := by rw [← hl]; exact (List.getElem?_eq_some_iff.1 hv).1
  have h2 := ((ho j hj v hv).lt b hb).2
  omega
/-- What stands while the ready ones and the order are made, in blocks from C on. -/
def SInv (tN : TypeId) (box : Array Value) (B C g2 : Nat) (tL tI : TypeId) (ws : List Int) (us : List (List Int)) (w wr : World) : Prop :=
  Blk wr w.heap.size tN box ∧ Below w.heap.size w wr ∧ C ≤ wr.heap.size ∧ Blk wr (w.heap.size + 1) tI (ws.map (Value.int .i64)).toArray ∧ URow (fun b => b < B ∨ C ≤ b) B wr g2 tL tI us
section
variable {tN : TypeId} {box : Array Value} {C g2 : Nat} {tL tI : TypeId} {ws : List Int} {wr wr' : World} {S : Nat → Prop}
theorem SInv.fr (h : SInv tN box B C g2 tL tI ws us w wr) (hf : Fr S wr wr') (hS : ∀ b, S b → C ≤ b) (h1 : w.heap.size + 1 < B) (h2 : B ≤ C) (h3 : g2 < B) : SInv tN box B C g2 tL tI ws us w wr' := by
  obtain ⟨a1, a2, a3, a4, a5⟩ := h
  have hn : ∀ b, b < C → ¬ S b := fun b hb hs => by have := hS b hs; omega
  refine ⟨hf.blk a1 (hn _ (by omega)), a2.trans (hf.below (fun b hb => by have := hS b hb; omega) a2.size), Nat.le_trans a3 hf.size, hf.blk a4 (hn _ (by omega)), a5.agree fun b hb ho => hf.2 b hb (hn b ?_)⟩
  rcases ho with rfl | ho
  · omega
  · omega
theorem SInv.wait (h : SInv tN box B C g2 tL tI ws us w wr) (u : Nat) (z : Int) (h1 : w.heap.size + 1 < B) (h2 : B ≤ C) (h3 : g2 ≠ w.heap.size + 1) : SInv tN box B C g2 tL tI (ws.set u z) us w (wr.setCell ⟨w.heap.size + 1, u, none⟩ (.int .i64 z)) := by
  obtain ⟨a1, a2, a3, a4, a5⟩ := h
  refine ⟨a1.far (by simp) _, a2.setCell (p := ⟨w.heap.size + 1, u, none⟩) (by simp) _, by simpa using a3, ?_, a5.agree fun b hb ho => Below.heap_setCell wr _ _ b ?_⟩
  · have := a4.set_ u (.int .i64 z)
    simpa [List.map_set] using this
  · rcases ho with rfl | ho
    · exact h3
    · simp; omega
theorem SInv.read (h : SInv tN box B C g2 tL tI ws us w wr) {j : Nat} (hj : j < us.length) : ∃ A c, wr.cell? ⟨g2, j, none⟩ = some (.slice A us[j].length c) ∧ Ints .i64 wr A us[j] ∧ ∀ a, A = some a → B ≤ a.block ∧ a.block < C := by
  obtain ⟨a1, a2, a3, a4, hg, vs, hl, hk, ho, hx, hd⟩ := h
  have hv : vs[j]? = some vs[j] := List.getElem?_eq_getElem (by omega)
  obtain ⟨A, c, e, _, hI⟩ := Ints.of_own (ho j hj _ hv)
  refine ⟨A, c, by rw [hk.cell j]; simpa [e] using hv, hI, fun a ha => ?_⟩
  subst ha
  rcases (ho j hj _ hv).2 with ⟨h1, _⟩ | ⟨g, cap, cur, h1, h2, _⟩
  · rw [h1] at e; cases e
  · rw [e] at h1
    injection h1 with h1
    injection h1 with h1
    subst h1
    have := hx j _ g hv (by rw [e]; rfl)
    exact ⟨h2, by simp at this; simp; omega⟩
end
end
theorem Kn.mid_le (I : Int → List Int) (out a : List Int) (u : Int) : Kn.mid I out a u ≤ (I u).length := by
  unfold Kn.mid Kn.wt
  have := List.length_filter_le (fun i => !(i == 0) && !out.contains i) (I u)
  omega
def slen : Value → Nat
  | .slice _ n _ => n
  | _ => 0
set_option maxRecDepth 20000 in
set_option maxHeartbeats 16000000 in
theorem net_sorted (A N : Option Addr) (c d : Nat) (n : NetD) (w : World) (hok : n.ok) (h512 : n.nodes.length ≤ 512) (hR : NetR w A N n) (hd : n.nodes.length ≤ d) (hins : ∀ v ∈ n.nodes, ∀ i ∈ v.ins, 0 ≤ i ∧ i ≤ n.nodes.length) :
    Calls Tryz.prog 77 #[.agg #[.slice A n.inn.length c, .slice N n.nodes.length d]] w (SortPost (Nt.sorted n.nodes) w) := by
  obtain ⟨i0, hi, hz0, hz1, hz2⟩ := info_parts int_info
  obtain ⟨i1, hj, hy0, hy1, hy2⟩ := info_parts intsT_info
  have hokn := hok.2.2
  have hIlen : ∀ u, (Nt.insF n.nodes u).length ≤ 1048576 := fun u => by
    unfold Nt.insF Nt.node
    rw [List.getD_eq_getElem?_getD]
    cases h : n.nodes[u.toNat - 1]? with
    | none => simp [Nt.none_]
    | some v => exact (hokn v (List.mem_of_getElem? h)).2.2.1
  have hIat : ∀ k (h : k < n.nodes.length), Nt.insF n.nodes ((k : Int) + 1) = n.nodes[k].ins := fun k h => by unfold Nt.insF; rw [Nt.node_at h]
  have hsort : Nt.sorted n.nodes = Kn.order (Nt.insF n.nodes) n.nodes.length := rfl
  generalize Nt.insF n.nodes = I at *
  generalize Nt.sorted n.nodes = os at *
  have hk0 := Blk.new w 45 #[.slice A n.inn.length c, .slice N n.nodes.length d]
  have hb0 : Below w.heap.size w (w.alloc (.cells #[.slice A n.inn.length c, .slice N n.nodes.length d] 45)) := (Below.refl _ _).alloc (Nat.le_refl _) _
  have HR := Lib.hid hR
  have Hins := Lib.hid hins
  have Hokn := Lib.hid hokn
  have HIlen := Lib.hid hIlen
  have HIat := Lib.hid hIat
  have Hsort := Lib.hid hsort
  clear hR hins hokn hIlen hIat hsort
  clear hok
  have e1 : IntKind.i64.wrap ((n.nodes.length : Int) + 1) = ((n.nodes.length + 1 : Nat) : Int) := by rw [IntWalk.i64_in _ (by omega)]; omega
  go_enter Tryz.func77, Tryz.ntmps77
  go_wp2_with (at_make; refine wpList_make_full _ rfl _ _ 22 rfl w.heap.size 3 i0 (.int .i64 0) 1 Tryz.underlying22 hi hz0 hz1 _ _ _ _ (n.nodes.length + 1) rfl rfl (by first | rfl | simp | (go_simp; rfl)) (by first | rfl | simp | (go_simp; rfl)) ?b2 ?b3 ?b4 ?_)
  case b2 => rw [hz2]; omega
  case b3 => unfold maxLen; omega
  case b4 => simp
  intro w1 hown hgrow
  have hblk := own_cur hown
  rw [made_one] at hblk
  have hs1 : w.heap.size + 2 ≤ w1.heap.size := by have := lt_of_block hblk; omega
  have hk1 : Blk w1 (w.heap.size + 1) 3 ((Kn.wl I n.nodes.length 0 []).map (Value.int .i64)).toArray := by
    rw [Kn.wl_zero, List.map_replicate]
    simpa [Blk] using hblk
  have hb1 : Below w.heap.size w w1 := hb0.grown hgrow (by simp) (by simp)
  have hbox : Blk w1 w.heap.size 45 #[.slice A n.inn.length c, .slice N n.nodes.length d] := hk0.grown hgrow (by simp)
  have x1 : w1.cell? ⟨w.heap.size, 1, none⟩ = some (.slice N n.nodes.length d) := by rw [hbox.cell]; rfl
  have Hbox := Lib.hid hbox
  have Hk1 := Lib.hid hk1
  clear hbox hk1
  clear hblk hown hgrow hk0
  go_wp2_with (at_make; refine wpList_make_full _ rfl _ _ 162 rfl w.heap.size 22 i1 (.slice none 0 0) 1 Tryz.underlying162 hj hy0 hy1 _ _ _ _ (n.nodes.length + 1) rfl rfl (by first | rfl | simp | (go_simp; rfl)) (by first | rfl | simp | (go_simp; rfl)) ?b2 ?b3 ?b4 ?_)
  case b2 => rw [hy2]; omega
  case b3 => unfold maxLen; omega
  case b4 => exact hb1.size
  intro w2 hown hgrow
  have hblk := own_cur hown
  rw [made_one] at hblk
  obtain ⟨g2, hg2⟩ : ∃ g2, w1.heap.size = g2 := ⟨_, rfl⟩
  have hb2 : Below w.heap.size w w2 := hb1.grown hgrow hb1.size (by simp)
  have hbox2 := Hbox.out.grown hgrow (by simp)
  have hk2 := Hk1.out.grown hgrow (by simp)
  have x1 : w2.cell? ⟨w.heap.size, 1, none⟩ = some (.slice N n.nodes.length d) := by rw [hbox2.cell]; rfl
  have hblk2 : Blk w2 g2 22 (List.replicate (n.nodes.length + 1) (Value.slice none 0 0)).toArray := by rw [← hg2]; simpa [Blk] using hblk
  have hU : URow (fun b => b < w2.heap.size) w2.heap.size w2 g2 22 3 (Kn.ul I n.nodes.length 0 []) := by rw [Kn.ul_zero]; exact URow.new hblk2.lt hblk2
  have hg2l : g2 < w2.heap.size := hblk2.lt
  have hg12 : w.heap.size + 1 < g2 := by omega
  rw [hg2]
  have Hbox2 := Lib.hid hbox2
  have Hk2 := Lib.hid hk2
  have HU := Lib.hid hU
  clear hbox2 hk2 hU
  clear hblk hown hgrow Hbox Hk1 hblk2 hb1
  obtain ⟨B, hB⟩ : ∃ B, w2.heap.size = B := ⟨_, rfl⟩
  rw [hB] at HU hg2l
  go_wp2_with fail
  clear x1
  have hne1 : ¬ g2 = w.heap.size + 1 := by omega
  have hne2 : ¬ w.heap.size + 1 = g2 := by omega
  have hne3 : ¬ w.heap.size = g2 := by omega
  have hne4 : ¬ g2 = w.heap.size := by omega
  go_loopw [30] (fun i wr => ∃ k : Nat, k ≤ n.nodes.length ∧ i = .int .i64 k ∧ Blk wr w.heap.size 45 #[.slice A n.inn.length c, .slice N n.nodes.length d] ∧ Below w.heap.size w wr ∧ B ≤ wr.heap.size ∧ Blk wr (w.heap.size + 1) 3 ((Kn.wl I n.nodes.length k []).map (Value.int .i64)).toArray ∧ URow (fun b => b < B) B wr g2 22 3 (Kn.ul I n.nodes.length k [])) (fun i _ => n.nodes.length - (intOf i).toNat)
  case atStart => exact ⟨0, Nat.zero_le _, rfl, Hbox2.out, hb2, by omega, Hk2.out, HU.out⟩
  case round =>
    obtain ⟨k, hk, rfl, hbox, hbw, hBw, hkw, hU⟩ := hrel
    clear Hbox2 Hk2 HU hb2 hg2 hB
    by_cases hlt : k < n.nodes.length
    ·
      obtain ⟨b, off, S, sc, J, ic, Q, qc, rfl, hNA, -, hI, -⟩ := HR.out.2.at_ hlt
      have hnok := Hokn.out _ (List.getElem_mem hlt)
      have hin := Hins.out _ (List.getElem_mem hlt)
      have hIk := HIat.out k hlt
      have hil := hnok.2.2.1
      generalize n.nodes[k] = v at *
      obtain ⟨⟨y0, y1, y2, y3, y4, y5, y6, y7, y8, y9⟩, -⟩ := hNA.below hbw
      have hb3 := hbw.alloc hbw.size (.cells #[.int .i64 v.op.kind, .int .i64 v.op.k, .int .i64 v.op.width, .int .i64 v.op.step, .int .i64 v.op.side, .int .i64 v.op.frm, .int .i64 v.op.to, .slice S v.op.s.length sc, .slice J v.ins.length ic, .slice Q v.p.length qc] 42)
      have hbox3 := hbox.alloc (.cells #[.int .i64 v.op.kind, .int .i64 v.op.k, .int .i64 v.op.width, .int .i64 v.op.step, .int .i64 v.op.side, .int .i64 v.op.frm, .int .i64 v.op.to, .slice S v.op.s.length sc, .slice J v.ins.length ic, .slice Q v.p.length qc] 42)
      have hkw3 := hkw.alloc (.cells #[.int .i64 v.op.kind, .int .i64 v.op.k, .int .i64 v.op.width, .int .i64 v.op.step, .int .i64 v.op.side, .int .i64 v.op.frm, .int .i64 v.op.to, .slice S v.op.s.length sc, .slice J v.ins.length ic, .slice Q v.p.length qc] 42)
      have hU3 := hU.agree (w' := wr.alloc (.cells #[.int .i64 v.op.kind, .int .i64 v.op.k, .int .i64 v.op.width, .int .i64 v.op.step, .int .i64 v.op.side, .int .i64 v.op.frm, .int .i64 v.op.to, .slice S v.op.s.length sc, .slice J v.ins.length ic, .slice Q v.p.length qc] 42)) (fun b hb _ => Below.heap_alloc wr _ b hb)
      have HNA := Lib.hid hNA
      have Hnok := Lib.hid hnok
      have Hin := Lib.hid hin
      have Hbox := Lib.hid hbox
      have Hkw := Lib.hid hkw
      have HU := Lib.hid hU
      have Hbox3 := Lib.hid hbox3
      have Hkw3 := Lib.hid hkw3
      have HU3 := Lib.hid hU3
      have HIk := Lib.hid hIk
      clear hNA hnok hin hbox hkw hU hbox3 hkw3 hU3 hIk
      go_wp2_with fail
      clear y0 y1 y2 y3 y4 y5 y6 y7 y8 y9
      go_loopw [38] (fun i wx => ∃ m : Nat, m ≤ v.ins.length ∧ i = .int .i64 m ∧ Blk wx w.heap.size 45 #[.slice A n.inn.length c, .slice (some ⟨b, off, none⟩) n.nodes.length d] ∧ Below w.heap.size w wx ∧ B ≤ wx.heap.size ∧ Blk wx (w.heap.size + 1) 3 ((Kn.wl I n.nodes.length k (v.ins.take m)).map (Value.int .i64)).toArray ∧ URow (fun b => b < B) B wx g2 22 3 (Kn.ul I n.nodes.length k (v.ins.take m))) (fun i _ => v.ins.length - (intOf i).toNat)
      case atStart => exact ⟨0, Nat.zero_le _, rfl, Hbox3.out, hb3, by simp; omega, by rw [List.take_zero]; exact Hkw3.out, by rw [List.take_zero]; exact HU3.out⟩
      case round =>
        obtain ⟨m, hm, rfl, hbox, hbx, hBx, hkx, hUx⟩ := hrel
        clear Hbox Hkw HU Hbox3 Hkw3 HU3 hbw hb3 hBw
        by_cases hlm : m < v.ins.length
        · obtain ⟨b1, off1, rfl, -, hc⟩ := (HNA.out.below hbx).2.2.1 m hlm
          rw [getD_at hlm] at hc
          have hr := Hin.out _ (List.getElem_mem hlm)
          have htk := List.take_succ_eq_append_getElem hlm
          by_cases hz : v.ins[m] = 0
          · rw [hz] at hc htk
            have HW := Lib.hid (show Kn.wl I n.nodes.length k (v.ins.take (m + 1)) = Kn.wl I n.nodes.length k (v.ins.take m) by rw [htk, Kn.wl_skip])
            have HV := Lib.hid (show Kn.ul I n.nodes.length k (v.ins.take (m + 1)) = Kn.ul I n.nodes.length k (v.ins.take m) by rw [htk, Kn.ul_skip])
            have Hkx := Lib.hid hkx
            have HUx := Lib.hid hUx
            have Hbox := Lib.hid hbox
            clear hkx hUx hbox
            clear hz htk hr
            go_wp2_with fail
            go_roundw
            case rel => exact ⟨m + 1, by omega, by go_num, Hbox.out, hbx, hBx, by rw [HW.out]; exact Hkx.out, by rw [HV.out]; exact HUx.out⟩
            case measure => simp [intOf]; omega
          · have HW := Lib.hid (show Kn.wl I n.nodes.length k (v.ins.take (m + 1)) = _ by rw [htk, Kn.wl_in _ _ _ _ hz])
            have hul := Kn.ul_in I n.nodes.length k (v.ins.take m) hz hr.1
            rw [← htk] at hul
            obtain ⟨u, hu⟩ : ∃ u : Nat, v.ins[m] = u := ⟨v.ins[m].toNat, by omega⟩
            have hun : ((u : Int) != 0) = true := by rw [← hu]; simp [hz]
            rw [hu] at hc hr hul
            rw [show ((u : Int)).toNat = u by omega] at hul
            have hlu : u < (Kn.ul I n.nodes.length k (v.ins.take m)).length := by rw [Kn.ul_len]; omega
            have hua := Kn.ul_at I n.nodes.length k (v.ins.take m) hlu
            rw [← hua] at hul
            have HV := Lib.hid hul
            have hlen : (Kn.ul I n.nodes.length k (v.ins.take m))[u].length ≤ (k + 1) * 1048576 := by rw [hua]; exact Kn.uMid_le HIlen.out k (by simp; omega) _
            have hlen2 : (k + 1) * 1048576 ≤ 536870912 := by
              have : (k + 1) * 1048576 ≤ 512 * 1048576 := Nat.mul_le_mul_right _ (by omega)
              omega
            have hwb := Kn.wMid_le HIlen.out k (l := v.ins.take m) (by simp; omega) ((k : Int) + 1)
            obtain ⟨q, hq⟩ : ∃ q, Kn.wMid I k (v.ins.take m) ((k : Int) + 1) = q := ⟨_, rfl⟩
            rw [hq] at hwb HW
            have hcw : wr.cell? ⟨w.heap.size + 1, k + 1, none⟩ = some (.int .i64 (q : Int)) := by
              have e := Kn.wl_at I n.nodes.length k (v.ins.take m) (u := k + 1) (by omega)
              rw [hkx.cell]
              simp only [List.getElem?_toArray, List.getElem?_map, e]
              rw [show ((k + 1 : Nat) : Int) = (k : Int) + 1 by omega, hq]
              rfl
            have hfw := hkx.frozen (k + 1)
            obtain ⟨vv, hcv, hXv, hnx⟩ := hUx.at3 hlu (fun b hb => by omega)
            have hxw : wr.heap.size ≤ ((wr.setCell ⟨w.heap.size + 1, k + 1, none⟩ (.int .i64 ((q : Int) + 1))).alloc (.cells #[.int .i64 ((k : Int) + 1)] 3)).heap.size := by simp
            obtain ⟨ho, hnx⟩ := hnx ((wr.setCell ⟨w.heap.size + 1, k + 1, none⟩ (.int .i64 ((q : Int) + 1))).alloc (.cells #[.int .i64 ((k : Int) + 1)] 3)) (fun b hb hb2 => by
              rw [Below.heap_alloc _ _ b (by simpa using hb)]
              exact Below.heap_setCell wr _ _ b (by rcases hb2 with h | h <;> simp <;> omega)) hxw
            generalize (Kn.ul I n.nodes.length k (v.ins.take m))[u] = uu at *
            obtain ⟨Av, cv, rfl⟩ := own_form ho
            have hvlt : ∀ b, (Value.slice Av uu.length cv).ownBlock = some b → B ≤ b := fun b hb => by have := hXv b hb; omega
            have w1 : IntKind.i64.wrap ((k : Int) + 1) = (k : Int) + 1 := IntWalk.i64_in _ (by omega)
            have w2 : IntKind.i64.wrap ((q : Int) + 1) = (q : Int) + 1 := IntWalk.i64_in _ (by omega)
            have t1 : ((k : Int) + 1).toNat = k + 1 := by omega
            have l1 : ((k : Int) + 1) < ((n.nodes.length + 1 : Nat) : Int) := by omega
            have l2 : (u : Int) < ((n.nodes.length + 1 : Nat) : Int) := by omega
            have u0 : (0 : Int) ≤ u := by omega
            have Hkx := Lib.hid hkx
            have HUx := Lib.hid hUx
            have Hbox := Lib.hid hbox
            have Hnx := Lib.hid hnx
            have Hua := Lib.hid hua
            have Hul := Lib.hid hul
            have HXv := Lib.hid hXv
            have Hq := Lib.hid hq
            have Hvlt := Lib.hid hvlt
            clear hkx hUx hbox hnx hua hul hXv hq hvlt
            clear hz htk hu
            go_wp2_with (at_builtin; refine wpList_append_own_at _ rfl _ _ 22 rfl B 3 i0 (.int .i64 0) 1 8 Tryz.underlying22 hi hz0 hz1 hz2 rfl (by decide) _ _ _ rfl ho ⟨wr.heap.size, 0, none⟩ 1 1 [.int .i64 ((k : Int) + 1)] rfl rfl ?c1 (by intro u hu; simp at hu; subst hu; rfl) (by unfold maxLen; omega) (by omega) (by simp; omega) ?_)
            case c1 =>
              intro j u hj
              match j, hj with
              | 0, hj =>
                simp at hj
                subst hj
                have e := (Blk.new (wr.setCell ⟨w.heap.size + 1, k + 1, none⟩ (.int .i64 ((q : Int) + 1))) 3 #[.int .i64 ((k : Int) + 1)]).cell 0
                simpa [Addr.add] using e
            intro v' w3 hown' hgrow _ hat
            obtain ⟨hc9, hf9, hU9⟩ := Hnx.out v' w3 _ hown' hgrow (by simpa using hat)
            have hvl := Hvlt.out
            have hb9 : Below w.heap.size w w3 := ((hbx.setCell (p := ⟨w.heap.size + 1, k + 1, none⟩) (by simp) (.int .i64 ((q : Int) + 1))).alloc (by simpa using hbx.size) (.cells #[.int .i64 ((k : Int) + 1)] 3)).grown hgrow (by simp; have := hbx.size; omega) (fun b hb => by have := hvl b hb; omega)
            have hB9 : B ≤ w3.heap.size := Nat.le_trans (Nat.le_trans hBx hxw) hgrow.size
            have hbox9 := ((Hbox.out.far (p := ⟨w.heap.size + 1, k + 1, none⟩) (by simp) (.int .i64 ((q : Int) + 1))).alloc (.cells #[.int .i64 ((k : Int) + 1)] 3)).grown hgrow (fun e => by have := hvl _ e.symm; omega)
            have hbox9 := hbox9.far (p := ⟨g2, u, none⟩) hne3 v'
            have hk9 := ((Hkx.out.set_ (k + 1) (.int .i64 ((q : Int) + 1))).alloc (.cells #[.int .i64 ((k : Int) + 1)] 3)).grown hgrow (fun e => by have := hvl _ e.symm; omega)
            have hk9 := hk9.far (p := ⟨g2, u, none⟩) hne2 v'
            have hb9' := hb9.setCell (p := ⟨g2, u, none⟩) (by simp; omega) v'
            have HK := Lib.hid (show Blk (w3.setCell ⟨g2, u, none⟩ v') (w.heap.size + 1) 3 (((Kn.wl I n.nodes.length k (v.ins.take m)).set (k + 1) ((q : Int) + 1)).map (Value.int .i64)).toArray by simpa [List.map_set] using hk9)
            have HU9 := Lib.hid hU9
            have Hbox9 := Lib.hid hbox9
            clear hU9 hbox9
            clear hk9 hvl hgrow hat hb9 hcv
            obtain ⟨A9, c9, rfl⟩ := own_form hown'
            clear hown'
            go_wp2_with fail
            go_roundw
            case rel => exact ⟨m + 1, by omega, by go_num, Hbox9.out, hb9', by simpa using hB9, by rw [HW.out]; exact HK.out, by rw [HV.out]; exact HU9.out⟩
            case measure => simp [intOf]; omega
        · obtain rfl : m = v.ins.length := by omega
          rw [List.take_length] at hkx hUx
          have hIk := HIk.out
          rw [← hIk, Kn.wl_next] at hkx
          rw [← hIk, Kn.ul_next] at hUx
          have Hkx := Lib.hid hkx
          have HUx := Lib.hid hUx
          have Hbox := Lib.hid hbox
          clear hkx hUx hbox
          clear hIk
          go_wp2_with fail
          go_roundw
          case rel => exact ⟨k + 1, by omega, by go_num, Hbox.out, hbx, hBx, Hkx.out, HUx.out⟩
          case measure => simp [intOf]; omega
    · obtain rfl : k = n.nodes.length := by omega
      obtain ⟨C, hC⟩ : ∃ C, wr.heap.size = C := ⟨_, rfl⟩
      have hinv : SInv 45 #[.slice A n.inn.length c, .slice N n.nodes.length d] B C g2 22 3 (Kn.wl I n.nodes.length n.nodes.length []) (Kn.ul I n.nodes.length n.nodes.length []) w wr := ⟨hbox, hbw, by omega, hkw, by rw [← hC]; exact hU.shut⟩
      have hBC : B ≤ C := by omega
      have hwB : w.heap.size + 1 < B := by omega
      have Hinv := Lib.hid hinv
      clear hinv
      clear hkw hU hbox hbw hBw
      go_wp2_with fail
      clear hC
      go_loopw [9, 10] (fun r i wx => ∃ k : Nat, k ≤ n.nodes.length ∧ i = .int .i64 ((k : Int) + 1) ∧ SInv 45 #[.slice A n.inn.length c, .slice N n.nodes.length d] B C g2 22 3 (Kn.wl I n.nodes.length n.nodes.length []) (Kn.ul I n.nodes.length n.nodes.length []) w wx ∧ wx.ownsRow C 3 1 r (Kn.rk I k).length ((Kn.rk I k).map (Value.int .i64))) (fun _ i _ => n.nodes.length + 1 - (intOf i).toNat)
      case atStart => exact ⟨0, Nat.zero_le _, rfl, Hinv.out, by simpa [Kn.rk, Kn.ids] using World.ownsRow_nil wr C 3 1⟩
      case round =>
        obtain ⟨k, hk, rfl, hinv, hown⟩ := hrel
        clear Hinv
        have hx : wr.cell? ⟨w.heap.size, 1, none⟩ = some (.slice N n.nodes.length d) := by rw [hinv.1.cell]; rfl
        obtain ⟨Ar, cr, rfl⟩ := own_form hown
        by_cases hlt : k < n.nodes.length
        ·
          have hwt : wr.cell? ⟨w.heap.size + 1, k + 1, none⟩ = some (.int .i64 (Kn.wt I [] ((k : Int) + 1) : Nat)) := by
            have e := Kn.wl_at I n.nodes.length n.nodes.length [] (u := k + 1) (by omega)
            rw [hinv.2.2.2.1.cell]
            simp only [List.getElem?_toArray, List.getElem?_map, e]
            rw [show ((k + 1 : Nat) : Int) = (k : Int) + 1 by omega, Kn.wMid_end (by omega) (by omega)]
            rfl
          have hs := Kn.rk_succ I k
          have hl := Kn.rk_len I k
          generalize Kn.wt I [] ((k : Int) + 1) = q at *
          have t1 : ((k : Int) + 1).toNat = k + 1 := by omega
          have l0 : (k : Int) + 1 ≤ (n.nodes.length : Int) := by omega
          have l1 : ((k : Int) + 1) < ((n.nodes.length + 1 : Nat) : Int) := by omega
          by_cases hq : q = 0
          · subst hq
            rw [if_pos rfl] at hs
            have hinv2 := hinv.fr ((Fr.refl (fun _ => False) wr).alloc (.cells #[.int .i64 ((k : Int) + 1)] 3)) (fun b hb => hb.elim) hwB hBC hg2l
            have ho := ownsRow_new hown (.cells #[.int .i64 ((k : Int) + 1)] 3)
            have hCb : ∀ b, (Value.slice Ar (Kn.rk I k).length cr).ownBlock = some b → C ≤ b := fun b hb => (hown.lt b hb).1
            have Hinv := Lib.hid hinv
            have Hs := Lib.hid hs
            have Hinv2 := Lib.hid hinv2
            clear hinv hs hinv2
            clear hown
            go_wp2_with (at_builtin; refine wpList_append_own_at _ rfl _ _ 22 rfl C 3 i0 (.int .i64 0) 1 8 Tryz.underlying22 hi hz0 hz1 hz2 rfl (by decide) _ _ _ rfl ho ⟨wr.heap.size, 0, none⟩ 1 1 [.int .i64 ((k : Int) + 1)] rfl rfl ?c1 (by intro u hu; simp at hu; subst hu; rfl) (by unfold maxLen; omega) (by omega) ?c2 ?_)
            case c1 => exact one_new wr _ _
            case c2 => exact Hinv2.out.2.2.1
            intro v' w3 hown' hgrow _ hat
            have HI3 := Lib.hid (Hinv2.out.fr (Fr.of_grown (S := fun b => C ≤ b) hgrow (fun b hb _ => hCb b hb)) (fun b hb => hb) hwB hBC hg2l)
            have HO3 := Lib.hid (show w3.ownsRow C 3 1 v' (Kn.rk I (k + 1)).length ((Kn.rk I (k + 1)).map (Value.int .i64)) by rw [Hs.out]; simpa using hown')
            clear hown' hgrow hat
            go_wp2_with fail
            go_roundw
            case rel => exact ⟨k + 1, by omega, by go_num, HI3.out, HO3.out⟩
            case measure => simp [intOf]; omega
          · have hqq : ((q : Int) == 0) = false := by simp; omega
            rw [if_neg hq] at hs
            have Hinv := Lib.hid hinv
            have Hs := Lib.hid hs
            have Hown := Lib.hid hown
            clear hinv hs hown
            go_wp2_with fail
            go_roundw
            case rel => exact ⟨k + 1, by omega, by go_num, Hinv.out, by rw [Hs.out]; exact Hown.out⟩
            case measure => simp [intOf]; omega
        · obtain rfl : k = n.nodes.length := by omega
          rw [Kn.rk_all] at hown
          have l0 : ¬ ((n.nodes.length : Int) + 1 ≤ (n.nodes.length : Int)) := by omega
          rw [Kn.wm_start] at hinv
          have hkl : (Kn.rk I n.nodes.length).length = (Kn.ready I n.nodes.length []).length := by rw [Kn.rk_all]
          rw [hkl]
          have hCb : ∀ b, (Value.slice Ar (Kn.ready I n.nodes.length []).length cr).ownBlock = some b → C ≤ b ∧ b < wr.heap.size := fun b hb => hown.lt b hb
          have Hinv := Lib.hid hinv
          have Hown := Lib.hid hown
          have HCb := Lib.hid hCb
          clear hinv hown hCb
          go_wp2_with (at_make; refine wpList_make_own _ rfl _ _ 22 rfl C 3 i0 (.int .i64 0) 1 Tryz.underlying22 hi hz0 hz1 _ _ _ n.nodes.length rfl (by first | rfl | simp | (go_simp; rfl)) (by first | rfl | simp | (go_simp; rfl)) ?b2 ?b3 ?b4 ?_)
          case b2 => first | omega | (rw [hz2]; omega)
          case b3 => unfold maxLen; omega
          case b4 => exact Hinv.out.2.2.1
          intro w4 hown4 hgrow
          have HI4 := Lib.hid (Hinv.out.fr (Fr.of_grown (S := fun b => C ≤ b) hgrow (fun b hb _ => by cases hb)) (fun b hb => hb) hwB hBC hg2l)
          have HT4 := Lib.hid (show Two C 3 w4 (.slice Ar (Kn.ready I n.nodes.length []).length cr) (.slice (some ⟨wr.heap.size, 0, none⟩) 0 n.nodes.length) (Kn.ready I n.nodes.length []) [] from ⟨ownsRow_grown Hown.out hgrow (fun b _ h => by cases h), hown4, fun b hb h => by have := (HCb.out b hb).2; simp [Value.ownBlock] at h; omega⟩)
          clear hgrow
          have Hown4 := Lib.hid hown4
          clear hown4
          go_wp2_with fail
          clear hx l0 Hown Hinv HCb
          generalize hro : Value.slice Ar (Kn.ready I n.nodes.length []).length cr = r0 at *
          generalize hoo : Value.slice (some ⟨wr.heap.size, 0, none⟩) 0 n.nodes.length = o0 at *
          clear hro hoo hkl hk hlt x1 e1 hb0 hs1
          go_loopw [9, 11] (fun r o wx => ∃ k : Nat, (Kn.go I n.nodes.length k).length = k ∧ SInv 45 #[.slice A n.inn.length c, .slice N n.nodes.length d] B C g2 22 3 (Kn.wm I n.nodes.length (Kn.go I n.nodes.length k) []) (Kn.ul I n.nodes.length n.nodes.length []) w wx ∧ Two C 3 wx r o (Kn.ready I n.nodes.length (Kn.go I n.nodes.length k)) (Kn.go I n.nodes.length k)) (fun _ o _ => n.nodes.length + 1 - slen o)
          case atStart => exact ⟨0, rfl, HI4.out, HT4.out⟩
          case round =>
            obtain ⟨k, hkl, hinv, htwo⟩ := hrel
            clear HI4 HT4 Hown4
            obtain ⟨Ar, cr, rfl⟩ := own_form htwo.1
            obtain ⟨Ao, co, rfl⟩ := own_form htwo.2.1
            have hok := Kn.go_ok I n.nodes.length k
            have hmore := @Kn.go_more I n.nodes.length k
            have hstuck := @Kn.order_of_stuck I n.nodes.length k hkl
            generalize Kn.go I n.nodes.length k = out at *
            have hmid := @Kn.mid_start I n.nodes.length out
            have hrl := Kn.ready_len I n.nodes.length out
            have hol := hok.len
            subst hkl
            cases hrd : Kn.ready I n.nodes.length out with
            | nil =>
              rw [hrd] at htwo
              have hor := hstuck hrd
              rw [← Hsort.out] at hor
              subst hor
              clear hmore hmid
              have Hinv := Lib.hid hinv
              have Htwo := Lib.hid htwo
              have Hok := Lib.hid hok
              have Hstuck := Lib.hid hstuck
              have Hrd := Lib.hid hrd
              clear hinv htwo hok hstuck hrd
              go_wp2_with fail
              go_ret
              obtain ⟨q1, q2, q3⟩ := own_ints Htwo.out.2.1
              exact ⟨Ao, co, rfl, q1, q2, q3, Hinv.out.2.1⟩
            | cons id rest =>
              have hid : id ∈ Kn.ready I n.nodes.length out := by rw [hrd]; simp
              have hrng := (Kn.mem_ready.1 hid).1
              obtain ⟨j, rfl⟩ : ∃ j : Nat, id = (j : Int) := ⟨id.toNat, by omega⟩
              replace hmore := hmore hrd
              replace hmid := hmid hrd
              rw [hrd] at htwo hrl
              obtain ⟨hI1, -⟩ := own_ints htwo.1
              obtain ⟨b1, off1, rfl, -, hc1⟩ := hI1 0 (by simp)
              rw [Nat.add_zero] at hc1
              replace hc1 : wr.cell? ⟨b1, off1, none⟩ = some (.int .i64 (j : Int)) := hc1
              have hz : 0 < rest.length + 1 := by omega
              clear hstuck hI1
              have hrl2 : rest.length + 1 ≤ 512 := by simp at hrl; omega
              clear hrl hz
              rw [List.length_cons] at htwo
              have Hid_ := Lib.hid hid
              clear hid
              have Hinv := Lib.hid hinv
              have Htwo := Lib.hid htwo
              have Hok := Lib.hid hok
              have Hmid := Lib.hid hmid
              have Hmore := Lib.hid hmore
              have Hrd := Lib.hid hrd
              clear hinv htwo hok hmid hmore hrd
              go_wp2_with fail
              refine (delete_own C _ _ rest _ (by simp; omega) Htwo.out.1).mono ?_
              rintro e w5 ⟨v5, rfl, ho5, hf5, hat5⟩
              have hinv5 := Hinv.out.fr hf5 (fun b hb => (Htwo.out.1.lt b hb).1) hwB hBC hg2l
              have htwo5 := Htwo.out.left hf5 ho5 hat5
              have hinv6 := hinv5.fr ((Fr.refl (fun _ => False) w5).alloc (.cells #[.int .i64 (j : Int)] 3)) (fun b hb => hb.elim) hwB hBC hg2l
              have htwo6 := htwo5.new (.cells #[.int .i64 (j : Int)] 3)
              obtain ⟨A5, c5, rfl⟩ := own_form ho5
              clear Hinv Htwo hf5 hat5 hinv5 htwo5 ho5 hc1
              have Hinv6 := Lib.hid hinv6
              have Htwo6 := Lib.hid htwo6
              clear hinv6 htwo6
              go_wp2_with (at_builtin; refine wpList_append_own_at _ rfl _ _ 22 rfl C 3 i0 (.int .i64 0) 1 8 Tryz.underlying22 hi hz0 hz1 hz2 rfl (by decide) _ _ _ rfl Htwo6.out.2.1 ⟨w5.heap.size, 0, none⟩ 1 1 [.int .i64 (j : Int)] rfl rfl ?c1 (by intro u hu; simp at hu; subst hu; rfl) (by unfold maxLen; omega) (by omega) ?c2 ?_)
              case c1 => exact one_new w5 _ _
              case c2 => exact Hinv6.out.2.2.1
              intro v7 w7 hown7 hgrow7 _ hat7
              have hfr7 : Fr (fun b => (Value.slice Ao out.length co).ownBlock = some b) _ w7 := Fr.of_grown hgrow7 (fun b hb _ => hb)
              have hinv7 := Hinv6.out.fr hfr7 (fun b hb => (Htwo6.out.2.1.lt b hb).1) hwB hBC hg2l
              have htwo7 := Htwo6.out.right (zo' := out ++ [(j : Int)]) hfr7 (by simpa using hown7) (by simpa using hat7)
              clear Hinv6 Htwo6 hown7 hgrow7 hat7 hfr7
              have hjl : j < (Kn.ul I n.nodes.length n.nodes.length []).length := by rw [Kn.ul_len]; omega
              obtain ⟨Au, cu, hcu, hIu, hAu⟩ := hinv7.read hjl
              have hus : (Kn.ul I n.nodes.length n.nodes.length [])[j] = Kn.users I n.nodes.length (j : Int) := by rw [Kn.ul_at, Kn.uMid_end (by omega)]
              rw [hus] at hcu hIu
              have hul : (Kn.users I n.nodes.length (j : Int)).length ≤ 537919488 := by
                have h1 := Kn.uMid_le HIlen.out n.nodes.length (l := []) (by simp) (j : Int)
                rw [Kn.uMid_end (by omega)] at h1
                have : (n.nodes.length + 1) * 1048576 ≤ 513 * 1048576 := Nat.mul_le_mul_right _ (by omega)
                omega
              have hue := @Kn.mid_end_ready I n.nodes.length out (j : Int) Hid_.out
              have hwe := @Kn.wm_next I n.nodes.length out (j : Int) Hid_.out
              have hmp := fun a b u (h : Kn.users I n.nodes.length (j : Int) = a ++ u :: b) => Kn.mid_pos Hok.out Hid_.out h
              have hms := fun a b u (h : Kn.users I n.nodes.length (j : Int) = a ++ u :: b) => Kn.mid_stay Hok.out Hid_.out h
              have hmt := fun a b u (h : Kn.users I n.nodes.length (j : Int) = a ++ u :: b) => Kn.mid_put' Hok.out Hid_.out h
              obtain ⟨us, husd⟩ : ∃ us, Kn.users I n.nodes.length (j : Int) = us := ⟨_, rfl⟩
              rw [husd] at hcu hIu hul hue hwe hmp hms hmt
              obtain ⟨A7, c7, rfl⟩ := own_form htwo7.2.1
              generalize hro : Value.slice A5 rest.length c5 = r5 at *
              clear hro
              rw [← Hmid.out] at htwo7
              have j0 : (0 : Int) ≤ (j : Int) := by omega
              have j1 : (j : Int) < ((n.nodes.length + 1 : Nat) : Int) := by omega
              have Hinv7 := Lib.hid hinv7
              have Htwo7 := Lib.hid htwo7
              have HIu := Lib.hid hIu
              have HAu := Lib.hid hAu
              have Hus := Lib.hid hus
              have Husd := Lib.hid husd
              have Hue := Lib.hid hue
              have Hwe := Lib.hid hwe
              have Hmp := Lib.hid hmp
              have Hms := Lib.hid hms
              have Hmt := Lib.hid hmt
              clear hinv7 htwo7 hIu hAu hus husd hue hwe hmp hms hmt
              clear Hrd Hmid
              go_wp2_with fail
              clear Hus
              clear hcu j0 j1 hjl
              go_loopw [9, 101] (fun r i wx => ∃ m : Nat, m ≤ us.length ∧ i = .int .i64 m ∧ SInv 45 #[.slice A n.inn.length c, .slice N n.nodes.length d] B C g2 22 3 (Kn.wm I n.nodes.length out (us.take m)) (Kn.ul I n.nodes.length n.nodes.length []) w wx ∧ Two C 3 wx r (.slice A7 (out ++ [(j : Int)]).length c7) (Kn.midReady I n.nodes.length out (j : Int) (us.take m)) (out ++ [(j : Int)]) ∧ Ints .i64 wx Au us) (fun _ i _ => us.length - (intOf i).toNat)
              case atStart => exact ⟨0, Nat.zero_le _, rfl, Hinv7.out, Htwo7.out, HIu.out⟩
              case round =>
                obtain ⟨m, hm, rfl, hinv, htwo, hIu⟩ := hrel
                clear Hinv7 Htwo7 HIu
                by_cases hlm : m < us.length
                · have hspl : us = us.take m ++ us[m] :: us.drop (m + 1) := by rw [← List.drop_eq_getElem_cons hlm, List.take_append_drop]
                  have htk := List.take_succ_eq_append_getElem hlm
                  obtain ⟨b1, off1, rfl, -, hc1⟩ := hIu m hlm
                  rw [getD_at hlm] at hc1
                  obtain ⟨p1, p2, p3, p4, p5⟩ := Hmp.out _ _ _ hspl
                  have hst := Hms.out _ _ _ hspl
                  have hpt := Hmt.out _ _ _ hspl
                  have hwi := @Kn.wm_in I n.nodes.length out (us.take m) us[m] p3
                  rw [← htk] at hst hpt hwi p5
                  obtain ⟨u, hu⟩ : ∃ u : Nat, us[m] = (u : Int) := ⟨us[m].toNat, by omega⟩
                  rw [hu] at hc1 p1 p2 p3 p4 p5 hst hpt hwi
                  rw [Int.toNat_natCast] at hwi
                  have hql : Kn.mid I out (us.take m) (u : Int) ≤ 1048576 := Nat.le_trans (Kn.mid_le _ _ _ _) (HIlen.out _)
                  have hwc : wr.cell? ⟨w.heap.size + 1, u, none⟩ = some (.int .i64 ((Kn.mid I out (us.take m) (u : Int) : Nat) : Int)) := by
                    rw [hinv.2.2.2.1.cell]
                    simp only [List.getElem?_toArray, List.getElem?_map]
                    rw [Kn.wm_at _ _ _ _ (by omega) (by omega)]
                    rfl
                  have hwf := hinv.2.2.2.1.frozen u
                  generalize hq2 : Kn.mid I out (us.take (m + 1)) (u : Int) = q at *
                  rw [← p5] at hwc hql
                  have hinvw := hinv.wait u (q : Int) hwB hBC hne1
                  rw [← hwi] at hinvw
                  have hfw : Fr (fun b => b = w.heap.size + 1) wr (wr.setCell ⟨w.heap.size + 1, u, none⟩ (.int .i64 (q : Int))) := (Fr.refl (fun b => b = w.heap.size + 1) wr).setCell (p := ⟨w.heap.size + 1, u, none⟩) (fun _ => rfl) (.int .i64 (q : Int))
                  have htwow := htwo.fr hfw (fun b hb => by omega)
                  have hIw := hIu.set_far (p := ⟨w.heap.size + 1, u, none⟩) (fun a ha => by have := HAu.out a ha; simp; omega) (.int .i64 (q : Int))
                  have u0 : (0 : Int) ≤ (u : Int) := by omega
                  have u1 : (u : Int) < ((n.nodes.length + 1 : Nat) : Int) := by omega
                  have hqe : ((q + 1 : Nat) : Int) = (q : Int) + 1 := by omega
                  rw [hqe] at hwc
                  have hq1 : (q : Int) + 1 - 1 = (q : Int) := by omega
                  have hmrl := Kn.midReady_len I n.nodes.length out (j : Int) (us.take m)
                  have hmrs := Kn.midReady_sorted I n.nodes.length out (j : Int) (us.take m)
                  by_cases hq : q = 0
                  · subst hq
                    replace hpt := hpt rfl
                    generalize Kn.midReady I n.nodes.length out (j : Int) (us.take m) = mr at *
                    have hsle : mr.Pairwise (· ≤ ·) := hmrs.imp fun h => Int.le_of_lt h
                    clear hst hwi hinv htwo hIu htk hspl p5 hq2 hqe hmrs hfw
                    rw [show ((0 : Nat) : Int) = 0 from rfl] at hinvw htwow hIw
                    have Hinvw := Lib.hid hinvw
                    have Htwow := Lib.hid htwow
                    have HIw := Lib.hid hIw
                    have Hu := Lib.hid hu
                    have Hpt := Lib.hid hpt
                    have Hsle := Lib.hid hsle
                    clear hinvw htwow hIw hu hpt hsle
                    go_wp2_with fail
                    refine (search_own C _ (u : Int) mr _ (by omega) Hsle.out Htwow.out.1).mono ?_
                    rintro e w8 ⟨⟨bb, rfl⟩, qq, rfl⟩
                    go_wp2_with fail
                    have hcl : mr.countP (fun x => decide (x < (u : Int))) ≤ mr.length := List.countP_le_length
                    have hf9 := ((Fr.refl (fun _ => False) (wr.setCell ⟨w.heap.size + 1, u, none⟩ (.int .i64 0))).drewN qq).alloc (.cells #[.int .i64 (u : Int)] 3)
                    have hinv9 := Hinvw.out.fr hf9 (fun b hb => hb.elim) hwB hBC hg2l
                    have htwo9 := Htwow.out.fr hf9 (fun b hb => hb.elim)
                    have hI9 := (HIw.out.drewN qq).alloc (.cells #[.int .i64 (u : Int)] 3)
                    have hb9 : Blk (((wr.setCell ⟨w.heap.size + 1, u, none⟩ (.int .i64 0)).drewN qq).alloc (.cells #[.int .i64 (u : Int)] 3)) wr.heap.size 3 #[.int .i64 (u : Int)] := by
                      have := Blk.new ((wr.setCell ⟨w.heap.size + 1, u, none⟩ (.int .i64 0)).drewN qq) 3 #[.int .i64 (u : Int)]
                      simpa using this
                    have hne9 : u9.ownBlock ≠ some wr.heap.size := fun e => by have := (Htwow.out.1.lt _ e).2; simp at this
                    refine (insert_own C u9 mr (u : Int) _ wr.heap.size _ hcl (by omega) hinv9.2.2.1 htwo9.1 hb9 hne9).mono ?_
                    rintro e w10 ⟨v10, rfl, ho10, hf10, hat10⟩
                    have hinv10 := hinv9.fr hf10 (fun b hb => (htwo9.1.lt b hb).1) hwB hBC hg2l
                    have htwo10 := htwo9.left hf10 ho10 hat10
                    have hI10 := hf10.ints hI9 (fun a ha hb => by have h1 := (htwo9.1.lt _ hb).1; have h2 := (HAu.out a ha).2; omega)
                    rw [← Hpt.out] at htwo10
                    clear hinv9 htwo9 hI9 hb9 hf9 ho10 hf10 hat10 hcl hne9
                    have Hinv10 := Lib.hid hinv10
                    have Htwo10 := Lib.hid htwo10
                    have HI10 := Lib.hid hI10
                    clear hinv10 htwo10 hI10
                    go_wp2_with fail
                    go_roundw
                    case rel => exact ⟨m + 1, by omega, by go_num, Hinv10.out, Htwo10.out, HI10.out⟩
                    case measure => simp [intOf]; omega
                  · have hqq : ((q : Int) == 0) = false := by simp; omega
                    replace hst := hst hq
                    rw [← hst] at htwow
                    clear hst hpt hwi hinv htwo hIu htk hspl p5 hq2 hqe hmrs hfw
                    have Hinvw := Lib.hid hinvw
                    have Htwow := Lib.hid htwow
                    have HIw := Lib.hid hIw
                    have Hu := Lib.hid hu
                    clear hinvw htwow hIw hu
                    go_wp2_with fail
                    go_roundw
                    case rel => exact ⟨m + 1, by omega, by go_num, Hinvw.out, Htwow.out, HIw.out⟩
                    case measure => simp [intOf]; omega
                · obtain rfl : m = us.length := by omega
                  rw [List.take_length] at hinv htwo
                  rw [Hwe.out] at hinv
                  rw [Hue.out, show (out ++ [(j : Int)]).length = out.length + 1 by simp] at htwo
                  have hmo := Hmore.out
                  rw [← hmo] at hinv htwo
                  have hln : (Kn.go I n.nodes.length (out.length + 1)).length = out.length + 1 := by rw [hmo]; simp
                  have Hinv := Lib.hid hinv
                  have Htwo := Lib.hid htwo
                  have HIu := Lib.hid hIu
                  have Hmo := Lib.hid hmo
                  have Hln := Lib.hid hln
                  clear hinv htwo hIu hmo hln
                  go_wp2_with fail
                  exact ⟨⟨out.length + 1, Hln.out, Hinv.out, Htwo.out⟩, by simp only [slen]; omega⟩
end Go.Proofs.YtkmhagjdafeebaaGreat
/- Layer 11 (net): look: contract. -/
namespace Go.Proofs.YtkmhagjdafeebaaGreat
open Go.RowKit

/-- What is known of a net, or what is first wrong. -/
def StudyP (n : NetD) (w : World) (e : Ending) (w' : World) : Prop :=
  Below w.heap.size w w' ∧ ((Nt.check n = 0 ∧ ∃ O oc g, e = .returned (.tuple #[.agg #[.slice O n.nodes.length oc, .slice (some ⟨g, 0, none⟩) (n.nodes.length + 1) (n.nodes.length + 1), .int .i64 (Nt.loss n.nodes)], .int .i64 0]) ∧
      Ints .i64 w' O (Nt.sorted n.nodes) ∧ n.nodes.length ≤ oc ∧ oc ≤ 9223372036854775807 ∧ w.heap.size ≤ g ∧ ShpRow w' g 23 (Nt.shapes n)) ∨
    (Nt.check n ≠ 0 ∧ e = .returned (.tuple #[.agg #[.slice none 0 0, .slice none 0 0, .int .i64 0], .int .i64 (Nt.check n)])))
namespace Nt
theorem check_many {n : NetD} (h : n.nodes.length < 1 ∨ 512 < n.nodes.length) : check n = 12 := by unfold check; rw [if_pos h]
theorem check_in {n : NetD} (h : ¬ (n.nodes.length < 1 ∨ 512 < n.nodes.length)) (h2 : Sh.right n.inn = false) : check n = 20 := by unfold check; rw [if_neg h, if_pos h2]
theorem check_bads {n : NetD} (h : ¬ (n.nodes.length < 1 ∨ 512 < n.nodes.length)) (h2 : Sh.right n.inn = true) (h3 : bads n.nodes.length n.nodes ≠ 0) : check n = bads n.nodes.length n.nodes := by
  unfold check; rw [if_neg h, if_neg (by simp [h2]), if_pos h3]
theorem check_cyc {n : NetD} (h : ¬ (n.nodes.length < 1 ∨ 512 < n.nodes.length)) (h2 : Sh.right n.inn = true) (h3 : bads n.nodes.length n.nodes = 0) (h4 : (sorted n.nodes).length ≠ n.nodes.length) : check n = 22 := by
  unfold check; rw [if_neg h, if_neg (by simp [h2]), if_neg (by simp [h3]), if_pos h4]
theorem check_lay {n : NetD} (h : ¬ (n.nodes.length < 1 ∨ 512 < n.nodes.length)) (h2 : Sh.right n.inn = true) (h3 : bads n.nodes.length n.nodes = 0) (h4 : (sorted n.nodes).length = n.nodes.length) (h5 : (lay n.nodes (start n) (sorted n.nodes)).2 ≠ 0) : check n = (lay n.nodes (start n) (sorted n.nodes)).2 := by
  unfold check; rw [if_neg h, if_neg (by simp [h2]), if_neg (by simp [h3]), if_neg (by simp [h4]), if_pos h5]
theorem check_loss {n : NetD} (h : ¬ (n.nodes.length < 1 ∨ 512 < n.nodes.length)) (h2 : Sh.right n.inn = true) (h3 : bads n.nodes.length n.nodes = 0) (h4 : (sorted n.nodes).length = n.nodes.length) (h5 : (lay n.nodes (start n) (sorted n.nodes)).2 = 0) (h6 : lossOk n.nodes = false) : check n = 23 := by
  unfold check; rw [if_neg h, if_neg (by simp [h2]), if_neg (by simp [h3]), if_neg (by simp [h4]), if_neg (by simp [h5]), if_pos h6]
theorem check_last {n : NetD} (h : ¬ (n.nodes.length < 1 ∨ 512 < n.nodes.length)) (h2 : Sh.right n.inn = true) (h3 : bads n.nodes.length n.nodes = 0) (h4 : (sorted n.nodes).length = n.nodes.length) (h5 : (lay n.nodes (start n) (sorted n.nodes)).2 = 0) (h6 : lossOk n.nodes = true) :
    check n = if Safe.prod ((shapes n).getD (loss n.nodes).toNat []) ≠ 1 then 23 else 0 := by
  unfold check; rw [if_neg h, if_neg (by simp [h2]), if_neg (by simp [h3]), if_neg (by simp [h4]), if_neg (by simp [h5]), if_neg (by simp [h6])]
theorem bads_op {n : Nat} {ns : List NodeD} {k : Nat} (hk : k < ns.length) (h : ∀ j (hj : j < ns.length), j < k → Od.right ns[j].op = true ∧ ns[j].ins.all (fun i => decide (0 ≤ i ∧ i ≤ n)) = true) (hr : Od.right ns[k].op = false) : bads n ns = 21 := by
  rw [bads_take h, List.drop_eq_getElem_cons hk, bads, if_neg (by simp [hr])]
theorem bads_in {n : Nat} {ns : List NodeD} {k : Nat} (hk : k < ns.length) (h : ∀ j (hj : j < ns.length), j < k → Od.right ns[j].op = true ∧ ns[j].ins.all (fun i => decide (0 ≤ i ∧ i ≤ n)) = true) (hr : Od.right ns[k].op = true) {m : Nat} (hm : m < ns[k].ins.length) (hb : ¬ (0 ≤ ns[k].ins[m] ∧ ns[k].ins[m] ≤ n)) : bads n ns = 11 := by
  rw [bads_take h, List.drop_eq_getElem_cons hk, bads, if_pos hr, if_neg]
  intro ha
  have := List.all_eq_true.1 ha _ (List.getElem_mem hm)
  simp at this
  exact hb this
theorem bads_none {n : Nat} {ns : List NodeD} (h : ∀ j (hj : j < ns.length), j < ns.length → Od.right ns[j].op = true ∧ ns[j].ins.all (fun i => decide (0 ≤ i ∧ i ≤ n)) = true) : bads n ns = 0 := by
  rw [bads_take h, List.drop_length, bads]
end Nt
def lookBad (n : NetD) (k : Nat) : Prop := ∀ j (hj : j < n.nodes.length), j < k → Od.right n.nodes[j].op = true ∧ n.nodes[j].ins.all (fun i => decide (0 ≤ i ∧ i ≤ n.nodes.length)) = true

theorem below_set3 {B g : Nat} {w w1 : World} (h : Below B w w1) (hg : B ≤ g) (a b c : Value) : Below B w (((w1.setCell ⟨g, 0, none⟩ a).setCell ⟨g, 1, none⟩ b).setCell ⟨g, 2, none⟩ c) :=
  ((h.setCell (p := ⟨g, 0, none⟩) hg a).setCell (p := ⟨g, 1, none⟩) hg b).setCell (p := ⟨g, 2, none⟩) hg c
theorem set3_heap {g k : Nat} {w : World} (a b c : Value) (h : k ≠ g) : (((w.setCell ⟨g, 0, none⟩ a).setCell ⟨g, 1, none⟩ b).setCell ⟨g, 2, none⟩ c).heap[k]? = w.heap[k]? := by
  rw [Below.heap_setCell _ ⟨g, 2, none⟩ c k h, Below.heap_setCell _ ⟨g, 1, none⟩ b k h, Below.heap_setCell _ ⟨g, 0, none⟩ a k h]
/-- What is not nought is not among the study's cells. -/
theorem ints_set3 {g : Nat} {t : TypeId} {w : World} {S : Option Addr} {zs : List Int} (hI : Ints .i64 w S zs) (hb : Blk w g t #[.slice none 0 0, .slice none 0 0, .int .i64 0]) (hz : ∀ z ∈ zs, z ≠ 0) (a b c : Value) :
    Ints .i64 (((w.setCell ⟨g, 0, none⟩ a).setCell ⟨g, 1, none⟩ b).setCell ⟨g, 2, none⟩ c) S zs := fun j hj => by
  obtain ⟨b0, off, e, hl, hc⟩ := hI j hj
  have hne : b0 ≠ g := fun q => by
    subst q
    rw [hb.cell] at hc
    have hzj : zs.getD j 0 ≠ 0 := by rw [getD_at hj]; exact hz _ (List.getElem_mem hj)
    match h : off + j, hc with
    | 0, hc => simp at hc
    | 1, hc => simp at hc
    | 2, hc => simp at hc; exact hzj (by simpa using hc.symm)
    | q + 3, hc => simp at hc
  refine ⟨b0, off, e, by simpa using hl, ?_⟩
  exact (World.cell?_of_block (w := w) (a := ⟨b0, off + j, none⟩) (set3_heap a b c hne)).trans hc
theorem shpRow_set3 {g g' : Nat} {t t' : TypeId} {w : World} {sh : List (List Int)} (h : ShpRow w g' t' sh) (hb : Blk w g t #[.slice none 0 0, .slice none 0 0, .int .i64 0]) (hg : g' ≠ g) (hz : ∀ s ∈ sh, ∀ z ∈ s, z ≠ 0) (a b c : Value) :
    ShpRow (((w.setCell ⟨g, 0, none⟩ a).setCell ⟨g, 1, none⟩ b).setCell ⟨g, 2, none⟩ c) g' t' sh := by
  obtain ⟨vs, hl, hk, hv⟩ := h
  refine ⟨vs, hl, (set3_heap a b c hg).trans hk, fun j hj => ?_⟩
  obtain ⟨S, d, e, hI, h2⟩ := hv j hj
  exact ⟨S, d, e, ints_set3 hI hb (hz _ (List.getElem_mem hj)) a b c, h2⟩
theorem study_cells {w : World} {g : Nat} {t : TypeId} (h : Blk w g t #[.slice none 0 0, .slice none 0 0, .int .i64 0]) :
    w.cell? ⟨g, 0, none⟩ = some (.slice none 0 0) ∧ w.cell? ⟨g, 1, none⟩ = some (.slice none 0 0) ∧ w.cell? ⟨g, 2, none⟩ = some (.int .i64 0) ∧ w.frozen? ⟨g, 0, none⟩ = false ∧ w.frozen? ⟨g, 1, none⟩ = false ∧ w.frozen? ⟨g, 2, none⟩ = false :=
  ⟨h.cell 0, h.cell 1, h.cell 2, h.frozen 0, h.frozen 1, h.frozen 2⟩
set_option maxRecDepth 20000 in
set_option maxHeartbeats 16000000 in
theorem net_look (A N : Option Addr) (c d : Nat) (n : NetD) (w : World) (hok : n.ok) (hR : NetR w A N n) (hd : n.nodes.length ≤ d) :
    Calls Tryz.prog 74 #[.agg #[.slice A n.inn.length c, .slice N n.nodes.length d]] w (StudyP n w) := by
  have hnl := hok.2.1
  have hil := hok.1
  have hb0 := below2 w (.cells #[.slice A n.inn.length c, .slice N n.nodes.length d] 45) (.cells #[.slice none 0 0, .slice none 0 0, .int .i64 0] 147)
  have hk0 := (Blk.new w 45 #[.slice A n.inn.length c, .slice N n.nodes.length d]).alloc (.cells #[.slice none 0 0, .slice none 0 0, .int .i64 0] 147)
  have hs0 := Blk.new (w.alloc (.cells #[.slice A n.inn.length c, .slice N n.nodes.length d] 45)) 147 #[.slice none 0 0, .slice none 0 0, .int .i64 0]
  rw [World.size_alloc] at hs0
  have hR0 := hR.below hb0 (Nat.le_refl _)
  by_cases hmany : n.nodes.length < 1 ∨ 512 < n.nodes.length
  · have HC := Lib.hid (Nt.check_many hmany)
    have HR := Lib.hid hR
    have Hok := Lib.hid hok
    have HR0 := Lib.hid hR0
    clear hR hok hR0
    clear hk0 hs0
    rcases hmany with h | h
    · have d1 : decide ((n.nodes.length : Int) < 1) = true := by simp; omega
      go_enter Tryz.func74, Tryz.ntmps74
      go_wp2_with fail
      exact bodyPost_ret (v := .tuple #[.agg #[.slice none 0 0, .slice none 0 0, .int .i64 0], .int .i64 12]) (by simp [results, Tryz.results74, go_sem]) rfl ⟨hb0, .inr (by rw [HC.out]; exact ⟨by omega, rfl⟩)⟩
    · have d1 : decide ((n.nodes.length : Int) < 1) = false := by simp; omega
      have d2 : decide ((512 : Int) < (n.nodes.length : Int)) = true := by simp; omega
      go_enter Tryz.func74, Tryz.ntmps74
      go_wp2_with fail
      exact bodyPost_ret (v := .tuple #[.agg #[.slice none 0 0, .slice none 0 0, .int .i64 0], .int .i64 12]) (by simp [results, Tryz.results74, go_sem]) rfl ⟨hb0, .inr (by rw [HC.out]; exact ⟨by omega, rfl⟩)⟩
  · have d1 : decide ((n.nodes.length : Int) < 1) = false := by simp; omega
    have d2 : decide ((512 : Int) < (n.nodes.length : Int)) = false := by simp; omega
    have h512 : n.nodes.length ≤ 512 := by omega
    have hone : 1 ≤ n.nodes.length := by omega
    have HR := Lib.hid hR
    have Hok := Lib.hid hok
    have HR0 := Lib.hid hR0
    have Hk0 := Lib.hid hk0
    have Hs0 := Lib.hid hs0
    have Hmany := Lib.hid hmany
    clear hR hok hR0 hk0 hs0 hmany
    go_enter Tryz.func74, Tryz.ntmps74
    go_wp2_with fail
    refine (shape_right A c n.inn _ (by omega) HR0.out.1).mono ?_
    rintro e w1 ⟨rfl, hb1⟩
    have hbw : Below w.heap.size w w1 := hb0.trans (hb1.mono (by simp; omega))
    have hbox := Hk0.out.below hb1 (by simp; omega)
    have hst := Hs0.out.below hb1 (by simp)
    obtain ⟨y0, y1, y2, f0, f1, f2⟩ := study_cells hst
    have x0 : w1.cell? ⟨w.heap.size, 0, none⟩ = some (.slice A n.inn.length c) := by rw [hbox.cell]; rfl
    have x1 : w1.cell? ⟨w.heap.size, 1, none⟩ = some (.slice N n.nodes.length d) := by rw [hbox.cell]; rfl
    clear Hk0 Hs0 HR0 hb0 hb1 d1 d2
    by_cases hin : Sh.right n.inn = true
    rotate_left
    · have hin' : Sh.right n.inn = false := by simpa using hin
      have HC := Lib.hid (Nt.check_in Hmany.out hin')
      have Hbox := Lib.hid hbox
      have Hst := Lib.hid hst
      clear hbox hst
      clear hin
      go_wp2_with fail
      exact bodyPost_ret (v := .tuple #[.agg #[.slice none 0 0, .slice none 0 0, .int .i64 0], .int .i64 20]) (by simp [results, Tryz.results74, go_sem, y0, y1, y2]) rfl ⟨below_set3 hbw (by omega) _ _ _, .inr (by rw [HC.out]; exact ⟨by omega, rfl⟩)⟩
    · have Hbox := Lib.hid hbox
      have Hst := Lib.hid hst
      clear hbox hst
      go_wp2_with fail
      clear y0 y1 y2 f0 f1 f2 x0 x1
      have Hin := Lib.hid hin
      clear hin
      go_loopw [34] (fun i wr => ∃ k : Nat, k ≤ n.nodes.length ∧ i = .int .i64 k ∧ Blk wr w.heap.size 45 #[.slice A n.inn.length c, .slice N n.nodes.length d] ∧ Blk wr (w.heap.size + 1) 147 #[.slice none 0 0, .slice none 0 0, .int .i64 0] ∧ Below w.heap.size w wr ∧ lookBad n k) (fun i _ => n.nodes.length - (intOf i).toNat)
      case atStart => exact ⟨0, Nat.zero_le _, rfl, Hbox.out, Hst.out, hbw, fun j hj h => by omega⟩
      case round =>
        clear Hbox Hst hbw
        obtain ⟨k, hk, rfl, hbox, hst, hbw, hbad⟩ := hrel
        have hsl := hst.lt
        by_cases hlt : k < n.nodes.length
        · obtain ⟨b, off, S, sc, J, ic, Q, qc, rfl, hNA, -, hI, -⟩ := HR.out.2.at_ hlt
          have hnok := Hok.out.2.2 _ (List.getElem_mem hlt)
          have hb21 := fun h => Nt.bads_op (n := n.nodes.length) hlt hbad h
          have hb11 := fun h m (hm : m < n.nodes[k].ins.length) h2 => Nt.bads_in (n := n.nodes.length) hlt hbad h (m := m) hm h2
          have hnext : Od.right n.nodes[k].op = true → n.nodes[k].ins.all (fun i => decide (0 ≤ i ∧ i ≤ n.nodes.length)) = true → lookBad n (k + 1) := fun h1 h2 j hj hjk => by
            by_cases e : j = k
            · subst e; exact ⟨h1, h2⟩
            · exact hbad j hj (by omega)
          have hil := hnok.2.2.1
          have hsl2 := hnok.2.1
          generalize n.nodes[k] = v at *
          have hNw := hNA.below hbw
          obtain ⟨⟨y0, y1, y2, y3, y4, y5, y6, y7, y8, y9⟩, -⟩ := hNA.below hbw
          have hkn := Blk.new wr 42 (#[.int .i64 v.op.kind, .int .i64 v.op.k, .int .i64 v.op.width, .int .i64 v.op.step, .int .i64 v.op.side, .int .i64 v.op.frm, .int .i64 v.op.to, .slice S v.op.s.length sc, .slice J v.ins.length ic, .slice Q v.p.length qc])
          have hbn : Below wr.heap.size wr (wr.alloc (.cells #[.int .i64 v.op.kind, .int .i64 v.op.k, .int .i64 v.op.width, .int .i64 v.op.step, .int .i64 v.op.side, .int .i64 v.op.frm, .int .i64 v.op.to, .slice S v.op.s.length sc, .slice J v.ins.length ic, .slice Q v.p.length qc] 42)) := (Below.refl _ _).alloc (Nat.le_refl _) _
          have Hbox := Lib.hid hbox
          have Hst := Lib.hid hst
          have HNA := Lib.hid hNA
          have Hnok := Lib.hid hnok
          have Hb21 := Lib.hid hb21
          have Hb11 := Lib.hid hb11
          have Hnext := Lib.hid hnext
          have HNw := Lib.hid hNw
          have Hkn := Lib.hid hkn
          have Hbad := Lib.hid hbad
          clear hbox hst hNA hnok hb21 hb11 hnext hNw hkn hbad
          go_wp2_with fail
          refine (op_right v.op S sc _ (by omega) (HNw.out.2.1.below hbn (Nat.le_refl _))).mono ?_
          rintro e w2 ⟨rfl, hb2⟩
          have hbw2 : Below wr.heap.size wr w2 := hbn.trans (hb2.mono (by simp))
          have hbx2 := hbw.trans (hbw2.mono hbw.size)
          have hbox2 := Hbox.out.below hbw2 (by omega)
          have hst2 := Hst.out.below hbw2 hsl
          have hkn2 := Hkn.out.below hb2 (by simp)
          obtain ⟨z0, z1, z2, f0, f1, f2⟩ := study_cells hst2
          have z8 : w2.cell? ⟨wr.heap.size, 8, none⟩ = some (.slice J v.ins.length ic) := by rw [hkn2.cell]; rfl
          have x1 : w2.cell? ⟨w.heap.size, 1, none⟩ = some (.slice (some ⟨b, off, none⟩) n.nodes.length d) := by rw [hbox2.cell]; rfl
          have hIJ := HNw.out.2.2.1.below hbw2 (Nat.le_refl _)
          clear y0 y1 y2 y3 y4 y5 y6 y7 y8 y9 hbn hb2 Hbox Hst Hkn
          by_cases hor : Od.right v.op = true
          rotate_left
          · have hor' : Od.right v.op = false := by simpa using hor
            have hc := Hb21.out hor'
            have HC := Lib.hid ((Nt.check_bads Hmany.out Hin.out (by rw [hc]; omega)).trans hc)
            have Hbox2 := Lib.hid hbox2
            have Hst2 := Lib.hid hst2
            have Hkn2 := Lib.hid hkn2
            have HIJ := Lib.hid hIJ
            clear hbox2 hst2 hkn2 hIJ
            clear hor hc
            go_wp2_with fail
            exact bodyPost_ret (v := .tuple #[.agg #[.slice none 0 0, .slice none 0 0, .int .i64 0], .int .i64 21]) (by simp [results, Tryz.results74, go_sem, z0, z1, z2]) rfl ⟨below_set3 hbx2 (by omega) _ _ _, .inr (by rw [HC.out]; exact ⟨by omega, rfl⟩)⟩
          · have Hor := Lib.hid hor
            have Hbox2 := Lib.hid hbox2
            have Hst2 := Lib.hid hst2
            have Hkn2 := Lib.hid hkn2
            have HIJ := Lib.hid hIJ
            clear hbox2 hst2 hkn2 hIJ
            go_wp2_with fail
            clear hor
            go_loop [46] (fun i => ∃ m : Nat, m ≤ v.ins.length ∧ i = .int .i64 m ∧ ∀ j (hj : j < v.ins.length), j < m → 0 ≤ v.ins[j] ∧ v.ins[j] ≤ n.nodes.length) (fun i => v.ins.length - (intOf i).toNat)
            case atStart => exact ⟨0, Nat.zero_le _, rfl, fun j hj h => by omega⟩
            case round =>
              obtain ⟨m, hm, rfl, hall⟩ := hrel
              by_cases hlm : m < v.ins.length
              · obtain ⟨b1, off1, rfl, -, hc⟩ := HIJ.out m hlm
                rw [getD_at hlm] at hc
                have hbd := Hb11.out Hor.out m hlm
                have hnx : (0 ≤ v.ins[m] ∧ v.ins[m] ≤ n.nodes.length) → ∀ j (hj : j < v.ins.length), j < m + 1 → 0 ≤ v.ins[j] ∧ v.ins[j] ≤ n.nodes.length := fun h j hj hjm => by
                  by_cases e : j = m
                  · subst e; exact h
                  · exact hall j hj (by omega)
                generalize v.ins[m] = u at *
                by_cases hu : 0 ≤ u ∧ u ≤ n.nodes.length
                · have HN := Lib.hid (hnx hu)
                  have e1 : decide (u < 0) = false := by simp; omega
                  have e2 : decide ((n.nodes.length : Int) < u) = false := by simp; omega
                  clear hu hbd
                  have Hnx := Lib.hid hnx
                  have Hall := Lib.hid hall
                  clear hnx hall
                  go_wp2_with fail
                  go_round
                  case rel => exact ⟨m + 1, by omega, by go_num, HN.out⟩
                  case measure => simp [intOf]; omega
                · have hc2 := hbd hu
                  have HC := Lib.hid ((Nt.check_bads Hmany.out Hin.out (by rw [hc2]; omega)).trans hc2)
                  clear hc2 hbd
                  have Hnx := Lib.hid hnx
                  have Hall := Lib.hid hall
                  clear hnx hall
                  by_cases hneg : u < 0
                  · have e1 : decide (u < 0) = true := by simpa using hneg
                    clear hu
                    go_wp2_with fail
                    exact bodyPost_ret (v := .tuple #[.agg #[.slice none 0 0, .slice none 0 0, .int .i64 0], .int .i64 11]) (by simp [results, Tryz.results74, go_sem, z0, z1, z2]) rfl ⟨below_set3 hbx2 (by omega) _ _ _, .inr (by rw [HC.out]; exact ⟨by omega, rfl⟩)⟩
                  · have e1 : decide (u < 0) = false := by simpa using hneg
                    have e2 : decide ((n.nodes.length : Int) < u) = true := by simp; omega
                    clear hu
                    go_wp2_with fail
                    exact bodyPost_ret (v := .tuple #[.agg #[.slice none 0 0, .slice none 0 0, .int .i64 0], .int .i64 11]) (by simp [results, Tryz.results74, go_sem, z0, z1, z2]) rfl ⟨below_set3 hbx2 (by omega) _ _ _, .inr (by rw [HC.out]; exact ⟨by omega, rfl⟩)⟩
              · obtain rfl : m = v.ins.length := by omega
                have HN := Lib.hid (Hnext.out Hor.out (List.all_eq_true.2 fun i hi => by obtain ⟨j, hj, rfl⟩ := List.getElem_of_mem hi; simpa using hall j hj hj))
                have Hall := Lib.hid hall
                clear hall
                go_wp2_with fail
                go_roundw
                case rel => exact ⟨k + 1, by omega, by go_num, Hbox2.out, Hst2.out, hbx2, HN.out⟩
                case measure => simp [intOf]; omega
        · obtain rfl : k = n.nodes.length := by omega
          have hb0 : Nt.bads n.nodes.length n.nodes = 0 := Nt.bads_none hbad
          have hins : ∀ v ∈ n.nodes, ∀ i ∈ v.ins, 0 ≤ i ∧ i ≤ n.nodes.length := fun v hv => (Nt.bads_all hb0 v hv).2
          have x0 : wr.cell? ⟨w.heap.size, 0, none⟩ = some (.slice A n.inn.length c) := by rw [hbox.cell]; rfl
          have x1 : wr.cell? ⟨w.heap.size, 1, none⟩ = some (.slice N n.nodes.length d) := by rw [hbox.cell]; rfl
          have Hbad := Lib.hid hbad
          have Hbox := Lib.hid hbox
          have Hst := Lib.hid hst
          have Hb0 := Lib.hid hb0
          have Hins := Lib.hid hins
          clear hbad hbox hst hb0 hins
          go_wp2_with fail
          refine (net_sorted A N c d n _ Hok.out h512 (HR.out.below hbw (Nat.le_refl _)) hd Hins.out).mono ?_
          rintro e w2 ⟨O, oc, rfl, hO, hoc, hoc2, hb2⟩
          have hbw2 := hbw.trans (hb2.mono hbw.size)
          have hbox2 := Hbox.out.below hb2 Hbox.out.lt
          have hst2 := Hst.out.below hb2 Hst.out.lt
          have hw2l : w.heap.size + 1 < w2.heap.size := hst2.lt
          have x0 : w2.cell? ⟨w.heap.size, 0, none⟩ = some (.slice A n.inn.length c) := by rw [hbox2.cell]; rfl
          have x1 : w2.cell? ⟨w.heap.size, 1, none⟩ = some (.slice N n.nodes.length d) := by rw [hbox2.cell]; rfl
          clear Hbox Hst
          by_cases hcy : (Nt.sorted n.nodes).length = n.nodes.length
          rotate_left
          · have HC := Lib.hid (Nt.check_cyc Hmany.out Hin.out Hb0.out hcy)
            have e1 : (((Nt.sorted n.nodes).length : Int) != (n.nodes.length : Int)) = true := by rw [bne_iff_ne]; omega
            have e2 : ((Nt.sorted n.nodes).length != n.nodes.length) = true := by rw [bne_iff_ne]; omega
            obtain ⟨y0, y1, y2, f0, f1, f2⟩ := study_cells hst2
            generalize Nt.sorted n.nodes = os at *
            have Hbox2 := Lib.hid hbox2
            have Hst2 := Lib.hid hst2
            have Hcy := Lib.hid hcy
            have HO := Lib.hid hO
            clear hbox2 hst2 hcy hO
            go_wp2_with fail
            exact bodyPost_ret (v := .tuple #[.agg #[.slice none 0 0, .slice none 0 0, .int .i64 0], .int .i64 22]) (by simp [results, Tryz.results74, go_sem, y0, y1, y2]) rfl ⟨below_set3 hbw2 (by omega) _ _ _, .inr (by rw [HC.out]; exact ⟨by omega, rfl⟩)⟩
          · have hcall := net_lay A N O c d oc n w2 Hok.out (HR.out.below hbw2 (Nat.le_refl _)) hd hO Hin.out Hins.out
            have hcheck := fun h5 => Nt.check_lay Hmany.out Hin.out Hb0.out hcy h5
            have hcheck6 := fun h5 h6 => Nt.check_loss Hmany.out Hin.out Hb0.out hcy h5 h6
            have hcheck7 := fun h5 h6 => Nt.check_last Hmany.out Hin.out Hb0.out hcy h5 h6
            have hgood := fun h5 : (Nt.lay n.nodes (Nt.start n) (Nt.sorted n.nodes)).2 = 0 => Nt.lay_good Hin.out (Nt.sorted n.nodes).length (Nat.le_refl _) (by rw [List.take_length]; exact h5)
            rw [List.take_length] at hgood
            have hfull := Kn.order_full (I := Nt.insF n.nodes) (n := n.nodes.length) hcy
            have hfull : ∀ u, u ∈ Nt.sorted n.nodes ↔ 1 ≤ u ∧ u ≤ n.nodes.length := hfull
            have hshp : (Nt.lay n.nodes (Nt.start n) (Nt.sorted n.nodes)).1 = Nt.shapes n := rfl
            rw [hcy] at hcall ⊢
            obtain ⟨os, hos⟩ : ∃ os, Nt.sorted n.nodes = os := ⟨_, rfl⟩
            rw [hos] at hcall hcheck hcheck6 hcheck7 hgood hfull hshp hO hcy hoc
            rw [hcy] at hoc
            have Hcall := Lib.hid hcall
            have Hcheck := Lib.hid hcheck
            have Hcheck6 := Lib.hid hcheck6
            have Hcheck7 := Lib.hid hcheck7
            have Hgood := Lib.hid hgood
            have Hfull := Lib.hid hfull
            have Hshp := Lib.hid hshp
            have Hcy := Lib.hid hcy
            have Hos := Lib.hid hos
            have HO := Lib.hid hO
            have Hbox2 := Lib.hid hbox2
            have Hst2 := Lib.hid hst2
            clear hcall hcheck hcheck6 hcheck7 hgood hfull hshp hcy hos hO hbox2 hst2
            go_wp2_with fail
            refine (Hcall.out).mono ?_
            rintro e w3 ⟨hb3, ⟨hr, g, rfl, hg, hrow, hrl⟩ | ⟨hr, rfl⟩⟩
            rotate_left
            · have HC := Lib.hid (Hcheck.out hr)
              have hbw3 := hbw2.trans (hb3.mono hbw2.size)
              obtain ⟨y0, y1, y2, f0, f1, f2⟩ := study_cells (Hst2.out.below hb3 Hst2.out.lt)
              generalize Nt.lay n.nodes (Nt.start n) os = r at *
              have q1 : (r.2 != 0) = true := by simp [hr]
              have HR2 := Lib.hid hr
              clear hr
              go_wp2_with fail
              exact bodyPost_ret (v := .tuple #[.agg #[.slice none 0 0, .slice none 0 0, .int .i64 0], .int .i64 r.2]) (by simp [results, Tryz.results74, go_sem, y0, y1, y2]) rfl ⟨below_set3 hbw3 (by omega) _ _ _, .inr (by rw [HC.out]; exact ⟨HR2.out, rfl⟩)⟩
            · have hg2 := Hgood.out hr
              have hc6 := fun h6 => Hcheck6.out hr h6
              have hc7 := fun h6 => Hcheck7.out hr h6
              rw [Hshp.out] at hrow hrl hg2
              have hbw3 := hbw2.trans (hb3.mono hbw2.size)
              have hbox3 := Hbox2.out.below hb3 Hbox2.out.lt
              have hst3 := Hst2.out.below hb3 Hst2.out.lt
              have x0 : w3.cell? ⟨w.heap.size, 0, none⟩ = some (.slice A n.inn.length c) := by rw [hbox3.cell]; rfl
              have x1 : w3.cell? ⟨w.heap.size, 1, none⟩ = some (.slice N n.nodes.length d) := by rw [hbox3.cell]; rfl
              have hO3 := HO.out.below hb3 (Nat.le_refl _)
              clear Hcall Hcheck Hcheck6 Hcheck7 Hgood Hbox2 Hst2 HO hr Hshp
              have Hg2 := Lib.hid hg2
              have Hc6 := Lib.hid hc6
              have Hc7 := Lib.hid hc7
              have Hrow := Lib.hid hrow
              have Hbox3 := Lib.hid hbox3
              have Hst3 := Lib.hid hst3
              have HO3 := Lib.hid hO3
              clear hg2 hc6 hc7 hrow hbox3 hst3 hO3
              go_wp2_with fail
              refine (net_unused A N c d n _ Hok.out (HR.out.below hbw3 (Nat.le_refl _)) hd Hins.out).mono ?_
              rintro e w4 ⟨rfl, hb4⟩
              have hbw4 := hbw3.trans (hb4.mono hbw3.size)
              have hst4 := Hst3.out.below hb4 Hst3.out.lt
              have hrow4 := Hrow.out.below hb4 (Nat.le_refl _)
              have hO4 := HO3.out.below hb4 (Nat.le_refl _)
              obtain ⟨y0, y1, y2, f0, f1, f2⟩ := study_cells hst4
              clear Hbox3 Hst3 Hrow HO3
              by_cases hlo : Nt.lossOk n.nodes = true
              rotate_left
              · have hlo' : Nt.lossOk n.nodes = false := by simpa using hlo
                have HC := Lib.hid (Hc6.out hlo')
                have Hst4 := Lib.hid hst4
                have Hrow4 := Lib.hid hrow4
                have HO4 := Lib.hid hO4
                clear hst4 hrow4 hO4
                clear hlo
                go_wp2_with fail
                exact bodyPost_ret (v := .tuple #[.agg #[.slice none 0 0, .slice none 0 0, .int .i64 0], .int .i64 23]) (by simp [results, Tryz.results74, go_sem, y0, y1, y2]) rfl ⟨below_set3 hbw4 (by omega) _ _ _, .inr (by rw [HC.out]; exact ⟨by omega, rfl⟩)⟩
              · have hlm := (Nt.loss_mem hlo).2
                have hch := Hc7.out hlo
                obtain ⟨l, hl⟩ : ∃ l : Nat, Nt.loss n.nodes = (l : Int) := ⟨(Nt.loss n.nodes).toNat, by omega⟩
                have Hl := Lib.hid hl
                rw [hl] at hlm hch ⊢
                rw [Int.toNat_natCast] at hch
                have hll : l < (Nt.shapes n).length := by omega
                have hgl := Hg2.out (l : Int) (.inr ((Hfull.out _).2 (by omega)))
                rw [Int.toNat_natCast, gets_at hll] at hgl
                rw [gets_at hll] at hch
                obtain ⟨S, sc, hcS, hIS, hs1, hs2, -⟩ := hrow4.at_ hll
                have hsz := shape_size S sc _ w4 (by omega) hIS
                have hse : Sh.size (Nt.shapes n)[l] = (Safe.prod (Nt.shapes n)[l], 0) := by unfold Sh.size; rw [if_pos hgl]
                rw [hse] at hsz
                have l0 : (0 : Int) ≤ (l : Int) := by omega
                have l1 : (l : Int) < ((n.nodes.length + 1 : Nat) : Int) := by omega
                generalize (Nt.shapes n)[l] = s at *
                have Hst4 := Lib.hid hst4
                have Hrow4 := Lib.hid hrow4
                have HO4 := Lib.hid hO4
                have Hch := Lib.hid hch
                have Hl := Lib.hid hl
                have Hsz := Lib.hid hsz
                have Hse := Lib.hid hse
                have HIS := Lib.hid hIS
                have Hgl := Lib.hid hgl
                clear hst4 hrow4 hO4 hch hl hsz hse hIS hgl
                go_wp2_with fail
                refine (Hsz.out).mono ?_
                rintro e w5 ⟨rfl, hb5⟩
                have hbw5 := hbw4.trans (hb5.mono hbw4.size)
                have hst5 := Hst4.out.below hb5 Hst4.out.lt
                have hrow5 := Hrow4.out.below hb5 (Nat.le_refl _)
                have hO5 := HO4.out.below hb5 (Nat.le_refl _)
                clear y0 y1 y2 f0 f1 f2
                obtain ⟨y0, y1, y2, f0, f1, f2⟩ := study_cells hst5
                by_cases hp : Safe.prod s = 1
                · have HC := Lib.hid (show Nt.check n = 0 by rw [Hch.out, if_neg (by simp [hp])])
                  have e1 : (Safe.prod s != 1) = false := by simp [hp]
                  clear hcS hp
                  have Hst5 := Lib.hid hst5
                  have Hrow5 := Lib.hid hrow5
                  have HO5 := Lib.hid hO5
                  clear hst5 hrow5 hO5
                  go_wp2_with fail
                  have hos0 : ∀ z ∈ os, z ≠ 0 := fun z hz => by have := (Hfull.out z).1 hz; omega
                  have hsh0 : ∀ s ∈ Nt.shapes n, ∀ z ∈ s, z ≠ 0 := fun s hs z hz => by
                    obtain ⟨i, hi, rfl⟩ := List.getElem_of_mem hs
                    have hgi := Hg2.out (i : Int) (by
                      by_cases h0 : i = 0
                      · exact .inl (by omega)
                      · exact .inr ((Hfull.out _).2 (by omega)))
                    rw [Int.toNat_natCast, gets_at hi] at hgi
                    have := (Sh.right_mul hgi).2.2.2.1 z hz
                    omega
                  refine bodyPost_ret (v := .tuple #[.agg #[.slice O n.nodes.length oc, .slice (some ⟨g, 0, none⟩) (n.nodes.length + 1) (n.nodes.length + 1), .int .i64 (l : Int)], .int .i64 0]) (by simp [results, Tryz.results74, go_sem, y0, y1, y2]) rfl ⟨below_set3 hbw5 (by omega) _ _ _, .inl ⟨HC.out, O, oc, g, by rw [Hl.out], ?_, hoc, hoc2, by omega, ?_⟩⟩
                  · rw [Hos.out]; exact ints_set3 HO5.out Hst5.out hos0 _ _ _
                  · exact shpRow_set3 Hrow5.out Hst5.out (by omega) hsh0 _ _ _
                · have HC := Lib.hid (show Nt.check n = 23 by rw [Hch.out, if_pos hp])
                  have e1 : (Safe.prod s != 1) = true := by simp [hp]
                  clear hcS hp
                  have Hst5 := Lib.hid hst5
                  have Hrow5 := Lib.hid hrow5
                  have HO5 := Lib.hid hO5
                  clear hst5 hrow5 hO5
                  go_wp2_with fail
                  exact bodyPost_ret (v := .tuple #[.agg #[.slice none 0 0, .slice none 0 0, .int .i64 0], .int .i64 23]) (by simp [results, Tryz.results74, go_sem, y0, y1, y2]) rfl ⟨below_set3 hbw5 (by omega) _ _ _, .inr (by rw [HC.out]; exact ⟨by omega, rfl⟩)⟩
end Go.Proofs.YtkmhagjdafeebaaGreat
/- Layer 11 (net): Check, Order, Shapes, Loss, Chain: contracts. -/
namespace Go.Proofs.YtkmhagjdafeebaaGreat
open Go.RowKit

set_option maxHeartbeats 4000000 in
theorem net_check (A N : Option Addr) (c d : Nat) (n : NetD) (w : World) (hok : n.ok) (hR : NetR w A N n) (hd : n.nodes.length ≤ d) :
    Calls Tryz.prog 47 #[.agg #[.slice A n.inn.length c, .slice N n.nodes.length d]] w fun e w' => e = .returned (.int .i64 (Nt.check n)) ∧ Below w.heap.size w w' := by
  have hb0 : Below w.heap.size w (w.alloc (.cells #[.slice A n.inn.length c, .slice N n.nodes.length d] 45)) := (Below.refl _ _).alloc (Nat.le_refl _) _
  have hR0 := hR.below hb0 (Nat.le_refl _)
  have HR := Lib.hid hR
  have Hok := Lib.hid hok
  have HR0 := Lib.hid hR0
  clear hR hok hR0
  go_enter Tryz.func47, Tryz.ntmps47
  go_wp2_with fail
  refine (net_look A N c d n _ Hok.out HR0.out hd).mono ?_
  rintro e w1 ⟨hb1, ⟨hc, O, oc, g, rfl, -, -, -, -, -⟩ | ⟨hc, rfl⟩⟩
  all_goals have hbw := hb0.trans (hb1.mono hb0.size)
  · have Hc := Lib.hid hc
    clear hc
    go_wp2_with fail
    go_ret
    exact ⟨by rw [Hc.out]; rfl, hbw.alloc hbw.size _⟩
  · have Hc := Lib.hid hc
    clear hc
    go_wp2_with fail
    go_ret
    exact ⟨rfl, hbw.alloc hbw.size _⟩
def OrderP (n : NetD) (w : World) (e : Ending) (w' : World) : Prop :=
  Below w.heap.size w w' ∧ ((Nt.check n = 0 ∧ ∃ O oc, e = .returned (.tuple #[.slice O n.nodes.length oc, .int .i64 0]) ∧ Ints .i64 w' O (Nt.sorted n.nodes) ∧ n.nodes.length ≤ oc ∧ oc ≤ 9223372036854775807) ∨
    (Nt.check n ≠ 0 ∧ e = .returned (.tuple #[.slice none 0 0, .int .i64 (Nt.check n)])))
def ShapesP (n : NetD) (w : World) (e : Ending) (w' : World) : Prop :=
  Below w.heap.size w w' ∧ ((Nt.check n = 0 ∧ ∃ g, e = .returned (.tuple #[.slice (some ⟨g, 0, none⟩) (n.nodes.length + 1) (n.nodes.length + 1), .int .i64 0]) ∧ w.heap.size ≤ g ∧ ShpRow w' g 23 (Nt.shapes n)) ∨
    (Nt.check n ≠ 0 ∧ e = .returned (.tuple #[.slice none 0 0, .int .i64 (Nt.check n)])))
def lossE (n : NetD) : Int := if Nt.check n = 0 then Nt.loss n.nodes else 0
theorem list_one {l : List Int} (h : l.length = 1) : ∃ x, l = [x] := by
  match l, h with
  | [x], _ => exact ⟨x, rfl⟩
theorem Nt.chainGo_step {ns : List NodeD} {os : List Int} {k : Nat} (hk : k < os.length) (h : Nt.chainGo ns 0 (os.take k) = true) :
    (Nt.insF ns os[k] = [(os.take k).getLastD 0] → Nt.chainGo ns 0 (os.take (k + 1)) = true ∧ (os.take (k + 1)).getLastD 0 = os[k]) ∧ (Nt.insF ns os[k] ≠ [(os.take k).getLastD 0] → Nt.chainGo ns 0 os = false) := by
  refine ⟨fun e => ?_, fun e => ?_⟩
  · rw [List.take_succ_eq_append_getElem hk]
    refine ⟨?_, ?_⟩
    · rw [Nt.chainGo_append, h, Nt.chainGo, decide_eq_true e]; rfl
    · simp only [List.getLastD_eq_getLast?, List.getLast?_concat, Option.getD_some]
  · have : os = os.take k ++ os[k] :: os.drop (k + 1) := by rw [← List.drop_eq_getElem_cons hk, List.take_append_drop]
    rw [this, Nt.chainGo_append, Nt.chainGo, decide_eq_false e, Bool.false_and, Bool.and_false]
end Go.Proofs.YtkmhagjdafeebaaGreat
/- Layer 11 (net): Users, copies, the equalities: contracts. -/
namespace Go.Proofs.YtkmhagjdafeebaaGreat
open Go.RowKit
def AnyBool (w : World) (e : Ending) (w' : World) : Prop := ∃ b, e = .returned (.bool b) ∧ Below w.heap.size w w'
end Go.Proofs.YtkmhagjdafeebaaGreat
/- Layer 11 (net): copies: contract. -/
namespace Go.Proofs.YtkmhagjdafeebaaGreat
open Go.RowKit
/-- Block g, from B on, is a row of shapes, each in a block of its own from B on; block by block. -/
def FRow (B : Nat) (w : World) (g : Nat) (t : TypeId) (ss : List (List Int)) : Prop :=
  B ≤ g ∧ ∃ hs : List Nat, hs.length = ss.length ∧ (∃ vs : List Value, vs.length = ss.length ∧ Blk w g t vs.toArray ∧ ∀ j (hj : j < ss.length) (hj2 : j < hs.length), vs[j]? = some (.slice (some ⟨hs[j], 0, none⟩) ss[j].length ss[j].length)) ∧
    ∀ j (hj : j < ss.length) (hj2 : j < hs.length), B ≤ hs[j] ∧ hs[j] ≠ g ∧ Blk w hs[j] 3 (ss[j].map (Value.int .i64)).toArray
theorem FRow.shps {B : Nat} {w : World} {g : Nat} {t : TypeId} {ss : List (List Int)} (h : FRow B w g t ss) (hm : ∀ s ∈ ss, s.length ≤ 9223372036854775807) : Shps w (some ⟨g, 0, none⟩) ss := fun j hj => by
  obtain ⟨_, hs, hl, ⟨vs, hvl, hk, hv⟩, hb⟩ := h
  have h1 := hv j hj (by omega)
  obtain ⟨_, _, hB⟩ := hb j hj (by omega)
  refine ⟨g, 0, _, _, rfl, hk.lt, by rw [Nat.zero_add, hk.cell j]; simpa using h1, Ints.of_row fun i hi => ?_, Nat.le_refl _, hm _ (List.getElem_mem hj)⟩
  rw [Nat.zero_add, hB.cell i, getD_at hi]
  simp [hi]
theorem FRow.fr {B : Nat} {w w' : World} {g : Nat} {t : TypeId} {ss : List (List Int)} {S : Nat → Prop} (h : FRow B w g t ss) (hf : Fr S w w') (hS : ∀ b, B ≤ b → b < w.heap.size → ¬ S b) : FRow B w' g t ss := by
  obtain ⟨hg, hs, hl, ⟨vs, hvl, hk, hv⟩, hb⟩ := h
  refine ⟨hg, hs, hl, ⟨vs, hvl, hf.blk hk (hS _ hg hk.lt), hv⟩, fun j hj hj2 => ?_⟩
  obtain ⟨h1, h2, h3⟩ := hb j hj hj2
  exact ⟨h1, h2, hf.blk h3 (hS _ h1 h3.lt)⟩
theorem FRow.base {B B' : Nat} {w : World} {g : Nat} {t : TypeId} {ss : List (List Int)} (h : FRow B w g t ss) (hB : B' ≤ B) : FRow B' w g t ss := by
  obtain ⟨hg, hs, hl, hv, hb⟩ := h
  exact ⟨Nat.le_trans hB hg, hs, hl, hv, fun j hj hj2 => ⟨Nat.le_trans hB (hb j hj hj2).1, (hb j hj hj2).2⟩⟩
def CopiesP (ss : List (List Int)) (w : World) (e : Ending) (w' : World) : Prop :=
  ∃ g, e = .returned (.slice (some ⟨g, 0, none⟩) ss.length ss.length) ∧ FRow w.heap.size w' g 23 ss ∧ Below w.heap.size w w'
/-- The first k shapes are copied. -/
def FMid (B : Nat) (w : World) (g : Nat) (t : TypeId) (ss : List (List Int)) (k : Nat) : Prop :=
  ∃ hs : List Nat, hs.length = k ∧ (∃ vs : List Value, vs.length = ss.length ∧ Blk w g t vs.toArray ∧ ∀ j (hj : j < ss.length) (hj2 : j < hs.length), vs[j]? = some (.slice (some ⟨hs[j], 0, none⟩) ss[j].length ss[j].length)) ∧
    ∀ j (hj : j < ss.length) (hj2 : j < hs.length), B ≤ hs[j] ∧ hs[j] ≠ g ∧ Blk w hs[j] 3 (ss[j].map (Value.int .i64)).toArray
theorem FMid.fr {B : Nat} {w w' : World} {g : Nat} {t : TypeId} {ss : List (List Int)} {k : Nat} (h : FMid B w g t ss k) (hb : Below w.heap.size w w') : FMid B w' g t ss k := by
  obtain ⟨hs, hl, ⟨vs, hvl, hk, hv⟩, hb'⟩ := h
  refine ⟨hs, hl, ⟨vs, hvl, hk.below hb hk.lt, hv⟩, fun j hj hj2 => ?_⟩
  obtain ⟨h1, h2, h3⟩ := hb' j hj hj2
  exact ⟨h1, h2, h3.below hb h3.lt⟩
theorem FMid.push {B : Nat} {w : World} {g h : Nat} {t : TypeId} {ss : List (List Int)} {k : Nat} (hm : FMid B w g t ss k) (hk : k < ss.length) (hh : B ≤ h) (hne : h ≠ g) (hb : Blk w h 3 (ss[k].map (Value.int .i64)).toArray) : FMid B (w.setCell ⟨g, k, none⟩ (.slice (some ⟨h, 0, none⟩) ss[k].length ss[k].length)) g t ss (k + 1) := by
  obtain ⟨hs, hl, ⟨vs, hvl, hkb, hv⟩, hb'⟩ := hm
  refine ⟨hs ++ [h], by simp [hl], ⟨vs.set k (.slice (some ⟨h, 0, none⟩) ss[k].length ss[k].length), by simp [hvl], by simpa using hkb.set_ k (.slice (some ⟨h, 0, none⟩) ss[k].length ss[k].length), fun j hj hj2 => ?_⟩, fun j hj hj2 => ?_⟩
  · by_cases e : j = k
    · subst e
      have : (hs ++ [h])[j]'hj2 = h := by simp [← hl]
      rw [this, List.getElem?_set_self (by omega)]
    · have hjk : j < hs.length := by simp at hj2; omega
      rw [List.getElem?_set_ne (by omega), hv j hj hjk]
      simp [hjk]
  · by_cases e : j = k
    · subst e
      have : (hs ++ [h])[j]'hj2 = h := by simp [← hl]
      rw [this]
      exact ⟨hh, hne, hb.far (p := ⟨g, j, none⟩) hne _⟩
    · have hjk : j < hs.length := by simp at hj2; omega
      have e2 : (hs ++ [h])[j]'hj2 = hs[j] := by simp [hjk]
      rw [e2]
      obtain ⟨h1, h2, h3⟩ := hb' j hj hjk
      exact ⟨h1, h2, h3.far (p := ⟨g, k, none⟩) h2 _⟩
set_option maxRecDepth 20000 in
set_option maxHeartbeats 8000000 in
theorem net_copies (A : Option Addr) (c : Nat) (ss : List (List Int)) (w : World) (hl : ss.length ≤ 1048576) (hs : ∀ s ∈ ss, s.length ≤ 1048576) (hS : Shps w A ss) :
    Calls Tryz.prog 55 #[.slice A ss.length c] w (CopiesP ss w) := by
  obtain ⟨i0, hi, hz0, hz1, hz2⟩ := info_parts shpT_info
  have Hs := Lib.hid hs
  have HS := Lib.hid hS
  clear hs hS
  go_enter Tryz.func55, Tryz.ntmps55
  go_wp2_with (at_make; refine wpList_make_full _ rfl _ _ 40 rfl w.heap.size 23 i0 (.slice none 0 0) 1 Tryz.underlying40 hi hz0 hz1 _ _ _ _ ss.length rfl rfl (by first | rfl | simp | (go_simp; rfl)) (by first | rfl | simp | (go_simp; rfl)) ?b2 ?b3 ?b4 ?_)
  case b2 => rw [hz2]; omega
  case b3 => unfold maxLen; omega
  case b4 => exact Nat.le_refl _
  intro w1 hown hgrow
  have hblk := own_cur hown
  rw [made_one] at hblk
  have hb1 : Below w.heap.size w w1 := (Below.refl _ w).grown hgrow (Nat.le_refl _) (by simp)
  have hm0 : FMid w.heap.size w1 w.heap.size 23 ss 0 := ⟨[], rfl, ⟨List.replicate ss.length (.slice none 0 0), by simp, by rw [List.toArray_replicate]; exact hblk, fun j hj hj2 => absurd hj2 (by simp)⟩, fun j hj hj2 => absurd hj2 (by simp)⟩
  have Hm0 := Lib.hid hm0
  clear hm0
  clear hblk hown hgrow
  go_wp2_with fail
  go_loopw [11] (fun i wx => ∃ k : Nat, k ≤ ss.length ∧ i = .int .i64 (k : Int) ∧ FMid w.heap.size wx w.heap.size 23 ss k ∧ Below w.heap.size w wx) (fun i _ => ss.length - (intOf i).toNat)
  case atStart => exact ⟨0, Nat.zero_le _, rfl, Hm0.out, hb1⟩
  case round =>
    obtain ⟨k, hk, rfl, hm, hbw⟩ := hrel
    clear Hm0 hb1
    by_cases hlt : k < ss.length
    · obtain ⟨b, off, S, sc, rfl, -, hc, hI, -⟩ := HS.out k hlt
      have l1 := Hs.out _ (List.getElem_mem hlt)
      have hc2 := cell_below hbw hc
      have hpush := fun (W : World) h q1 q2 q3 q4 => @FMid.push w.heap.size W w.heap.size h 23 ss k q1 hlt q2 q3 q4
      generalize ss[k] = s at *
      have hI2 := hI.below hbw (Nat.le_refl _)
      have Hm := Lib.hid hm
      have HI := Lib.hid hI
      have HI2 := Lib.hid hI2
      have Hpush := Lib.hid hpush
      clear hm hI hI2 hpush
      clear hc
      go_wp2_with fail
      refine (shape_copy S sc s _ (by omega) HI2.out).mono ?_
      rintro e w2 ⟨h, rfl, hh, hB, hb2⟩
      have hbw2 := hbw.trans (hb2.mono hbw.size)
      have hm2 := Hm.out.fr hb2
      have hgl : w.heap.size < wr.heap.size := by obtain ⟨_, _, ⟨vs, _, hk, _⟩, _⟩ := Hm.out; exact hk.lt
      have hm3 := Hpush.out w2 h hm2 (by omega) (by omega) hB
      obtain ⟨y, hy⟩ : ∃ y, w2.cell? ⟨w.heap.size, k, none⟩ = some y := by obtain ⟨_, _, ⟨vs, hvl, hk, _⟩, _⟩ := hm2; exact ⟨vs[k], by rw [hk.cell k]; simp⟩
      have fy : w2.frozen? ⟨w.heap.size, k, none⟩ = false := by obtain ⟨_, _, ⟨vs, hvl, hk, _⟩, _⟩ := hm2; exact hk.frozen k
      have hbw3 := hbw2.setCell (p := ⟨w.heap.size, k, none⟩) (by simp) (.slice (some ⟨h, 0, none⟩) s.length s.length)
      have Hm2 := Lib.hid hm2
      have Hm3 := Lib.hid hm3
      have HB := Lib.hid hB
      clear hm2 hm3 hB
      clear hc2
      go_wp2_with fail
      go_roundw
      case rel => exact ⟨k + 1, by omega, by go_num, Hm3.out, hbw3⟩
      case measure => simp [intOf]; omega
    · obtain rfl : k = ss.length := by omega
      have Hm := Lib.hid hm
      clear hm
      go_wp2_with fail
      go_ret
      refine ⟨w.heap.size, rfl, ⟨Nat.le_refl _, ?_⟩, hbw⟩
      obtain ⟨hs, h1, h2⟩ := Hm.out
      exact ⟨hs, h1, h2⟩
end Go.Proofs.YtkmhagjdafeebaaGreat
/- Copies of nodes in memory of the call's own: what is kept where. -/
namespace Go.Proofs.YtkmhagjdafeebaaGreat
open Go.RowKit
/-- Blocks of another type than T are as they were. -/
def Keep (T : TypeId) (w w' : World) : Prop := w.heap.size ≤ w'.heap.size ∧ ∀ (b : Nat) (cs : Array Value) (t : TypeId), w.heap[b]? = some (Obj.cells cs t (0, 0)) → t ≠ T → w'.heap[b]? = w.heap[b]?
section
variable {T t : TypeId} {w w' w2 : World} {g B : Nat} {cs : Array Value}
theorem Keep.of_later (h : Later w w') : Keep T w w' := ⟨Below.size h, fun b cs t hb _ => Below.block h b (lt_of_block hb)⟩
theorem Keep.set_ (hb : Blk w g T cs) (i : Nat) (u : Value) : Keep T w (w.setCell ⟨g, i, none⟩ u) := ⟨by simp, fun b cs' t h ht => Below.heap_setCell w _ u b (fun e => by
  have e : b = g := e
  subst e
  unfold Blk at hb
  rw [hb] at h
  injection h with h
  injection h with _ h _
  exact ht h.symm)⟩
theorem Keep.refl (T : TypeId) (w : World) : Keep T w w := ⟨Nat.le_refl _, fun _ _ _ _ _ => rfl⟩
theorem Keep.trans (h : Keep T w w') (k : Keep T w' w2) : Keep T w w2 := ⟨Nat.le_trans h.1 k.1, fun b cs t hb ht => (k.2 b cs t ((h.2 b cs t hb ht).trans hb) ht).trans (h.2 b cs t hb ht)⟩
theorem Blk.keep (hb : Blk w g t cs) (ht : t ≠ T) (h : Keep T w w') : Blk w' g t cs := (h.2 g cs t hb ht).trans hb
theorem ownsRow_keep {e : TypeId} {s n : Nat} {v : Value} {xs : List Value} (h : w.ownsRow B e s v n xs) (ht : e ≠ T) (hk : Keep T w w') : w'.ownsRow B e s v n xs := by
  refine ⟨h.1, ?_⟩
  rcases h.2 with h | ⟨g, cap, cur, rfl, h1, h2, h3⟩
  · exact .inl h
  · exact .inr ⟨g, cap, cur, rfl, h1, (hk.2 g cur e h2 ht).trans h2, h3⟩
theorem FRow.keep {ss : List (List Int)} (h : FRow B w g t ss) (ht : t ≠ T) (hi : 3 ≠ T) (hk : Keep T w w') : FRow B w' g t ss := by
  obtain ⟨hg, hs, hl, ⟨vs, hvl, hb, hv⟩, hr⟩ := h
  exact ⟨hg, hs, hl, ⟨vs, hvl, hb.keep ht hk, hv⟩, fun j hj hj2 => ⟨(hr j hj hj2).1, (hr j hj hj2).2.1, (hr j hj hj2).2.2.keep hi hk⟩⟩
end
/-- A copied node, and where its parts lie. -/
structure CpQ where
  v : NodeD
  S : Nat
  J : Option Addr
  jc : Nat
  Q : Nat
def CpQ.cells (x : CpQ) : List Value := [.int .i64 x.v.op.kind, .int .i64 x.v.op.k, .int .i64 x.v.op.width, .int .i64 x.v.op.step, .int .i64 x.v.op.side, .int .i64 x.v.op.frm, .int .i64 x.v.op.to, .slice (some ⟨x.S, 0, none⟩) x.v.op.s.length x.v.op.s.length, .slice x.J x.v.ins.length x.jc, .slice (some ⟨x.Q, 0, none⟩) x.v.p.length x.v.p.length]
def CpQ.R (B : Nat) (w : World) (x : CpQ) : Prop := B ≤ x.S ∧ Blk w x.S 3 (x.v.op.s.map (Value.int .i64)).toArray ∧ w.ownsRow B 3 1 (.slice x.J x.v.ins.length x.jc) x.v.ins.length (x.v.ins.map (Value.int .i64)) ∧ FRow B w x.Q 23 x.v.p
theorem CpQ.len (x : CpQ) : x.cells.length = 10 := rfl
theorem CpQ.flat (L : List CpQ) : (L.flatMap CpQ.cells).length = L.length * 10 := by
  induction L with
  | nil => rfl
  | cons x r ih => rw [List.flatMap_cons, List.length_append, ih, CpQ.len, List.length_cons]; omega
theorem CpQ.R.keep {B : Nat} {w w' : World} {x : CpQ} {T : TypeId} (h : CpQ.R B w x) (h1 : 3 ≠ T) (h2 : 23 ≠ T) (hk : Keep T w w') : CpQ.R B w' x :=
  ⟨h.1, h.2.1.keep h1 hk, ownsRow_keep h.2.2.1 h1 hk, h.2.2.2.keep h2 h1 hk⟩
theorem CpQ.R.later {B : Nat} {w w' : World} {x : CpQ} (h : CpQ.R B w x) (hk : Later w w') : CpQ.R B w' x := h.keep (T := 42) (by decide) (by decide) (Keep.of_later hk)
/-- The first k nodes are copied into block g, of zc's cells behind them. -/
def CpRow (B : Nat) (wx : World) (g : Nat) (zc : Array Value) (ns : List NodeD) (k : Nat) : Prop :=
  ∃ L : List CpQ, L.map (·.v) = ns.take k ∧ L.length = k ∧ Blk wx g 42 (L.flatMap CpQ.cells ++ zc.toList.drop (k * 10)).toArray ∧ ∀ x ∈ L, CpQ.R B wx x
theorem CpRow.later {B : Nat} {w w' : World} {g : Nat} {zc : Array Value} {ns : List NodeD} {k : Nat} (h : CpRow B w g zc ns k) (hk : Later w w') : CpRow B w' g zc ns k := by
  obtain ⟨L, h1, h2, h3, h4⟩ := h
  exact ⟨L, h1, h2, hk.blk h3, fun x hx => (h4 x hx).later hk⟩
theorem CpRow.keep {B : Nat} {w w' : World} {g : Nat} {zc : Array Value} {ns : List NodeD} {k : Nat} {T : TypeId} (h : CpRow B w g zc ns k) (h1 : 3 ≠ T) (h2 : 23 ≠ T) (h3 : 42 ≠ T) (hk : Keep T w w') : CpRow B w' g zc ns k := by
  obtain ⟨L, l1, l2, l3, l4⟩ := h
  exact ⟨L, l1, l2, l3.keep h3 hk, fun x hx => (l4 x hx).keep h1 h2 hk⟩
theorem ownsRow_low {w : World} {B B' e s n : Nat} {v : Value} {xs : List Value} (h : w.ownsRow B e s v n xs) (hB : B' ≤ B) : w.ownsRow B' e s v n xs := by
  refine ⟨h.1, ?_⟩
  rcases h.2 with h | ⟨g, cap, cur, h1, h2, h3⟩
  · exact .inl h
  · exact .inr ⟨g, cap, cur, h1, Nat.le_trans hB h2, h3⟩
theorem CpQ.R.base {B B' : Nat} {w : World} {x : CpQ} (h : CpQ.R B w x) (hB : B' ≤ B) : CpQ.R B' w x := ⟨Nat.le_trans hB h.1, h.2.1, ownsRow_low h.2.2.1 hB, h.2.2.2.base hB⟩
theorem CpRow.zero {B : Nat} {w : World} {g : Nat} {zc : Array Value} {ns : List NodeD} (h : Blk w g 42 zc) : CpRow B w g zc ns 0 := ⟨[], by simp, rfl, by simpa using h, by simp⟩
/-- Ten cells from place o on. -/
def set10 (w : World) (g o : Nat) (l : List Value) : World := ((((((((((w.setCell ⟨g, o, none⟩ (l.getD 0 undef)).setCell ⟨g, o + 1, none⟩ (l.getD 1 undef)).setCell ⟨g, o + 2, none⟩ (l.getD 2 undef)).setCell ⟨g, o + 3, none⟩ (l.getD 3 undef)).setCell ⟨g, o + 4, none⟩ (l.getD 4 undef)).setCell ⟨g, o + 5, none⟩ (l.getD 5 undef)).setCell ⟨g, o + 6, none⟩ (l.getD 6 undef)).setCell ⟨g, o + 7, none⟩ (l.getD 7 undef)).setCell ⟨g, o + 8, none⟩ (l.getD 8 undef)).setCell ⟨g, o + 9, none⟩ (l.getD 9 undef))
theorem Blk.set10 {w : World} {g : Nat} {t : TypeId} {P R : List Value} {z0 z1 z2 z3 z4 z5 z6 z7 z8 z9 a0 a1 a2 a3 a4 a5 a6 a7 a8 a9 : Value} {o : Nat} (hP : P.length = o) (h : Blk w g t (P ++ z0 :: z1 :: z2 :: z3 :: z4 :: z5 :: z6 :: z7 :: z8 :: z9 :: R).toArray) :
    Blk (Go.Proofs.YtkmhagjdafeebaaGreat.set10 w g o [a0, a1, a2, a3, a4, a5, a6, a7, a8, a9]) g t (P ++ a0 :: a1 :: a2 :: a3 :: a4 :: a5 :: a6 :: a7 :: a8 :: a9 :: R).toArray := by
  subst hP
  have := (((((((((h.set_ P.length a0).set_ (P.length + 1) a1).set_ (P.length + 2) a2).set_ (P.length + 3) a3).set_ (P.length + 4) a4).set_ (P.length + 5) a5).set_ (P.length + 6) a6).set_ (P.length + 7) a7).set_ (P.length + 8) a8).set_ (P.length + 9) a9
  simpa [Go.Proofs.YtkmhagjdafeebaaGreat.set10, List.set_append_right] using this
theorem Keep.set10 {w : World} {g : Nat} {t : TypeId} {cs : Array Value} (h : Blk w g t cs) (o : Nat) (l : List Value) : Keep t w (Go.Proofs.YtkmhagjdafeebaaGreat.set10 w g o l) := by
  unfold Go.Proofs.YtkmhagjdafeebaaGreat.set10
  have s : ∀ {W : World} (hk : Keep t w W) (hc : ∃ cs, Blk W g t cs) (i : Nat) (u : Value), Keep t w (W.setCell ⟨g, i, none⟩ u) ∧ ∃ cs, Blk (W.setCell ⟨g, i, none⟩ u) g t cs := fun hk ⟨cs, hc⟩ i u => ⟨hk.trans (Keep.set_ hc i u), _, hc.set_ i u⟩
  have s0 := s (Keep.refl t w) ⟨_, h⟩ o (l.getD 0 undef)
  have s1 := s s0.1 s0.2 (o + 1) (l.getD 1 undef)
  have s2 := s s1.1 s1.2 (o + 2) (l.getD 2 undef)
  have s3 := s s2.1 s2.2 (o + 3) (l.getD 3 undef)
  have s4 := s s3.1 s3.2 (o + 4) (l.getD 4 undef)
  have s5 := s s4.1 s4.2 (o + 5) (l.getD 5 undef)
  have s6 := s s5.1 s5.2 (o + 6) (l.getD 6 undef)
  have s7 := s s6.1 s6.2 (o + 7) (l.getD 7 undef)
  have s8 := s s7.1 s7.2 (o + 8) (l.getD 8 undef)
  exact (s s8.1 s8.2 (o + 9) (l.getD 9 undef)).1
theorem drop_ten {zs : List Value} {o : Nat} (h : o + 10 ≤ zs.length) : ∃ z0 z1 z2 z3 z4 z5 z6 z7 z8 z9, zs.drop o = z0 :: z1 :: z2 :: z3 :: z4 :: z5 :: z6 :: z7 :: z8 :: z9 :: zs.drop (o + 10) := by
  refine ⟨zs[o], zs[o + 1], zs[o + 2], zs[o + 3], zs[o + 4], zs[o + 5], zs[o + 6], zs[o + 7], zs[o + 8], zs[o + 9], ?_⟩
  iterate 10 rw [List.drop_eq_getElem_cons (by omega)]
/-- The next node's cells are there, and what a copy put there leaves. -/
theorem CpRow.next {B : Nat} {w : World} {g : Nat} {zc : Array Value} {ns : List NodeD} {k : Nat} (h : CpRow B w g zc ns k) (hk : k < ns.length) (hz : zc.size = ns.length * 10) :
    (∃ z0 z1 z2 z3 z4 z5 z6 z7 z8 z9, w.cell? ⟨g, k * 10, none⟩ = some z0 ∧ w.cell? ⟨g, k * 10 + 1, none⟩ = some z1 ∧ w.cell? ⟨g, k * 10 + 2, none⟩ = some z2 ∧ w.cell? ⟨g, k * 10 + 3, none⟩ = some z3 ∧ w.cell? ⟨g, k * 10 + 4, none⟩ = some z4 ∧ w.cell? ⟨g, k * 10 + 5, none⟩ = some z5 ∧ w.cell? ⟨g, k * 10 + 6, none⟩ = some z6 ∧ w.cell? ⟨g, k * 10 + 7, none⟩ = some z7 ∧ w.cell? ⟨g, k * 10 + 8, none⟩ = some z8 ∧ w.cell? ⟨g, k * 10 + 9, none⟩ = some z9) ∧
    (∀ i, w.frozen? ⟨g, i, none⟩ = false) ∧
    ∀ x : CpQ, x.v = ns[k] → CpQ.R B w x → CpRow B (Go.Proofs.YtkmhagjdafeebaaGreat.set10 w g (k * 10) x.cells) g zc ns (k + 1) ∧ Keep 42 w (Go.Proofs.YtkmhagjdafeebaaGreat.set10 w g (k * 10) x.cells) := by
  obtain ⟨L, h1, h2, h3, h4⟩ := h
  obtain ⟨z0, z1, z2, z3, z4, z5, z6, z7, z8, z9, e⟩ := drop_ten (zs := zc.toList) (o := k * 10) (by simp; omega)
  rw [e] at h3
  have hl : (L.flatMap CpQ.cells).length = k * 10 := by rw [CpQ.flat, h2]
  refine ⟨⟨z0, z1, z2, z3, z4, z5, z6, z7, z8, z9, ?_, ?_, ?_, ?_, ?_, ?_, ?_, ?_, ?_, ?_⟩, fun i => h3.frozen i, fun x hx hR => ⟨⟨L ++ [x], ?_, by simp [h2], ?_, fun y hy => ?_⟩, Keep.set10 h3 _ _⟩⟩
  all_goals first | (rw [h3.cell]; simp [← hl]; done) | skip
  · rw [List.map_append, h1, List.take_succ_eq_append_getElem hk, ← hx]; rfl
  · have := Blk.set10 (a0 := .int .i64 x.v.op.kind) (a1 := .int .i64 x.v.op.k) (a2 := .int .i64 x.v.op.width) (a3 := .int .i64 x.v.op.step) (a4 := .int .i64 x.v.op.side) (a5 := .int .i64 x.v.op.frm) (a6 := .int .i64 x.v.op.to) (a7 := .slice (some ⟨x.S, 0, none⟩) x.v.op.s.length x.v.op.s.length) (a8 := .slice x.J x.v.ins.length x.jc) (a9 := .slice (some ⟨x.Q, 0, none⟩) x.v.p.length x.v.p.length) hl h3
    rw [List.flatMap_append, List.append_assoc, show (k + 1) * 10 = k * 10 + 10 by omega]
    exact this
  · have hkp : Keep 42 w (Go.Proofs.YtkmhagjdafeebaaGreat.set10 w g (k * 10) x.cells) := Keep.set10 h3 _ _
    rcases List.mem_append.1 hy with hy | hy
    · exact (h4 y hy).keep (by decide) (by decide) hkp
    · simp at hy; subst hy; exact hR.keep (by decide) (by decide) hkp
theorem Later.set10 {w w1 : World} {g o : Nat} {l : List Value} (h : Later w w1) (hg : w.heap.size ≤ g) : Later w (Go.Proofs.YtkmhagjdafeebaaGreat.set10 w1 g o l) := by
  unfold Go.Proofs.YtkmhagjdafeebaaGreat.set10
  exact (((((((((h.set (p := ⟨g, o, none⟩) hg _).set (p := ⟨g, o + 1, none⟩) hg _).set (p := ⟨g, o + 2, none⟩) hg _).set (p := ⟨g, o + 3, none⟩) hg _).set (p := ⟨g, o + 4, none⟩) hg _).set (p := ⟨g, o + 5, none⟩) hg _).set (p := ⟨g, o + 6, none⟩) hg _).set (p := ⟨g, o + 7, none⟩) hg _).set (p := ⟨g, o + 8, none⟩) hg _).set (p := ⟨g, o + 9, none⟩) hg _
theorem copy_step {B : Nat} {w w1 : World} {g G a r k : Nat} {zc : Array Value} {ns : List NodeD} {cG ca cr : Array Value} {v : NodeD} {h q : Nat} {J : Option Addr} {jc : Nat}
    (hput : ∀ x : CpQ, x.v = v → CpQ.R B w x → CpRow B (Go.Proofs.YtkmhagjdafeebaaGreat.set10 w g (k * 10) x.cells) g zc ns (k + 1) ∧ Keep 42 w (Go.Proofs.YtkmhagjdafeebaaGreat.set10 w g (k * 10) x.cells))
    (hR : CpQ.R B w ⟨v, h, J, jc, q⟩) (hG : Blk w G 45 cG) (ha : Blk w a 3 ca) (hr : Blk w r 45 cr) (hl : Later w1 w) (hg : w1.heap.size ≤ g) :
    CpRow B (Go.Proofs.YtkmhagjdafeebaaGreat.set10 w g (k * 10) (CpQ.cells ⟨v, h, J, jc, q⟩)) g zc ns (k + 1) ∧ Blk (Go.Proofs.YtkmhagjdafeebaaGreat.set10 w g (k * 10) (CpQ.cells ⟨v, h, J, jc, q⟩)) G 45 cG ∧ Blk (Go.Proofs.YtkmhagjdafeebaaGreat.set10 w g (k * 10) (CpQ.cells ⟨v, h, J, jc, q⟩)) a 3 ca ∧
      Blk (Go.Proofs.YtkmhagjdafeebaaGreat.set10 w g (k * 10) (CpQ.cells ⟨v, h, J, jc, q⟩)) r 45 cr ∧ Later w1 (Go.Proofs.YtkmhagjdafeebaaGreat.set10 w g (k * 10) (CpQ.cells ⟨v, h, J, jc, q⟩)) := by
  obtain ⟨h1, h2⟩ := hput _ rfl hR
  exact ⟨h1, hG.keep (by decide) h2, ha.keep (by decide) h2, hr.keep (by decide) h2, hl.set10 hg⟩
/-- A copied row reads as its nodes. -/
theorem CpRow.nodes {B : Nat} {w : World} {g : Nat} {zc : Array Value} {ns : List NodeD} (h : CpRow B w g zc ns ns.length) (hs : ∀ v ∈ ns, v.op.s.length ≤ 1048576 ∧ v.p.length ≤ 1048576 ∧ ∀ s ∈ v.p, s.length ≤ 1048576) : Nodes w (some ⟨g, 0, none⟩) ns := fun j hj => by
  obtain ⟨L, h1, h2, h3, h4⟩ := h
  rw [List.take_length] at h1
  subst h1
  rw [List.length_map] at hj
  have hx := h4 L[j] (List.getElem_mem hj)
  have hsz := hs L[j].v (List.mem_map.2 ⟨_, List.getElem_mem hj, rfl⟩)
  obtain ⟨q1, q2, q3, q4⟩ := hx
  obtain ⟨r1, r2, r3⟩ := own_ints q3
  have hsplit : L = L.take j ++ L[j] :: L.drop (j + 1) := by rw [← List.drop_eq_getElem_cons hj, List.take_append_drop]
  have hfl : ((L.take j).flatMap CpQ.cells).length = j * 10 := by rw [CpQ.flat]; simp; omega
  have hcell : ∀ i, i < 10 → w.cell? ⟨g, j * 10 + i, none⟩ = L[j].cells[i]? := fun i hi => by
    rw [h3.cell]
    conv => lhs; rw [hsplit, List.flatMap_append, List.flatMap_cons, List.append_assoc, List.append_assoc]
    rw [List.getElem?_toArray, List.getElem?_append_right (by omega), hfl, show j * 10 + i - j * 10 = i by omega, List.getElem?_append_left (by rw [CpQ.len]; exact hi)]
  rw [List.getElem_map]
  refine ⟨g, 0, some ⟨L[j].S, 0, none⟩, L[j].v.op.s.length, L[j].J, L[j].jc, some ⟨L[j].Q, 0, none⟩, L[j].v.p.length, rfl, h3.lt, ?_, ?_, ?_, ?_, ?_, ?_, ?_, ?_, ?_, ?_, ⟨?_, Nat.le_refl _, by omega⟩, ⟨r1, r2, r3⟩, ⟨q4.shps (fun s h => by have := hsz.2.2 s h; omega), Nat.le_refl _, by omega⟩⟩
  all_goals first | (rw [Nat.zero_add]; exact hcell 0 (by omega)) | (rw [Nat.zero_add]; exact hcell _ (by omega)) | skip
  exact Ints.of_row fun i hi => by
    rw [Nat.zero_add, q2.cell i, getD_at hi]
    simp [hi]
/-- A copied net. -/
def NetCp (B : Nat) (n : NetD) (e : Ending) (w' : World) : Prop :=
  ∃ a g zc, e = .returned (.agg #[.slice (some ⟨a, 0, none⟩) n.inn.length n.inn.length, .slice (some ⟨g, 0, none⟩) n.nodes.length n.nodes.length]) ∧ B ≤ a ∧ B ≤ g ∧ Blk w' a 3 (n.inn.map (Value.int .i64)).toArray ∧ CpRow B w' g zc n.nodes n.nodes.length
end Go.Proofs.YtkmhagjdafeebaaGreat
/- The reference of layer 11: has, Order, Users: contracts. -/
namespace Go.Proofs.YtkmhagjdafeebaaGreat
open Go.RowKit
def hasB (zs : List Int) (x : Int) : Bool := zs.contains x
end Go.Proofs.YtkmhagjdafeebaaGreat
/- Layer 11 (net): Params, and what the statements ask of users: contracts. -/
namespace Go.Proofs.YtkmhagjdafeebaaGreat
open Go.RowKit
/-- These values are shapes, each in a block of its own. -/
def PList (w : World) (vs : List Value) (ss : List (List Int)) : Prop :=
  vs.length = ss.length ∧ ∀ j (hj : j < ss.length), ∃ h, vs[j]? = some (.slice (some ⟨h, 0, none⟩) ss[j].length ss[j].length) ∧ Blk w h 3 (ss[j].map (Value.int .i64)).toArray
theorem PList.nil (w : World) : PList w [] [] := ⟨rfl, fun j hj => absurd hj (by simp)⟩
theorem PList.append {w : World} {vs vs' : List Value} {ss ss' : List (List Int)} (h : PList w vs ss) (h' : PList w vs' ss') : PList w (vs ++ vs') (ss ++ ss') := by
  refine ⟨by simp [h.1, h'.1], fun j hj => ?_⟩
  by_cases hl : j < ss.length
  · obtain ⟨g, e, hb⟩ := h.2 j hl
    have e2 : (ss ++ ss')[j] = ss[j] := by simp [hl]
    rw [e2]
    exact ⟨g, by rw [List.getElem?_append_left (by rw [h.1]; exact hl)]; exact e, hb⟩
  · have hl2 : j - ss.length < ss'.length := by simp at hj; omega
    obtain ⟨g, e, hb⟩ := h'.2 (j - ss.length) hl2
    have e2 : (ss ++ ss')[j] = ss'[j - ss.length] := by rw [List.getElem_append_right (by omega)]
    rw [e2]
    exact ⟨g, by rw [List.getElem?_append_right (by rw [h.1]; omega), h.1]; exact e, hb⟩
theorem PList.keep {w w' : World} {vs : List Value} {ss : List (List Int)} {T : TypeId} (h : PList w vs ss) (hT : 3 ≠ T) (hk : Keep T w w') : PList w' vs ss :=
  ⟨h.1, fun j hj => by obtain ⟨g, e, hb⟩ := h.2 j hj; exact ⟨g, e, hb.keep hT hk⟩⟩
theorem PList.one {w : World} {vs : List Value} {ss : List (List Int)} (h : PList w vs ss) : ∀ u ∈ vs, u.oneCell' = true := fun u hu => by
  obtain ⟨j, hj, rfl⟩ := List.getElem_of_mem hu
  obtain ⟨g, e, _⟩ := h.2 j (by rw [← h.1]; exact hj)
  rw [List.getElem?_eq_getElem hj] at e
  injection e with e
  rw [e]; rfl
theorem FRow.plist {B : Nat} {w : World} {g : Nat} {t : TypeId} {ss : List (List Int)} (h : FRow B w g t ss) : ∃ vs : List Value, Blk w g t vs.toArray ∧ PList w vs ss := by
  obtain ⟨_, hs, hl, ⟨vs, hvl, hb, hv⟩, hr⟩ := h
  exact ⟨vs, hb, hvl, fun j hj => ⟨hs[j]'(by omega), hv j hj (by omega), (hr j hj (by omega)).2.2⟩⟩
theorem Keep.of_grown {T : TypeId} {w w' : World} {B s n : Nat} {v : Value} {xs : List Value} (h : w.ownsRow B T s v n xs) (hg : w.grownBy w' v.ownBlock) : Keep T w w' := by
  refine ⟨hg.size, fun b cs t hb ht => hg.block b (lt_of_block hb) fun e => ?_⟩
  rcases h.2 with ⟨rfl, _⟩ | ⟨g, cap, cur, rfl, _, hh, _⟩
  · simp [Value.ownBlock] at e
  · simp [Value.ownBlock] at e
    subst e
    rw [hh] at hb
    injection hb with hb
    injection hb with _ hb _
    exact ht hb.symm
theorem news_blk {w : World} {g : Nat} {t : TypeId} {vs : List Value} (h : Blk w g t vs.toArray) : ∀ (j : Nat) (u : Value), vs[j]? = some u → w.cell? (Addr.add ⟨g, 0, none⟩ j) = some u := fun j u hu => by
  have : (Addr.add ⟨g, 0, none⟩ j) = ⟨g, j, none⟩ := by by_cases e : j = 0 <;> simp [Addr.add, e]
  rw [this, h.cell]
  simpa using hu
theorem PList.shps {w : World} {vs : List Value} {ss : List (List Int)} {B n : Nat} {t : TypeId} {v : Value} (h : PList w vs ss) (hown : w.ownsRow B t 1 v n vs) (hs : ∀ s ∈ ss, s.length ≤ 1048576) :
    ∃ A c, v = .slice A ss.length c ∧ n = ss.length ∧ Shps w A ss ∧ ss.length ≤ c ∧ c ≤ 9223372036854775807 := by
  have hn : n = ss.length := by have := hown.1; have := h.1; omega
  subst hn
  rcases hown.2 with ⟨rfl, h0⟩ | ⟨g, cap, cur, rfl, hb, hh, r1, r2, r3, r4⟩
  · have : ss = [] := List.eq_nil_of_length_eq_zero h0
    subst this
    exact ⟨none, 0, rfl, rfl, Shps.nil, by simp, by omega⟩
  · refine ⟨_, cap, rfl, rfl, fun j hj => ?_, r1, by unfold maxLen at r2; omega⟩
    obtain ⟨b, e, hbk⟩ := h.2 j hj
    refine ⟨g, 0, _, _, rfl, lt_of_block hh, by rw [Nat.zero_add, hown.cellAt j (by omega)]; exact e, Ints.of_row fun i hi => ?_, Nat.le_refl _, by have := hs _ (List.getElem_mem hj); omega⟩
    rw [Nat.zero_add, hbk.cell i, getD_at hi]
    simp [hi]
def ParamsP (n : NetD) (w : World) (e : Ending) (w' : World) : Prop :=
  ∃ A c, e = .returned (.slice A (Nt.params n).length c) ∧ Shps w' A (Nt.params n) ∧ (Nt.params n).length ≤ c ∧ c ≤ 9223372036854775807 ∧ Below w.heap.size w w'
theorem params_len {n : NetD} (hok : n.ok) (k : Nat) : ((n.nodes.take k).flatMap (·.p)).length ≤ k * 1048576 := by
  induction k with
  | zero => simp
  | succ k ih =>
    by_cases hk : k < n.nodes.length
    · rw [List.take_succ_eq_append_getElem hk, List.flatMap_append, List.length_append]
      have h1 := (hok.2.2 _ (List.getElem_mem hk)).2.2.2.1
      have e : [n.nodes[k]].flatMap (·.p) = n.nodes[k].p := by simp
      rw [e]; omega
    · rw [List.take_of_length_le (by omega)]
      rw [List.take_of_length_le (by omega)] at ih
      exact Nat.le_trans ih (Nat.mul_le_mul_right _ (Nat.le_succ _))
set_option maxRecDepth 20000 in
set_option maxHeartbeats 8000000 in
theorem net_params (A N : Option Addr) (c d : Nat) (n : NetD) (w : World) (hok : n.ok) (hR : NetR w A N n) :
    Calls Tryz.prog 37 #[.agg #[.slice A n.inn.length c, .slice N n.nodes.length d]] w (ParamsP n w) := by
  obtain ⟨i0, hi, hz0, hz1, hz2⟩ := info_parts shpT_info
  have hnl := hok.2.1
  have hpl := fun k => params_len hok k
  have hb0 : Later w (w.alloc (.cells #[.slice A n.inn.length c, .slice N n.nodes.length d] 45)) := (Later.refl _).alloc _
  have Hok := Lib.hid hok
  have HR := Lib.hid hR
  have Hpl := Lib.hid hpl
  have Hb0 := Lib.hid hb0
  clear hok hR hpl hb0
  go_enter Tryz.func37, Tryz.ntmps37
  go_wp2_with fail
  generalize w.alloc (.cells #[.slice A n.inn.length c, .slice N n.nodes.length d] 45) = w1 at *
  go_loopw [3, 9] (fun o i wx => ∃ (k : Nat) (vs : List Value), k ≤ n.nodes.length ∧ i = .int .i64 (k : Int) ∧ wx.ownsRow w.heap.size 23 1 o ((n.nodes.take k).flatMap (·.p)).length vs ∧ PList wx vs ((n.nodes.take k).flatMap (·.p)) ∧ Below w.heap.size w wx) (fun _ i _ => n.nodes.length - (intOf i).toNat)
  case atStart => exact ⟨0, [], Nat.zero_le _, rfl, by simpa using World.ownsRow_nil w1 w.heap.size 23 1, by simpa using PList.nil w1, Hb0.out⟩
  case round =>
    obtain ⟨k, vs, hk, rfl, hown, hpv, hbw⟩ := hrel
    clear Hb0
    obtain ⟨Ao, co, rfl⟩ := own_form hown
    by_cases hlt : k < n.nodes.length
    · obtain ⟨b, off, S, sc, J, ic, Q, qc, rfl, hNA, -, -, -⟩ := HR.out.2.at_ hlt
      have hnok := Hok.out.2.2 _ (List.getElem_mem hlt)
      have hpl2 := hnok.2.2.2.1
      have hps := hnok.2.2.2.2.1
      have hQi := hNA.2.2.2
      have hlk := Hpl.out k
      have hsn : (n.nodes.take (k + 1)).flatMap (·.p) = (n.nodes.take k).flatMap (·.p) ++ n.nodes[k].p := by rw [List.take_succ_eq_append_getElem hlt, List.flatMap_append]; simp
      have hkb : k * 1048576 ≤ 1048576 * 1048576 := Nat.mul_le_mul_right _ (by omega)
      generalize n.nodes[k] = v at *
      generalize (n.nodes.take k).flatMap (·.p) = ss at *
      obtain ⟨⟨y0, y1, y2, y3, y4, y5, y6, y7, y8, y9⟩, -⟩ := hNA.below hbw
      have hl2 : Later wr (wr.alloc (.cells #[.int .i64 v.op.kind, .int .i64 v.op.k, .int .i64 v.op.width, .int .i64 v.op.step, .int .i64 v.op.side, .int .i64 v.op.frm, .int .i64 v.op.to, .slice S v.op.s.length sc, .slice J v.ins.length ic, .slice Q v.p.length qc] 42)) := (Later.refl wr).alloc _
      have HNA := Lib.hid hNA
      have Hnok := Lib.hid hnok
      have Hps := Lib.hid hps
      have HQi := Lib.hid hQi
      have Hsn := Lib.hid hsn
      have Hown := Lib.hid hown
      have Hpv := Lib.hid hpv
      have Hl2 := Lib.hid hl2
      clear hNA hnok hps hQi hsn hown hpv hl2
      go_wp2_with fail
      clear y0 y1 y2 y3 y4 y5 y6 y7 y8 y9
      generalize wr.alloc (.cells #[.int .i64 v.op.kind, .int .i64 v.op.k, .int .i64 v.op.width, .int .i64 v.op.step, .int .i64 v.op.side, .int .i64 v.op.frm, .int .i64 v.op.to, .slice S v.op.s.length sc, .slice J v.ins.length ic, .slice Q v.p.length qc] 42) = w2 at *
      refine (net_copies Q qc v.p _ hpl2 Hps.out (HQi.out.below (hbw.trans (Below.mono Hl2.out hbw.size)) (Nat.le_refl _))).mono ?_
      rintro e w3 ⟨g, rfl, hF, hb3⟩
      have hl3 := Hl2.out.call hb3
      obtain ⟨ws, hgb, hpw⟩ := hF.plist
      have ho3 := ownsRow_keep (T := 42) Hown.out (by decide) (Keep.of_later hl3)
      have hp3 := Hpv.out.keep (T := 42) (by decide) (Keep.of_later hl3)
      have hwl : ws.length = v.p.length := hpw.1
      have hone := hpw.one
      have hnews := news_blk hgb
      have hbw3 := hbw.trans (Below.mono hl3 hbw.size)
      have hsz3 := hbw3.size
      have HLO := Lib.hid (fun b (hb : (Value.slice Ao ss.length co).ownBlock = some b) => (ho3.lt b hb).1)
      have HF := Lib.hid hF
      have Hl3 := Lib.hid hl3
      have Hp3 := Lib.hid hp3
      have Hpw := Lib.hid hpw
      have Hgb := Lib.hid hgb
      clear hF hl3 hp3 hpw hgb
      clear hb3 Hown Hpv
      go_wp2_with (at_builtin; refine wpList_append_own_at _ rfl _ _ 40 rfl w.heap.size 23 i0 (.slice none 0 0) 1 24 Tryz.underlying40 hi hz0 hz1 hz2 rfl (by decide) _ _ _ rfl ho3 ⟨g, 0, none⟩ v.p.length v.p.length ws rfl (by rw [hwl]; omega) hnews hone (by unfold maxLen; omega) (by omega) hsz3 ?_)
      intro v' w4 hown' hgrow _ hat
      have hkp : Keep 23 w3 w4 := Keep.of_grown ho3 hgrow
      have hp4 := (Hp3.out.keep (by decide) hkp).append (Hpw.out.keep (by decide) hkp)
      have hb4 : Below w.heap.size w w4 := hbw3.grown hgrow hsz3 (fun b hb => HLO.out b hb)
      rw [show ss.length + v.p.length = (ss ++ v.p).length by simp, ← Hsn.out] at hown'
      rw [← Hsn.out] at hp4
      have Hown' := Lib.hid hown'
      have Hp4 := Lib.hid hp4
      clear hown' hp4
      clear hkp hgrow hat ho3 HLO hnews hone hwl
      go_wp2_with fail
      go_roundw
      case rel => exact ⟨k + 1, vs ++ ws, by omega, by go_num, Hown'.out, Hp4.out, hb4⟩
      case measure => simp [intOf]; omega
    · obtain rfl : k = n.nodes.length := by omega
      rw [List.take_length] at *
      have hps : ∀ s ∈ n.nodes.flatMap (·.p), s.length ≤ 1048576 := fun s hs => by
        obtain ⟨v, hv, hs⟩ := List.mem_flatMap.1 hs
        exact (Hok.out.2.2 v hv).2.2.2.2.1 s hs
      obtain ⟨A', c', e, -, q1, q2, q3⟩ := hpv.shps hown hps
      injection e with e1 e2 e3
      subst e1 e3
      have hdef : Nt.params n = n.nodes.flatMap (·.p) := rfl
      have Hown := Lib.hid hown
      have Hpv := Lib.hid hpv
      have Hps := Lib.hid hps
      have Hq1 := Lib.hid q1
      have Hq2 := Lib.hid q2
      have Hq3 := Lib.hid q3
      have Hdef := Lib.hid hdef
      clear hown hpv hps q1 q2 q3 hdef
      clear e2
      go_wp2_with fail
      go_ret
      exact ⟨Ao, co, by (rw [Hdef.out] <;> rfl), by rw [Hdef.out]; exact Hq1.out, by rw [Hdef.out]; exact Hq2.out, Hq3.out, hbw⟩
theorem ids_at {n k : Nat} (hk : k < n) : (Kn.ids n)[k]? = some ((k : Int) + 1) := by
  induction n with
  | zero => omega
  | succ n ih =>
    rw [Kn.ids_succ]
    by_cases h : k < n
    · rw [List.getElem?_append_left (by rw [Kn.ids_length]; exact h)]; exact ih h
    · obtain rfl : k = n := by omega
      rw [List.getElem?_append_right (by rw [Kn.ids_length]; exact Nat.le_refl _), Kn.ids_length]; simp
theorem ids_mem {n : Nat} {u : Int} (h : u ∈ Kn.ids n) : 1 ≤ u ∧ u ≤ n := by
  obtain ⟨k, hk, rfl⟩ := List.getElem_of_mem h
  rw [Kn.ids_length] at hk
  have := ids_at hk
  rw [List.getElem?_eq_getElem (by rw [Kn.ids_length]; exact hk)] at this
  injection this with this
  rw [this]; omega
theorem ids_asc (n : Nat) : (Kn.ids n).Pairwise (· < ·) := by
  induction n with
  | zero => exact List.Pairwise.nil
  | succ n ih =>
    rw [Kn.ids_succ, List.pairwise_append]
    exact ⟨ih, List.pairwise_singleton _ _, fun a ha b hb => by have := (ids_mem ha).2; simp at hb; omega⟩
theorem users_mem {n : NetD} {id u : Int} (h : u ∈ Nt.users n id) : 1 ≤ u ∧ u ≤ n.nodes.length ∧ hasB (Nt.insF n.nodes u) id = true := by
  unfold Nt.users at h
  obtain ⟨h1, h2⟩ := List.mem_filter.1 h
  exact ⟨(ids_mem h1).1, (ids_mem h1).2, h2⟩
theorem users_up {n : NetD} {id : Int} {k : Nat} (hk : k < (Nt.users n id).length) : ((Nt.users n id).take k).getLastD 0 < (Nt.users n id)[k] := by
  have hp : (Nt.users n id).Pairwise (· < ·) := (ids_asc _).filter _
  by_cases h0 : k = 0
  · subst h0
    have := (users_mem (List.getElem_mem hk)).1
    simp; omega
  · rw [List.getLastD_eq_getLast?, List.getLast?_take, if_neg h0]
    rw [List.getElem?_eq_getElem (by omega)]
    simp only [Option.some_or, Option.getD_some]
    exact List.pairwise_iff_getElem.1 hp _ _ _ _ (by omega)
theorem params_at {n : NetD} {k m : Nat} (hk : k < n.nodes.length) (hm : m < n.nodes[k].p.length) : ((n.nodes.take k).flatMap (·.p)).length + m < (Nt.params n).length ∧ (Nt.params n)[((n.nodes.take k).flatMap (·.p)).length + m]? = some n.nodes[k].p[m] := by
  have e : Nt.params n = (n.nodes.take k).flatMap (·.p) ++ (n.nodes[k].p ++ (n.nodes.drop (k + 1)).flatMap (·.p)) := by
    unfold Nt.params
    conv => lhs; rw [← List.take_append_drop k n.nodes, List.drop_eq_getElem_cons hk, List.flatMap_append, List.flatMap_cons]
  rw [e]
  refine ⟨by simp only [List.length_append]; omega, ?_⟩
  rw [List.getElem?_append_right (by omega), Nat.add_sub_cancel_left, List.getElem?_append_left hm, List.getElem?_eq_getElem hm]
end Go.Proofs.YtkmhagjdafeebaaGreat
/- Layer 26: the trainer in memory; Restore: contract. -/
namespace Go.Proofs.YtkmhagjdafeebaaGreat
open Go.RowKit
namespace Tt
/-- The error of what is to be restored, where these are the shapes of the parameters. -/
def rest (ss : List (List Int)) (s : Sav) : Int := if Tn.alike s.p s.v = false ∨ s.p.length ≠ ss.length then 20 else if s.p.map (·.s) ≠ ss then 20 else if 1024 < s.m.length then 12 else 0
def boxV (A N P V M : Option Addr) (c d c1 c2 c3 D : Nat) (n : NetD) (s : Sav) : Array Value :=
  #[.slice A n.inn.length c, .slice N n.nodes.length d, .int .i64 0, .int .i64 0, .int .i64 0, .int .i64 0, .int .i64 0, .int .i64 0, .int .i64 1, .int .i64 1000, .int .i64 1, .slice (some ⟨D, 0, none⟩) 0 0, .slice P s.p.length c1, .slice V s.v.length c2, .slice M s.m.length c3, .bool false, .int .i64 0, .slice none 0 0, .int .i64 0, .int .i64 0, .int .i64 0, .int .i64 0, .int .i64 0]
end Tt
/-- A trainer at block g, its net as it was at wp. -/
structure TrR (g : Nat) (wp : World) (A N P V M : Option Addr) (c d c1 c2 c3 D : Nat) (n : NetD) (s : Sav) (w : World) : Prop where
  size : wp.heap.size ≤ g
  net : NetR wp A N n
  hd : n.nodes.length ≤ d
  below : Below g wp w
  box : Blk w g 87 (Tt.boxV A N P V M c d c1 c2 c3 D n s)
  sav : SavR w P V M s
theorem TrR.later {g : Nat} {wp : World} {A N P V M : Option Addr} {c d c1 c2 c3 D : Nat} {n : NetD} {s : Sav} {w w' : World} (h : TrR g wp A N P V M c d c1 c2 c3 D n s w) (hl : Later w w') : TrR g wp A N P V M c d c1 c2 c3 D n s w' :=
  ⟨h.size, h.net, h.hd, h.below.trans (hl.mono (Nat.le_of_lt h.box.lt)), hl.blk h.box, h.sav.below hl (Nat.le_refl _)⟩
def RestP (g : Nat) (wp : World) (A N : Option Addr) (c d D : Nat) (n : NetD) (s s0 : Sav) (w : World) (e : Ending) (w' : World) : Prop :=
  e = .returned (.int .i64 (Tt.rest (Nt.params n) s)) ∧ (∃ P V M c1 c2 c3, TrR g wp A N P V M c d c1 c2 c3 D n (if Tt.rest (Nt.params n) s = 0 then s else s0) w') ∧ Fr (fun b => b = g) w w'
theorem set3_box {g : Nat} {w : World} {A N P V M P' V' M' : Option Addr} {c d c1 c2 c3 d1 d2 d3 D : Nat} {n : NetD} {s s' : Sav} (h : Blk w g 87 (Tt.boxV A N P V M c d c1 c2 c3 D n s)) :
    Blk (((w.setCell ⟨g, 12, none⟩ (.slice P' s'.p.length d1)).setCell ⟨g, 13, none⟩ (.slice V' s'.v.length d2)).setCell ⟨g, 14, none⟩ (.slice M' s'.m.length d3)) g 87 (Tt.boxV A N P' V' M' c d d1 d2 d3 D n s') := by
  have := ((h.set_ 12 (.slice P' s'.p.length d1)).set_ 13 (.slice V' s'.v.length d2)).set_ 14 (.slice M' s'.m.length d3)
  exact this
set_option maxHeartbeats 8000000 in
set_option maxRecDepth 20000 in
theorem trainer_restore (g : Nat) (wp : World) (A N P0 V0 M0 P V M : Option Addr) (c d c1 c2 c3 e1 e2 e3 D : Nat) (n : NetD) (s s0 : Sav) (w : World) (hok : n.ok) (hT : TrR g wp A N P0 V0 M0 c d c1 c2 c3 D n s0 w) (hs : s.ok) (hS : SavR w P V M s) :
    Calls Tryz.prog 15 #[.pointer (some ⟨g, 0, none⟩), .agg #[.slice P s.p.length e1, .slice V s.v.length e2, .slice M s.m.length e3]] w (RestP g wp A N c d D n s s0 w) := by
  have hk0 := Blk.new w 32 #[.slice P s.p.length e1, .slice V s.v.length e2, .slice M s.m.length e3]
  have h00 := (Later.refl w).alloc (.cells #[.slice P s.p.length e1, .slice V s.v.length e2, .slice M s.m.length e3] 32)
  have hsz0 : (w.alloc (.cells #[.slice P s.p.length e1, .slice V s.v.length e2, .slice M s.m.length e3] 32)).heap.size = w.heap.size + 1 := by simp
  have hT0 := hT.later h00
  have hgl := hT.box.lt
  obtain ⟨s1, s2, s3, s4, s5⟩ := hs
  have Hok := Lib.hid hok
  have HT := Lib.hid hT
  have HS := Lib.hid hS
  have Hk0 := Lib.hid hk0
  have H00 := Lib.hid h00
  have HT0 := Lib.hid hT0
  have Hs4 := Lib.hid s4
  have Hs5 := Lib.hid s5
  clear hok hT hS hk0 h00 hT0 s4 s5
  go_enter Tryz.func15, Tryz.ntmps15
  go_upto_region 1 with fail
  generalize w.alloc (.cells #[.slice P s.p.length e1, .slice V s.v.length e2, .slice M s.m.length e3] 32) = w0 at *
  have b0 : w0.cell? ⟨g, 0, none⟩ = some (.slice A n.inn.length c) := HT0.out.box.cell 0
  have b1 : w0.cell? ⟨g, 1, none⟩ = some (.slice N n.nodes.length d) := HT0.out.box.cell 1
  go_wp2_with fail
  refine (net_params A N c d n w0 Hok.out (HT0.out.net.below HT0.out.below HT0.out.size)).mono ?_
  rintro e w1 ⟨B, bc, rfl, hB, hB1, hB2, hb1⟩
  have h01 : Later w0 w1 := hb1
  have hk1 := h01.blk Hk0.out
  have h0w1 := H00.out.trans h01
  have hsl : ∀ t ∈ Nt.params n, t.length ≤ 1048576 := fun t ht => by
    unfold Nt.params at ht
    obtain ⟨v, hv, hvs⟩ := List.mem_flatMap.1 ht
    exact (Hok.out.2.2 v hv).2.2.2.2.1 t hvs
  have HE := Lib.hid (show Tt.rest (Nt.params n) s = (if Tn.alike s.p s.v = false ∨ s.p.length ≠ (Nt.params n).length then 20 else if s.p.map (·.s) ≠ Nt.params n then 20 else if 1024 < s.m.length then 12 else 0) from rfl)
  have HGoal := Lib.hid (fun (e : Ending) (w' : World) (h : e = .returned (.int .i64 (Tt.rest (Nt.params n) s)) ∧ (∃ P V M c1 c2 c3, TrR g wp A N P V M c d c1 c2 c3 D n (if Tt.rest (Nt.params n) s = 0 then s else s0) w') ∧ Fr (fun b => b = g) w w') => (show RestP g wp A N c d D n s s0 w e w' from h))
  have Hbad := Lib.hid (fun (w' : World) (r : Int) (hl : Later w w') (hr : Tt.rest (Nt.params n) s = r) (hz : r ≠ 0) => HGoal.out (.returned (.int .i64 r)) w' ⟨by rw [hr], ⟨P0, V0, M0, c1, c2, c3, by rw [if_neg (by rw [hr]; exact hz)]; exact HT.out.later hl⟩, Fr.of_below hl fun b hb _ => hb⟩)
  clear hb1 b0 b1
  generalize Nt.params n = ss at *
  have c0 := hk1.cell 0
  have c1' := hk1.cell 1
  simp at c0 c1'
  have HB := Lib.hid hB
  have Hsl := Lib.hid hsl
  have Hk1 := Lib.hid hk1
  have H01 := Lib.hid h01
  have H0w1 := Lib.hid h0w1
  clear hB hsl hk1 h01 h0w1
  go_wp2_with fail
  refine (state_right P V e1 e2 s.p s.v w1 (by omega) (by omega) (HS.out.1.below H0w1.out (Nat.le_refl _)) (HS.out.2.1.below H0w1.out (Nat.le_refl _))).mono ?_
  rintro e w2 ⟨rfl, h2⟩
  have h12 : Later w1 w2 := h2
  have h0w2 := H0w1.out.trans h12
  have hk2 := h12.blk Hk1.out
  clear h2 c0 c1'
  cases ha : Tn.alike s.p s.v
  · have HR := Lib.hid (Hbad.out w2 20 h0w2 (by rw [HE.out, if_pos (.inl ha)]) (by decide))
    clear ha
    go_wp2_with fail
    go_ret
    exact HR.out
  obtain ⟨-, har, hav, hash⟩ := Kp.alike_all ha
  have c0 := hk2.cell 0
  have c1' := hk2.cell 1
  have c2' := hk2.cell 2
  simp at c0 c1' c2'
  have Hk2 := Lib.hid hk2
  have H12 := Lib.hid h12
  have H0w2 := Lib.hid h0w2
  have Har := Lib.hid har
  have Hav := Lib.hid hav
  have Hash := Lib.hid hash
  clear hk2 h12 h0w2 har hav hash
  by_cases hn : s.p.length = ss.length
  case neg =>
    have HR := Lib.hid (Hbad.out w2 20 H0w2.out (by rw [HE.out, if_pos (.inr hn)]) (by decide))
    have q1 : ((s.p.length : Int) != (ss.length : Int)) = true := by simp; omega
    clear hn
    go_wp2_with fail
    go_ret
    exact HR.out
  have q1 : ((s.p.length : Int) != (ss.length : Int)) = false := by simp; omega
  have HE2 := Lib.hid (show Tt.rest ss s = (if s.p.map (·.s) ≠ ss then 20 else if 1024 < s.m.length then 12 else 0) by rw [HE.out, if_neg (by rw [ha]; simp [hn])])
  have Hn := Lib.hid hn
  clear hn ha
  go_wp2_with fail
  clear c0 c1' c2' q1
  go_loopw [31] (fun i wx => ∃ k : Nat, k ≤ s.p.length ∧ i = .int .i64 (k : Int) ∧ (s.p.take k).map (·.s) = ss.take k ∧ Later w2 wx) (fun i _ => s.p.length - (intOf i).toNat)
  case atStart => exact ⟨0, Nat.zero_le _, rfl, rfl, Later.refl _⟩
  case round =>
    obtain ⟨k, hk, rfl, hall, hlx⟩ := hrel
    by_cases hlt : k < s.p.length
    · have hlts : k < ss.length := by have := Hn.out; omega
      obtain ⟨b, off, T, tc, rfl, -, hcs, hIs, hs1, hs2⟩ := (HB.out.below (H12.out.trans hlx) (Nat.le_refl _)) k hlts
      obtain ⟨b', off', S', sc, C', cc, rfl, -, p0, p1, hT, ht1, ht2⟩ := (HS.out.1.below (H0w2.out.trans hlx) (Nat.le_refl _)) k hlt
      have hsk := Hsl.out _ (List.getElem_mem hlts)
      have hsp := (Tn.right_len (List.all_eq_true.1 Har.out s.p[k] (List.getElem_mem hlt))).1
      have hbadK : s.p[k].s ≠ ss[k] → s.p.map (·.s) ≠ ss := fun h e => h (by have := congrArg (fun l => l[k]?) e; simpa [hlt, hlts] using this)
      have hgood : s.p[k].s = ss[k] → (s.p.take (k + 1)).map (·.s) = ss.take (k + 1) := fun h => by rw [List.take_succ_eq_append_getElem hlt, List.take_succ_eq_append_getElem hlts, List.map_append, hall]; simp [h]
      generalize ss[k] = u at *
      generalize s.p[k] = t at *
      have kk1 : (k : Int) < (ss.length : Int) := by omega
      have kk2 : (k : Int) < (s.p.length : Int) := by omega
      have hk0' : (0 : Int) ≤ (k : Int) := by omega
      have hla := (Later.refl wr).alloc (.cells #[.slice S' t.s.length sc, .slice C' t.c.length cc] 26)
      have hcs2 := hla.cell hcs
      have heq := fun (X : World) (h : Later wr X) => shape_equal S' T sc tc t.s u X (by omega) (by omega) (hT.1.below h (Nat.le_refl _)) (hIs.below h (Nat.le_refl _))
      have hl3 := hlx.trans hla
      have Hall := Lib.hid hall
      have Hlx := Lib.hid hlx
      have HbadK := Lib.hid hbadK
      have Hgood := Lib.hid hgood
      have Heq := Lib.hid heq
      have Hla := Lib.hid hla
      have Hl3 := Lib.hid hl3
      clear hall hlx hbadK hgood heq hla hl3
      clear hT hIs
      go_wp2_with fail
      go_quiet ((go_at_call 17; exact quiet_drawn (Heq.out _ (Hla.out.drewN _))))
      have hbn := Hl3.out.drewN nq
      clear p0 p1 hcs hcs2
      cases hq : (t.s == u)
      · have HR := Lib.hid (Hbad.out _ 20 (H0w2.out.trans hbn) (by rw [HE2.out, if_pos (HbadK.out (by simpa using hq))]) (by decide))
        clear hq
        go_wp2_with fail
        go_ret
        exact HR.out
      · have HG := Lib.hid (Hgood.out (by simpa using hq))
        clear hq
        have Hbn := Lib.hid hbn
        clear hbn
        go_wp2_with fail
        go_roundw
        case rel => exact ⟨k + 1, by omega, by go_num, HG.out, Hbn.out⟩
        case measure => simp [intOf]; omega
    · obtain rfl : k = s.p.length := by omega
      have he3 : Tt.rest ss s = (if 1024 < s.m.length then 12 else 0) := by rw [HE2.out, if_neg]; rw [List.take_length, Hn.out, List.take_length] at hall; simp [hall]
      have hk3 := hlx.blk Hk2.out
      have h0w3 := H0w2.out.trans hlx
      have c0 := hk3.cell 0
      have c1' := hk3.cell 1
      have c2' := hk3.cell 2
      simp at c0 c1' c2'
      have Hlx := Lib.hid hlx
      have Hk3 := Lib.hid hk3
      have H0w3 := Lib.hid h0w3
      have He3 := Lib.hid he3
      clear hlx hk3 h0w3 he3
      clear hall
      by_cases hm : 1024 < s.m.length
      · have HR := Lib.hid (Hbad.out wr 12 H0w3.out (by rw [He3.out, if_pos hm]) (by decide))
        have q2 : decide (1024 < (s.m.length : Int)) = true := by simp; omega
        clear hm
        go_wp2_with fail
        go_ret
        exact HR.out
      have he4 : Tt.rest ss s = 0 := by rw [He3.out, if_neg hm]
      have q2 : decide (1024 < (s.m.length : Int)) = false := by simp; omega
      clear hm
      have hgr : g < wr.heap.size := by have := H0w3.out.size; omega
      have He4 := Lib.hid he4
      clear he4
      go_wp2_with fail
      refine (saved_copied P V M e1 e2 e3 s wr ⟨s1, s2, s3, Hs4.out, Hs5.out⟩ (HS.out.below H0w3.out (Nat.le_refl _))).mono ?_
      rintro e w5 ⟨P5, V5, M5, mc, rfl, hR5, h5⟩
      have hl5 : Later wr w5 := h5
      have h0w5 := H0w3.out.trans hl5
      have hT5 := HT.out.later h0w5
      have d0 : w5.cell? ⟨g, 12, none⟩ = some (.slice P0 s0.p.length c1) := hT5.box.cell 12
      have d1 : w5.cell? ⟨g, 13, none⟩ = some (.slice V0 s0.v.length c2) := hT5.box.cell 13
      have d2 : w5.cell? ⟨g, 14, none⟩ = some (.slice M0 s0.m.length c3) := hT5.box.cell 14
      have f0 := hT5.box.frozen 12
      have f1 := hT5.box.frozen 13
      have f2 := hT5.box.frozen 14
      have hR6 := (((hR5.far (p := ⟨g, 12, none⟩) hgr (.slice P5 s.p.length s.p.length)).far (p := ⟨g, 13, none⟩) hgr (.slice V5 s.v.length s.v.length)).far (p := ⟨g, 14, none⟩) hgr (.slice M5 s.m.length mc))
      have hT6 : TrR g wp A N P5 V5 M5 c d s.p.length s.v.length mc D n s (((w5.setCell ⟨g, 12, none⟩ (.slice P5 s.p.length s.p.length)).setCell ⟨g, 13, none⟩ (.slice V5 s.v.length s.v.length)).setCell ⟨g, 14, none⟩ (.slice M5 s.m.length mc)) :=
        ⟨hT5.size, hT5.net, hT5.hd, ((hT5.below.setCell (p := ⟨g, 12, none⟩) (Nat.le_refl _) _).setCell (p := ⟨g, 13, none⟩) (Nat.le_refl _) _).setCell (p := ⟨g, 14, none⟩) (Nat.le_refl _) _, set3_box hT5.box, hR6.now⟩
      have hF6 : Fr (fun b => b = g) w (((w5.setCell ⟨g, 12, none⟩ (.slice P5 s.p.length s.p.length)).setCell ⟨g, 13, none⟩ (.slice V5 s.v.length s.v.length)).setCell ⟨g, 14, none⟩ (.slice M5 s.m.length mc)) :=
        Fr.setCell (S := fun b => b = g) (Fr.setCell (S := fun b => b = g) (Fr.setCell (S := fun b => b = g) (Fr.of_below h0w5 fun b hb _ => hb) (fun _ => rfl) _) (fun _ => rfl) _) (fun _ => rfl) _
      have HR := Lib.hid (HGoal.out (.returned (.int .i64 0)) _ ⟨by rw [He4.out], ⟨P5, V5, M5, _, _, _, by rw [if_pos He4.out]; exact hT6⟩, hF6⟩)
      clear hR5 h5 hl5 h0w5 hT5 hR6 hT6 hF6 c0 c1' c2' q2
      go_wp2_with fail
      go_ret
      exact HR.out
end Go.Proofs.YtkmhagjdafeebaaGreat

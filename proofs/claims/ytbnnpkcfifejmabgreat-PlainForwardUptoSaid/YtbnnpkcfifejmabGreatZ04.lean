/- Lemmas for the statements of this seat: contracts of functions and the plain laws. -/
import Derived.BigQuiet
import Derived.Deep.DeepCutAuto
import Derived.Deep.RegionHeld3
import Derived.Test.YtbnnpkcfifejmabGreatZ03
set_option linter.unusedVariables false
namespace Go.Proofs.YtbnnpkcfifejmabGreat
open Go.RowKit
def StudyP (n : NetD) (w : World) (e : Ending) (w' : World) : Prop :=
 Below w.heap.size w w' ∧ ((Nt.check n = 0 ∧ ∃ O oc g, e = .returned (.tuple #[.agg #[.slice O n.nodes.length oc, .slice (some ⟨g, 0, none⟩) (n.nodes.length + 1) (n.nodes.length + 1), .int .i64 (Nt.loss n.nodes)], .int .i64 0]) ∧
   Ints .i64 w' O (Nt.sorted n.nodes) ∧ n.nodes.length ≤ oc ∧ oc ≤ 9223372036854775807 ∧ w.heap.size ≤ g ∧ ShpRow w' g 23 (Nt.shapes n)) ∨
  (Nt.check n ≠ 0 ∧ e = .returned (.tuple #[.agg #[.slice none 0 0, .slice none 0 0, .int .i64 0], .int .i64 (Nt.check n)])))
namespace Nt
theorem check_many {n : NetD} (h : n.nodes.length < 1 ∨ 512 < n.nodes.length) : check n = 12 := by unfold check; rw [if_pos h]
theorem check_in {n : NetD} (h : ¬ (n.nodes.length < 1 ∨ 512 < n.nodes.length)) (h2 : Sh.right n.inn = false) : check n = 20 := by unfold check; rw [if_neg h, if_pos h2]
theorem check_bads {n : NetD} (h : ¬ (n.nodes.length < 1 ∨ 512 < n.nodes.length)) (h2 : Sh.right n.inn = true) (h3 : bads n.nodes.length n.nodes ≠ 0) : check n = bads n.nodes.length n.nodes := by
 unfold check; rw [if_neg h, if_neg (by simp [h2]), if_pos h3]
theorem check_cyc {n : NetD} (h : ¬ (n.nodes.length < 1 ∨ 512 < n.nodes.length)) (h2 : Sh.right n.inn = true) (h3 : bads n.nodes.length n.nodes = 0) (h4 : (sorted n.nodes).length ≠ n.nodes.length) : check n = 22 := by
 unfold check; rw [if_neg h, if_neg (by simp [h2]), if_neg (by simp [h3]), if_pos h4]
theorem check_lay {n : NetD} (h : ¬ (n.nodes.length < 1 ∨ 512 < n.nodes.length)) (h2 : Sh.right n.inn = true) (h3 : bads n.nodes.length n.nodes = 0) (h4 : (sorted n.nodes).length = n.nodes.length) (h5 : (lay n.nodes (start n) (sorted n.nodes)).2 ≠ 0) : check n = (lay n.nodes (start n) (sorted n.nodes)).2 := by
 unfold check; rw [if_neg h, if_neg (by simp [h2]), if_neg (by simp [h3]), if_neg (by simp [h4]), if_pos h5]
theorem check_loss {n : NetD} (h : ¬ (n.nodes.length < 1 ∨ 512 < n.nodes.length)) (h2 : Sh.right n.inn = true) (h3 : bads n.nodes.length n.nodes = 0) (h4 : (sorted n.nodes).length = n.nodes.length) (h5 : (lay n.nodes (start n) (sorted n.nodes)).2 = 0) (h6 : lossOk n.nodes = false) : check n = 23 := by
 unfold check; rw [if_neg h, if_neg (by simp [h2]), if_neg (by simp [h3]), if_neg (by simp [h4]), if_neg (by simp [h5]), if_pos h6]
theorem check_last {n : NetD} (h : ¬ (n.nodes.length < 1 ∨ 512 < n.nodes.length)) (h2 : Sh.right n.inn = true) (h3 : bads n.nodes.length n.nodes = 0) (h4 : (sorted n.nodes).length = n.nodes.length) (h5 : (lay n.nodes (start n) (sorted n.nodes)).2 = 0) (h6 : lossOk n.nodes = true) :
  check n = if Safe.prod ((shapes n).getD (loss n.nodes).toNat []) ≠ 1 then 23 else 0 := by
 unfold check; rw [if_neg h, if_neg (by simp [h2]), if_neg (by simp [h3]), if_neg (by simp [h4]), if_neg (by simp [h5]), if_neg (by simp [h6])]
theorem bads_op {n : Nat} {ns : List NodeD} {k : Nat} (hk : k < ns.length) (h : ∀ j (hj : j < ns.length), j < k → Od.right ns[j].op = true ∧ ns[j].ins.all (fun i => decide (0 ≤ i ∧ i ≤ n)) = true) (hr : Od.right ns[k].op = false) : bads n ns = 21 := by
 rw [bads_take h, List.drop_eq_getElem_cons hk, bads, if_neg (by simp [hr])]
theorem bads_in {n : Nat} {ns : List NodeD} {k : Nat} (hk : k < ns.length) (h : ∀ j (hj : j < ns.length), j < k → Od.right ns[j].op = true ∧ ns[j].ins.all (fun i => decide (0 ≤ i ∧ i ≤ n)) = true) (hr : Od.right ns[k].op = true) {m : Nat} (hm : m < ns[k].ins.length) (hb : ¬ (0 ≤ ns[k].ins[m] ∧ ns[k].ins[m] ≤ n)) : bads n ns = 11 := by
 rw [bads_take h, List.drop_eq_getElem_cons hk, bads, if_pos hr, if_neg]
 intro ha
 have := List.all_eq_true.1 ha _ (List.getElem_mem hm)
 simp at this
 exact hb this
theorem bads_none {n : Nat} {ns : List NodeD} (h : ∀ j (hj : j < ns.length), j < ns.length → Od.right ns[j].op = true ∧ ns[j].ins.all (fun i => decide (0 ≤ i ∧ i ≤ n)) = true) : bads n ns = 0 := by
 rw [bads_take h, List.drop_length, bads]
end Nt
def lookBad (n : NetD) (k : Nat) : Prop := ∀ j (hj : j < n.nodes.length), j < k → Od.right n.nodes[j].op = true ∧ n.nodes[j].ins.all (fun i => decide (0 ≤ i ∧ i ≤ n.nodes.length)) = true
theorem below_set3 {B g : Nat} {w w1 : World} (h : Below B w w1) (hg : B ≤ g) (a b c : Value) : Below B w (((w1.setCell ⟨g, 0, none⟩ a).setCell ⟨g, 1, none⟩ b).setCell ⟨g, 2, none⟩ c) :=
 ((h.setCell (p := ⟨g, 0, none⟩) hg a).setCell (p := ⟨g, 1, none⟩) hg b).setCell (p := ⟨g, 2, none⟩) hg c
theorem set3_heap {g k : Nat} {w : World} (a b c : Value) (h : k ≠ g) : (((w.setCell ⟨g, 0, none⟩ a).setCell ⟨g, 1, none⟩ b).setCell ⟨g, 2, none⟩ c).heap[k]? = w.heap[k]? := by
 rw [Below.heap_setCell _ ⟨g, 2, none⟩ c k h, Below.heap_setCell _ ⟨g, 1, none⟩ b k h, Below.heap_setCell _ ⟨g, 0, none⟩ a k h]
theorem ints_set3 {g : Nat} {t : TypeId} {w : World} {S : Option Addr} {zs : List Int} (hI : Ints .i64 w S zs) (hb : Blk w g t #[.slice none 0 0, .slice none 0 0, .int .i64 0]) (hz : ∀ z ∈ zs, z ≠ 0) (a b c : Value) :
  Ints .i64 (((w.setCell ⟨g, 0, none⟩ a).setCell ⟨g, 1, none⟩ b).setCell ⟨g, 2, none⟩ c) S zs := fun j hj => by
 obtain ⟨b0, off, e, hl, hc⟩ := hI j hj
 have hne : b0 ≠ g := fun q => by
  subst q
  rw [hb.cell] at hc
  have hzj : zs.getD j 0 ≠ 0 := by rw [getD_at hj]; exact hz _ (List.getElem_mem hj)
  match h : off + j, hc with
  | 0, hc => simp at hc
  | 1, hc => simp at hc
  | 2, hc => simp at hc; exact hzj (by simpa using hc.symm)
  | q + 3, hc => simp at hc
 refine ⟨b0, off, e, by simpa using hl, ?_⟩
 exact (World.cell?_of_block (w := w) (a := ⟨b0, off + j, none⟩) (set3_heap a b c hne)).trans hc
theorem shpRow_set3 {g g' : Nat} {t t' : TypeId} {w : World} {sh : List (List Int)} (h : ShpRow w g' t' sh) (hb : Blk w g t #[.slice none 0 0, .slice none 0 0, .int .i64 0]) (hg : g' ≠ g) (hz : ∀ s ∈ sh, ∀ z ∈ s, z ≠ 0) (a b c : Value) :
  ShpRow (((w.setCell ⟨g, 0, none⟩ a).setCell ⟨g, 1, none⟩ b).setCell ⟨g, 2, none⟩ c) g' t' sh := by
 obtain ⟨vs, hl, hk, hv⟩ := h
 refine ⟨vs, hl, (set3_heap a b c hg).trans hk, fun j hj => ?_⟩
 obtain ⟨S, d, e, hI, h2⟩ := hv j hj
 exact ⟨S, d, e, ints_set3 hI hb (hz _ (List.getElem_mem hj)) a b c, h2⟩
theorem study_cells {w : World} {g : Nat} {t : TypeId} (h : Blk w g t #[.slice none 0 0, .slice none 0 0, .int .i64 0]) :
  w.cell? ⟨g, 0, none⟩ = some (.slice none 0 0) ∧ w.cell? ⟨g, 1, none⟩ = some (.slice none 0 0) ∧ w.cell? ⟨g, 2, none⟩ = some (.int .i64 0) ∧ w.frozen? ⟨g, 0, none⟩ = false ∧ w.frozen? ⟨g, 1, none⟩ = false ∧ w.frozen? ⟨g, 2, none⟩ = false :=
 ⟨h.cell 0, h.cell 1, h.cell 2, h.frozen 0, h.frozen 1, h.frozen 2⟩
set_option maxRecDepth 20000 in
set_option maxHeartbeats 16000000 in
theorem net_look (A N : Option Addr) (c d : Nat) (n : NetD) (w : World) (hok : n.ok) (hR : NetR w A N n) (hd : n.nodes.length ≤ d) :
  Calls Tryz.prog 24 #[.agg #[.slice A n.inn.length c, .slice N n.nodes.length d]] w (StudyP n w) := by
 have hnl := hok.2.1
 have hil := hok.1
 have hb0 := below2 w (.cells #[.slice A n.inn.length c, .slice N n.nodes.length d] 26) (.cells #[.slice none 0 0, .slice none 0 0, .int .i64 0] 74)
 have hk0 := (Blk.new w 26 #[.slice A n.inn.length c, .slice N n.nodes.length d]).alloc (.cells #[.slice none 0 0, .slice none 0 0, .int .i64 0] 74)
 have hs0 := Blk.new (w.alloc (.cells #[.slice A n.inn.length c, .slice N n.nodes.length d] 26)) 74 #[.slice none 0 0, .slice none 0 0, .int .i64 0]
 rw [World.size_alloc] at hs0
 have hR0 := hR.below hb0 (Nat.le_refl _)
 by_cases hmany : n.nodes.length < 1 ∨ 512 < n.nodes.length
 ·have HC := Lib.hid (Nt.check_many hmany)
  have HR := Lib.hid hR
  have Hok := Lib.hid hok
  have HR0 := Lib.hid hR0
  clear hR hok hR0
  clear hk0 hs0
  rcases hmany with h | h
  ·have d1 : decide ((n.nodes.length : Int) < 1) = true := by simp; omega
   go_enter Tryz.func24, Tryz.ntmps24
   go_wp2_with fail
   exact bodyPost_ret (v := .tuple #[.agg #[.slice none 0 0, .slice none 0 0, .int .i64 0], .int .i64 12]) (by simp [results, Tryz.results24, go_sem]) rfl ⟨hb0, .inr (by rw [HC.out]; exact ⟨by omega, rfl⟩)⟩
  ·have d1 : decide ((n.nodes.length : Int) < 1) = false := by simp; omega
   have d2 : decide ((512 : Int) < (n.nodes.length : Int)) = true := by simp; omega
   go_enter Tryz.func24, Tryz.ntmps24
   go_wp2_with fail
   exact bodyPost_ret (v := .tuple #[.agg #[.slice none 0 0, .slice none 0 0, .int .i64 0], .int .i64 12]) (by simp [results, Tryz.results24, go_sem]) rfl ⟨hb0, .inr (by rw [HC.out]; exact ⟨by omega, rfl⟩)⟩
 ·have d1 : decide ((n.nodes.length : Int) < 1) = false := by simp; omega
  have d2 : decide ((512 : Int) < (n.nodes.length : Int)) = false := by simp; omega
  have h512 : n.nodes.length ≤ 512 := by omega
  have hone : 1 ≤ n.nodes.length := by omega
  have HR := Lib.hid hR
  have Hok := Lib.hid hok
  have HR0 := Lib.hid hR0
  have Hk0 := Lib.hid hk0
  have Hs0 := Lib.hid hs0
  have Hmany := Lib.hid hmany
  clear hR hok hR0 hk0 hs0 hmany
  go_enter Tryz.func24, Tryz.ntmps24
  go_wp2_with fail
  refine (shape_right A c n.inn _ (by omega) HR0.out.1).mono ?_
  rintro e w1 ⟨rfl, hb1⟩
  have hbw : Below w.heap.size w w1 := hb0.trans (hb1.mono (by simp; omega))
  have hbox := Hk0.out.below hb1 (by simp; omega)
  have hst := Hs0.out.below hb1 (by simp)
  obtain ⟨y0, y1, y2, f0, f1, f2⟩ := study_cells hst
  have x0 : w1.cell? ⟨w.heap.size, 0, none⟩ = some (.slice A n.inn.length c) := by rw [hbox.cell]; rfl
  have x1 : w1.cell? ⟨w.heap.size, 1, none⟩ = some (.slice N n.nodes.length d) := by rw [hbox.cell]; rfl
  clear Hk0 Hs0 HR0 hb0 hb1 d1 d2
  by_cases hin : Sh.right n.inn = true
  rotate_left
  ·have hin' : Sh.right n.inn = false := by simpa using hin
   have HC := Lib.hid (Nt.check_in Hmany.out hin')
   have Hbox := Lib.hid hbox
   have Hst := Lib.hid hst
   clear hbox hst
   clear hin
   go_wp2_with fail
   exact bodyPost_ret (v := .tuple #[.agg #[.slice none 0 0, .slice none 0 0, .int .i64 0], .int .i64 20]) (by simp [results, Tryz.results24, go_sem, y0, y1, y2]) rfl ⟨below_set3 hbw (by omega) _ _ _, .inr (by rw [HC.out]; exact ⟨by omega, rfl⟩)⟩
  ·have Hbox := Lib.hid hbox
   have Hst := Lib.hid hst
   clear hbox hst
   go_wp2_with fail
   clear y0 y1 y2 f0 f1 f2 x0 x1
   have Hin := Lib.hid hin
   clear hin
   go_loopw [34] (fun i wr => ∃ k : Nat, k ≤ n.nodes.length ∧ i = .int .i64 k ∧ Blk wr w.heap.size 26 #[.slice A n.inn.length c, .slice N n.nodes.length d] ∧ Blk wr (w.heap.size + 1) 74 #[.slice none 0 0, .slice none 0 0, .int .i64 0] ∧ Below w.heap.size w wr ∧ lookBad n k) (fun i _ => n.nodes.length - (intOf i).toNat)
   case atStart => exact ⟨0, Nat.zero_le _, rfl, Hbox.out, Hst.out, hbw, fun j hj h => by omega⟩
   case round =>
    clear Hbox Hst hbw
    obtain ⟨k, hk, rfl, hbox, hst, hbw, hbad⟩ := hrel
    have hsl := hst.lt
    by_cases hlt : k < n.nodes.length
    ·obtain ⟨b, off, S, sc, J, ic, Q, qc, rfl, hNA, -, hI, -⟩ := HR.out.2.at_ hlt
     have hnok := Hok.out.2.2 _ (List.getElem_mem hlt)
     have hb21 := fun h => Nt.bads_op (n := n.nodes.length) hlt hbad h
     have hb11 := fun h m (hm : m < n.nodes[k].ins.length) h2 => Nt.bads_in (n := n.nodes.length) hlt hbad h (m := m) hm h2
     have hnext : Od.right n.nodes[k].op = true → n.nodes[k].ins.all (fun i => decide (0 ≤ i ∧ i ≤ n.nodes.length)) = true → lookBad n (k + 1) := fun h1 h2 j hj hjk => by
      by_cases e : j = k
      ·subst e; exact ⟨h1, h2⟩
      ·exact hbad j hj (by omega)
     have hil := hnok.2.2.1
     have hsl2 := hnok.2.1
     generalize n.nodes[k] = v at *
     have hNw := hNA.below hbw
     obtain ⟨⟨y0, y1, y2, y3, y4, y5, y6, y7, y8, y9⟩, -⟩ := hNA.below hbw
     have hkn := Blk.new wr 47 (#[.int .i64 v.op.kind, .int .i64 v.op.k, .int .i64 v.op.width, .int .i64 v.op.step, .int .i64 v.op.side, .int .i64 v.op.frm, .int .i64 v.op.to, .slice S v.op.s.length sc, .slice J v.ins.length ic, .slice Q v.p.length qc])
     have hbn : Below wr.heap.size wr (wr.alloc (.cells #[.int .i64 v.op.kind, .int .i64 v.op.k, .int .i64 v.op.width, .int .i64 v.op.step, .int .i64 v.op.side, .int .i64 v.op.frm, .int .i64 v.op.to, .slice S v.op.s.length sc, .slice J v.ins.length ic, .slice Q v.p.length qc] 47)) := (Below.refl _ _).alloc (Nat.le_refl _) _
     have Hbox := Lib.hid hbox
     have Hst := Lib.hid hst
     have HNA := Lib.hid hNA
     have Hnok := Lib.hid hnok
     have Hb21 := Lib.hid hb21
     have Hb11 := Lib.hid hb11
     have Hnext := Lib.hid hnext
     have HNw := Lib.hid hNw
     have Hkn := Lib.hid hkn
     have Hbad := Lib.hid hbad
     clear hbox hst hNA hnok hb21 hb11 hnext hNw hkn hbad
     go_wp2_with fail
     refine (op_right v.op S sc _ (by omega) (HNw.out.2.1.below hbn (Nat.le_refl _))).mono ?_
     rintro e w2 ⟨rfl, hb2⟩
     have hbw2 : Below wr.heap.size wr w2 := hbn.trans (hb2.mono (by simp))
     have hbx2 := hbw.trans (hbw2.mono hbw.size)
     have hbox2 := Hbox.out.below hbw2 (by omega)
     have hst2 := Hst.out.below hbw2 hsl
     have hkn2 := Hkn.out.below hb2 (by simp)
     obtain ⟨z0, z1, z2, f0, f1, f2⟩ := study_cells hst2
     have z8 : w2.cell? ⟨wr.heap.size, 8, none⟩ = some (.slice J v.ins.length ic) := by rw [hkn2.cell]; rfl
     have x1 : w2.cell? ⟨w.heap.size, 1, none⟩ = some (.slice (some ⟨b, off, none⟩) n.nodes.length d) := by rw [hbox2.cell]; rfl
     have hIJ := HNw.out.2.2.1.below hbw2 (Nat.le_refl _)
     clear y0 y1 y2 y3 y4 y5 y6 y7 y8 y9 hbn hb2 Hbox Hst Hkn
     by_cases hor : Od.right v.op = true
     rotate_left
     ·have hor' : Od.right v.op = false := by simpa using hor
      have hc := Hb21.out hor'
      have HC := Lib.hid ((Nt.check_bads Hmany.out Hin.out (by rw [hc]; omega)).trans hc)
      have Hbox2 := Lib.hid hbox2
      have Hst2 := Lib.hid hst2
      have Hkn2 := Lib.hid hkn2
      have HIJ := Lib.hid hIJ
      clear hbox2 hst2 hkn2 hIJ
      clear hor hc
      go_wp2_with fail
      exact bodyPost_ret (v := .tuple #[.agg #[.slice none 0 0, .slice none 0 0, .int .i64 0], .int .i64 21]) (by simp [results, Tryz.results24, go_sem, z0, z1, z2]) rfl ⟨below_set3 hbx2 (by omega) _ _ _, .inr (by rw [HC.out]; exact ⟨by omega, rfl⟩)⟩
     ·have Hor := Lib.hid hor
      have Hbox2 := Lib.hid hbox2
      have Hst2 := Lib.hid hst2
      have Hkn2 := Lib.hid hkn2
      have HIJ := Lib.hid hIJ
      clear hbox2 hst2 hkn2 hIJ
      go_wp2_with fail
      clear hor
      go_loop [46] (fun i => ∃ m : Nat, m ≤ v.ins.length ∧ i = .int .i64 m ∧ ∀ j (hj : j < v.ins.length), j < m → 0 ≤ v.ins[j] ∧ v.ins[j] ≤ n.nodes.length) (fun i => v.ins.length - (intOf i).toNat)
      case atStart => exact ⟨0, Nat.zero_le _, rfl, fun j hj h => by omega⟩
      case round =>
       obtain ⟨m, hm, rfl, hall⟩ := hrel
       by_cases hlm : m < v.ins.length
       ·obtain ⟨b1, off1, rfl, -, hc⟩ := HIJ.out m hlm
        rw [getD_at hlm] at hc
        have hbd := Hb11.out Hor.out m hlm
        have hnx : (0 ≤ v.ins[m] ∧ v.ins[m] ≤ n.nodes.length) → ∀ j (hj : j < v.ins.length), j < m + 1 → 0 ≤ v.ins[j] ∧ v.ins[j] ≤ n.nodes.length := fun h j hj hjm => by
         by_cases e : j = m
         ·subst e; exact h
         ·exact hall j hj (by omega)
        generalize v.ins[m] = u at *
        by_cases hu : 0 ≤ u ∧ u ≤ n.nodes.length
        ·have HN := Lib.hid (hnx hu)
         have e1 : decide (u < 0) = false := by simp; omega
         have e2 : decide ((n.nodes.length : Int) < u) = false := by simp; omega
         clear hu hbd
         have Hnx := Lib.hid hnx
         have Hall := Lib.hid hall
         clear hnx hall
         go_wp2_with fail
         go_round
         case rel => exact ⟨m + 1, by omega, by go_num, HN.out⟩
         case measure => simp [intOf]; omega
        ·have hc2 := hbd hu
         have HC := Lib.hid ((Nt.check_bads Hmany.out Hin.out (by rw [hc2]; omega)).trans hc2)
         clear hc2 hbd
         have Hnx := Lib.hid hnx
         have Hall := Lib.hid hall
         clear hnx hall
         by_cases hneg : u < 0
         ·have e1 : decide (u < 0) = true := by simpa using hneg
          clear hu
          go_wp2_with fail
          exact bodyPost_ret (v := .tuple #[.agg #[.slice none 0 0, .slice none 0 0, .int .i64 0], .int .i64 11]) (by simp [results, Tryz.results24, go_sem, z0, z1, z2]) rfl ⟨below_set3 hbx2 (by omega) _ _ _, .inr (by rw [HC.out]; exact ⟨by omega, rfl⟩)⟩
         ·have e1 : decide (u < 0) = false := by simpa using hneg
          have e2 : decide ((n.nodes.length : Int) < u) = true := by simp; omega
          clear hu
          go_wp2_with fail
          exact bodyPost_ret (v := .tuple #[.agg #[.slice none 0 0, .slice none 0 0, .int .i64 0], .int .i64 11]) (by simp [results, Tryz.results24, go_sem, z0, z1, z2]) rfl ⟨below_set3 hbx2 (by omega) _ _ _, .inr (by rw [HC.out]; exact ⟨by omega, rfl⟩)⟩
       ·obtain rfl : m = v.ins.length := by omega
        have HN := Lib.hid (Hnext.out Hor.out (List.all_eq_true.2 fun i hi => by obtain ⟨j, hj, rfl⟩ := List.getElem_of_mem hi; simpa using hall j hj hj))
        have Hall := Lib.hid hall
        clear hall
        go_wp2_with fail
        go_roundw
        case rel => exact ⟨k + 1, by omega, by go_num, Hbox2.out, Hst2.out, hbx2, HN.out⟩
        case measure => simp [intOf]; omega
    ·obtain rfl : k = n.nodes.length := by omega
     have hb0 : Nt.bads n.nodes.length n.nodes = 0 := Nt.bads_none hbad
     have hins : ∀ v ∈ n.nodes, ∀ i ∈ v.ins, 0 ≤ i ∧ i ≤ n.nodes.length := fun v hv => (Nt.bads_all hb0 v hv).2
     have x0 : wr.cell? ⟨w.heap.size, 0, none⟩ = some (.slice A n.inn.length c) := by rw [hbox.cell]; rfl
     have x1 : wr.cell? ⟨w.heap.size, 1, none⟩ = some (.slice N n.nodes.length d) := by rw [hbox.cell]; rfl
     have Hbad := Lib.hid hbad
     have Hbox := Lib.hid hbox
     have Hst := Lib.hid hst
     have Hb0 := Lib.hid hb0
     have Hins := Lib.hid hins
     clear hbad hbox hst hb0 hins
     go_wp2_with fail
     refine (net_sorted A N c d n _ Hok.out h512 (HR.out.below hbw (Nat.le_refl _)) hd Hins.out).mono ?_
     rintro e w2 ⟨O, oc, rfl, hO, hoc, hoc2, hb2⟩
     have hbw2 := hbw.trans (hb2.mono hbw.size)
     have hbox2 := Hbox.out.below hb2 Hbox.out.lt
     have hst2 := Hst.out.below hb2 Hst.out.lt
     have hw2l : w.heap.size + 1 < w2.heap.size := hst2.lt
     have x0 : w2.cell? ⟨w.heap.size, 0, none⟩ = some (.slice A n.inn.length c) := by rw [hbox2.cell]; rfl
     have x1 : w2.cell? ⟨w.heap.size, 1, none⟩ = some (.slice N n.nodes.length d) := by rw [hbox2.cell]; rfl
     clear Hbox Hst
     by_cases hcy : (Nt.sorted n.nodes).length = n.nodes.length
     rotate_left
     ·have HC := Lib.hid (Nt.check_cyc Hmany.out Hin.out Hb0.out hcy)
      have e1 : (((Nt.sorted n.nodes).length : Int) != (n.nodes.length : Int)) = true := by rw [bne_iff_ne]; omega
      have e2 : ((Nt.sorted n.nodes).length != n.nodes.length) = true := by rw [bne_iff_ne]; omega
      obtain ⟨y0, y1, y2, f0, f1, f2⟩ := study_cells hst2
      generalize Nt.sorted n.nodes = os at *
      have Hbox2 := Lib.hid hbox2
      have Hst2 := Lib.hid hst2
      have Hcy := Lib.hid hcy
      have HO := Lib.hid hO
      clear hbox2 hst2 hcy hO
      go_wp2_with fail
      exact bodyPost_ret (v := .tuple #[.agg #[.slice none 0 0, .slice none 0 0, .int .i64 0], .int .i64 22]) (by simp [results, Tryz.results24, go_sem, y0, y1, y2]) rfl ⟨below_set3 hbw2 (by omega) _ _ _, .inr (by rw [HC.out]; exact ⟨by omega, rfl⟩)⟩
     ·have hcall := net_lay A N O c d oc n w2 Hok.out (HR.out.below hbw2 (Nat.le_refl _)) hd hO Hin.out Hins.out
      have hcheck := fun h5 => Nt.check_lay Hmany.out Hin.out Hb0.out hcy h5
      have hcheck6 := fun h5 h6 => Nt.check_loss Hmany.out Hin.out Hb0.out hcy h5 h6
      have hcheck7 := fun h5 h6 => Nt.check_last Hmany.out Hin.out Hb0.out hcy h5 h6
      have hgood := fun h5 : (Nt.lay n.nodes (Nt.start n) (Nt.sorted n.nodes)).2 = 0 => Nt.lay_good Hin.out (Nt.sorted n.nodes).length (Nat.le_refl _) (by rw [List.take_length]; exact h5)
      rw [List.take_length] at hgood
      have hfull := Kn.order_full (I := Nt.insF n.nodes) (n := n.nodes.length) hcy
      have hfull : ∀ u, u ∈ Nt.sorted n.nodes ↔ 1 ≤ u ∧ u ≤ n.nodes.length := hfull
      have hshp : (Nt.lay n.nodes (Nt.start n) (Nt.sorted n.nodes)).1 = Nt.shapes n := rfl
      rw [hcy] at hcall ⊢
      obtain ⟨os, hos⟩ : ∃ os, Nt.sorted n.nodes = os := ⟨_, rfl⟩
      rw [hos] at hcall hcheck hcheck6 hcheck7 hgood hfull hshp hO hcy hoc
      rw [hcy] at hoc
      have Hcall := Lib.hid hcall
      have Hcheck := Lib.hid hcheck
      have Hcheck6 := Lib.hid hcheck6
      have Hcheck7 := Lib.hid hcheck7
      have Hgood := Lib.hid hgood
      have Hfull := Lib.hid hfull
      have Hshp := Lib.hid hshp
      have Hcy := Lib.hid hcy
      have Hos := Lib.hid hos
      have HO := Lib.hid hO
      have Hbox2 := Lib.hid hbox2
      have Hst2 := Lib.hid hst2
      clear hcall hcheck hcheck6 hcheck7 hgood hfull hshp hcy hos hO hbox2 hst2
      go_wp2_with fail
      refine (Hcall.out).mono ?_
      rintro e w3 ⟨hb3, ⟨hr, g, rfl, hg, hrow, hrl⟩ | ⟨hr, rfl⟩⟩
      rotate_left
      ·have HC := Lib.hid (Hcheck.out hr)
       have hbw3 := hbw2.trans (hb3.mono hbw2.size)
       obtain ⟨y0, y1, y2, f0, f1, f2⟩ := study_cells (Hst2.out.below hb3 Hst2.out.lt)
       generalize Nt.lay n.nodes (Nt.start n) os = r at *
       have q1 : (r.2 != 0) = true := by simp [hr]
       have HR2 := Lib.hid hr
       clear hr
       go_wp2_with fail
       exact bodyPost_ret (v := .tuple #[.agg #[.slice none 0 0, .slice none 0 0, .int .i64 0], .int .i64 r.2]) (by simp [results, Tryz.results24, go_sem, y0, y1, y2]) rfl ⟨below_set3 hbw3 (by omega) _ _ _, .inr (by rw [HC.out]; exact ⟨HR2.out, rfl⟩)⟩
      ·have hg2 := Hgood.out hr
       have hc6 := fun h6 => Hcheck6.out hr h6
       have hc7 := fun h6 => Hcheck7.out hr h6
       rw [Hshp.out] at hrow hrl hg2
       have hbw3 := hbw2.trans (hb3.mono hbw2.size)
       have hbox3 := Hbox2.out.below hb3 Hbox2.out.lt
       have hst3 := Hst2.out.below hb3 Hst2.out.lt
       have x0 : w3.cell? ⟨w.heap.size, 0, none⟩ = some (.slice A n.inn.length c) := by rw [hbox3.cell]; rfl
       have x1 : w3.cell? ⟨w.heap.size, 1, none⟩ = some (.slice N n.nodes.length d) := by rw [hbox3.cell]; rfl
       have hO3 := HO.out.below hb3 (Nat.le_refl _)
       clear Hcall Hcheck Hcheck6 Hcheck7 Hgood Hbox2 Hst2 HO hr Hshp
       have Hg2 := Lib.hid hg2
       have Hc6 := Lib.hid hc6
       have Hc7 := Lib.hid hc7
       have Hrow := Lib.hid hrow
       have Hbox3 := Lib.hid hbox3
       have Hst3 := Lib.hid hst3
       have HO3 := Lib.hid hO3
       clear hg2 hc6 hc7 hrow hbox3 hst3 hO3
       go_wp2_with fail
       refine (net_unused A N c d n _ Hok.out (HR.out.below hbw3 (Nat.le_refl _)) hd Hins.out).mono ?_
       rintro e w4 ⟨rfl, hb4⟩
       have hbw4 := hbw3.trans (hb4.mono hbw3.size)
       have hst4 := Hst3.out.below hb4 Hst3.out.lt
       have hrow4 := Hrow.out.below hb4 (Nat.le_refl _)
       have hO4 := HO3.out.below hb4 (Nat.le_refl _)
       obtain ⟨y0, y1, y2, f0, f1, f2⟩ := study_cells hst4
       clear Hbox3 Hst3 Hrow HO3
       by_cases hlo : Nt.lossOk n.nodes = true
       rotate_left
       ·have hlo' : Nt.lossOk n.nodes = false := by simpa using hlo
        have HC := Lib.hid (Hc6.out hlo')
        have Hst4 := Lib.hid hst4
        have Hrow4 := Lib.hid hrow4
        have HO4 := Lib.hid hO4
        clear hst4 hrow4 hO4
        clear hlo
        go_wp2_with fail
        exact bodyPost_ret (v := .tuple #[.agg #[.slice none 0 0, .slice none 0 0, .int .i64 0], .int .i64 23]) (by simp [results, Tryz.results24, go_sem, y0, y1, y2]) rfl ⟨below_set3 hbw4 (by omega) _ _ _, .inr (by rw [HC.out]; exact ⟨by omega, rfl⟩)⟩
       ·have hlm := (Nt.loss_mem hlo).2
        have hch := Hc7.out hlo
        obtain ⟨l, hl⟩ : ∃ l : Nat, Nt.loss n.nodes = (l : Int) := ⟨(Nt.loss n.nodes).toNat, by omega⟩
        have Hl := Lib.hid hl
        rw [hl] at hlm hch ⊢
        rw [Int.toNat_natCast] at hch
        have hll : l < (Nt.shapes n).length := by omega
        have hgl := Hg2.out (l : Int) (.inr ((Hfull.out _).2 (by omega)))
        rw [Int.toNat_natCast, gets_at hll] at hgl
        rw [gets_at hll] at hch
        obtain ⟨S, sc, hcS, hIS, hs1, hs2, -⟩ := hrow4.at_ hll
        have hsz := shape_size S sc _ w4 (by omega) hIS
        have hse : Sh.size (Nt.shapes n)[l] = (Safe.prod (Nt.shapes n)[l], 0) := by unfold Sh.size; rw [if_pos hgl]
        rw [hse] at hsz
        have l0 : (0 : Int) ≤ (l : Int) := by omega
        have l1 : (l : Int) < ((n.nodes.length + 1 : Nat) : Int) := by omega
        generalize (Nt.shapes n)[l] = s at *
        have Hst4 := Lib.hid hst4
        have Hrow4 := Lib.hid hrow4
        have HO4 := Lib.hid hO4
        have Hch := Lib.hid hch
        have Hl := Lib.hid hl
        have Hsz := Lib.hid hsz
        have Hse := Lib.hid hse
        have HIS := Lib.hid hIS
        have Hgl := Lib.hid hgl
        clear hst4 hrow4 hO4 hch hl hsz hse hIS hgl
        go_wp2_with fail
        refine (Hsz.out).mono ?_
        rintro e w5 ⟨rfl, hb5⟩
        have hbw5 := hbw4.trans (hb5.mono hbw4.size)
        have hst5 := Hst4.out.below hb5 Hst4.out.lt
        have hrow5 := Hrow4.out.below hb5 (Nat.le_refl _)
        have hO5 := HO4.out.below hb5 (Nat.le_refl _)
        clear y0 y1 y2 f0 f1 f2
        obtain ⟨y0, y1, y2, f0, f1, f2⟩ := study_cells hst5
        by_cases hp : Safe.prod s = 1
        ·have HC := Lib.hid (show Nt.check n = 0 by rw [Hch.out, if_neg (by simp [hp])])
         have e1 : (Safe.prod s != 1) = false := by simp [hp]
         clear hcS hp
         have Hst5 := Lib.hid hst5
         have Hrow5 := Lib.hid hrow5
         have HO5 := Lib.hid hO5
         clear hst5 hrow5 hO5
         go_wp2_with fail
         have hos0 : ∀ z ∈ os, z ≠ 0 := fun z hz => by have := (Hfull.out z).1 hz; omega
         have hsh0 : ∀ s ∈ Nt.shapes n, ∀ z ∈ s, z ≠ 0 := fun s hs z hz => by
          obtain ⟨i, hi, rfl⟩ := List.getElem_of_mem hs
          have hgi := Hg2.out (i : Int) (by
           by_cases h0 : i = 0
           ·exact .inl (by omega)
           ·exact .inr ((Hfull.out _).2 (by omega)))
          rw [Int.toNat_natCast, gets_at hi] at hgi
          have := (Sh.right_mul hgi).2.2.2.1 z hz
          omega
         refine bodyPost_ret (v := .tuple #[.agg #[.slice O n.nodes.length oc, .slice (some ⟨g, 0, none⟩) (n.nodes.length + 1) (n.nodes.length + 1), .int .i64 (l : Int)], .int .i64 0]) (by simp [results, Tryz.results24, go_sem, y0, y1, y2]) rfl ⟨below_set3 hbw5 (by omega) _ _ _, .inl ⟨HC.out, O, oc, g, by rw [Hl.out], ?_, hoc, hoc2, by omega, ?_⟩⟩
         ·rw [Hos.out]; exact ints_set3 HO5.out Hst5.out hos0 _ _ _
         ·exact shpRow_set3 Hrow5.out Hst5.out (by omega) hsh0 _ _ _
        ·have HC := Lib.hid (show Nt.check n = 23 by rw [Hch.out, if_pos hp])
         have e1 : (Safe.prod s != 1) = true := by simp [hp]
         clear hcS hp
         have Hst5 := Lib.hid hst5
         have Hrow5 := Lib.hid hrow5
         have HO5 := Lib.hid hO5
         clear hst5 hrow5 hO5
         go_wp2_with fail
         exact bodyPost_ret (v := .tuple #[.agg #[.slice none 0 0, .slice none 0 0, .int .i64 0], .int .i64 23]) (by simp [results, Tryz.results24, go_sem, y0, y1, y2]) rfl ⟨below_set3 hbw5 (by omega) _ _ _, .inr (by rw [HC.out]; exact ⟨by omega, rfl⟩)⟩
end Go.Proofs.YtbnnpkcfifejmabGreat
namespace Go.Proofs.YtbnnpkcfifejmabGreat
open Go.RowKit
set_option maxHeartbeats 4000000 in
theorem net_check (A N : Option Addr) (c d : Nat) (n : NetD) (w : World) (hok : n.ok) (hR : NetR w A N n) (hd : n.nodes.length ≤ d) :
  Calls Tryz.prog 48 #[.agg #[.slice A n.inn.length c, .slice N n.nodes.length d]] w fun e w' => e = .returned (.int .i64 (Nt.check n)) ∧ Below w.heap.size w w' := by
 have hb0 : Below w.heap.size w (w.alloc (.cells #[.slice A n.inn.length c, .slice N n.nodes.length d] 26)) := (Below.refl _ _).alloc (Nat.le_refl _) _
 have hR0 := hR.below hb0 (Nat.le_refl _)
 have HR := Lib.hid hR
 have Hok := Lib.hid hok
 have HR0 := Lib.hid hR0
 clear hR hok hR0
 go_enter Tryz.func48, Tryz.ntmps48
 go_wp2_with fail
 refine (net_look A N c d n _ Hok.out HR0.out hd).mono ?_
 rintro e w1 ⟨hb1, ⟨hc, O, oc, g, rfl, -, -, -, -, -⟩ | ⟨hc, rfl⟩⟩
 all_goals have hbw := hb0.trans (hb1.mono hb0.size)
 ·have Hc := Lib.hid hc
  clear hc
  go_wp2_with fail
  go_ret
  exact ⟨by rw [Hc.out]; rfl, hbw.alloc hbw.size _⟩
 ·have Hc := Lib.hid hc
  clear hc
  go_wp2_with fail
  go_ret
  exact ⟨rfl, hbw.alloc hbw.size _⟩
def OrderP (n : NetD) (w : World) (e : Ending) (w' : World) : Prop :=
 Below w.heap.size w w' ∧ ((Nt.check n = 0 ∧ ∃ O oc, e = .returned (.tuple #[.slice O n.nodes.length oc, .int .i64 0]) ∧ Ints .i64 w' O (Nt.sorted n.nodes) ∧ n.nodes.length ≤ oc ∧ oc ≤ 9223372036854775807) ∨
  (Nt.check n ≠ 0 ∧ e = .returned (.tuple #[.slice none 0 0, .int .i64 (Nt.check n)])))
def ShapesP (n : NetD) (w : World) (e : Ending) (w' : World) : Prop :=
 Below w.heap.size w w' ∧ ((Nt.check n = 0 ∧ ∃ g, e = .returned (.tuple #[.slice (some ⟨g, 0, none⟩) (n.nodes.length + 1) (n.nodes.length + 1), .int .i64 0]) ∧ w.heap.size ≤ g ∧ ShpRow w' g 23 (Nt.shapes n)) ∨
  (Nt.check n ≠ 0 ∧ e = .returned (.tuple #[.slice none 0 0, .int .i64 (Nt.check n)])))
def lossE (n : NetD) : Int := if Nt.check n = 0 then Nt.loss n.nodes else 0
set_option maxHeartbeats 4000000 in
theorem net_order (A N : Option Addr) (c d : Nat) (n : NetD) (w : World) (hok : n.ok) (hR : NetR w A N n) (hd : n.nodes.length ≤ d) :
  Calls Tryz.prog 20 #[.agg #[.slice A n.inn.length c, .slice N n.nodes.length d]] w (OrderP n w) := by
 have hb0 : Below w.heap.size w (w.alloc (.cells #[.slice A n.inn.length c, .slice N n.nodes.length d] 26)) := (Below.refl _ _).alloc (Nat.le_refl _) _
 have hR0 := hR.below hb0 (Nat.le_refl _)
 have HR := Lib.hid hR
 have Hok := Lib.hid hok
 have HR0 := Lib.hid hR0
 clear hR hok hR0
 go_enter Tryz.func20, Tryz.ntmps20
 go_wp2_with fail
 refine (net_look A N c d n _ Hok.out HR0.out hd).mono ?_
 rintro e w1 ⟨hb1, ⟨hc, O, oc, g, rfl, hO, ho1, ho2, hg, hrow⟩ | ⟨hc, rfl⟩⟩
 all_goals have hbw := hb0.trans (hb1.mono hb0.size)
 ·rw [World.size_alloc] at hg
  have Hc := Lib.hid hc
  have HO := Lib.hid hO
  have Hrow := Lib.hid hrow
  clear hc hO hrow
  go_wp2_with fail
  go_ret2
  first | exact ⟨hbw.alloc hbw.size _, .inl ⟨Hc.out, O, oc, rfl, HO.out.alloc _, ho1, ho2⟩⟩ | exact ⟨hbw.alloc hbw.size _, .inl ⟨Hc.out, g, rfl, by omega, Hrow.out.alloc _⟩⟩ | exact ⟨by unfold lossE; rw [Hc.out]; rfl, hbw.alloc hbw.size _⟩
 ·have Hc := Lib.hid hc
  clear hc
  go_wp2_with fail
  go_ret2
  first | exact ⟨hbw.alloc hbw.size _, .inr ⟨Hc.out, rfl⟩⟩ | exact ⟨by unfold lossE; rw [if_neg Hc.out]; rfl, hbw.alloc hbw.size _⟩
set_option maxHeartbeats 4000000 in
theorem net_shapes (A N : Option Addr) (c d : Nat) (n : NetD) (w : World) (hok : n.ok) (hR : NetR w A N n) (hd : n.nodes.length ≤ d) :
  Calls Tryz.prog 8 #[.agg #[.slice A n.inn.length c, .slice N n.nodes.length d]] w (ShapesP n w) := by
 have hb0 : Below w.heap.size w (w.alloc (.cells #[.slice A n.inn.length c, .slice N n.nodes.length d] 26)) := (Below.refl _ _).alloc (Nat.le_refl _) _
 have hR0 := hR.below hb0 (Nat.le_refl _)
 have HR := Lib.hid hR
 have Hok := Lib.hid hok
 have HR0 := Lib.hid hR0
 clear hR hok hR0
 go_enter Tryz.func8, Tryz.ntmps8
 go_wp2_with fail
 refine (net_look A N c d n _ Hok.out HR0.out hd).mono ?_
 rintro e w1 ⟨hb1, ⟨hc, O, oc, g, rfl, hO, ho1, ho2, hg, hrow⟩ | ⟨hc, rfl⟩⟩
 all_goals have hbw := hb0.trans (hb1.mono hb0.size)
 ·rw [World.size_alloc] at hg
  have Hc := Lib.hid hc
  have HO := Lib.hid hO
  have Hrow := Lib.hid hrow
  clear hc hO hrow
  go_wp2_with fail
  go_ret2
  first | exact ⟨hbw.alloc hbw.size _, .inl ⟨Hc.out, O, oc, rfl, HO.out.alloc _, ho1, ho2⟩⟩ | exact ⟨hbw.alloc hbw.size _, .inl ⟨Hc.out, g, rfl, by omega, Hrow.out.alloc _⟩⟩ | exact ⟨by unfold lossE; rw [Hc.out]; rfl, hbw.alloc hbw.size _⟩
 ·have Hc := Lib.hid hc
  clear hc
  go_wp2_with fail
  go_ret2
  first | exact ⟨hbw.alloc hbw.size _, .inr ⟨Hc.out, rfl⟩⟩ | exact ⟨by unfold lossE; rw [if_neg Hc.out]; rfl, hbw.alloc hbw.size _⟩
set_option maxHeartbeats 4000000 in
theorem net_loss (A N : Option Addr) (c d : Nat) (n : NetD) (w : World) (hok : n.ok) (hR : NetR w A N n) (hd : n.nodes.length ≤ d) :
  Calls Tryz.prog 44 #[.agg #[.slice A n.inn.length c, .slice N n.nodes.length d]] w fun e w' => e = .returned (.tuple #[.int .i64 (lossE n), .int .i64 (Nt.check n)]) ∧ Below w.heap.size w w' := by
 have hb0 : Below w.heap.size w (w.alloc (.cells #[.slice A n.inn.length c, .slice N n.nodes.length d] 26)) := (Below.refl _ _).alloc (Nat.le_refl _) _
 have hR0 := hR.below hb0 (Nat.le_refl _)
 have HR := Lib.hid hR
 have Hok := Lib.hid hok
 have HR0 := Lib.hid hR0
 clear hR hok hR0
 go_enter Tryz.func44, Tryz.ntmps44
 go_wp2_with fail
 refine (net_look A N c d n _ Hok.out HR0.out hd).mono ?_
 rintro e w1 ⟨hb1, ⟨hc, O, oc, g, rfl, hO, ho1, ho2, hg, hrow⟩ | ⟨hc, rfl⟩⟩
 all_goals have hbw := hb0.trans (hb1.mono hb0.size)
 ·rw [World.size_alloc] at hg
  have Hc := Lib.hid hc
  have HO := Lib.hid hO
  have Hrow := Lib.hid hrow
  clear hc hO hrow
  go_wp2_with fail
  go_ret2
  first | exact ⟨hbw.alloc hbw.size _, .inl ⟨Hc.out, O, oc, rfl, HO.out.alloc _, ho1, ho2⟩⟩ | exact ⟨hbw.alloc hbw.size _, .inl ⟨Hc.out, g, rfl, by omega, Hrow.out.alloc _⟩⟩ | exact ⟨by unfold lossE; rw [Hc.out]; rfl, hbw.alloc hbw.size _⟩
 ·have Hc := Lib.hid hc
  clear hc
  go_wp2_with fail
  go_ret2
  first | exact ⟨hbw.alloc hbw.size _, .inr ⟨Hc.out, rfl⟩⟩ | exact ⟨by unfold lossE; rw [if_neg Hc.out]; rfl, hbw.alloc hbw.size _⟩
theorem list_one {l : List Int} (h : l.length = 1) : ∃ x, l = [x] := by
 match l, h with
 | [x], _ => exact ⟨x, rfl⟩
theorem Nt.chainGo_step {ns : List NodeD} {os : List Int} {k : Nat} (hk : k < os.length) (h : Nt.chainGo ns 0 (os.take k) = true) :
  (Nt.insF ns os[k] = [(os.take k).getLastD 0] → Nt.chainGo ns 0 (os.take (k + 1)) = true ∧ (os.take (k + 1)).getLastD 0 = os[k]) ∧ (Nt.insF ns os[k] ≠ [(os.take k).getLastD 0] → Nt.chainGo ns 0 os = false) := by
 refine ⟨fun e => ?_, fun e => ?_⟩
 ·rw [List.take_succ_eq_append_getElem hk]
  refine ⟨?_, ?_⟩
  ·rw [Nt.chainGo_append, h, Nt.chainGo, decide_eq_true e]; rfl
  ·simp only [List.getLastD_eq_getLast?, List.getLast?_concat, Option.getD_some]
 ·have : os = os.take k ++ os[k] :: os.drop (k + 1) := by rw [← List.drop_eq_getElem_cons hk, List.take_append_drop]
  rw [this, Nt.chainGo_append, Nt.chainGo, decide_eq_false e, Bool.false_and, Bool.and_false]
end Go.Proofs.YtbnnpkcfifejmabGreat
namespace Go.Proofs.YtbnnpkcfifejmabGreat
open Go.RowKit
def hasB (zs : List Int) (x : Int) : Bool := zs.contains x
set_option maxHeartbeats 4000000 in
theorem ref11_has (A : Option Addr) (c : Nat) (zs : List Int) (x : Int) (w : World) (hl : zs.length ≤ 9223372036854775807) (hI : Ints .i64 w A zs) :
  Calls Tryz.prog 78 #[.slice A zs.length c, .int .i64 x] w fun e w' => e = .returned (.bool (hasB zs x)) ∧ w = w' := by
 have HI := Lib.hid hI
 clear hI
 go_enter Tryz.func78, Tryz.ntmps78
 go_wp2_with fail
 go_loop [5] (fun i => ∃ k : Nat, k ≤ zs.length ∧ i = .int .i64 k ∧ (zs.take k).contains x = false) (fun i => zs.length - (intOf i).toNat)
 case atStart => exact ⟨0, Nat.zero_le _, rfl, rfl⟩
 case round =>
  obtain ⟨k, hk, rfl, hno⟩ := hrel
  by_cases hlt : k < zs.length
  ·obtain ⟨b, off, rfl, -, hc⟩ := HI.out k hlt
   rw [getD_at hlt] at hc
   by_cases he : zs[k] = x
   ·have e1 : (zs[k] == x) = true := by simp [he]
    have HX := Lib.hid (show hasB zs x = true by unfold hasB; rw [List.contains_iff_mem]; rw [← he]; exact List.getElem_mem hlt)
    clear he hno
    go_wp2_with fail
    go_ret
    exact ⟨by rw [HX.out]; rfl, rfl⟩
   ·have e1 : (zs[k] == x) = false := by simp [he]
    have HX := Lib.hid (show (zs.take (k + 1)).contains x = false by
     rw [List.take_succ_eq_append_getElem hlt]
     simp at hno
     simp only [List.contains_eq_mem, List.mem_append, decide_eq_false_iff_not, List.mem_singleton]
     intro h
     rcases h with h | h
     ·exact hno h
     ·exact he h.symm)
    clear he hno
    go_wp2_with fail
    go_round
    case rel => exact ⟨k + 1, by omega, by go_num, HX.out⟩
    case measure => simp [intOf]; omega
  ·obtain rfl : k = zs.length := by omega
   rw [List.take_length] at hno
   have HX := Lib.hid (show hasB zs x = false from hno)
   clear hno
   go_wp2_with fail
   go_ret
   exact ⟨by rw [HX.out]; rfl, rfl⟩
def Nt.count (ns : List NodeD) (id : Int) : Nat := (ns.filter fun v => v.ins.contains id).length
set_option maxHeartbeats 4000000 in
theorem ref11_users (A N : Option Addr) (c d : Nat) (n : NetD) (id : Int) (w : World) (hok : n.ok) (hR : NetR w A N n) :
  Calls Tryz.prog 40 #[.agg #[.slice A n.inn.length c, .slice N n.nodes.length d], .int .i64 id] w fun e w' => e = .returned (.int .i64 (Nt.count n.nodes id : Nat)) ∧ Below w.heap.size w w' := by
 have hb0 : Below w.heap.size w (w.alloc (.cells #[.slice A n.inn.length c, .slice N n.nodes.length d] 57)) := (Below.refl _ _).alloc (Nat.le_refl _) _
 have hk0 := Blk.new w 57 #[.slice A n.inn.length c, .slice N n.nodes.length d]
 have hR0 := hR.below hb0 (Nat.le_refl _)
 have hnl := hok.2.1
 have Hok := Lib.hid hok
 have HR := Lib.hid hR
 have Hk0 := Lib.hid hk0
 clear hok hR hk0
 go_enter Tryz.func40, Tryz.ntmps40
 go_upto_region 1 with fail
 have x1 : (w.alloc (.cells #[.slice A n.inn.length c, .slice N n.nodes.length d] 57)).cell? ⟨w.heap.size, 1, none⟩ = some (.slice N n.nodes.length d) := by rw [Hk0.out.cell]; rfl
 generalize w.alloc (.cells #[.slice A n.inn.length c, .slice N n.nodes.length d] 57) = w1 at *
 have HR0 := Lib.hid hR0
 clear hR0
 go_wp2_with fail
 go_loop [5, 6] (fun t i => ∃ k : Nat, k ≤ n.nodes.length ∧ i = .int .i64 (k : Int) ∧ t = .int .i64 ((Nt.count (n.nodes.take k) id : Nat) : Int)) (fun _ i => n.nodes.length - (intOf i).toNat)
 case atStart => exact ⟨0, Nat.zero_le _, rfl, rfl⟩
 case round =>
  obtain ⟨k, hk, rfl, rfl⟩ := hrel
  by_cases hlt : k < n.nodes.length
  ·obtain ⟨b, off, S, sc, J, ic, Q, qc, rfl, hNA, -, hI, -⟩ := HR0.out.2.at_ hlt
   have hnok := Hok.out.2.2 _ (List.getElem_mem hlt)
   have hil := hnok.2.2.1
   have hcs : Nt.count (n.nodes.take (k + 1)) id = Nt.count (n.nodes.take k) id + if n.nodes[k].ins.contains id then 1 else 0 := by
    unfold Nt.count
    rw [List.take_succ_eq_append_getElem hlt, List.filter_append]
    by_cases h : n.nodes[k].ins.contains id = true
    ·simp only [List.filter_cons, h, if_true, List.filter_nil, List.length_append, List.length_singleton]
    ·simp only [List.filter_cons, h, List.filter_nil, List.length_append]; simp
   have hcl : Nt.count (n.nodes.take k) id ≤ k := by
    unfold Nt.count
    refine Nat.le_trans (List.length_filter_le _ _) ?_
    simp; omega
   generalize n.nodes[k] = v at *
   generalize Nt.count (n.nodes.take k) id = q at *
   obtain ⟨⟨-, -, -, -, -, -, -, -, y8, -⟩, -, hIJ, -⟩ := hNA
   have HIJ := Lib.hid hIJ
   have Hcs := Lib.hid hcs
   have Hnok := Lib.hid hnok
   clear hIJ hcs hnok
   go_wp2_with fail
   refine (ref11_has J ic v.ins id _ (by omega) HIJ.out).mono ?_
   rintro e w2 ⟨rfl, rfl⟩
   by_cases h : hasB v.ins id = true
   ·have HX := Lib.hid (Hcs.out.trans (by rw [if_pos (show v.ins.contains id = true from h)]))
    rw [h]
    clear h
    go_wp2_with fail
    go_round
    case rel => exact ⟨k + 1, by omega, by go_num, by rw [HX.out]; go_num⟩
    case measure => simp [intOf]; omega
   ·have h' : hasB v.ins id = false := by simpa using h
    have HX := Lib.hid (Hcs.out.trans (by rw [if_neg (show ¬ v.ins.contains id = true from h)]))
    rw [h']
    clear h h'
    go_wp2_with fail
    go_round
    case rel => exact ⟨k + 1, by omega, by go_num, by rw [HX.out]; rfl⟩
    case measure => simp [intOf]; omega
  ·obtain rfl : k = n.nodes.length := by omega
   rw [List.take_length]
   go_wp2_with fail
   go_ret
   exact ⟨rfl, hb0⟩
def freeTo (out ins : List Int) (b : Bool) (m : Nat) : Bool := b && (ins.take m).all fun i => i == 0 || out.contains i
theorem freeTo_succ {out ins : List Int} {b : Bool} {m : Nat} (hm : m < ins.length) : freeTo out ins b (m + 1) = (freeTo out ins b m && (ins[m] == 0 || out.contains ins[m])) := by
 unfold freeTo
 rw [List.take_succ_eq_append_getElem hm, List.all_append, Bool.and_assoc]
 simp
set_option maxRecDepth 20000 in
set_option maxHeartbeats 8000000 in
theorem ref11_order (A N : Option Addr) (c d : Nat) (n : NetD) (w : World) (hok : n.ok) (hR : NetR w A N n) :
  Calls Tryz.prog 38 #[.agg #[.slice A n.inn.length c, .slice N n.nodes.length d]] w (SortPost (Nt.sorted n.nodes) w) := by
 obtain ⟨i0, hi, hz0, hz1, hz2⟩ := info_parts int_info
 have hb0 : Below w.heap.size w (w.alloc (.cells #[.slice A n.inn.length c, .slice N n.nodes.length d] 57)) := (Below.refl _ _).alloc (Nat.le_refl _) _
 have hk0 := Blk.new w 57 #[.slice A n.inn.length c, .slice N n.nodes.length d]
 have hR0 := hR.below hb0 (Nat.le_refl _)
 have hnl := hok.2.1
 have hsort : Nt.sorted n.nodes = Kn.order (Nt.insF n.nodes) n.nodes.length := rfl
 have hIat : ∀ k (h : k < n.nodes.length), Nt.insF n.nodes ((k : Int) + 1) = n.nodes[k].ins := fun k h => by unfold Nt.insF; rw [Nt.node_at h]
 generalize Nt.insF n.nodes = I at *
 generalize Nt.sorted n.nodes = os at *
 have Hok := Lib.hid hok
 have HR := Lib.hid hR
 have Hk0 := Lib.hid hk0
 have Hsort := Lib.hid hsort
 have HIat := Lib.hid hIat
 clear hok hR hk0 hsort hIat
 go_enter Tryz.func38, Tryz.ntmps38
 go_upto_region 1 with fail
 have x1 : (w.alloc (.cells #[.slice A n.inn.length c, .slice N n.nodes.length d] 57)).cell? ⟨w.heap.size, 1, none⟩ = some (.slice N n.nodes.length d) := by rw [Hk0.out.cell]; rfl
 have hwl : w.heap.size < (w.alloc (.cells #[.slice A n.inn.length c, .slice N n.nodes.length d] 57)).heap.size := Hk0.out.lt
 generalize w.alloc (.cells #[.slice A n.inn.length c, .slice N n.nodes.length d] 57) = w1 at *
 have HR0 := Lib.hid hR0
 clear hR0
 go_wp2_with fail
 go_loopw [3, 4] (fun o i wx => ∃ k : Nat, k ≤ n.nodes.length ∧ i = .int .i64 (k : Int) ∧ wx.ownsRow w1.heap.size 3 1 o (Kn.go I n.nodes.length k).length ((Kn.go I n.nodes.length k).map (Value.int .i64)) ∧ Below w1.heap.size w1 wx) (fun _ i _ => n.nodes.length - (intOf i).toNat)
 case atStart => exact ⟨0, Nat.zero_le _, rfl, by simpa [Kn.go] using World.ownsRow_nil w1 w1.heap.size 3 1, Below.refl _ _⟩
 case round =>
  obtain ⟨k, hk, rfl, hown, hbx⟩ := hrel
  obtain ⟨Ao, co, rfl⟩ := own_form hown
  have x2 := cell_below hbx x1
  by_cases hlt : k < n.nodes.length
  ·have hgo := fun id r h => @Kn.go_more I n.nodes.length k id r h
   have hgl := Kn.go_len_le I n.nodes.length k
   have hstuck : Kn.ready I n.nodes.length (Kn.go I n.nodes.length k) = [] → Kn.go I n.nodes.length (k + 1) = Kn.go I n.nodes.length k := fun h => Kn.go_stuck h 1
   have hIo := (own_ints hown).1
   generalize Kn.go I n.nodes.length k = out at *
   have Hgo := Lib.hid hgo
   have Hstuck := Lib.hid hstuck
   have Hown := Lib.hid hown
   have HIo := Lib.hid hIo
   clear hgo hstuck hown hIo
   go_wp2_with fail
   clear x2
   go_loop [3, 5] (fun o i => ∃ j : Nat, j ≤ n.nodes.length ∧ i = .int .i64 ((j : Int) + 1) ∧ o = .slice Ao out.length co ∧ ∀ u : Int, 1 ≤ u → u ≤ j → Kn.free I out u = false) (fun _ i => n.nodes.length + 1 - (intOf i).toNat)
   case atStart => exact ⟨0, Nat.zero_le _, rfl, rfl, fun u h1 h2 => by omega⟩
   case round =>
    obtain ⟨j, hj, rfl, rfl, hnf⟩ := hrel
    have x2 := cell_below hbx x1
    by_cases hjl : j < n.nodes.length
    ·obtain ⟨b, off, S, sc, J, ic, Q, qc, rfl, hNA, -, hI, -⟩ := HR0.out.2.at_ hjl
     have hnok := Hok.out.2.2 _ (List.getElem_mem hjl)
     have hil := hnok.2.2.1
     have hIk := HIat.out j hjl
     generalize n.nodes[j] = v at *
     obtain ⟨⟨-, -, -, -, -, -, -, -, y8, -⟩, -, hIJ, -⟩ := hNA.below hbx
     have j1 : IntKind.i64.wrap ((j : Int) + 1 - 1) = (j : Int) := by rw [IntWalk.i64_in _ (by omega)]; omega
     have j2 : (j : Int) < n.nodes.length := by omega
     have j3 : (j : Int) + 1 ≤ (n.nodes.length : Int) := by omega
     have hfree : Kn.free I out ((j : Int) + 1) = freeTo out v.ins (!hasB out ((j : Int) + 1)) v.ins.length := by
      unfold Kn.free freeTo
      rw [hIk, List.take_length]
      rfl
     have HNA := Lib.hid hNA
     have HIJ := Lib.hid hIJ
     have HIk := Lib.hid hIk
     have Hnok := Lib.hid hnok
     have Hfree := Lib.hid hfree
     have Hnf := Lib.hid hnf
     clear hNA hIJ hIk hnok hfree hnf
     go_wp2_with fail
     refine (ref11_has Ao co out ((j : Int) + 1) _ (by omega) HIo.out).mono ?_
     rintro e w3 ⟨rfl, rfl⟩
     go_wp2_with fail
     have hfree := Hfree.out
     generalize (!hasB out ((j : Int) + 1)) = bh at *
     have Hfree := Lib.hid hfree
     clear hfree
     clear y8 x2
     go_loop [6, 8] (fun f i => ∃ m : Nat, m ≤ v.ins.length ∧ i = .int .i64 (m : Int) ∧ f = .bool (freeTo out v.ins bh m)) (fun _ i => v.ins.length - (intOf i).toNat)
     case atStart => exact ⟨0, Nat.zero_le _, rfl, by simp [freeTo]⟩
     case round =>
      obtain ⟨m, hm, rfl, rfl⟩ := hrel
      by_cases hlm : m < v.ins.length
      ·obtain ⟨b1, off1, rfl, -, hc⟩ := HIJ.out m hlm
       rw [getD_at hlm] at hc
       have hfs := @freeTo_succ out v.ins bh m hlm
       generalize freeTo out v.ins bh m = fm at *
       generalize v.ins[m] = u at *
       by_cases hu : u = 0
       ·have e1 : (u != 0) = false := by simp [hu]
        have HF := Lib.hid (show freeTo out v.ins bh (m + 1) = fm by rw [hfs, hu]; simp)
        clear hu hfs
        go_wp2_with fail
        go_round
        case rel => exact ⟨m + 1, by omega, by go_num, by rw [HF.out]⟩
        case measure => simp [intOf]; omega
       ·have e1 : (u != 0) = true := by simp [hu]
        have e0 : (u == 0) = false := by simp [hu]
        rw [e0, Bool.false_or] at hfs
        clear hu e0
        have Hfs := Lib.hid hfs
        clear hfs
        go_wp2_with fail
        refine (ref11_has Ao co out u _ (by omega) HIo.out).mono ?_
        rintro e w3 ⟨rfl, rfl⟩
        by_cases hh : hasB out u = true
        ·have HF := Lib.hid (show freeTo out v.ins bh (m + 1) = fm by rw [Hfs.out, show out.contains u = true from hh, Bool.and_true])
         rw [hh]
         clear hh
         go_wp2_with fail
         go_round
         case rel => exact ⟨m + 1, by omega, by go_num, by rw [HF.out]⟩
         case measure => simp [intOf]; omega
        ·have hh' : hasB out u = false := by simpa using hh
         have HF := Lib.hid (show freeTo out v.ins bh (m + 1) = false by rw [Hfs.out, show out.contains u = false from hh', Bool.and_false])
         rw [hh']
         clear hh hh'
         go_wp2_with fail
         go_round
         case rel => exact ⟨m + 1, by omega, by go_num, by rw [HF.out]⟩
         case measure => simp [intOf]; omega
      ·obtain rfl : m = v.ins.length := by omega
       rw [← Hfree.out]
       by_cases hf : Kn.free I out ((j : Int) + 1) = true
       ·obtain ⟨r, hr⟩ := Kn.ready_first (I := I) (n := n.nodes.length) (out := out) (id := (j : Int) + 1) (by omega) (by omega) hf (fun u h1 h2 => Hnf.out u h1 (by omega))
        have HG := Lib.hid (Hgo.out _ _ hr)
        have ho := ownsRow_new Hown.out (.cells #[.int .i64 ((j : Int) + 1)] 3)
        have hbx2 := (hbx.alloc hbx.size (.cells #[.int .i64 ((j : Int) + 1)] 3))
        have HLO := Lib.hid (fun b (hb : (Value.slice Ao out.length co).ownBlock = some b) => (Hown.out.lt b hb).1)
        rw [hf]
        clear hf hr
        go_wp2_with (at_builtin; refine wpList_append_own_at _ rfl _ _ 22 rfl w1.heap.size 3 i0 (.int .i64 0) 1 8 Tryz.underlying22 hi hz0 hz1 hz2 rfl (by decide) _ _ _ rfl ho ⟨wr.heap.size, 0, none⟩ 1 1 [.int .i64 ((j : Int) + 1)] rfl rfl ?c1 (by intro u hu; simp at hu; subst hu; rfl) (by unfold maxLen; omega) (by omega) ?c2 ?_)
        first | (case c1 => exact one_new wr _ _) | skip
        case c2 => first | exact hbx2.size | (have := hbx.size; omega)
        intro v' w3 hown' hgrow _ hat
        have hb3 : Below w1.heap.size w1 w3 := hbx2.grown hgrow hbx2.size (fun b hb => HLO.out b hb)
        have HO3 := Lib.hid (show w3.ownsRow w1.heap.size 3 1 v' (Kn.go I n.nodes.length (k + 1)).length ((Kn.go I n.nodes.length (k + 1)).map (Value.int .i64)) by rw [HG.out]; simpa using hown')
        clear hown' hgrow hat ho hbx2 HLO
        go_wp2_with fail
        go_roundw
        case rel => exact ⟨k + 1, by omega, by go_num, HO3.out, hb3⟩
        case measure => simp [intOf]; omega
       ·have hf' : Kn.free I out ((j : Int) + 1) = false := by simpa using hf
        have HNF := Lib.hid (show ∀ u : Int, 1 ≤ u → u ≤ ((j + 1 : Nat) : Int) → Kn.free I out u = false from fun u h1 h2 => by
         by_cases e : u = (j : Int) + 1
         ·rw [e]; exact hf'
         ·exact Hnf.out u h1 (by omega))
        rw [hf']
        clear hf hf'
        go_wp2_with fail
        go_round
        case rel => exact ⟨j + 1, by omega, by go_num, rfl, HNF.out⟩
        case measure => simp [intOf]; omega
    ·obtain rfl : j = n.nodes.length := by omega
     have HG := Lib.hid (Hstuck.out (Kn.ready_none (fun u h1 h2 => hnf u h1 h2)))
     have j3 : ¬ (n.nodes.length : Int) + 1 ≤ (n.nodes.length : Int) := by omega
     clear hnf
     go_wp2_with fail
     go_roundw
     case rel => exact ⟨k + 1, by omega, by go_num, by rw [HG.out]; exact Hown.out, hbx⟩
     case measure => simp [intOf]; omega
  ·obtain rfl : k = n.nodes.length := by omega
   have hos : os = Kn.go I n.nodes.length n.nodes.length := Hsort.out
   rw [← hos] at hown ⊢
   obtain ⟨q1, q2, q3⟩ := own_ints hown
   have Hown := Lib.hid hown
   have Hq1 := Lib.hid q1
   have Hos := Lib.hid hos
   clear hown q1 hos
   go_wp2_with fail
   go_ret
   exact ⟨Ao, co, rfl, Hq1.out, q2, q3, hb0.trans (hbx.mono hb0.size)⟩
end Go.Proofs.YtbnnpkcfifejmabGreat
namespace Go.Proofs.YtbnnpkcfifejmabGreat
open Go.RowKit
set_option maxHeartbeats 4000000 in
theorem ref03_same (A A' : Option Addr) (c c' : Nat) (xs ys : List Int) (w : World) (hl : xs.length ≤ 9223372036854775807) (hl' : ys.length ≤ 9223372036854775807) (hI : Ints .i64 w A xs) (hI' : Ints .i64 w A' ys) :
  Calls Tryz.prog 42 #[.slice A xs.length c, .slice A' ys.length c'] w fun e w' => e = .returned (.bool (decide (xs = ys))) ∧ ∃ q, w' = w.drewN q := by
 by_cases hlen : xs.length = ys.length
 ·have hlen2 : ys.length = xs.length := hlen.symm
  rw [hlen2]
  have HI := Lib.hid hI
  have HI' := Lib.hid hI'
  have Hlen := Lib.hid hlen
  have Hlen2 := Lib.hid hlen2
  clear hI hI' hlen hlen2
  go_enter Tryz.func42, Tryz.ntmps42
  go_wp2_with fail
  go_loopw [5] (fun i wr => ∃ k q : Nat, k ≤ xs.length ∧ i = .int .i64 k ∧ xs.take k = ys.take k ∧ wr = w.drewN q) (fun i _ => xs.length - (intOf i).toNat)
  case atStart => exact ⟨0, 0, Nat.zero_le _, rfl, rfl, rfl⟩
  case round =>
   obtain ⟨k, q, hk, rfl, htk, rfl⟩ := hrel
   by_cases hlt : k < xs.length
   ·have hlt2 : k < ys.length := by have := Hlen.out; omega
    obtain ⟨b, off, rfl, -, hc⟩ := HI.out k hlt
    obtain ⟨b', off', rfl, -, hc'⟩ := HI'.out k hlt2
    rw [getD_at hlt] at hc
    rw [getD_at hlt2] at hc'
    have hd : w.drewN q = w.drewN q := rfl
    have k0 : (0 : Int) ≤ (k : Int) := by omega
    have k1 : (k : Int) < (xs.length : Int) := by omega
    have hnx : xs[k] = ys[k] → xs.take (k + 1) = ys.take (k + 1) := fun e => by rw [List.take_succ_eq_append_getElem hlt, List.take_succ_eq_append_getElem hlt2, htk, e]
    have hno : xs[k] ≠ ys[k] → decide (xs = ys) = false := fun e => by simp; intro h; subst h; exact e rfl
    generalize xs[k] = x at *
    generalize ys[k] = y at *
    by_cases hxy : x = y
    ·have e1 : (x != y) = false := by simp [hxy]
     have HX := Lib.hid (hnx hxy)
     clear hnx hno htk hxy hd
     go_wp2_with fail
     go_quiet (fail)
     go_wp2_with fail
     go_roundw
     case rel => exact ⟨k + 1, _, by omega, by go_num, HX.out, by first | rfl | exact World.drewN_drewN _ _ _⟩
     case measure => simp [intOf]; omega
    ·have e1 : (x != y) = true := by simp [hxy]
     have HX := Lib.hid (hno hxy)
     clear hnx hno htk hxy hd
     go_wp2_with fail
     go_quiet (fail)
     go_wp2_with fail
     go_ret
     exact ⟨by rw [HX.out]; rfl, _, by first | rfl | exact World.drewN_drewN _ _ _⟩
   ·obtain rfl : k = xs.length := by omega
    have HX := Lib.hid (show decide (xs = ys) = true by
     rw [List.take_length] at htk
     rw [htk, Hlen.out, List.take_length]; simp)
    clear htk
    go_wp2_with fail
    go_ret
    exact ⟨by rw [HX.out]; rfl, _, rfl⟩
 ·have HX := Lib.hid (show decide (xs = ys) = false by simp; intro h; exact hlen (by rw [h]))
  have e1 : ((xs.length : Int) != (ys.length : Int)) = true := by rw [bne_iff_ne]; omega
  have e2 : (xs.length != ys.length) = true := by rw [bne_iff_ne]; omega
  have HI := Lib.hid hI
  have HI' := Lib.hid hI'
  have Hlen := Lib.hid hlen
  clear hI hI' hlen
  go_enter Tryz.func42, Tryz.ntmps42
  go_wp2_with fail
  go_ret
  exact ⟨by rw [HX.out]; rfl, 0, rfl⟩
theorem prod_snoc (l : List Int) (x : Int) : Safe.prod (l ++ [x]) = Safe.prod l * x := by
 induction l with
 | nil => simp [Safe.prod]
 | cons a r ih => simp only [List.cons_append, Safe.prod, ih]; rw [Int.mul_assoc]
theorem prod_pos1 {l : List Int} (h : ∀ x ∈ l, 1 ≤ x) : 1 ≤ Safe.prod l := by
 induction l with
 | nil => simp [Safe.prod]
 | cons a r ih =>
  have h1 := h a (by simp)
  have h2 := ih fun x hx => h x (by simp [hx])
  simp only [Safe.prod]
  have := Int.mul_pos (show 0 < a by omega) (show 0 < Safe.prod r by omega)
  omega
set_option maxHeartbeats 4000000 in
theorem ref03_size (A : Option Addr) (c : Nat) (zs : List Int) (w : World) (hr : Sh.right zs = true) (hI : Ints .i64 w A zs) :
  Calls Tryz.prog 41 #[.slice A zs.length c] w fun e w' => e = .returned (.int .i64 (Safe.prod zs)) ∧ w = w' := by
 obtain ⟨-, h1, h2, h3, h4, h5⟩ := Sh.right_mul hr
 have hp : ∀ k, 1 ≤ Safe.prod (zs.take k) ∧ Safe.prod (zs.take k) ≤ 1099511627776 := fun k => by
  refine ⟨?_, Sh.prod_le (fun x hx => h3 x (List.mem_of_mem_take hx)) (by simp; omega)⟩
  exact prod_pos1 fun x hx => (h3 x (List.mem_of_mem_take hx)).1
 have HI := Lib.hid hI
 have Hr := Lib.hid hr
 have Hp := Lib.hid hp
 have H3 := Lib.hid h3
 clear hI hr hp h3
 go_enter Tryz.func41, Tryz.ntmps41
 go_wp2_with fail
 go_loop [3, 4] (fun t i => ∃ k : Nat, k ≤ zs.length ∧ i = .int .i64 k ∧ t = .int .i64 (Safe.prod (zs.take k))) (fun _ i => zs.length - (intOf i).toNat)
 case atStart => exact ⟨0, Nat.zero_le _, rfl, rfl⟩
 case round =>
  obtain ⟨k, hk, rfl, rfl⟩ := hrel
  by_cases hlt : k < zs.length
  ·obtain ⟨b, off, rfl, -, hc⟩ := HI.out k hlt
   rw [getD_at hlt] at hc
   have hq := Hp.out (k + 1)
   have hs : Safe.prod (zs.take (k + 1)) = Safe.prod (zs.take k) * zs[k] := by rw [List.take_succ_eq_append_getElem hlt, prod_snoc]
   rw [hs] at hq
   generalize Safe.prod (zs.take k) = p at *
   generalize zs[k] = z at *
   obtain ⟨q1, q2⟩ := hq
   have hw : IntKind.i64.wrap (p * z) = p * z := IntWalk.i64_in _ (by omega)
   have Hs := Lib.hid hs
   clear hs
   go_wp2_with fail
   go_round
   case rel => exact ⟨k + 1, by omega, by go_num, by rw [Hs.out]⟩
   case measure => simp [intOf]; omega
  ·obtain rfl : k = zs.length := by omega
   rw [List.take_length]
   go_wp2_with fail
   go_ret
   exact ⟨rfl, rfl⟩
set_option maxHeartbeats 4000000 in
theorem ref03_right (A : Option Addr) (c : Nat) (zs : List Int) (w : World) (hl : zs.length ≤ 9223372036854775807) (hI : Ints .i64 w A zs) :
  Calls Tryz.prog 36 #[.slice A zs.length c] w fun e w' => e = .returned (.bool (Sh.right zs)) ∧ w = w' := by
 by_cases hlen : 1 ≤ zs.length ∧ zs.length ≤ 4
 ·obtain ⟨l1, l2⟩ := hlen
  have d1 : decide ((zs.length : Int) < 1) = false := by simp; omega
  have d2 : decide ((4 : Int) < (zs.length : Int)) = false := by simp; omega
  have HI := Lib.hid hI
  clear hI
  go_enter Tryz.func36, Tryz.ntmps36
  go_wp2_with fail
  go_loop [3, 4] (fun t i => ∃ k : Nat, k ≤ zs.length ∧ i = .int .i64 k ∧ (zs.take k).all Sh.side = true ∧ t = .int .i64 (Safe.prod (zs.take k))) (fun _ i => zs.length - (intOf i).toNat)
  case atStart => exact ⟨0, Nat.zero_le _, rfl, rfl, rfl⟩
  case round =>
   obtain ⟨k, hk, rfl, hall, rfl⟩ := hrel
   by_cases hlt : k < zs.length
   ·obtain ⟨b, off, rfl, -, hc⟩ := HI.out k hlt
    rw [getD_at hlt] at hc
    have hs : Safe.prod (zs.take (k + 1)) = Safe.prod (zs.take k) * zs[k] := by rw [List.take_succ_eq_append_getElem hlt, prod_snoc]
    by_cases hz : 1 ≤ zs[k] ∧ zs[k] ≤ 1024
    ·have hall2 : (zs.take (k + 1)).all Sh.side = true := by
      rw [List.take_succ_eq_append_getElem hlt, List.all_append, hall]
      simp [Sh.side, hz]
     have hb2 : ∀ x ∈ zs.take (k + 1), 1 ≤ x ∧ x ≤ 1024 := Sh.all_iff hall2
     have hq : Safe.prod (zs.take (k + 1)) ≤ 1099511627776 := Sh.prod_le hb2 (by simp; omega)
     have hq1 : 1 ≤ Safe.prod (zs.take (k + 1)) := by
      exact prod_pos1 fun x hx => (hb2 x hx).1
     rw [hs] at hq hq1
     generalize Safe.prod (zs.take k) = p at *
     generalize zs[k] = z at *
     have hw : IntKind.i64.wrap (p * z) = p * z := IntWalk.i64_in _ (by omega)
     have e1 : decide (z < 1) = false := by simp; omega
     have e2 : decide (1024 < z) = false := by simp; omega
     clear hz hall hb2
     have Hs := Lib.hid hs
     have Hall2 := Lib.hid hall2
     clear hs hall2
     go_wp2_with fail
     go_round
     case rel => exact ⟨k + 1, by omega, by go_num, Hall2.out, by rw [Hs.out]⟩
     case measure => simp [intOf]; omega
    ·have hno : Sh.right zs = false := Sh.right_side (by
      rw [List.all_eq_false]
      exact ⟨zs[k], List.getElem_mem hlt, by rw [Sh.side_iff]; exact hz⟩)
     generalize zs[k] = z at *
     have Hno := Lib.hid hno
     have Hall := Lib.hid hall
     have Hs := Lib.hid hs
     clear hno hall hs
     by_cases hz1 : z < 1
     ·have e1 : decide (z < 1) = true := by simpa using hz1
      clear hz
      go_wp2_with fail
      go_ret
      exact ⟨by rw [Hno.out]; rfl, rfl⟩
     ·have e1 : decide (z < 1) = false := by simpa using hz1
      have e2 : decide (1024 < z) = true := by simp; omega
      clear hz
      go_wp2_with fail
      go_ret
      exact ⟨by rw [Hno.out]; rfl, rfl⟩
   ·obtain rfl : k = zs.length := by omega
    rw [List.take_length] at hall ⊢
    have HR := Lib.hid (Sh.right_prod ⟨l1, l2⟩ hall)
    clear hall
    go_wp2_with fail
    go_ret
    exact ⟨by rw [HR.out]; rfl, rfl⟩
 ·have HR := Lib.hid (Sh.right_len hlen)
  have HI := Lib.hid hI
  clear hI
  by_cases h1 : zs.length < 1
  ·have d1 : decide ((zs.length : Int) < 1) = true := by simp; omega
   clear hlen
   go_enter Tryz.func36, Tryz.ntmps36
   go_wp2_with fail
   go_ret
   exact ⟨by rw [HR.out]; rfl, rfl⟩
  ·have d1 : decide ((zs.length : Int) < 1) = false := by simp; omega
   have d2 : decide ((4 : Int) < (zs.length : Int)) = true := by simp; omega
   clear hlen
   go_enter Tryz.func36, Tryz.ntmps36
   go_wp2_with fail
   go_ret
   exact ⟨by rw [HR.out]; rfl, rfl⟩
set_option maxHeartbeats 4000000 in
theorem ref05_ins (k : Int) (w : World) : Calls Tryz.prog 119 #[.int .i64 k] w fun e w' => e = .returned (.int .i64 (Od.ptIns k)) ∧ w = w' := by
 by_cases h1 : 1 ≤ k ∧ k ≤ 5
 ·have HX := Lib.hid (show Od.ptIns k = 1 by unfold Od.ptIns; rw [if_pos h1])
  obtain ⟨a, b⟩ := h1
  go_enter Tryz.func119, Tryz.ntmps119
  go_wp2_with fail
  go_ret
  exact ⟨by rw [HX.out]; rfl, rfl⟩
 ·by_cases h2 : k = 6 ∨ k = 7
  ·have HX := Lib.hid (show Od.ptIns k = 2 by unfold Od.ptIns; rw [if_neg h1, if_pos h2])
   clear h1
   rcases h2 with rfl | rfl
   all_goals
    go_enter Tryz.func119, Tryz.ntmps119
    go_wp2_with fail
    go_ret
    exact ⟨by rw [HX.out]; rfl, rfl⟩
  ·have HX := Lib.hid (show Od.ptIns k = 0 by unfold Od.ptIns; rw [if_neg h1, if_neg h2])
   have e6 : (k == 6) = false := by simp; omega
   have e7 : (k == 7) = false := by simp; omega
   by_cases h3 : 1 ≤ k
   ·have d2 : decide (k ≤ 5) = false := by simp; omega
    clear h1 h2
    go_enter Tryz.func119, Tryz.ntmps119
    go_wp2_with fail
    go_ret
    exact ⟨by rw [HX.out]; rfl, rfl⟩
   ·have d2 : decide (1 ≤ k) = false := by simp; omega
    clear h1 h2
    go_enter Tryz.func119, Tryz.ntmps119
    go_wp2_with fail
    go_ret
    exact ⟨by rw [HX.out]; rfl, rfl⟩
def refIns (k : Int) : Int × Int := if 1 ≤ k ∧ k ≤ 7 then (Od.ptIns k, Od.ptIns k) else if k = 13 then (1, 8) else if 8 ≤ k ∧ k ≤ 15 then (1, 1) else (0, 0)
theorem refIns_right {o : OpD} (h : Od.right o = true) : refIns o.kind = (Od.least o, Od.most o) := by
 have hk := Od.right_kind h
 unfold refIns Od.least Od.most
 rw [if_pos h, if_pos h]
 by_cases h7 : o.kind ≤ 7
 ·rw [if_pos ⟨hk.1, h7⟩, if_pos h7, if_pos h7]
 ·rw [if_neg (by omega), if_neg h7, if_neg h7]
  by_cases h13 : o.kind = 13
  ·rw [if_pos h13, if_pos h13]
  ·rw [if_neg h13, if_neg h13, if_pos (by omega)]
def refPar (k : Int) : Int := if k = 8 then 2 else if k = 9 ∨ k = 10 then 1 else 0
theorem refPar_right {o : OpD} (h : Od.right o = true) : refPar o.kind = Od.params o := by unfold refPar Od.params; rw [if_pos h]
set_option maxHeartbeats 4000000 in
theorem ref10_ins (k : Int) (w : World) (hk : 1 ≤ k ∧ k ≤ 15) : Calls Tryz.prog 79 #[.int .i64 k] w fun e w' => e = .returned (.tuple #[.int .i64 (refIns k).1, .int .i64 (refIns k).2]) ∧ w = w' := by
 by_cases h1 : k ≤ 7
 ·have HX := Lib.hid (show refIns k = (Od.ptIns k, Od.ptIns k) by unfold refIns; rw [if_pos ⟨hk.1, h1⟩])
  obtain ⟨a, b⟩ := hk
  go_enter Tryz.func79, Tryz.ntmps79
  go_wp2_with fail
  refine (ref05_ins k _).mono ?_
  rintro e w1 ⟨rfl, rfl⟩
  go_wp2_with fail
  go_ret2
  exact ⟨by rw [HX.out]; rfl, rfl⟩
 ·have d7 : decide (k ≤ 7) = false := by simp; omega
  by_cases h13 : k = 13
  ·have HX := Lib.hid (show refIns k = (1, 8) by unfold refIns; rw [if_neg (by omega), if_pos h13])
   subst h13
   clear hk
   go_enter Tryz.func79, Tryz.ntmps79
   go_wp2_with fail
   go_ret2
   exact ⟨by rw [HX.out]; rfl, rfl⟩
  ·have HX := Lib.hid (show refIns k = (1, 1) by unfold refIns; rw [if_neg (by omega), if_neg h13, if_pos (by omega)])
   have e13 : (k == 13) = false := by simp; omega
   have g8 : 8 ≤ k := by omega
   obtain ⟨a, b⟩ := hk
   clear h13
   go_enter Tryz.func79, Tryz.ntmps79
   go_wp2_with fail
   go_ret2
   exact ⟨by rw [HX.out]; rfl, rfl⟩
set_option maxHeartbeats 4000000 in
theorem ref10_params (k : Int) (w : World) : Calls Tryz.prog 80 #[.int .i64 k] w fun e w' => e = .returned (.int .i64 (refPar k)) ∧ w = w' := by
 by_cases h8 : k = 8
 ·subst h8
  go_enter Tryz.func80, Tryz.ntmps80
  go_wp2_with fail
  go_ret
  exact ⟨rfl, rfl⟩
 ·by_cases h9 : k = 9
  ·subst h9
   clear h8
   go_enter Tryz.func80, Tryz.ntmps80
   go_wp2_with fail
   go_ret
   exact ⟨rfl, rfl⟩
  ·by_cases h10 : k = 10
   ·subst h10
    clear h8 h9
    go_enter Tryz.func80, Tryz.ntmps80
    go_wp2_with fail
    go_ret
    exact ⟨rfl, rfl⟩
   ·have HX := Lib.hid (show refPar k = 0 by unfold refPar; rw [if_neg h8, if_neg (by omega)])
    have e8 : (k == 8) = false := by simp; omega
    have e9 : (k == 9) = false := by simp; omega
    have e10 : (k == 10) = false := by simp; omega
    clear h8 h9 h10
    go_enter Tryz.func80, Tryz.ntmps80
    go_wp2_with fail
    go_ret
    exact ⟨by rw [HX.out]; rfl, rfl⟩
theorem window_steps {side width step : Int} (h1 : 1 ≤ step) (h2 : width ≤ side) (h3 : 1 ≤ width) (h4 : side ≤ 1024) {k : Int} (hk : 0 ≤ k) (hw : (k - 1) * step + width ≤ side) (hs : ¬ k * step + width ≤ side) : k = 1 + (side - width).tdiv step := by
 rw [Int.tdiv_eq_ediv_of_nonneg (by omega)]
 have e1 : (k - 1) * step ≤ side - width := by omega
 have e2 : side - width < k * step := by omega
 have h5 := Int.le_ediv_of_mul_le (show 0 < step by omega) e1
 have h6 := Int.ediv_lt_of_lt_mul (show 0 < step by omega) e2
 omega
set_option maxHeartbeats 4000000 in
theorem ref07_window (side width step : Int) (w : World) : Calls Tryz.prog 120 #[.int .i64 side, .int .i64 width, .int .i64 step] w fun e w' => e = .returned (.int .i64 (Od.window side width step).1) ∧ w = w' := by
 by_cases h1 : 1 ≤ side ∧ side ≤ 1024 ∧ 1 ≤ width ∧ width ≤ 1024 ∧ 1 ≤ step ∧ step ≤ 1024 ∧ width ≤ side
 ·have HX := Lib.hid (show (Od.window side width step).1 = 1 + (side - width).tdiv step by
   unfold Od.window; rw [if_pos (by simp only [Sh.side_iff]; omega)])
  obtain ⟨a1, a2, a3, a4, a5, a6, a7⟩ := h1
  have c1 : decide (side < 1) = false := by simp; omega
  have c2 : decide (width < 1) = false := by simp; omega
  have c3 : decide (step < 1) = false := by simp; omega
  have c4 : decide (1024 < side) = false := by simp; omega
  have c5 : decide (1024 < width) = false := by simp; omega
  have c6 : decide (1024 < step) = false := by simp; omega
  have c7 : decide (side < width) = false := by simp; omega
  go_enter Tryz.func120, Tryz.ntmps120
  go_wp2_with fail
  go_loop [7, 8] (fun t i => ∃ k : Int, 0 ≤ k ∧ i = .int .i64 (k * step) ∧ t = .int .i64 k ∧ (k - 1) * step + width ≤ side) (fun _ i => (side + 1 - intOf i).toNat)
  case atStart => exact ⟨0, by omega, by rw [Int.zero_mul], rfl, by rw [Int.zero_sub, Int.neg_mul, Int.one_mul]; omega⟩
  case round =>
   obtain ⟨k, hk, rfl, rfl, hle⟩ := hrel
   have b1 : (k - 1) * step = k * step - step := by rw [Int.sub_mul, Int.one_mul]
   have b0 : 0 ≤ k * step := Int.mul_nonneg hk (by omega)
   have b3 : k ≤ k * step + 1 := by
    have := Int.mul_le_mul_of_nonneg_left (show 1 ≤ step from a5) hk
    omega
   have b2 : (k + 1) * step = k * step + step := by rw [Int.add_mul, Int.one_mul]
   have hst := @window_steps side width step a5 a7 a3 a2 k hk hle
   rw [b1] at hle
   have hle2 : k * step + width ≤ side → (k + 1 - 1) * step + width ≤ side := fun h => by rw [Int.add_sub_cancel]; exact h
   generalize k * step = m at *
   by_cases hc : m + width ≤ side
   ·have HL := Lib.hid (hle2 hc)
    have Hb1 := Lib.hid b1
    have Hb2 := Lib.hid b2
    have Hst := Lib.hid hst
    have Hle2 := Lib.hid hle2
    clear b1 b2 hst hle2
    go_wp2_with fail
    go_round
    case rel => exact ⟨k + 1, by omega, by rw [Hb2.out], rfl, HL.out⟩
    case measure => simp [intOf]; omega
   ·have HK := Lib.hid (hst hc)
    have Hb1 := Lib.hid b1
    have Hb2 := Lib.hid b2
    have Hst := Lib.hid hst
    have Hle2 := Lib.hid hle2
    clear b1 b2 hst hle2
    go_wp2_with fail
    go_ret
    exact ⟨by rw [HX.out, ← HK.out]; rfl, rfl⟩
 ·have HX := Lib.hid (show (Od.window side width step).1 = 0 by
   unfold Od.window; rw [if_neg (by simp only [Sh.side_iff]; omega)])
  by_cases c1 : side < 1
  ·have d1 : decide (side < 1) = true := by simpa using c1
   clear h1
   go_enter Tryz.func120, Tryz.ntmps120
   go_wp2_with fail
   go_ret
   exact ⟨by rw [HX.out]; rfl, rfl⟩
  ·have d1 : decide (side < 1) = false := by simpa using c1
   by_cases c2 : width < 1
   ·have d2 : decide (width < 1) = true := by simpa using c2
    clear h1
    go_enter Tryz.func120, Tryz.ntmps120
    go_wp2_with fail
    go_ret
    exact ⟨by rw [HX.out]; rfl, rfl⟩
   ·have d2 : decide (width < 1) = false := by simpa using c2
    by_cases c3 : step < 1
    ·have d3 : decide (step < 1) = true := by simpa using c3
     clear h1
     go_enter Tryz.func120, Tryz.ntmps120
     go_wp2_with fail
     go_ret
     exact ⟨by rw [HX.out]; rfl, rfl⟩
    ·have d3 : decide (step < 1) = false := by simpa using c3
     by_cases c4 : 1024 < side
     ·have d4 : decide (1024 < side) = true := by simpa using c4
      clear h1
      go_enter Tryz.func120, Tryz.ntmps120
      go_wp2_with fail
      go_ret
      exact ⟨by rw [HX.out]; rfl, rfl⟩
     ·have d4 : decide (1024 < side) = false := by simpa using c4
      by_cases c5 : 1024 < width
      ·have d5 : decide (1024 < width) = true := by simpa using c5
       clear h1
       go_enter Tryz.func120, Tryz.ntmps120
       go_wp2_with fail
       go_ret
       exact ⟨by rw [HX.out]; rfl, rfl⟩
      ·have d5 : decide (1024 < width) = false := by simpa using c5
       by_cases c6 : 1024 < step
       ·have d6 : decide (1024 < step) = true := by simpa using c6
        clear h1
        go_enter Tryz.func120, Tryz.ntmps120
        go_wp2_with fail
        go_ret
        exact ⟨by rw [HX.out]; rfl, rfl⟩
       ·have d6 : decide (1024 < step) = false := by simpa using c6
        have d7 : decide (side < width) = true := by simp; omega
        clear h1
        go_enter Tryz.func120, Tryz.ntmps120
        go_wp2_with fail
        go_ret
        exact ⟨by rw [HX.out]; rfl, rfl⟩
end Go.Proofs.YtbnnpkcfifejmabGreat
namespace Go.Proofs.YtbnnpkcfifejmabGreat
open Go.RowKit
set_option maxHeartbeats 8000000 in
set_option maxRecDepth 20000 in
theorem ref10_right (o : OpD) (S : Option Addr) (c : Nat) (w : World) (hl : o.s.length ≤ 9223372036854775807) :
  Calls Tryz.prog 37 #[.agg #[.int .i64 o.kind, .int .i64 o.k, .int .i64 o.width, .int .i64 o.step, .int .i64 o.side, .int .i64 o.frm, .int .i64 o.to, .slice S o.s.length c]] w fun e w' => e = .returned (.bool (Od.refRight o)) ∧ Below w.heap.size w w' := by
 have hb0 : Below w.heap.size w (w.alloc (.cells #[.int .i64 o.kind, .int .i64 o.k, .int .i64 o.width, .int .i64 o.step, .int .i64 o.side, .int .i64 o.frm, .int .i64 o.to, .slice S o.s.length c] 91)) := (Below.refl _ _).alloc (Nat.le_refl _) _
 have hk0 := Blk.new w 91 #[.int .i64 o.kind, .int .i64 o.k, .int .i64 o.width, .int .i64 o.step, .int .i64 o.side, .int .i64 o.frm, .int .i64 o.to, .slice S o.s.length c]
 obtain ⟨y0, y1, y2, y3, y4, y5, y6, y7⟩ := op_cells hk0
 have HB := Lib.hid hb0
 clear hk0 hb0
 go_enter Tryz.func37, Tryz.ntmps37
 go_upto_region 1 with fail
 generalize (w.alloc (.cells #[.int .i64 o.kind, .int .i64 o.k, .int .i64 o.width, .int .i64 o.step, .int .i64 o.side, .int .i64 o.frm, .int .i64 o.to, .slice S o.s.length c] 91)) = w1 at *
 go_cut [10] (fun v wx => v = .bool (decide (o.kind < 1 ∨ 15 < o.kind)) ∧ w1 = wx)
 case first =>
  by_cases c1 : o.kind < 1
  ·have e1 : decide (o.kind < 1) = true := by simp; omega
   have HX := Lib.hid (show decide (o.kind < 1 ∨ 15 < o.kind) = true by simp; omega)
   clear c1
   go_wp2_with fail
   go_meet
   exact ⟨by rw [HX.out], rfl⟩
  ·have e1 : decide (o.kind < 1) = false := by simp; omega
   by_cases c2 : 15 < o.kind
   ·have e2 : decide (15 < o.kind) = true := by simp; omega
    have HX := Lib.hid (show decide (o.kind < 1 ∨ 15 < o.kind) = true by simp; omega)
    clear c1 c2
    go_wp2_with fail
    go_meet
    exact ⟨by rw [HX.out], rfl⟩
   ·have e2 : decide (15 < o.kind) = false := by simp; omega
    have HX := Lib.hid (show decide (o.kind < 1 ∨ 15 < o.kind) = false by simp; omega)
    clear c1 c2
    go_wp2_with fail
    go_meet
    exact ⟨by rw [HX.out], rfl⟩
 case rest =>
  obtain ⟨rfl, rfl⟩ := hcut
  by_cases f0 : o.kind < 1 ∨ 15 < o.kind
  ·have q0 : decide (o.kind < 1 ∨ 15 < o.kind) = true := decide_eq_true f0
   have HX := Lib.hid (show Od.refRight o = false by unfold Od.refRight; rw [if_pos f0])
   clear f0
   rw [q0]
   clear q0
   go_wp2_with fail
   go_ret
   exact ⟨by rw [HX.out]; rfl, HB.out⟩
  ·have q0 : decide (o.kind < 1 ∨ 15 < o.kind) = false := decide_eq_false f0
   rw [q0]
   clear q0
   go_upto_region 3 with fail
   go_cut [23] (fun v wx => v = .bool (decide (o.k ≠ 0 ∧ o.kind ≠ 2 ∧ o.kind ≠ 5)) ∧ w1 = wx)
   case first =>
    by_cases c1 : o.k = 0
    ·have e1 : (o.k != 0) = false := by simp; omega
     have HX := Lib.hid (show decide (o.k ≠ 0 ∧ o.kind ≠ 2 ∧ o.kind ≠ 5) = false by simp; omega)
     clear c1
     go_wp2_with fail
     go_meet
     exact ⟨by rw [HX.out], rfl⟩
    ·have e1 : (o.k != 0) = true := by simp; omega
     by_cases c2 : o.kind = 2
     ·have e2 : (o.kind != 2) = false := by simp; omega
      have HX := Lib.hid (show decide (o.k ≠ 0 ∧ o.kind ≠ 2 ∧ o.kind ≠ 5) = false by simp; omega)
      clear c1 c2
      go_wp2_with fail
      go_meet
      exact ⟨by rw [HX.out], rfl⟩
     ·have e2 : (o.kind != 2) = true := by simp; omega
      by_cases c3 : o.kind = 5
      ·have e3 : (o.kind != 5) = false := by simp; omega
       have HX := Lib.hid (show decide (o.k ≠ 0 ∧ o.kind ≠ 2 ∧ o.kind ≠ 5) = false by simp; omega)
       clear c1 c2 c3
       go_wp2_with fail
       go_meet
       exact ⟨by rw [HX.out], rfl⟩
      ·have e3 : (o.kind != 5) = true := by simp; omega
       have HX := Lib.hid (show decide (o.k ≠ 0 ∧ o.kind ≠ 2 ∧ o.kind ≠ 5) = true by simp; omega)
       clear c1 c2 c3
       go_wp2_with fail
       go_meet
       exact ⟨by rw [HX.out], rfl⟩
   case rest =>
    obtain ⟨rfl, rfl⟩ := hcut
    by_cases f1 : o.k ≠ 0 ∧ o.kind ≠ 2 ∧ o.kind ≠ 5
    ·have q1 : decide (o.k ≠ 0 ∧ o.kind ≠ 2 ∧ o.kind ≠ 5) = true := decide_eq_true f1
     have HX := Lib.hid (show Od.refRight o = false by unfold Od.refRight; rw [if_neg f0, if_pos f1])
     clear f0 f1
     rw [q1]
     clear q1
     go_wp2_with fail
     go_ret
     exact ⟨by rw [HX.out]; rfl, HB.out⟩
    ·have q1 : decide (o.k ≠ 0 ∧ o.kind ≠ 2 ∧ o.kind ≠ 5) = false := decide_eq_false f1
     rw [q1]
     clear q1
     go_upto_region 5 with fail
     go_cut [36] (fun v wx => v = .bool (decide (o.width ≠ 0 ∧ o.kind ≠ 11 ∧ o.kind ≠ 12)) ∧ w1 = wx)
     case first =>
      by_cases c1 : o.width = 0
      ·have e1 : (o.width != 0) = false := by simp; omega
       have HX := Lib.hid (show decide (o.width ≠ 0 ∧ o.kind ≠ 11 ∧ o.kind ≠ 12) = false by simp; omega)
       clear c1
       go_wp2_with fail
       go_meet
       exact ⟨by rw [HX.out], rfl⟩
      ·have e1 : (o.width != 0) = true := by simp; omega
       by_cases c2 : o.kind = 11
       ·have e2 : (o.kind != 11) = false := by simp; omega
        have HX := Lib.hid (show decide (o.width ≠ 0 ∧ o.kind ≠ 11 ∧ o.kind ≠ 12) = false by simp; omega)
        clear c1 c2
        go_wp2_with fail
        go_meet
        exact ⟨by rw [HX.out], rfl⟩
       ·have e2 : (o.kind != 11) = true := by simp; omega
        by_cases c3 : o.kind = 12
        ·have e3 : (o.kind != 12) = false := by simp; omega
         have HX := Lib.hid (show decide (o.width ≠ 0 ∧ o.kind ≠ 11 ∧ o.kind ≠ 12) = false by simp; omega)
         clear c1 c2 c3
         go_wp2_with fail
         go_meet
         exact ⟨by rw [HX.out], rfl⟩
        ·have e3 : (o.kind != 12) = true := by simp; omega
         have HX := Lib.hid (show decide (o.width ≠ 0 ∧ o.kind ≠ 11 ∧ o.kind ≠ 12) = true by simp; omega)
         clear c1 c2 c3
         go_wp2_with fail
         go_meet
         exact ⟨by rw [HX.out], rfl⟩
     case rest =>
      obtain ⟨rfl, rfl⟩ := hcut
      by_cases f2 : o.width ≠ 0 ∧ o.kind ≠ 11 ∧ o.kind ≠ 12
      ·have q2 : decide (o.width ≠ 0 ∧ o.kind ≠ 11 ∧ o.kind ≠ 12) = true := decide_eq_true f2
       have HX := Lib.hid (show Od.refRight o = false by unfold Od.refRight; rw [if_neg f0, if_neg f1, if_pos f2])
       clear f0 f1 f2
       rw [q2]
       clear q2
       go_wp2_with fail
       go_ret
       exact ⟨by rw [HX.out]; rfl, HB.out⟩
      ·have q2 : decide (o.width ≠ 0 ∧ o.kind ≠ 11 ∧ o.kind ≠ 12) = false := decide_eq_false f2
       rw [q2]
       clear q2
       go_upto_region 7 with fail
       go_cut [49] (fun v wx => v = .bool (decide (o.step ≠ 0 ∧ (o.kind < 10 ∨ 12 < o.kind))) ∧ w1 = wx)
       case first =>
        by_cases c1 : o.step = 0
        ·have e1 : (o.step != 0) = false := by simp; omega
         have HX := Lib.hid (show decide (o.step ≠ 0 ∧ (o.kind < 10 ∨ 12 < o.kind)) = false by simp; omega)
         clear c1
         go_wp2_with fail
         go_meet
         exact ⟨by rw [HX.out], rfl⟩
        ·have e1 : (o.step != 0) = true := by simp; omega
         by_cases c2 : o.kind < 10
         ·have e2 : decide (o.kind < 10) = true := by simp; omega
          have HX := Lib.hid (show decide (o.step ≠ 0 ∧ (o.kind < 10 ∨ 12 < o.kind)) = true by simp; omega)
          clear c1 c2
          go_wp2_with fail
          go_meet
          exact ⟨by rw [HX.out], rfl⟩
         ·have e2 : decide (o.kind < 10) = false := by simp; omega
          by_cases c3 : 12 < o.kind
          ·have e3 : decide (12 < o.kind) = true := by simp; omega
           have HX := Lib.hid (show decide (o.step ≠ 0 ∧ (o.kind < 10 ∨ 12 < o.kind)) = true by simp; omega)
           clear c1 c2 c3
           go_wp2_with fail
           go_meet
           exact ⟨by rw [HX.out], rfl⟩
          ·have e3 : decide (12 < o.kind) = false := by simp; omega
           have HX := Lib.hid (show decide (o.step ≠ 0 ∧ (o.kind < 10 ∨ 12 < o.kind)) = false by simp; omega)
           clear c1 c2 c3
           go_wp2_with fail
           go_meet
           exact ⟨by rw [HX.out], rfl⟩
       case rest =>
        obtain ⟨rfl, rfl⟩ := hcut
        by_cases f3 : o.step ≠ 0 ∧ (o.kind < 10 ∨ 12 < o.kind)
        ·have q3 : decide (o.step ≠ 0 ∧ (o.kind < 10 ∨ 12 < o.kind)) = true := decide_eq_true f3
         have HX := Lib.hid (show Od.refRight o = false by unfold Od.refRight; rw [if_neg f0, if_neg f1, if_neg f2, if_pos f3])
         clear f0 f1 f2 f3
         rw [q3]
         clear q3
         go_wp2_with fail
         go_ret
         exact ⟨by rw [HX.out]; rfl, HB.out⟩
        ·have q3 : decide (o.step ≠ 0 ∧ (o.kind < 10 ∨ 12 < o.kind)) = false := decide_eq_false f3
         rw [q3]
         clear q3
         go_upto_region 9 with fail
         go_cut [62] (fun v wx => v = .bool (decide (o.side ≠ 0 ∧ o.kind ≠ 13 ∧ o.kind ≠ 14)) ∧ w1 = wx)
         case first =>
          by_cases c1 : o.side = 0
          ·have e1 : (o.side != 0) = false := by simp; omega
           have HX := Lib.hid (show decide (o.side ≠ 0 ∧ o.kind ≠ 13 ∧ o.kind ≠ 14) = false by simp; omega)
           clear c1
           go_wp2_with fail
           go_meet
           exact ⟨by rw [HX.out], rfl⟩
          ·have e1 : (o.side != 0) = true := by simp; omega
           by_cases c2 : o.kind = 13
           ·have e2 : (o.kind != 13) = false := by simp; omega
            have HX := Lib.hid (show decide (o.side ≠ 0 ∧ o.kind ≠ 13 ∧ o.kind ≠ 14) = false by simp; omega)
            clear c1 c2
            go_wp2_with fail
            go_meet
            exact ⟨by rw [HX.out], rfl⟩
           ·have e2 : (o.kind != 13) = true := by simp; omega
            by_cases c3 : o.kind = 14
            ·have e3 : (o.kind != 14) = false := by simp; omega
             have HX := Lib.hid (show decide (o.side ≠ 0 ∧ o.kind ≠ 13 ∧ o.kind ≠ 14) = false by simp; omega)
             clear c1 c2 c3
             go_wp2_with fail
             go_meet
             exact ⟨by rw [HX.out], rfl⟩
            ·have e3 : (o.kind != 14) = true := by simp; omega
             have HX := Lib.hid (show decide (o.side ≠ 0 ∧ o.kind ≠ 13 ∧ o.kind ≠ 14) = true by simp; omega)
             clear c1 c2 c3
             go_wp2_with fail
             go_meet
             exact ⟨by rw [HX.out], rfl⟩
         case rest =>
          obtain ⟨rfl, rfl⟩ := hcut
          by_cases f4 : o.side ≠ 0 ∧ o.kind ≠ 13 ∧ o.kind ≠ 14
          ·have q4 : decide (o.side ≠ 0 ∧ o.kind ≠ 13 ∧ o.kind ≠ 14) = true := decide_eq_true f4
           have HX := Lib.hid (show Od.refRight o = false by unfold Od.refRight; rw [if_neg f0, if_neg f1, if_neg f2, if_neg f3, if_pos f4])
           clear f0 f1 f2 f3 f4
           rw [q4]
           clear q4
           go_wp2_with fail
           go_ret
           exact ⟨by rw [HX.out]; rfl, HB.out⟩
          ·have q4 : decide (o.side ≠ 0 ∧ o.kind ≠ 13 ∧ o.kind ≠ 14) = false := decide_eq_false f4
           rw [q4]
           clear q4
           go_upto_region 11 with fail
           go_cut [75] (fun v wx => v = .bool (decide ((o.frm ≠ 0 ∨ o.to ≠ 0) ∧ o.kind ≠ 14)) ∧ w1 = wx)
           case first =>
            by_cases c1 : o.frm = 0
            ·have e1 : (o.frm != 0) = false := by simp; omega
             by_cases c2 : o.to = 0
             ·have e2 : (o.to != 0) = false := by simp; omega
              have HX := Lib.hid (show decide ((o.frm ≠ 0 ∨ o.to ≠ 0) ∧ o.kind ≠ 14) = false by simp; omega)
              clear c1 c2
              go_wp2_with fail
              go_meet
              exact ⟨by rw [HX.out], rfl⟩
             ·have e2 : (o.to != 0) = true := by simp; omega
              by_cases c3 : o.kind = 14
              ·have e3 : (o.kind != 14) = false := by simp; omega
               have HX := Lib.hid (show decide ((o.frm ≠ 0 ∨ o.to ≠ 0) ∧ o.kind ≠ 14) = false by simp; omega)
               clear c1 c2 c3
               go_wp2_with fail
               go_meet
               exact ⟨by rw [HX.out], rfl⟩
              ·have e3 : (o.kind != 14) = true := by simp; omega
               have HX := Lib.hid (show decide ((o.frm ≠ 0 ∨ o.to ≠ 0) ∧ o.kind ≠ 14) = true by simp; omega)
               clear c1 c2 c3
               go_wp2_with fail
               go_meet
               exact ⟨by rw [HX.out], rfl⟩
            ·have e1 : (o.frm != 0) = true := by simp; omega
             by_cases c2 : o.kind = 14
             ·have e2 : (o.kind != 14) = false := by simp; omega
              have HX := Lib.hid (show decide ((o.frm ≠ 0 ∨ o.to ≠ 0) ∧ o.kind ≠ 14) = false by simp; omega)
              clear c1 c2
              go_wp2_with fail
              go_meet
              exact ⟨by rw [HX.out], rfl⟩
             ·have e2 : (o.kind != 14) = true := by simp; omega
              have HX := Lib.hid (show decide ((o.frm ≠ 0 ∨ o.to ≠ 0) ∧ o.kind ≠ 14) = true by simp; omega)
              clear c1 c2
              go_wp2_with fail
              go_meet
              exact ⟨by rw [HX.out], rfl⟩
           case rest =>
            obtain ⟨rfl, rfl⟩ := hcut
            by_cases f5 : (o.frm ≠ 0 ∨ o.to ≠ 0) ∧ o.kind ≠ 14
            ·have q5 : decide ((o.frm ≠ 0 ∨ o.to ≠ 0) ∧ o.kind ≠ 14) = true := decide_eq_true f5
             have HX := Lib.hid (show Od.refRight o = false by unfold Od.refRight; rw [if_neg f0, if_neg f1, if_neg f2, if_neg f3, if_neg f4, if_pos f5])
             clear f0 f1 f2 f3 f4 f5
             rw [q5]
             clear q5
             go_wp2_with fail
             go_ret
             exact ⟨by rw [HX.out]; rfl, HB.out⟩
            ·have q5 : decide ((o.frm ≠ 0 ∨ o.to ≠ 0) ∧ o.kind ≠ 14) = false := decide_eq_false f5
             rw [q5]
             clear q5
             have HF := Lib.hid (show Od.refRight o = decide (o.s = [] ∨ o.kind = 15) by unfold Od.refRight; rw [if_neg f0, if_neg f1, if_neg f2, if_neg f3, if_neg f4, if_neg f5])
             clear f0 f1 f2 f3 f4 f5
             by_cases h1 : o.s = []
             ·have HX := Lib.hid (show decide (o.s = [] ∨ o.kind = 15) = true by simp [h1])
              have e1 : ((o.s.length : Int) == 0) = true := by simp [h1]
              have e2 : o.s.length = 0 := by simp [h1]
              rw [e2] at *
              clear h1
              go_wp2_with fail
              go_ret
              exact ⟨by rw [HF.out, HX.out]; rfl, HB.out⟩
             ·have e1 : ((o.s.length : Int) == 0) = false := by simp [h1]
              have e2 : (o.s.length == 0) = false := by simp [h1]
              by_cases h2 : o.kind = 15
              ·have HX := Lib.hid (show decide (o.s = [] ∨ o.kind = 15) = true by simp [h2])
               have e3 : (o.kind == 15) = true := by simp [h2]
               clear h1 h2
               go_wp2_with fail
               go_ret
               exact ⟨by rw [HF.out, HX.out]; rfl, HB.out⟩
              ·have HX := Lib.hid (show decide (o.s = [] ∨ o.kind = 15) = false by simp [h1, h2])
               have e3 : (o.kind == 15) = false := by simp [h2]
               clear h1 h2
               go_wp2_with fail
               go_ret
               exact ⟨by rw [HF.out, HX.out]; rfl, HB.out⟩
end Go.Proofs.YtbnnpkcfifejmabGreat
namespace Go.Proofs.YtbnnpkcfifejmabGreat
open Go.RowKit
def RefP (r : List Int × Int) (w : World) (e : Ending) (w' : World) : Prop :=
 ∃ S c, e = .returned (.tuple #[.slice S r.1.length c, .int .i64 r.2]) ∧ Ints .i64 w' S r.1 ∧ r.1.length ≤ c ∧ c ≤ 9223372036854775807 ∧ Below w.heap.size w w'
def WithP (zs : List Int) (w : World) (e : Ending) (w' : World) : Prop :=
 ∃ g, e = .returned (.slice (some ⟨g, 0, none⟩) zs.length zs.length) ∧ Ints .i64 w' (some ⟨g, 0, none⟩) zs ∧ w.heap.size ≤ g ∧ Below w.heap.size w w'
set_option maxHeartbeats 4000000 in
theorem ref10_with (A : Option Addr) (c : Nat) (zs : List Int) (i : Nat) (v : Int) (w : World) (hl : zs.length ≤ 17592186043904) (hI : Ints .i64 w A zs) (hi' : i < zs.length) :
  Calls Tryz.prog 121 #[.slice A zs.length c, .int .i64 (i : Int), .int .i64 v] w (WithP (zs.set i v) w) := by
 obtain ⟨i0, hi, hz0, hz1, hz2⟩ := info_parts int_info
 have HI := Lib.hid hI
 clear hI
 go_enter Tryz.func121, Tryz.ntmps121
 go_wp2_with (at_make; refine wpList_make_full _ rfl _ _ 22 rfl w.heap.size 3 i0 (.int .i64 0) 1 Tryz.underlying22 hi hz0 hz1 _ _ _ _ zs.length rfl rfl (by first | rfl | simp) (by first | rfl | simp) ?b2 ?b3 (Nat.le_refl _) ?_)
 case b2 => rw [hz2]; omega
 case b3 => unfold maxLen; omega
 intro w1 hown hgrow
 have hblk := own_cur hown
 have hb1 : Below w.heap.size w w1 := (Below.refl _ w).grown hgrow (Nat.le_refl _) (by simp)
 have hlen := hown.1
 have HI1 := Lib.hid (HI.out.below hb1 (Nat.le_refl _))
 generalize (madeCells #[Value.int .i64 0] zs.length).toList = cur at *
 clear hown hgrow HI
 go_wp2_with (with_reducible refine wpList_copy_splice rfl (.tmp 11) (.tmp 12) 22 22 rfl 3 Tryz.underlying22 ?d1 (some ⟨w.heap.size, 0, none⟩) A zs.length zs.length zs.length c rfl rfl w.heap.size 0 cur 3 hblk (zs.map (Value.int .i64)) ?d2 ?d3 ?d4 ?d5 w.heap.size w hb1 (Nat.le_refl _) ?_)
 case d1 => kernel_rfl
 case d2 => simp
 case d3 => intro hp; exact HI1.out.src' (by simpa using hp)
 case d4 => simp at hlen ⊢; omega
 case d5 => intro v hv; obtain ⟨x, _, rfl⟩ := List.mem_map.1 hv; rfl
 intro w2 hw2 hb2
 have hs := splice_all (cur := cur) (cs := zs.map (Value.int .i64)) (by simp at hlen ⊢; omega)
 have hk : Blk w2 w.heap.size 3 (zs.map (Value.int .i64)).toArray := by unfold Blk; rw [← hs]; exact hw2.out
 have y : w2.cell? ⟨w.heap.size, i, none⟩ = some (.int .i64 zs[i]) := by rw [hk.cell]; simp [hi']
 have f := hk.frozen i
 have hk2 := hk.set_ i (.int .i64 v)
 have l0 : (0 : Int) ≤ (i : Int) := by omega
 have l1 : (i : Int) < (zs.length : Int) := by omega
 have Hk := Lib.hid hk
 have Hk2 := Lib.hid hk2
 clear hk hk2
 clear hw2 hb1 hlen hs hblk
 go_wp2_with fail
 go_ret
 refine ⟨w.heap.size, by rw [List.length_set]; rfl, Ints.of_row fun j hj => ?_, Nat.le_refl _, hb2.setCell (Nat.le_refl _) _⟩
 rw [Nat.zero_add, Hk2.out.cell j]
 rw [getD_at hj]
 simp at hj
 simp [List.getElem_set, hj]
 split <;> simp_all
theorem joinAll_append (side : Int) : ∀ (a b : List (List Int)) (s : List Int), Od.joinAll side s (a ++ b) = if (Od.joinAll side s a).2 = 0 then Od.joinAll side (Od.joinAll side s a).1 b else ([], (Od.joinAll side s a).2)
 | [], b, s => by simp [Od.joinAll]
 | t :: a, b, s => by
  rw [List.cons_append, Od.joinAll, Od.joinAll]
  split
  ·exact joinAll_append side a b _
  ·rename_i h; simp
theorem joinAll_step {side : Int} {l : List (List Int)} {s s1 : List Int} {k : Nat} (hk : k < l.length) (h : Od.joinAll side s (l.take k) = (s1, 0)) :
  ((Od.join s1 l[k] side).2 = 0 → Od.joinAll side s (l.take (k + 1)) = ((Od.join s1 l[k] side).1, 0)) ∧ ((Od.join s1 l[k] side).2 ≠ 0 → Od.joinAll side s l = ([], (Od.join s1 l[k] side).2)) := by
 refine ⟨fun e => ?_, fun e => ?_⟩
 ·rw [List.take_succ_eq_append_getElem hk, joinAll_append, h]
  simp [Od.joinAll, e]
 ·have : l = l.take k ++ l[k] :: l.drop (k + 1) := by rw [← List.drop_eq_getElem_cons hk, List.take_append_drop]
  have e2 := congrArg (Od.joinAll side s) this
  rw [e2, joinAll_append, h]
  simp [Od.joinAll, e]
def joinTo (s t : List Int) (side : Int) (m : Nat) : Prop := ∀ j, j < m → (j : Int) = side ∨ s.getD j 0 = t.getD j 0
theorem joinTo_all {s t : List Int} {side : Int} (h : joinTo s t side s.length) : Od.joinOk s t side = true := by
 unfold Od.joinOk
 rw [List.all_eq_true]
 intro i hi
 have := h i (List.mem_range.1 hi)
 simpa using this
theorem joinTo_not {s t : List Int} {side : Int} {m : Nat} (hm : m < s.length) (h1 : (m : Int) ≠ side) (h2 : s.getD m 0 ≠ t.getD m 0) : Od.joinOk s t side = false := by
 unfold Od.joinOk
 rw [List.all_eq_false]
 exact ⟨m, List.mem_range.2 hm, by simp [h1] ; simpa using h2⟩
set_option maxRecDepth 20000 in
set_option maxHeartbeats 8000000 in
theorem ref10_joined (side : Int) (X : Option Addr) (c : Nat) (xs : List (List Int)) (w : World) (hX : Shps w X xs) (hl : xs.length ≤ 1048576) (h1 : 1 ≤ xs.length) (hr : ∀ s ∈ xs, Sh.right s = true) :
  Calls Tryz.prog 122 #[.int .i64 side, .slice X xs.length c] w (RefP (Od.joined side xs) w) := by
 obtain ⟨b0, off0, S0, c0, rfl, -, y0, hI0, hc0, hm0⟩ := hX 0 (by omega)
 have hr0 := hr xs[0] (List.getElem_mem (by omega))
 have hx0 : xs.getD 0 [] = xs[0] := gets_at (by omega)
 have hdrop : xs.drop 1 = xs.drop 1 := rfl
 have hjd : Od.joined side xs = if xs.length = 1 ∧ Od.inR side xs[0] = false then ([], 11) else Od.joinAll side xs[0] (xs.drop 1) := by unfold Od.joined; rw [hx0]
 have hsl := (right_short hr0).2
 rw [Nat.add_zero] at y0
 by_cases hone : xs.length = 1 ∧ Od.inR side xs[0] = false
 ·have HQ := Lib.hid (show Od.joined side xs = ([], 11) by rw [hjd, if_pos hone])
  have hb := hone.2
  have e1 : ((xs.length : Int) == 1) = true := by simp; omega
  have e1' : (xs.length == 1) = true := by simp; omega
  simp [Od.inR] at hb
  clear hjd hdrop hx0
  generalize xs[0] = s at *
  have HX := Lib.hid hX
  have Hr := Lib.hid hr
  have HI0 := Lib.hid hI0
  have Hr0 := Lib.hid hr0
  have Hone := Lib.hid hone
  clear hX hr hI0 hr0 hone
  by_cases hneg : side < 0
  ·have e2 : decide (side < 0) = true := by simpa using hneg
   clear hb
   go_enter Tryz.func122, Tryz.ntmps122
   go_wp2_with fail
   go_ret2
   exact ⟨none, 0, by rw [HQ.out]; rfl, by rw [HQ.out]; exact Ints.nil, by rw [HQ.out]; exact Nat.le_refl _, by omega, Below.refl _ _⟩
  ·have e2 : decide (side < 0) = false := by simpa using hneg
   have e3 : decide ((s.length : Int) ≤ side) = true := by simpa using hb (by omega)
   clear hb
   go_enter Tryz.func122, Tryz.ntmps122
   go_wp2_with fail
   go_ret2
   exact ⟨none, 0, by rw [HQ.out]; rfl, by rw [HQ.out]; exact Ints.nil, by rw [HQ.out]; exact Nat.le_refl _, by omega, Below.refl _ _⟩
 ·rw [if_neg hone] at hjd
  have hrd : ∀ t ∈ xs.drop 1, Sh.right t = true := fun t ht => hr t (List.mem_of_mem_drop ht)
  have hdl : (xs.drop 1).length = xs.length - 1 := by simp
  have hat : ∀ k (h : k < (xs.drop 1).length), ∃ S c, w.cell? ⟨b0, off0 + (k + 1), none⟩ = some (.slice S (xs.drop 1)[k].length c) ∧ Ints .i64 w S (xs.drop 1)[k] := fun k h => by
   obtain ⟨b, off, S, c, e, -, hc, hI, -⟩ := hX (k + 1) (by omega)
   injection e with e
   injection e with e1 e2
   subst e1 e2
   rw [List.getElem_drop]
   simp only [Nat.add_comm 1 k]
   exact ⟨S, c, hc, hI⟩
  have hone2 : xs.length = 1 → Od.inR side xs[0] = true := fun h => by by_cases q : Od.inR side xs[0] = true; exact q; exact absurd ⟨h, by simpa using q⟩ hone
  generalize xs[0] = s0 at *
  obtain ⟨l, hl'⟩ : ∃ l, xs.drop 1 = l := ⟨_, rfl⟩
  rw [hl'] at hrd hdl hat hjd
  clear hdrop hx0 hone hl'
  have HX := Lib.hid hX
  have Hr := Lib.hid hr
  have HI0 := Lib.hid hI0
  have Hjd := Lib.hid hjd
  have Hrd := Lib.hid hrd
  have Hat := Lib.hid hat
  clear hX hr hI0 hjd hrd hat
  go_enter Tryz.func122, Tryz.ntmps122
  go_upto_region 2 with fail
  go_cut [24] (fun v wx => v = .bool false ∧ w = wx)
  case first =>
   by_cases hx1 : xs.length = 1
   ·have hin := hone2 hx1
    simp [Od.inR] at hin
    obtain ⟨p1, p2⟩ := hin
    have e1 : ((xs.length : Int) == 1) = true := by simp; omega
    have e1' : (xs.length == 1) = true := by simp; omega
    have e2 : decide (side < 0) = false := by simp; omega
    have e3 : decide ((s0.length : Int) ≤ side) = false := by simp; omega
    clear hone2 hx1
    go_wp2_with fail
    go_meet
    exact ⟨rfl, rfl⟩
   ·have e1 : ((xs.length : Int) == 1) = false := by simp; omega
    have e1' : (xs.length == 1) = false := by simp; omega
    clear hone2 hx1
    go_wp2_with fail
    go_meet
    exact ⟨rfl, rfl⟩
  case rest =>
   obtain ⟨rfl, rfl⟩ := hcut
   clear hone2
   go_wp2_with fail
   go_loopw [6, 7] (fun o i wr => ∃ (k : Nat) (S : Option Addr) (d : Nat) (s : List Int), k ≤ l.length ∧ i = .int .i64 ((k : Int) + 1) ∧ o = .slice S s.length d ∧ Ints .i64 wr S s ∧ s.length ≤ d ∧ d ≤ 9223372036854775807 ∧ Sh.right s = true ∧ Od.joinAll side s0 (l.take k) = (s, 0) ∧ Below w.heap.size w wr) (fun _ i _ => l.length + 1 - (intOf i).toNat)
   case atStart => exact ⟨0, S0, c0, s0, Nat.zero_le _, rfl, rfl, HI0.out, hc0, hm0, hr0, rfl, Below.refl _ _⟩
   case round =>
    obtain ⟨k, S, d, s, hk, rfl, rfl, hI, hs1, hs2, hrs, hja, hbw⟩ := hrel
    by_cases hlt : k < l.length
    ·obtain ⟨St, ct, yt, hIt⟩ := Hat.out k hlt
     have hrt := Hrd.out _ (List.getElem_mem hlt)
     obtain ⟨hst, hfl⟩ := joinAll_step hlt hja
     generalize l[k] = t at *
     have y1 := cell_below hbw yt
     have hIt1 := hIt.below hbw (Nat.le_refl _)
     obtain ⟨s3, s4⟩ := right_short hrs
     obtain ⟨t3, t4⟩ := right_short hrt
     have k1 : ((k : Int) + 1) < (xs.length : Int) := by omega
     have k2 : ((k : Int) + 1).toNat = k + 1 := by omega
     have k0 : (0 : Int) ≤ (k : Int) + 1 := by omega
     have k3 : IntKind.i64.wrap ((k : Int) + 1 + 1) = (k : Int) + 1 + 1 := IntWalk.i64_in _ (by omega)
     by_cases hle : t.length = s.length
     rotate_left
     ·have e1 : ((t.length : Int) != (s.length : Int)) = true := by rw [bne_iff_ne]; omega
      have e2 : (t.length != s.length) = true := by rw [bne_iff_ne]; omega
      have hj : Od.join s t side = ([], 20) := by unfold Od.join; rw [if_neg]; simp; intro _ _ h; exact absurd h.symm hle
      have HQ := Lib.hid (Hjd.out.trans (hfl (by rw [hj]; simp)))
      have HJ := Lib.hid hj
      clear hst hfl hle hj hja
      have HI := Lib.hid hI
      have HIt := Lib.hid hIt
      have HIt1 := Lib.hid hIt1
      have Hrs := Lib.hid hrs
      have Hrt := Lib.hid hrt
      clear hI hIt hIt1 hrs hrt
      go_wp2_with fail
      go_ret2
      exact ⟨none, 0, by rw [HQ.out, HJ.out]; rfl, by rw [HQ.out]; exact Ints.nil, by rw [HQ.out]; exact Nat.le_refl _, by omega, hbw⟩
     ·by_cases hin : Od.inR side s = true
      rotate_left
      ·have hj : Od.join s t side = ([], 11) := by unfold Od.join; rw [if_pos (by simp [hrs, hrt, hle]), if_neg hin]
       have HQ := Lib.hid (Hjd.out.trans (hfl (by rw [hj]; simp)))
       have HJ := Lib.hid hj
       simp [Od.inR] at hin
       rw [hle] at y1
       clear hst hfl hle hj hja
       have HI := Lib.hid hI
       have HIt := Lib.hid hIt
       have HIt1 := Lib.hid hIt1
       have Hrs := Lib.hid hrs
       have Hrt := Lib.hid hrt
       clear hI hIt hIt1 hrs hrt
       by_cases hneg : side < 0
       ·have e2 : decide (side < 0) = true := by simpa using hneg
        clear hin
        go_wp2_with fail
        go_ret2
        exact ⟨none, 0, by rw [HQ.out, HJ.out]; rfl, by rw [HQ.out]; exact Ints.nil, by rw [HQ.out]; exact Nat.le_refl _, by omega, hbw⟩
       ·have e2 : decide (side < 0) = false := by simpa using hneg
        have e3 : decide ((s.length : Int) ≤ side) = true := by simpa using hin (by omega)
        clear hin
        go_wp2_with fail
        go_ret2
        exact ⟨none, 0, by rw [HQ.out, HJ.out]; rfl, by rw [HQ.out]; exact Ints.nil, by rw [HQ.out]; exact Nat.le_refl _, by omega, hbw⟩
      ·have hjo : Od.join s t side = if Od.joinOk s t side && Sh.right (Od.joinL s t side) then (Od.joinL s t side, 0) else ([], 20) := by unfold Od.join; rw [if_pos (by simp [hrs, hrt, hle]), if_pos hin]
       simp [Od.inR] at hin
       obtain ⟨sd, rfl⟩ : ∃ sd : Nat, side = (sd : Int) := ⟨side.toNat, by omega⟩
       have hsd : sd < s.length := by omega
       have e2 : decide ((sd : Int) < 0) = false := by simp
       have e3 : decide ((s.length : Int) ≤ (sd : Int)) = false := by simp; omega
       have e3' : decide (s.length ≤ sd) = false := by simp; omega
       rw [hle] at y1
       clear hin
       obtain ⟨bS, offS, rfl, -, -⟩ := hI 0 s3
       obtain ⟨bT, offT, rfl, -, -⟩ := hIt1 0 t3
       have hbs := (Sh.right_mul hrs).2.2.2.1 s[sd] (List.getElem_mem hsd)
       have hlt2 : sd < t.length := by omega
       have hbt := (Sh.right_mul hrt).2.2.2.1 (t[sd]'hlt2) (List.getElem_mem hlt2)
       have hjl : Od.joinL s t (sd : Int) = s.set sd (s[sd] + t[sd]'hlt2) := by unfold Od.joinL Od.at_; rw [Int.toNat_natCast, getD_at hsd, getD_at hlt2]
       have hcS : ∀ m (h : m < s.length), wr.cell? ⟨bS, offS + m, none⟩ = some (.int .i64 s[m]) := fun m h => by
        obtain ⟨b, o, e, -, hc⟩ := hI m h
        injection e with e; injection e with e1 e2; subst e1 e2
        rw [hc, getD_at h]
       have hcT : ∀ m (h : m < t.length), wr.cell? ⟨bT, offT + m, none⟩ = some (.int .i64 t[m]) := fun m h => by
        obtain ⟨b, o, e, -, hc⟩ := hIt1 m h
        injection e with e; injection e with e1 e2; subst e1 e2
        rw [hc, getD_at h]
       have hnot := fun m (hm : m < s.length) => @joinTo_not s t (sd : Int) m hm
       have HI := Lib.hid hI
       have HIt := Lib.hid hIt
       have HIt1 := Lib.hid hIt1
       have Hrs := Lib.hid hrs
       have Hrt := Lib.hid hrt
       have Hst := Lib.hid hst
       have Hfl := Lib.hid hfl
       have Hjo := Lib.hid hjo
       have Hja := Lib.hid hja
       have Hle := Lib.hid hle
       have Hjl := Lib.hid hjl
       have HcS := Lib.hid hcS
       have HcT := Lib.hid hcT
       have Hnot := Lib.hid hnot
       clear hI hIt hIt1 hrs hrt hst hfl hjo hja hle hjl hcS hcT hnot
       go_wp2_with fail
       obtain ⟨wo, rfl⟩ : ∃ wo, wo = wr := ⟨wr, rfl⟩
       go_loopw [8] (fun i wx => ∃ m q : Nat, m ≤ s.length ∧ i = .int .i64 (m : Int) ∧ joinTo s t (sd : Int) m ∧ wx = wo.drewN q) (fun i _ => s.length - (intOf i).toNat)
       case atStart => exact ⟨0, 0, Nat.zero_le _, rfl, fun j hj => by omega, rfl⟩
       case round =>
        obtain ⟨m, q, hm, rfl, hto, rfl⟩ := hrel
        by_cases hlm : m < s.length
        ·have hlm2 : m < t.length := by have := Hle.out; omega
         have z1 := HcS.out m hlm
         have z2 := HcT.out m hlm2
         have m0 : (0 : Int) ≤ (m : Int) := by omega
         have m1 : (m : Int) < (s.length : Int) := by omega
         by_cases hms : m = sd
         ·have e4 : ((m : Int) != (sd : Int)) = false := by simp [hms]
          have e4' : (m != sd) = false := by simp [hms]
          have HT := Lib.hid (show joinTo s t (sd : Int) (m + 1) from fun j hj => by
           by_cases e : j = m
           ·left; omega
           ·exact hto j (by omega))
          clear hto hms
          go_wp2_with fail
          go_quiet (fail)
          go_wp2_with fail
          go_roundw
          case rel => exact ⟨m + 1, _, by omega, by go_num, HT.out, by first | rfl | exact World.drewN_drewN _ _ _⟩
          case measure => simp [intOf]; omega
         ·have e4 : ((m : Int) != (sd : Int)) = true := by rw [bne_iff_ne]; omega
          have e4' : (m != sd) = true := by rw [bne_iff_ne]; exact hms
          by_cases heq : s[m] = t[m]
          ·have e5 : (s[m] != t[m]) = false := by simp [heq]
           have HT := Lib.hid (show joinTo s t (sd : Int) (m + 1) from fun j hj => by
            by_cases e : j = m
            ·right; subst e; rw [getD_at hlm, getD_at hlm2, heq]
            ·exact hto j (by omega))
           clear hto hms heq
           generalize s[m] = x at *
           generalize t[m] = y at *
           go_wp2_with fail
           go_quiet (fail)
           go_wp2_with fail
           go_roundw
           case rel => exact ⟨m + 1, _, by omega, by go_num, HT.out, by first | rfl | exact World.drewN_drewN _ _ _⟩
           case measure => simp [intOf]; omega
          ·have e5 : (s[m] != t[m]) = true := by simp [heq]
           have hno := Hnot.out m hlm (by omega) (by rw [getD_at hlm, getD_at hlm2]; exact heq)
           have hj : Od.join s t (sd : Int) = ([], 20) := by rw [Hjo.out, hno]; simp
           have HQ := Lib.hid (Hjd.out.trans (Hfl.out (by rw [hj]; simp)))
           have HJ := Lib.hid hj
           clear hto hms heq hno hj
           generalize s[m] = x at *
           generalize t[m] = y at *
           go_wp2_with fail
           go_quiet (fail)
           go_wp2_with fail
           go_ret2
           exact ⟨none, 0, by rw [HQ.out, HJ.out]; rfl, by rw [HQ.out]; exact Ints.nil, by rw [HQ.out]; exact Nat.le_refl _, by omega, by first | exact Bdrawn hbw _ | (rw [World.drewN_drewN]; exact Bdrawn hbw _)⟩
        ·obtain rfl : m = s.length := by omega
         have hall := joinTo_all hto
         have z1 := HcS.out sd hsd
         have z2 := HcT.out sd hlt2
         have hIo := HI.out.drewN q
         have m0 : (0 : Int) ≤ (sd : Int) := by omega
         have m1 : (sd : Int) < (s.length : Int) := by omega
         have hjl := Hjl.out
         have hjo := Hjo.out
         rw [hall, Bool.true_and, hjl] at hjo
         have hst := Hst.out
         have hfl := Hfl.out
         generalize s[sd] = x at *
         generalize t[sd] = y at *
         have ww : IntKind.i64.wrap (x + y) = x + y := IntWalk.i64_in _ (by omega)
         clear hto hall
         have HIo := Lib.hid hIo
         have Hjl := Lib.hid hjl
         have Hjo := Lib.hid hjo
         have Hst := Lib.hid hst
         have Hfl := Lib.hid hfl
         clear hIo hjl hjo hst hfl
         go_upto_region 16 with fail
         go_region_held3 (fun w' => w'.cell? ⟨bS, offS + sd, none⟩ = some (.int .i64 x) ∧ w'.cell? ⟨b0, off0 + (k + 1), none⟩ = some (.slice (some ⟨bT, offT, none⟩) s.length ct) ∧ w'.cell? ⟨bT, offT + sd, none⟩ = some (.int .i64 y)) (first | go_keep | (exact ⟨cell_below hb9 z1, cell_below hb9 y1, cell_below hb9 z2⟩))
          ((go_at_call 121; refine (ref10_with _ _ s sd (x + y) _ (by omega) (by exact HIo.out) hsd).mono ?_; rintro e w9 ⟨g, rfl, hI9, hg9, hb9⟩))
         have hb10 := hbw.trans ((show Below wo.heap.size wo w9 from ⟨hb9.os, hb9.tape, hb9.output, hb9.size, hb9.block⟩).mono hbw.size)
         have hls : (s.set sd (x + y)).length = s.length := List.length_set
         obtain ⟨s', hs'⟩ : ∃ s', s.set sd (x + y) = s' := ⟨_, rfl⟩
         have hjo := Hjo.out
         rw [hs'] at hI9 hls hjo
         have hcall := ref03_right (some ⟨g, 0, none⟩) s.length s' w9 (by omega) hI9
         rw [hls] at hcall
         have Hcall := Lib.hid hcall
         have HI9 := Lib.hid hI9
         have Hls := Lib.hid hls
         have Hjo := Lib.hid hjo
         have Hs' := Lib.hid hs'
         clear hcall hI9 hls hjo hs'
         go_wp2_with fail
         refine (Hcall.out).mono ?_
         rintro e w10 ⟨rfl, rfl⟩
         by_cases hr' : Sh.right s' = true
         ·have hj := Hjo.out
          rw [if_pos hr'] at hj
          have HS := Lib.hid (Hst.out (by rw [hj]))
          have HJ := Lib.hid hj
          have HR := Lib.hid hr'
          rw [hr']
          clear hj hr' z1 z2 y1
          go_wp2_with fail
          go_roundw
          case rel => exact ⟨k + 1, some ⟨g, 0, none⟩, s.length, s', by omega, by go_num, by rw [Hls.out], HI9.out, by have := Hls.out; omega, by omega, HR.out, by rw [HS.out, HJ.out], hb10⟩
          case measure => simp [intOf]; omega
         ·have hj := Hjo.out
          rw [if_neg hr'] at hj
          have HQ := Lib.hid (Hjd.out.trans (Hfl.out (by rw [hj]; simp)))
          have HJ := Lib.hid hj
          have hr2 : Sh.right s' = false := by simpa using hr'
          rw [hr2]
          clear hj hr' hr2 z1 z2 y1
          go_wp2_with fail
          go_ret2
          exact ⟨none, 0, by rw [HQ.out, HJ.out]; rfl, by rw [HQ.out]; exact Ints.nil, by rw [HQ.out]; exact Nat.le_refl _, by omega, hb10⟩
    ·obtain rfl : k = l.length := by omega
     rw [List.take_length] at hja
     have HQ := Lib.hid (Hjd.out.trans hja)
     have k1 : ¬ ((l.length : Int) + 1) < (xs.length : Int) := by omega
     have HI := Lib.hid hI
     have Hja := Lib.hid hja
     have Hrs := Lib.hid hrs
     clear hI hja hrs
     go_wp2_with fail
     go_ret2
     exact ⟨S, d, by rw [HQ.out]; rfl, by rw [HQ.out]; exact HI.out, by rw [HQ.out]; exact hs1, hs2, hbw⟩
end Go.Proofs.YtbnnpkcfifejmabGreat

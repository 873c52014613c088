/- Lemmas for the statements of this seat: contracts of functions and the plain laws. -/
import Derived.Deep.AppendLies
import Derived.Deep.RegionHeld3
import Derived.WalkKit
import Derived.WalkSpells
import Derived.Test.YtmmgdgfpemkdnaaZ04
set_option linter.unusedVariables false
/- Layer 11 (net): look: contract. -/
namespace Go.Proofs.Ytmmgdgfpemkdnaa
open Go.RowKit

/-- What is known of a net, or what is first wrong. -/
def StudyP (n : NetD) (w : World) (e : Ending) (w' : World) : Prop :=
  Below w.heap.size w w' ∧ ((Nt.check n = 0 ∧ ∃ O oc g, e = .returned (.tuple #[.agg #[.slice O n.nodes.length oc, .slice (some ⟨g, 0, none⟩) (n.nodes.length + 1) (n.nodes.length + 1), .int .i64 (Nt.loss n.nodes)], .int .i64 0]) ∧
      Ints .i64 w' O (Nt.sorted n.nodes) ∧ n.nodes.length ≤ oc ∧ oc ≤ 9223372036854775807 ∧ w.heap.size ≤ g ∧ ShpRow w' g 23 (Nt.shapes n)) ∨
    (Nt.check n ≠ 0 ∧ e = .returned (.tuple #[.agg #[.slice none 0 0, .slice none 0 0, .int .i64 0], .int .i64 (Nt.check n)])))
namespace Nt
theorem check_many {n : NetD} (h : n.nodes.length < 1 ∨ 512 < n.nodes.length) : check n = 12 := by unfold check; rw [if_pos h]
theorem check_in {n : NetD} (h : ¬ (n.nodes.length < 1 ∨ 512 < n.nodes.length)) (h2 : Sh.right n.inn = false) : check n = 20 := by unfold check; rw [if_neg h, if_pos h2]
theorem check_bads {n : NetD} (h : ¬ (n.nodes.length < 1 ∨ 512 < n.nodes.length)) (h2 : Sh.right n.inn = true) (h3 : bads n.nodes.length n.nodes ≠ 0) : check n = bads n.nodes.length n.nodes := by
  unfold check; rw [if_neg h, if_neg (by simp [h2]), if_pos h3]
theorem check_cyc {n : NetD} (h : ¬ (n.nodes.length < 1 ∨ 512 < n.nodes.length)) (h2 : Sh.right n.inn = true) (h3 : bads n.nodes.length n.nodes = 0) (h4 : (sorted n.nodes).length ≠ n.nodes.length) : check n = 22 := by
  unfold check; rw [if_neg h, if_neg (by simp [h2]), if_neg (by simp [h3]), if_pos h4]
theorem check_lay {n : NetD} (h : ¬ (n.nodes.length < 1 ∨ 512 < n.nodes.length)) (h2 : Sh.right n.inn = true) (h3 : bads n.nodes.length n.nodes = 0) (h4 : (sorted n.nodes).length = n.nodes.length) (h5 : (lay n.nodes (start n) (sorted n.nodes)).2 ≠ 0) : check n = (lay n.nodes (start n) (sorted n.nodes)).2 := by
  unfold check; rw [if_neg h, if_neg (by simp [h2]), if_neg (by simp [h3]), if_neg (by simp [h4]), if_pos h5]
theorem check_loss {n : NetD} (h : ¬ (n.nodes.length < 1 ∨ 512 < n.nodes.length)) (h2 : Sh.right n.inn = true) (h3 : bads n.nodes.length n.nodes = 0) (h4 : (sorted n.nodes).length = n.nodes.length) (h5 : (lay n.nodes (start n) (sorted n.nodes)).2 = 0) (h6 : lossOk n.nodes = false) : check n = 23 := by
  unfold check; rw [if_neg h, if_neg (by simp [h2]), if_neg (by simp [h3]), if_neg (by simp [h4]), if_neg (by simp [h5]), if_pos h6]
theorem check_last {n : NetD} (h : ¬ (n.nodes.length < 1 ∨ 512 < n.nodes.length)) (h2 : Sh.right n.inn = true) (h3 : bads n.nodes.length n.nodes = 0) (h4 : (sorted n.nodes).length = n.nodes.length) (h5 : (lay n.nodes (start n) (sorted n.nodes)).2 = 0) (h6 : lossOk n.nodes = true) :
    check n = if Safe.prod ((shapes n).getD (loss n.nodes).toNat []) ≠ 1 then 23 else 0 := by
  unfold check; rw [if_neg h, if_neg (by simp [h2]), if_neg (by simp [h3]), if_neg (by simp [h4]), if_neg (by simp [h5]), if_neg (by simp [h6])]
theorem bads_op {n : Nat} {ns : List NodeD} {k : Nat} (hk : k < ns.length) (h : ∀ j (hj : j < ns.length), j < k → Od.right ns[j].op = true ∧ ns[j].ins.all (fun i => decide (0 ≤ i ∧ i ≤ n)) = true) (hr : Od.right ns[k].op = false) : bads n ns = 21 := by
  rw [bads_take h, List.drop_eq_getElem_cons hk, bads, if_neg (by simp [hr])]
theorem bads_in {n : Nat} {ns : List NodeD} {k : Nat} (hk : k < ns.length) (h : ∀ j (hj : j < ns.length), j < k → Od.right ns[j].op = true ∧ ns[j].ins.all (fun i => decide (0 ≤ i ∧ i ≤ n)) = true) (hr : Od.right ns[k].op = true) {m : Nat} (hm : m < ns[k].ins.length) (hb : ¬ (0 ≤ ns[k].ins[m] ∧ ns[k].ins[m] ≤ n)) : bads n ns = 11 := by
  rw [bads_take h, List.drop_eq_getElem_cons hk, bads, if_pos hr, if_neg]
  intro ha
  have := List.all_eq_true.1 ha _ (List.getElem_mem hm)
  simp at this
  exact hb this
theorem bads_none {n : Nat} {ns : List NodeD} (h : ∀ j (hj : j < ns.length), j < ns.length → Od.right ns[j].op = true ∧ ns[j].ins.all (fun i => decide (0 ≤ i ∧ i ≤ n)) = true) : bads n ns = 0 := by
  rw [bads_take h, List.drop_length, bads]
end Nt
def lookBad (n : NetD) (k : Nat) : Prop := ∀ j (hj : j < n.nodes.length), j < k → Od.right n.nodes[j].op = true ∧ n.nodes[j].ins.all (fun i => decide (0 ≤ i ∧ i ≤ n.nodes.length)) = true

theorem below_set3 {B g : Nat} {w w1 : World} (h : Below B w w1) (hg : B ≤ g) (a b c : Value) : Below B w (((w1.setCell ⟨g, 0, none⟩ a).setCell ⟨g, 1, none⟩ b).setCell ⟨g, 2, none⟩ c) :=
  ((h.setCell (p := ⟨g, 0, none⟩) hg a).setCell (p := ⟨g, 1, none⟩) hg b).setCell (p := ⟨g, 2, none⟩) hg c
theorem set3_heap {g k : Nat} {w : World} (a b c : Value) (h : k ≠ g) : (((w.setCell ⟨g, 0, none⟩ a).setCell ⟨g, 1, none⟩ b).setCell ⟨g, 2, none⟩ c).heap[k]? = w.heap[k]? := by
  rw [Below.heap_setCell _ ⟨g, 2, none⟩ c k h, Below.heap_setCell _ ⟨g, 1, none⟩ b k h, Below.heap_setCell _ ⟨g, 0, none⟩ a k h]
/-- What is not nought is not among the study's cells. -/
theorem ints_set3 {g : Nat} {t : TypeId} {w : World} {S : Option Addr} {zs : List Int} (hI : Ints .i64 w S zs) (hb : Blk w g t #[.slice none 0 0, .slice none 0 0, .int .i64 0]) (hz : ∀ z ∈ zs, z ≠ 0) (a b c : Value) :
    Ints .i64 (((w.setCell ⟨g, 0, none⟩ a).setCell ⟨g, 1, none⟩ b).setCell ⟨g, 2, none⟩ c) S zs := fun j hj => by
  obtain ⟨b0, off, e, hl, hc⟩ := hI j hj
  have hne : b0 ≠ g := fun q => by
    subst q
    rw [hb.cell] at hc
    have hzj : zs.getD j 0 ≠ 0 := by rw [getD_at hj]; exact hz _ (List.getElem_mem hj)
    match h : off + j, hc with
    | 0, hc => simp at hc
    | 1, hc => simp at hc
    | 2, hc => simp at hc; exact hzj (by simpa using hc.symm)
    | q + 3, hc => simp at hc
  refine ⟨b0, off, e, by simpa using hl, ?_⟩
  exact (World.cell?_of_block (w := w) (a := ⟨b0, off + j, none⟩) (set3_heap a b c hne)).trans hc
theorem shpRow_set3 {g g' : Nat} {t t' : TypeId} {w : World} {sh : List (List Int)} (h : ShpRow w g' t' sh) (hb : Blk w g t #[.slice none 0 0, .slice none 0 0, .int .i64 0]) (hg : g' ≠ g) (hz : ∀ s ∈ sh, ∀ z ∈ s, z ≠ 0) (a b c : Value) :
    ShpRow (((w.setCell ⟨g, 0, none⟩ a).setCell ⟨g, 1, none⟩ b).setCell ⟨g, 2, none⟩ c) g' t' sh := by
  obtain ⟨vs, hl, hk, hv⟩ := h
  refine ⟨vs, hl, (set3_heap a b c hg).trans hk, fun j hj => ?_⟩
  obtain ⟨S, d, e, hI, h2⟩ := hv j hj
  exact ⟨S, d, e, ints_set3 hI hb (hz _ (List.getElem_mem hj)) a b c, h2⟩
theorem study_cells {w : World} {g : Nat} {t : TypeId} (h : Blk w g t #[.slice none 0 0, .slice none 0 0, .int .i64 0]) :
    w.cell? ⟨g, 0, none⟩ = some (.slice none 0 0) ∧ w.cell? ⟨g, 1, none⟩ = some (.slice none 0 0) ∧ w.cell? ⟨g, 2, none⟩ = some (.int .i64 0) ∧ w.frozen? ⟨g, 0, none⟩ = false ∧ w.frozen? ⟨g, 1, none⟩ = false ∧ w.frozen? ⟨g, 2, none⟩ = false :=
  ⟨h.cell 0, h.cell 1, h.cell 2, h.frozen 0, h.frozen 1, h.frozen 2⟩
set_option maxRecDepth 20000 in
set_option maxHeartbeats 16000000 in
theorem net_look (A N : Option Addr) (c d : Nat) (n : NetD) (w : World) (hok : n.ok) (hR : NetR w A N n) (hd : n.nodes.length ≤ d) :
    Calls Try.prog 27 #[.agg #[.slice A n.inn.length c, .slice N n.nodes.length d]] w (StudyP n w) := by
  have hnl := hok.2.1
  have hil := hok.1
  have hb0 := below2 w (.cells #[.slice A n.inn.length c, .slice N n.nodes.length d] 26) (.cells #[.slice none 0 0, .slice none 0 0, .int .i64 0] 78)
  have hk0 := (Blk.new w 26 #[.slice A n.inn.length c, .slice N n.nodes.length d]).alloc (.cells #[.slice none 0 0, .slice none 0 0, .int .i64 0] 78)
  have hs0 := Blk.new (w.alloc (.cells #[.slice A n.inn.length c, .slice N n.nodes.length d] 26)) 78 #[.slice none 0 0, .slice none 0 0, .int .i64 0]
  rw [World.size_alloc] at hs0
  have hR0 := hR.below hb0 (Nat.le_refl _)
  by_cases hmany : n.nodes.length < 1 ∨ 512 < n.nodes.length
  · have HC := Lib.hid (Nt.check_many hmany)
    have HR := Lib.hid hR
    have Hok := Lib.hid hok
    have HR0 := Lib.hid hR0
    clear hR hok hR0
    clear hk0 hs0
    rcases hmany with h | h
    · have d1 : decide ((n.nodes.length : Int) < 1) = true := by simp; omega
      go_enter Try.func27, Try.ntmps27
      go_wp2_with fail
      exact bodyPost_ret (v := .tuple #[.agg #[.slice none 0 0, .slice none 0 0, .int .i64 0], .int .i64 12]) (by simp [results, Try.results27, go_sem]) rfl ⟨hb0, .inr (by rw [HC.out]; exact ⟨by omega, rfl⟩)⟩
    · have d1 : decide ((n.nodes.length : Int) < 1) = false := by simp; omega
      have d2 : decide ((512 : Int) < (n.nodes.length : Int)) = true := by simp; omega
      go_enter Try.func27, Try.ntmps27
      go_wp2_with fail
      exact bodyPost_ret (v := .tuple #[.agg #[.slice none 0 0, .slice none 0 0, .int .i64 0], .int .i64 12]) (by simp [results, Try.results27, go_sem]) rfl ⟨hb0, .inr (by rw [HC.out]; exact ⟨by omega, rfl⟩)⟩
  · have d1 : decide ((n.nodes.length : Int) < 1) = false := by simp; omega
    have d2 : decide ((512 : Int) < (n.nodes.length : Int)) = false := by simp; omega
    have h512 : n.nodes.length ≤ 512 := by omega
    have hone : 1 ≤ n.nodes.length := by omega
    have HR := Lib.hid hR
    have Hok := Lib.hid hok
    have HR0 := Lib.hid hR0
    have Hk0 := Lib.hid hk0
    have Hs0 := Lib.hid hs0
    have Hmany := Lib.hid hmany
    clear hR hok hR0 hk0 hs0 hmany
    go_enter Try.func27, Try.ntmps27
    go_wp2_with fail
    refine (shape_right A c n.inn _ (by omega) HR0.out.1).mono ?_
    rintro e w1 ⟨rfl, hb1⟩
    have hbw : Below w.heap.size w w1 := hb0.trans (hb1.mono (by simp; omega))
    have hbox := Hk0.out.below hb1 (by simp; omega)
    have hst := Hs0.out.below hb1 (by simp)
    obtain ⟨y0, y1, y2, f0, f1, f2⟩ := study_cells hst
    have x0 : w1.cell? ⟨w.heap.size, 0, none⟩ = some (.slice A n.inn.length c) := by rw [hbox.cell]; rfl
    have x1 : w1.cell? ⟨w.heap.size, 1, none⟩ = some (.slice N n.nodes.length d) := by rw [hbox.cell]; rfl
    clear Hk0 Hs0 HR0 hb0 hb1 d1 d2
    by_cases hin : Sh.right n.inn = true
    rotate_left
    · have hin' : Sh.right n.inn = false := by simpa using hin
      have HC := Lib.hid (Nt.check_in Hmany.out hin')
      have Hbox := Lib.hid hbox
      have Hst := Lib.hid hst
      clear hbox hst
      clear hin
      go_wp2_with fail
      exact bodyPost_ret (v := .tuple #[.agg #[.slice none 0 0, .slice none 0 0, .int .i64 0], .int .i64 20]) (by simp [results, Try.results27, go_sem, y0, y1, y2]) rfl ⟨below_set3 hbw (by omega) _ _ _, .inr (by rw [HC.out]; exact ⟨by omega, rfl⟩)⟩
    · have Hbox := Lib.hid hbox
      have Hst := Lib.hid hst
      clear hbox hst
      go_wp2_with fail
      clear y0 y1 y2 f0 f1 f2 x0 x1
      have Hin := Lib.hid hin
      clear hin
      go_loopw [34] (fun i wr => ∃ k : Nat, k ≤ n.nodes.length ∧ i = .int .i64 k ∧ Blk wr w.heap.size 26 #[.slice A n.inn.length c, .slice N n.nodes.length d] ∧ Blk wr (w.heap.size + 1) 78 #[.slice none 0 0, .slice none 0 0, .int .i64 0] ∧ Below w.heap.size w wr ∧ lookBad n k) (fun i _ => n.nodes.length - (intOf i).toNat)
      case atStart => exact ⟨0, Nat.zero_le _, rfl, Hbox.out, Hst.out, hbw, fun j hj h => by omega⟩
      case round =>
        clear Hbox Hst hbw
        obtain ⟨k, hk, rfl, hbox, hst, hbw, hbad⟩ := hrel
        have hsl := hst.lt
        by_cases hlt : k < n.nodes.length
        · obtain ⟨b, off, S, sc, J, ic, Q, qc, rfl, hNA, -, hI, -⟩ := HR.out.2.at_ hlt
          have hnok := Hok.out.2.2 _ (List.getElem_mem hlt)
          have hb21 := fun h => Nt.bads_op (n := n.nodes.length) hlt hbad h
          have hb11 := fun h m (hm : m < n.nodes[k].ins.length) h2 => Nt.bads_in (n := n.nodes.length) hlt hbad h (m := m) hm h2
          have hnext : Od.right n.nodes[k].op = true → n.nodes[k].ins.all (fun i => decide (0 ≤ i ∧ i ≤ n.nodes.length)) = true → lookBad n (k + 1) := fun h1 h2 j hj hjk => by
            by_cases e : j = k
            · subst e; exact ⟨h1, h2⟩
            · exact hbad j hj (by omega)
          have hil := hnok.2.2.1
          have hsl2 := hnok.2.1
          generalize n.nodes[k] = v at *
          have hNw := hNA.below hbw
          obtain ⟨⟨y0, y1, y2, y3, y4, y5, y6, y7, y8, y9⟩, -⟩ := hNA.below hbw
          have hkn := Blk.new wr 44 (#[.int .i64 v.op.kind, .int .i64 v.op.k, .int .i64 v.op.width, .int .i64 v.op.step, .int .i64 v.op.side, .int .i64 v.op.frm, .int .i64 v.op.to, .slice S v.op.s.length sc, .slice J v.ins.length ic, .slice Q v.p.length qc])
          have hbn : Below wr.heap.size wr (wr.alloc (.cells #[.int .i64 v.op.kind, .int .i64 v.op.k, .int .i64 v.op.width, .int .i64 v.op.step, .int .i64 v.op.side, .int .i64 v.op.frm, .int .i64 v.op.to, .slice S v.op.s.length sc, .slice J v.ins.length ic, .slice Q v.p.length qc] 44)) := (Below.refl _ _).alloc (Nat.le_refl _) _
          have Hbox := Lib.hid hbox
          have Hst := Lib.hid hst
          have HNA := Lib.hid hNA
          have Hnok := Lib.hid hnok
          have Hb21 := Lib.hid hb21
          have Hb11 := Lib.hid hb11
          have Hnext := Lib.hid hnext
          have HNw := Lib.hid hNw
          have Hkn := Lib.hid hkn
          have Hbad := Lib.hid hbad
          clear hbox hst hNA hnok hb21 hb11 hnext hNw hkn hbad
          go_wp2_with fail
          refine (op_right v.op S sc _ (by omega) (HNw.out.2.1.below hbn (Nat.le_refl _))).mono ?_
          rintro e w2 ⟨rfl, hb2⟩
          have hbw2 : Below wr.heap.size wr w2 := hbn.trans (hb2.mono (by simp))
          have hbx2 := hbw.trans (hbw2.mono hbw.size)
          have hbox2 := Hbox.out.below hbw2 (by omega)
          have hst2 := Hst.out.below hbw2 hsl
          have hkn2 := Hkn.out.below hb2 (by simp)
          obtain ⟨z0, z1, z2, f0, f1, f2⟩ := study_cells hst2
          have z8 : w2.cell? ⟨wr.heap.size, 8, none⟩ = some (.slice J v.ins.length ic) := by rw [hkn2.cell]; rfl
          have x1 : w2.cell? ⟨w.heap.size, 1, none⟩ = some (.slice (some ⟨b, off, none⟩) n.nodes.length d) := by rw [hbox2.cell]; rfl
          have hIJ := HNw.out.2.2.1.below hbw2 (Nat.le_refl _)
          clear y0 y1 y2 y3 y4 y5 y6 y7 y8 y9 hbn hb2 Hbox Hst Hkn
          by_cases hor : Od.right v.op = true
          rotate_left
          · have hor' : Od.right v.op = false := by simpa using hor
            have hc := Hb21.out hor'
            have HC := Lib.hid ((Nt.check_bads Hmany.out Hin.out (by rw [hc]; omega)).trans hc)
            have Hbox2 := Lib.hid hbox2
            have Hst2 := Lib.hid hst2
            have Hkn2 := Lib.hid hkn2
            have HIJ := Lib.hid hIJ
            clear hbox2 hst2 hkn2 hIJ
            clear hor hc
            go_wp2_with fail
            exact bodyPost_ret (v := .tuple #[.agg #[.slice none 0 0, .slice none 0 0, .int .i64 0], .int .i64 21]) (by simp [results, Try.results27, go_sem, z0, z1, z2]) rfl ⟨below_set3 hbx2 (by omega) _ _ _, .inr (by rw [HC.out]; exact ⟨by omega, rfl⟩)⟩
          · have Hor := Lib.hid hor
            have Hbox2 := Lib.hid hbox2
            have Hst2 := Lib.hid hst2
            have Hkn2 := Lib.hid hkn2
            have HIJ := Lib.hid hIJ
            clear hbox2 hst2 hkn2 hIJ
            go_wp2_with fail
            clear hor
            go_loop [46] (fun i => ∃ m : Nat, m ≤ v.ins.length ∧ i = .int .i64 m ∧ ∀ j (hj : j < v.ins.length), j < m → 0 ≤ v.ins[j] ∧ v.ins[j] ≤ n.nodes.length) (fun i => v.ins.length - (intOf i).toNat)
            case atStart => exact ⟨0, Nat.zero_le _, rfl, fun j hj h => by omega⟩
            case round =>
              obtain ⟨m, hm, rfl, hall⟩ := hrel
              by_cases hlm : m < v.ins.length
              · obtain ⟨b1, off1, rfl, -, hc⟩ := HIJ.out m hlm
                rw [getD_at hlm] at hc
                have hbd := Hb11.out Hor.out m hlm
                have hnx : (0 ≤ v.ins[m] ∧ v.ins[m] ≤ n.nodes.length) → ∀ j (hj : j < v.ins.length), j < m + 1 → 0 ≤ v.ins[j] ∧ v.ins[j] ≤ n.nodes.length := fun h j hj hjm => by
                  by_cases e : j = m
                  · subst e; exact h
                  · exact hall j hj (by omega)
                generalize v.ins[m] = u at *
                by_cases hu : 0 ≤ u ∧ u ≤ n.nodes.length
                · have HN := Lib.hid (hnx hu)
                  have e1 : decide (u < 0) = false := by simp; omega
                  have e2 : decide ((n.nodes.length : Int) < u) = false := by simp; omega
                  clear hu hbd
                  have Hnx := Lib.hid hnx
                  have Hall := Lib.hid hall
                  clear hnx hall
                  go_wp2_with fail
                  go_round
                  case rel => exact ⟨m + 1, by omega, by go_num, HN.out⟩
                  case measure => simp [intOf]; omega
                · have hc2 := hbd hu
                  have HC := Lib.hid ((Nt.check_bads Hmany.out Hin.out (by rw [hc2]; omega)).trans hc2)
                  clear hc2 hbd
                  have Hnx := Lib.hid hnx
                  have Hall := Lib.hid hall
                  clear hnx hall
                  by_cases hneg : u < 0
                  · have e1 : decide (u < 0) = true := by simpa using hneg
                    clear hu
                    go_wp2_with fail
                    exact bodyPost_ret (v := .tuple #[.agg #[.slice none 0 0, .slice none 0 0, .int .i64 0], .int .i64 11]) (by simp [results, Try.results27, go_sem, z0, z1, z2]) rfl ⟨below_set3 hbx2 (by omega) _ _ _, .inr (by rw [HC.out]; exact ⟨by omega, rfl⟩)⟩
                  · have e1 : decide (u < 0) = false := by simpa using hneg
                    have e2 : decide ((n.nodes.length : Int) < u) = true := by simp; omega
                    clear hu
                    go_wp2_with fail
                    exact bodyPost_ret (v := .tuple #[.agg #[.slice none 0 0, .slice none 0 0, .int .i64 0], .int .i64 11]) (by simp [results, Try.results27, go_sem, z0, z1, z2]) rfl ⟨below_set3 hbx2 (by omega) _ _ _, .inr (by rw [HC.out]; exact ⟨by omega, rfl⟩)⟩
              · obtain rfl : m = v.ins.length := by omega
                have HN := Lib.hid (Hnext.out Hor.out (List.all_eq_true.2 fun i hi => by obtain ⟨j, hj, rfl⟩ := List.getElem_of_mem hi; simpa using hall j hj hj))
                have Hall := Lib.hid hall
                clear hall
                go_wp2_with fail
                go_roundw
                case rel => exact ⟨k + 1, by omega, by go_num, Hbox2.out, Hst2.out, hbx2, HN.out⟩
                case measure => simp [intOf]; omega
        · obtain rfl : k = n.nodes.length := by omega
          have hb0 : Nt.bads n.nodes.length n.nodes = 0 := Nt.bads_none hbad
          have hins : ∀ v ∈ n.nodes, ∀ i ∈ v.ins, 0 ≤ i ∧ i ≤ n.nodes.length := fun v hv => (Nt.bads_all hb0 v hv).2
          have x0 : wr.cell? ⟨w.heap.size, 0, none⟩ = some (.slice A n.inn.length c) := by rw [hbox.cell]; rfl
          have x1 : wr.cell? ⟨w.heap.size, 1, none⟩ = some (.slice N n.nodes.length d) := by rw [hbox.cell]; rfl
          have Hbad := Lib.hid hbad
          have Hbox := Lib.hid hbox
          have Hst := Lib.hid hst
          have Hb0 := Lib.hid hb0
          have Hins := Lib.hid hins
          clear hbad hbox hst hb0 hins
          go_wp2_with fail
          refine (net_sorted A N c d n _ Hok.out h512 (HR.out.below hbw (Nat.le_refl _)) hd Hins.out).mono ?_
          rintro e w2 ⟨O, oc, rfl, hO, hoc, hoc2, hb2⟩
          have hbw2 := hbw.trans (hb2.mono hbw.size)
          have hbox2 := Hbox.out.below hb2 Hbox.out.lt
          have hst2 := Hst.out.below hb2 Hst.out.lt
          have hw2l : w.heap.size + 1 < w2.heap.size := hst2.lt
          have x0 : w2.cell? ⟨w.heap.size, 0, none⟩ = some (.slice A n.inn.length c) := by rw [hbox2.cell]; rfl
          have x1 : w2.cell? ⟨w.heap.size, 1, none⟩ = some (.slice N n.nodes.length d) := by rw [hbox2.cell]; rfl
          clear Hbox Hst
          by_cases hcy : (Nt.sorted n.nodes).length = n.nodes.length
          rotate_left
          · have HC := Lib.hid (Nt.check_cyc Hmany.out Hin.out Hb0.out hcy)
            have e1 : (((Nt.sorted n.nodes).length : Int) != (n.nodes.length : Int)) = true := by rw [bne_iff_ne]; omega
            have e2 : ((Nt.sorted n.nodes).length != n.nodes.length) = true := by rw [bne_iff_ne]; omega
            obtain ⟨y0, y1, y2, f0, f1, f2⟩ := study_cells hst2
            generalize Nt.sorted n.nodes = os at *
            have Hbox2 := Lib.hid hbox2
            have Hst2 := Lib.hid hst2
            have Hcy := Lib.hid hcy
            have HO := Lib.hid hO
            clear hbox2 hst2 hcy hO
            go_wp2_with fail
            exact bodyPost_ret (v := .tuple #[.agg #[.slice none 0 0, .slice none 0 0, .int .i64 0], .int .i64 22]) (by simp [results, Try.results27, go_sem, y0, y1, y2]) rfl ⟨below_set3 hbw2 (by omega) _ _ _, .inr (by rw [HC.out]; exact ⟨by omega, rfl⟩)⟩
          · have hcall := net_lay A N O c d oc n w2 Hok.out (HR.out.below hbw2 (Nat.le_refl _)) hd hO Hin.out Hins.out
            have hcheck := fun h5 => Nt.check_lay Hmany.out Hin.out Hb0.out hcy h5
            have hcheck6 := fun h5 h6 => Nt.check_loss Hmany.out Hin.out Hb0.out hcy h5 h6
            have hcheck7 := fun h5 h6 => Nt.check_last Hmany.out Hin.out Hb0.out hcy h5 h6
            have hgood := fun h5 : (Nt.lay n.nodes (Nt.start n) (Nt.sorted n.nodes)).2 = 0 => Nt.lay_good Hin.out (Nt.sorted n.nodes).length (Nat.le_refl _) (by rw [List.take_length]; exact h5)
            rw [List.take_length] at hgood
            have hfull := Kn.order_full (I := Nt.insF n.nodes) (n := n.nodes.length) hcy
            have hfull : ∀ u, u ∈ Nt.sorted n.nodes ↔ 1 ≤ u ∧ u ≤ n.nodes.length := hfull
            have hshp : (Nt.lay n.nodes (Nt.start n) (Nt.sorted n.nodes)).1 = Nt.shapes n := rfl
            rw [hcy] at hcall ⊢
            obtain ⟨os, hos⟩ : ∃ os, Nt.sorted n.nodes = os := ⟨_, rfl⟩
            rw [hos] at hcall hcheck hcheck6 hcheck7 hgood hfull hshp hO hcy hoc
            rw [hcy] at hoc
            have Hcall := Lib.hid hcall
            have Hcheck := Lib.hid hcheck
            have Hcheck6 := Lib.hid hcheck6
            have Hcheck7 := Lib.hid hcheck7
            have Hgood := Lib.hid hgood
            have Hfull := Lib.hid hfull
            have Hshp := Lib.hid hshp
            have Hcy := Lib.hid hcy
            have Hos := Lib.hid hos
            have HO := Lib.hid hO
            have Hbox2 := Lib.hid hbox2
            have Hst2 := Lib.hid hst2
            clear hcall hcheck hcheck6 hcheck7 hgood hfull hshp hcy hos hO hbox2 hst2
            go_wp2_with fail
            refine (Hcall.out).mono ?_
            rintro e w3 ⟨hb3, ⟨hr, g, rfl, hg, hrow, hrl⟩ | ⟨hr, rfl⟩⟩
            rotate_left
            · have HC := Lib.hid (Hcheck.out hr)
              have hbw3 := hbw2.trans (hb3.mono hbw2.size)
              obtain ⟨y0, y1, y2, f0, f1, f2⟩ := study_cells (Hst2.out.below hb3 Hst2.out.lt)
              generalize Nt.lay n.nodes (Nt.start n) os = r at *
              have q1 : (r.2 != 0) = true := by simp [hr]
              have HR2 := Lib.hid hr
              clear hr
              go_wp2_with fail
              exact bodyPost_ret (v := .tuple #[.agg #[.slice none 0 0, .slice none 0 0, .int .i64 0], .int .i64 r.2]) (by simp [results, Try.results27, go_sem, y0, y1, y2]) rfl ⟨below_set3 hbw3 (by omega) _ _ _, .inr (by rw [HC.out]; exact ⟨HR2.out, rfl⟩)⟩
            · have hg2 := Hgood.out hr
              have hc6 := fun h6 => Hcheck6.out hr h6
              have hc7 := fun h6 => Hcheck7.out hr h6
              rw [Hshp.out] at hrow hrl hg2
              have hbw3 := hbw2.trans (hb3.mono hbw2.size)
              have hbox3 := Hbox2.out.below hb3 Hbox2.out.lt
              have hst3 := Hst2.out.below hb3 Hst2.out.lt
              have x0 : w3.cell? ⟨w.heap.size, 0, none⟩ = some (.slice A n.inn.length c) := by rw [hbox3.cell]; rfl
              have x1 : w3.cell? ⟨w.heap.size, 1, none⟩ = some (.slice N n.nodes.length d) := by rw [hbox3.cell]; rfl
              have hO3 := HO.out.below hb3 (Nat.le_refl _)
              clear Hcall Hcheck Hcheck6 Hcheck7 Hgood Hbox2 Hst2 HO hr Hshp
              have Hg2 := Lib.hid hg2
              have Hc6 := Lib.hid hc6
              have Hc7 := Lib.hid hc7
              have Hrow := Lib.hid hrow
              have Hbox3 := Lib.hid hbox3
              have Hst3 := Lib.hid hst3
              have HO3 := Lib.hid hO3
              clear hg2 hc6 hc7 hrow hbox3 hst3 hO3
              go_wp2_with fail
              refine (net_unused A N c d n _ Hok.out (HR.out.below hbw3 (Nat.le_refl _)) hd Hins.out).mono ?_
              rintro e w4 ⟨rfl, hb4⟩
              have hbw4 := hbw3.trans (hb4.mono hbw3.size)
              have hst4 := Hst3.out.below hb4 Hst3.out.lt
              have hrow4 := Hrow.out.below hb4 (Nat.le_refl _)
              have hO4 := HO3.out.below hb4 (Nat.le_refl _)
              obtain ⟨y0, y1, y2, f0, f1, f2⟩ := study_cells hst4
              clear Hbox3 Hst3 Hrow HO3
              by_cases hlo : Nt.lossOk n.nodes = true
              rotate_left
              · have hlo' : Nt.lossOk n.nodes = false := by simpa using hlo
                have HC := Lib.hid (Hc6.out hlo')
                have Hst4 := Lib.hid hst4
                have Hrow4 := Lib.hid hrow4
                have HO4 := Lib.hid hO4
                clear hst4 hrow4 hO4
                clear hlo
                go_wp2_with fail
                exact bodyPost_ret (v := .tuple #[.agg #[.slice none 0 0, .slice none 0 0, .int .i64 0], .int .i64 23]) (by simp [results, Try.results27, go_sem, y0, y1, y2]) rfl ⟨below_set3 hbw4 (by omega) _ _ _, .inr (by rw [HC.out]; exact ⟨by omega, rfl⟩)⟩
              · have hlm := (Nt.loss_mem hlo).2
                have hch := Hc7.out hlo
                obtain ⟨l, hl⟩ : ∃ l : Nat, Nt.loss n.nodes = (l : Int) := ⟨(Nt.loss n.nodes).toNat, by omega⟩
                have Hl := Lib.hid hl
                rw [hl] at hlm hch ⊢
                rw [Int.toNat_natCast] at hch
                have hll : l < (Nt.shapes n).length := by omega
                have hgl := Hg2.out (l : Int) (.inr ((Hfull.out _).2 (by omega)))
                rw [Int.toNat_natCast, gets_at hll] at hgl
                rw [gets_at hll] at hch
                obtain ⟨S, sc, hcS, hIS, hs1, hs2, -⟩ := hrow4.at_ hll
                have hsz := shape_size S sc _ w4 (by omega) hIS
                have hse : Sh.size (Nt.shapes n)[l] = (Safe.prod (Nt.shapes n)[l], 0) := by unfold Sh.size; rw [if_pos hgl]
                rw [hse] at hsz
                have l0 : (0 : Int) ≤ (l : Int) := by omega
                have l1 : (l : Int) < ((n.nodes.length + 1 : Nat) : Int) := by omega
                generalize (Nt.shapes n)[l] = s at *
                have Hst4 := Lib.hid hst4
                have Hrow4 := Lib.hid hrow4
                have HO4 := Lib.hid hO4
                have Hch := Lib.hid hch
                have Hl := Lib.hid hl
                have Hsz := Lib.hid hsz
                have Hse := Lib.hid hse
                have HIS := Lib.hid hIS
                have Hgl := Lib.hid hgl
                clear hst4 hrow4 hO4 hch hl hsz hse hIS hgl
                go_wp2_with fail
                refine (Hsz.out).mono ?_
                rintro e w5 ⟨rfl, hb5⟩
                have hbw5 := hbw4.trans (hb5.mono hbw4.size)
                have hst5 := Hst4.out.below hb5 Hst4.out.lt
                have hrow5 := Hrow4.out.below hb5 (Nat.le_refl _)
                have hO5 := HO4.out.below hb5 (Nat.le_refl _)
                clear y0 y1 y2 f0 f1 f2
                obtain ⟨y0, y1, y2, f0, f1, f2⟩ := study_cells hst5
                by_cases hp : Safe.prod s = 1
                · have HC := Lib.hid (show Nt.check n = 0 by rw [Hch.out, if_neg (by simp [hp])])
                  have e1 : (Safe.prod s != 1) = false := by simp [hp]
                  clear hcS hp
                  have Hst5 := Lib.hid hst5
                  have Hrow5 := Lib.hid hrow5
                  have HO5 := Lib.hid hO5
                  clear hst5 hrow5 hO5
                  go_wp2_with fail
                  have hos0 : ∀ z ∈ os, z ≠ 0 := fun z hz => by have := (Hfull.out z).1 hz; omega
                  have hsh0 : ∀ s ∈ Nt.shapes n, ∀ z ∈ s, z ≠ 0 := fun s hs z hz => by
                    obtain ⟨i, hi, rfl⟩ := List.getElem_of_mem hs
                    have hgi := Hg2.out (i : Int) (by
                      by_cases h0 : i = 0
                      · exact .inl (by omega)
                      · exact .inr ((Hfull.out _).2 (by omega)))
                    rw [Int.toNat_natCast, gets_at hi] at hgi
                    have := (Sh.right_mul hgi).2.2.2.1 z hz
                    omega
                  refine bodyPost_ret (v := .tuple #[.agg #[.slice O n.nodes.length oc, .slice (some ⟨g, 0, none⟩) (n.nodes.length + 1) (n.nodes.length + 1), .int .i64 (l : Int)], .int .i64 0]) (by simp [results, Try.results27, go_sem, y0, y1, y2]) rfl ⟨below_set3 hbw5 (by omega) _ _ _, .inl ⟨HC.out, O, oc, g, by rw [Hl.out], ?_, hoc, hoc2, by omega, ?_⟩⟩
                  · rw [Hos.out]; exact ints_set3 HO5.out Hst5.out hos0 _ _ _
                  · exact shpRow_set3 Hrow5.out Hst5.out (by omega) hsh0 _ _ _
                · have HC := Lib.hid (show Nt.check n = 23 by rw [Hch.out, if_pos hp])
                  have e1 : (Safe.prod s != 1) = true := by simp [hp]
                  clear hcS hp
                  have Hst5 := Lib.hid hst5
                  have Hrow5 := Lib.hid hrow5
                  have HO5 := Lib.hid hO5
                  clear hst5 hrow5 hO5
                  go_wp2_with fail
                  exact bodyPost_ret (v := .tuple #[.agg #[.slice none 0 0, .slice none 0 0, .int .i64 0], .int .i64 23]) (by simp [results, Try.results27, go_sem, y0, y1, y2]) rfl ⟨below_set3 hbw5 (by omega) _ _ _, .inr (by rw [HC.out]; exact ⟨by omega, rfl⟩)⟩
end Go.Proofs.Ytmmgdgfpemkdnaa
/- Layer 11 (net): Check, Order, Shapes, Loss, Chain: contracts. -/
namespace Go.Proofs.Ytmmgdgfpemkdnaa
open Go.RowKit

def OrderP (n : NetD) (w : World) (e : Ending) (w' : World) : Prop :=
  Below w.heap.size w w' ∧ ((Nt.check n = 0 ∧ ∃ O oc, e = .returned (.tuple #[.slice O n.nodes.length oc, .int .i64 0]) ∧ Ints .i64 w' O (Nt.sorted n.nodes) ∧ n.nodes.length ≤ oc ∧ oc ≤ 9223372036854775807) ∨
    (Nt.check n ≠ 0 ∧ e = .returned (.tuple #[.slice none 0 0, .int .i64 (Nt.check n)])))
def ShapesP (n : NetD) (w : World) (e : Ending) (w' : World) : Prop :=
  Below w.heap.size w w' ∧ ((Nt.check n = 0 ∧ ∃ g, e = .returned (.tuple #[.slice (some ⟨g, 0, none⟩) (n.nodes.length + 1) (n.nodes.length + 1), .int .i64 0]) ∧ w.heap.size ≤ g ∧ ShpRow w' g 23 (Nt.shapes n)) ∨
    (Nt.check n ≠ 0 ∧ e = .returned (.tuple #[.slice none 0 0, .int .i64 (Nt.check n)])))
def lossE (n : NetD) : Int := if Nt.check n = 0 then Nt.loss n.nodes else 0
set_option maxHeartbeats 4000000 in
theorem net_order (A N : Option Addr) (c d : Nat) (n : NetD) (w : World) (hok : n.ok) (hR : NetR w A N n) (hd : n.nodes.length ≤ d) :
    Calls Try.prog 15 #[.agg #[.slice A n.inn.length c, .slice N n.nodes.length d]] w (OrderP n w) := by
  have hb0 : Below w.heap.size w (w.alloc (.cells #[.slice A n.inn.length c, .slice N n.nodes.length d] 26)) := (Below.refl _ _).alloc (Nat.le_refl _) _
  have hR0 := hR.below hb0 (Nat.le_refl _)
  have HR := Lib.hid hR
  have Hok := Lib.hid hok
  have HR0 := Lib.hid hR0
  clear hR hok hR0
  go_enter Try.func15, Try.ntmps15
  go_wp2_with fail
  refine (net_look A N c d n _ Hok.out HR0.out hd).mono ?_
  rintro e w1 ⟨hb1, ⟨hc, O, oc, g, rfl, hO, ho1, ho2, hg, hrow⟩ | ⟨hc, rfl⟩⟩
  all_goals have hbw := hb0.trans (hb1.mono hb0.size)
  · rw [World.size_alloc] at hg
    have Hc := Lib.hid hc
    have HO := Lib.hid hO
    have Hrow := Lib.hid hrow
    clear hc hO hrow
    go_wp2_with fail
    go_ret2
    first | exact ⟨hbw.alloc hbw.size _, .inl ⟨Hc.out, O, oc, rfl, HO.out.alloc _, ho1, ho2⟩⟩ | exact ⟨hbw.alloc hbw.size _, .inl ⟨Hc.out, g, rfl, by omega, Hrow.out.alloc _⟩⟩ | exact ⟨by unfold lossE; rw [Hc.out]; rfl, hbw.alloc hbw.size _⟩
  · have Hc := Lib.hid hc
    clear hc
    go_wp2_with fail
    go_ret2
    first | exact ⟨hbw.alloc hbw.size _, .inr ⟨Hc.out, rfl⟩⟩ | exact ⟨by unfold lossE; rw [if_neg Hc.out]; rfl, hbw.alloc hbw.size _⟩
set_option maxHeartbeats 4000000 in
theorem net_shapes (A N : Option Addr) (c d : Nat) (n : NetD) (w : World) (hok : n.ok) (hR : NetR w A N n) (hd : n.nodes.length ≤ d) :
    Calls Try.prog 24 #[.agg #[.slice A n.inn.length c, .slice N n.nodes.length d]] w (ShapesP n w) := by
  have hb0 : Below w.heap.size w (w.alloc (.cells #[.slice A n.inn.length c, .slice N n.nodes.length d] 26)) := (Below.refl _ _).alloc (Nat.le_refl _) _
  have hR0 := hR.below hb0 (Nat.le_refl _)
  have HR := Lib.hid hR
  have Hok := Lib.hid hok
  have HR0 := Lib.hid hR0
  clear hR hok hR0
  go_enter Try.func24, Try.ntmps24
  go_wp2_with fail
  refine (net_look A N c d n _ Hok.out HR0.out hd).mono ?_
  rintro e w1 ⟨hb1, ⟨hc, O, oc, g, rfl, hO, ho1, ho2, hg, hrow⟩ | ⟨hc, rfl⟩⟩
  all_goals have hbw := hb0.trans (hb1.mono hb0.size)
  · rw [World.size_alloc] at hg
    have Hc := Lib.hid hc
    have HO := Lib.hid hO
    have Hrow := Lib.hid hrow
    clear hc hO hrow
    go_wp2_with fail
    go_ret2
    first | exact ⟨hbw.alloc hbw.size _, .inl ⟨Hc.out, O, oc, rfl, HO.out.alloc _, ho1, ho2⟩⟩ | exact ⟨hbw.alloc hbw.size _, .inl ⟨Hc.out, g, rfl, by omega, Hrow.out.alloc _⟩⟩ | exact ⟨by unfold lossE; rw [Hc.out]; rfl, hbw.alloc hbw.size _⟩
  · have Hc := Lib.hid hc
    clear hc
    go_wp2_with fail
    go_ret2
    first | exact ⟨hbw.alloc hbw.size _, .inr ⟨Hc.out, rfl⟩⟩ | exact ⟨by unfold lossE; rw [if_neg Hc.out]; rfl, hbw.alloc hbw.size _⟩
set_option maxHeartbeats 4000000 in
theorem net_loss (A N : Option Addr) (c d : Nat) (n : NetD) (w : World) (hok : n.ok) (hR : NetR w A N n) (hd : n.nodes.length ≤ d) :
    Calls Try.prog 16 #[.agg #[.slice A n.inn.length c, .slice N n.nodes.length d]] w fun e w' => e = .returned (.tuple #[.int .i64 (lossE n), .int .i64 (Nt.check n)]) ∧ Below w.heap.size w w' := by
  have hb0 : Below w.heap.size w (w.alloc (.cells #[.slice A n.inn.length c, .slice N n.nodes.length d] 26)) := (Below.refl _ _).alloc (Nat.le_refl _) _
  have hR0 := hR.below hb0 (Nat.le_refl _)
  have HR := Lib.hid hR
  have Hok := Lib.hid hok
  have HR0 := Lib.hid hR0
  clear hR hok hR0
  go_enter Try.func16, Try.ntmps16
  go_wp2_with fail
  refine (net_look A N c d n _ Hok.out HR0.out hd).mono ?_
  rintro e w1 ⟨hb1, ⟨hc, O, oc, g, rfl, hO, ho1, ho2, hg, hrow⟩ | ⟨hc, rfl⟩⟩
  all_goals have hbw := hb0.trans (hb1.mono hb0.size)
  · rw [World.size_alloc] at hg
    have Hc := Lib.hid hc
    have HO := Lib.hid hO
    have Hrow := Lib.hid hrow
    clear hc hO hrow
    go_wp2_with fail
    go_ret2
    first | exact ⟨hbw.alloc hbw.size _, .inl ⟨Hc.out, O, oc, rfl, HO.out.alloc _, ho1, ho2⟩⟩ | exact ⟨hbw.alloc hbw.size _, .inl ⟨Hc.out, g, rfl, by omega, Hrow.out.alloc _⟩⟩ | exact ⟨by unfold lossE; rw [Hc.out]; rfl, hbw.alloc hbw.size _⟩
  · have Hc := Lib.hid hc
    clear hc
    go_wp2_with fail
    go_ret2
    first | exact ⟨hbw.alloc hbw.size _, .inr ⟨Hc.out, rfl⟩⟩ | exact ⟨by unfold lossE; rw [if_neg Hc.out]; rfl, hbw.alloc hbw.size _⟩
theorem list_one {l : List Int} (h : l.length = 1) : ∃ x, l = [x] := by
  match l, h with
  | [x], _ => exact ⟨x, rfl⟩
theorem Nt.chainGo_step {ns : List NodeD} {os : List Int} {k : Nat} (hk : k < os.length) (h : Nt.chainGo ns 0 (os.take k) = true) :
    (Nt.insF ns os[k] = [(os.take k).getLastD 0] → Nt.chainGo ns 0 (os.take (k + 1)) = true ∧ (os.take (k + 1)).getLastD 0 = os[k]) ∧ (Nt.insF ns os[k] ≠ [(os.take k).getLastD 0] → Nt.chainGo ns 0 os = false) := by
  refine ⟨fun e => ?_, fun e => ?_⟩
  · rw [List.take_succ_eq_append_getElem hk]
    refine ⟨?_, ?_⟩
    · rw [Nt.chainGo_append, h, Nt.chainGo, decide_eq_true e]; rfl
    · simp only [List.getLastD_eq_getLast?, List.getLast?_concat, Option.getD_some]
  · have : os = os.take k ++ os[k] :: os.drop (k + 1) := by rw [← List.drop_eq_getElem_cons hk, List.take_append_drop]
    rw [this, Nt.chainGo_append, Nt.chainGo, decide_eq_false e, Bool.false_and, Bool.and_false]
end Go.Proofs.Ytmmgdgfpemkdnaa
/- A node's cells. No program is named here. -/
namespace Go.Proofs.Ytmmgdgfpemkdnaa
open Go.RowKit
theorem node_cells10 {W : World} {g : Nat} {t : TypeId} {v : NodeD} {S J Q : Option Addr} {c ic qc : Nat} (h : Blk W g t #[.int .i64 v.op.kind, .int .i64 v.op.k, .int .i64 v.op.width, .int .i64 v.op.step, .int .i64 v.op.side, .int .i64 v.op.frm, .int .i64 v.op.to, .slice S v.op.s.length c, .slice J v.ins.length ic, .slice Q v.p.length qc]) :
    W.cell? ⟨g, 0, none⟩ = some (.int .i64 v.op.kind) ∧ W.cell? ⟨g, 1, none⟩ = some (.int .i64 v.op.k) ∧ W.cell? ⟨g, 2, none⟩ = some (.int .i64 v.op.width) ∧ W.cell? ⟨g, 3, none⟩ = some (.int .i64 v.op.step) ∧ W.cell? ⟨g, 4, none⟩ = some (.int .i64 v.op.side) ∧ W.cell? ⟨g, 5, none⟩ = some (.int .i64 v.op.frm) ∧ W.cell? ⟨g, 6, none⟩ = some (.int .i64 v.op.to) ∧ W.cell? ⟨g, 7, none⟩ = some (.slice S v.op.s.length c) ∧ W.cell? ⟨g, 8, none⟩ = some (.slice J v.ins.length ic) ∧ W.cell? ⟨g, 9, none⟩ = some (.slice Q v.p.length qc) :=
  ⟨h.cell 0, h.cell 1, h.cell 2, h.cell 3, h.cell 4, h.cell 5, h.cell 6, h.cell 7, h.cell 8, h.cell 9⟩
end Go.Proofs.Ytmmgdgfpemkdnaa
/- Layer 11 (net): Users, copies, the equalities: contracts. -/
namespace Go.Proofs.Ytmmgdgfpemkdnaa
open Go.RowKit
def AnyBool (w : World) (e : Ending) (w' : World) : Prop := ∃ b, e = .returned (.bool b) ∧ Below w.heap.size w w'
end Go.Proofs.Ytmmgdgfpemkdnaa
/- Layer 11 (net): copies: contract. -/
namespace Go.Proofs.Ytmmgdgfpemkdnaa
open Go.RowKit
/-- Block g, from B on, is a row of shapes, each in a block of its own from B on; block by block. -/
def FRow (B : Nat) (w : World) (g : Nat) (t : TypeId) (ss : List (List Int)) : Prop :=
  B ≤ g ∧ ∃ hs : List Nat, hs.length = ss.length ∧ (∃ vs : List Value, vs.length = ss.length ∧ Blk w g t vs.toArray ∧ ∀ j (hj : j < ss.length) (hj2 : j < hs.length), vs[j]? = some (.slice (some ⟨hs[j], 0, none⟩) ss[j].length ss[j].length)) ∧
    ∀ j (hj : j < ss.length) (hj2 : j < hs.length), B ≤ hs[j] ∧ hs[j] ≠ g ∧ Blk w hs[j] 3 (ss[j].map (Value.int .i64)).toArray
theorem FRow.shps {B : Nat} {w : World} {g : Nat} {t : TypeId} {ss : List (List Int)} (h : FRow B w g t ss) (hm : ∀ s ∈ ss, s.length ≤ 9223372036854775807) : Shps w (some ⟨g, 0, none⟩) ss := fun j hj => by
  obtain ⟨_, hs, hl, ⟨vs, hvl, hk, hv⟩, hb⟩ := h
  have h1 := hv j hj (by omega)
  obtain ⟨_, _, hB⟩ := hb j hj (by omega)
  refine ⟨g, 0, _, _, rfl, hk.lt, by rw [Nat.zero_add, hk.cell j]; simpa using h1, Ints.of_row fun i hi => ?_, Nat.le_refl _, hm _ (List.getElem_mem hj)⟩
  rw [Nat.zero_add, hB.cell i, getD_at hi]
  simp [hi]
theorem FRow.fr {B : Nat} {w w' : World} {g : Nat} {t : TypeId} {ss : List (List Int)} {S : Nat → Prop} (h : FRow B w g t ss) (hf : Fr S w w') (hS : ∀ b, B ≤ b → b < w.heap.size → ¬ S b) : FRow B w' g t ss := by
  obtain ⟨hg, hs, hl, ⟨vs, hvl, hk, hv⟩, hb⟩ := h
  refine ⟨hg, hs, hl, ⟨vs, hvl, hf.blk hk (hS _ hg hk.lt), hv⟩, fun j hj hj2 => ?_⟩
  obtain ⟨h1, h2, h3⟩ := hb j hj hj2
  exact ⟨h1, h2, hf.blk h3 (hS _ h1 h3.lt)⟩
theorem FRow.base {B B' : Nat} {w : World} {g : Nat} {t : TypeId} {ss : List (List Int)} (h : FRow B w g t ss) (hB : B' ≤ B) : FRow B' w g t ss := by
  obtain ⟨hg, hs, hl, hv, hb⟩ := h
  exact ⟨Nat.le_trans hB hg, hs, hl, hv, fun j hj hj2 => ⟨Nat.le_trans hB (hb j hj hj2).1, (hb j hj hj2).2⟩⟩
def CopiesP (ss : List (List Int)) (w : World) (e : Ending) (w' : World) : Prop :=
  ∃ g, e = .returned (.slice (some ⟨g, 0, none⟩) ss.length ss.length) ∧ FRow w.heap.size w' g 23 ss ∧ Below w.heap.size w w'
end Go.Proofs.Ytmmgdgfpemkdnaa
/- Copies of nodes in memory of the call's own: what is kept where. -/
namespace Go.Proofs.Ytmmgdgfpemkdnaa
open Go.RowKit
/-- Blocks of another type than T are as they were. -/
def Keep (T : TypeId) (w w' : World) : Prop := w.heap.size ≤ w'.heap.size ∧ ∀ (b : Nat) (cs : Array Value) (t : TypeId), w.heap[b]? = some (Obj.cells cs t (0, 0)) → t ≠ T → w'.heap[b]? = w.heap[b]?
section
variable {T t : TypeId} {w w' w2 : World} {g B : Nat} {cs : Array Value}
theorem Keep.of_later (h : Later w w') : Keep T w w' := ⟨Below.size h, fun b cs t hb _ => Below.block h b (lt_of_block hb)⟩
theorem Keep.set_ (hb : Blk w g T cs) (i : Nat) (u : Value) : Keep T w (w.setCell ⟨g, i, none⟩ u) := ⟨by simp, fun b cs' t h ht => Below.heap_setCell w _ u b (fun e => by
  have e : b = g := e
  subst e
  unfold Blk at hb
  rw [hb] at h
  injection h with h
  injection h with _ h _
  exact ht h.symm)⟩
theorem Keep.refl (T : TypeId) (w : World) : Keep T w w := ⟨Nat.le_refl _, fun _ _ _ _ _ => rfl⟩
theorem Keep.trans (h : Keep T w w') (k : Keep T w' w2) : Keep T w w2 := ⟨Nat.le_trans h.1 k.1, fun b cs t hb ht => (k.2 b cs t ((h.2 b cs t hb ht).trans hb) ht).trans (h.2 b cs t hb ht)⟩
theorem Blk.keep (hb : Blk w g t cs) (ht : t ≠ T) (h : Keep T w w') : Blk w' g t cs := (h.2 g cs t hb ht).trans hb
theorem ownsRow_keep {e : TypeId} {s n : Nat} {v : Value} {xs : List Value} (h : w.ownsRow B e s v n xs) (ht : e ≠ T) (hk : Keep T w w') : w'.ownsRow B e s v n xs := by
  refine ⟨h.1, ?_⟩
  rcases h.2 with h | ⟨g, cap, cur, rfl, h1, h2, h3⟩
  · exact .inl h
  · exact .inr ⟨g, cap, cur, rfl, h1, (hk.2 g cur e h2 ht).trans h2, h3⟩
theorem FRow.keep {ss : List (List Int)} (h : FRow B w g t ss) (ht : t ≠ T) (hi : 3 ≠ T) (hk : Keep T w w') : FRow B w' g t ss := by
  obtain ⟨hg, hs, hl, ⟨vs, hvl, hb, hv⟩, hr⟩ := h
  exact ⟨hg, hs, hl, ⟨vs, hvl, hb.keep ht hk, hv⟩, fun j hj hj2 => ⟨(hr j hj hj2).1, (hr j hj hj2).2.1, (hr j hj hj2).2.2.keep hi hk⟩⟩
end
/-- A copied node, and where its parts lie. -/
structure CpQ where
  v : NodeD
  S : Nat
  J : Option Addr
  jc : Nat
  Q : Nat
def CpQ.cells (x : CpQ) : List Value := [.int .i64 x.v.op.kind, .int .i64 x.v.op.k, .int .i64 x.v.op.width, .int .i64 x.v.op.step, .int .i64 x.v.op.side, .int .i64 x.v.op.frm, .int .i64 x.v.op.to, .slice (some ⟨x.S, 0, none⟩) x.v.op.s.length x.v.op.s.length, .slice x.J x.v.ins.length x.jc, .slice (some ⟨x.Q, 0, none⟩) x.v.p.length x.v.p.length]
def CpQ.R (B : Nat) (w : World) (x : CpQ) : Prop := B ≤ x.S ∧ Blk w x.S 3 (x.v.op.s.map (Value.int .i64)).toArray ∧ w.ownsRow B 3 1 (.slice x.J x.v.ins.length x.jc) x.v.ins.length (x.v.ins.map (Value.int .i64)) ∧ FRow B w x.Q 23 x.v.p
theorem CpQ.len (x : CpQ) : x.cells.length = 10 := rfl
theorem CpQ.flat (L : List CpQ) : (L.flatMap CpQ.cells).length = L.length * 10 := by
  induction L with
  | nil => rfl
  | cons x r ih => rw [List.flatMap_cons, List.length_append, ih, CpQ.len, List.length_cons]; omega
theorem CpQ.R.keep {B : Nat} {w w' : World} {x : CpQ} {T : TypeId} (h : CpQ.R B w x) (h1 : 3 ≠ T) (h2 : 23 ≠ T) (hk : Keep T w w') : CpQ.R B w' x :=
  ⟨h.1, h.2.1.keep h1 hk, ownsRow_keep h.2.2.1 h1 hk, h.2.2.2.keep h2 h1 hk⟩
theorem CpQ.R.later {B : Nat} {w w' : World} {x : CpQ} (h : CpQ.R B w x) (hk : Later w w') : CpQ.R B w' x := h.keep (T := 44) (by decide) (by decide) (Keep.of_later hk)
/-- The first k nodes are copied into block g, of zc's cells behind them. -/
def CpRow (B : Nat) (wx : World) (g : Nat) (zc : Array Value) (ns : List NodeD) (k : Nat) : Prop :=
  ∃ L : List CpQ, L.map (·.v) = ns.take k ∧ L.length = k ∧ Blk wx g 44 (L.flatMap CpQ.cells ++ zc.toList.drop (k * 10)).toArray ∧ ∀ x ∈ L, CpQ.R B wx x
theorem CpRow.later {B : Nat} {w w' : World} {g : Nat} {zc : Array Value} {ns : List NodeD} {k : Nat} (h : CpRow B w g zc ns k) (hk : Later w w') : CpRow B w' g zc ns k := by
  obtain ⟨L, h1, h2, h3, h4⟩ := h
  exact ⟨L, h1, h2, hk.blk h3, fun x hx => (h4 x hx).later hk⟩
theorem CpRow.keep {B : Nat} {w w' : World} {g : Nat} {zc : Array Value} {ns : List NodeD} {k : Nat} {T : TypeId} (h : CpRow B w g zc ns k) (h1 : 3 ≠ T) (h2 : 23 ≠ T) (h3 : 44 ≠ T) (hk : Keep T w w') : CpRow B w' g zc ns k := by
  obtain ⟨L, l1, l2, l3, l4⟩ := h
  exact ⟨L, l1, l2, l3.keep h3 hk, fun x hx => (l4 x hx).keep h1 h2 hk⟩
theorem ownsRow_low {w : World} {B B' e s n : Nat} {v : Value} {xs : List Value} (h : w.ownsRow B e s v n xs) (hB : B' ≤ B) : w.ownsRow B' e s v n xs := by
  refine ⟨h.1, ?_⟩
  rcases h.2 with h | ⟨g, cap, cur, h1, h2, h3⟩
  · exact .inl h
  · exact .inr ⟨g, cap, cur, h1, Nat.le_trans hB h2, h3⟩
theorem CpQ.R.base {B B' : Nat} {w : World} {x : CpQ} (h : CpQ.R B w x) (hB : B' ≤ B) : CpQ.R B' w x := ⟨Nat.le_trans hB h.1, h.2.1, ownsRow_low h.2.2.1 hB, h.2.2.2.base hB⟩
theorem CpRow.zero {B : Nat} {w : World} {g : Nat} {zc : Array Value} {ns : List NodeD} (h : Blk w g 44 zc) : CpRow B w g zc ns 0 := ⟨[], by simp, rfl, by simpa using h, by simp⟩
/-- Ten cells from place o on. -/
def set10 (w : World) (g o : Nat) (l : List Value) : World := ((((((((((w.setCell ⟨g, o, none⟩ (l.getD 0 undef)).setCell ⟨g, o + 1, none⟩ (l.getD 1 undef)).setCell ⟨g, o + 2, none⟩ (l.getD 2 undef)).setCell ⟨g, o + 3, none⟩ (l.getD 3 undef)).setCell ⟨g, o + 4, none⟩ (l.getD 4 undef)).setCell ⟨g, o + 5, none⟩ (l.getD 5 undef)).setCell ⟨g, o + 6, none⟩ (l.getD 6 undef)).setCell ⟨g, o + 7, none⟩ (l.getD 7 undef)).setCell ⟨g, o + 8, none⟩ (l.getD 8 undef)).setCell ⟨g, o + 9, none⟩ (l.getD 9 undef))
theorem Blk.set10 {w : World} {g : Nat} {t : TypeId} {P R : List Value} {z0 z1 z2 z3 z4 z5 z6 z7 z8 z9 a0 a1 a2 a3 a4 a5 a6 a7 a8 a9 : Value} {o : Nat} (hP : P.length = o) (h : Blk w g t (P ++ z0 :: z1 :: z2 :: z3 :: z4 :: z5 :: z6 :: z7 :: z8 :: z9 :: R).toArray) :
    Blk (Go.Proofs.Ytmmgdgfpemkdnaa.set10 w g o [a0, a1, a2, a3, a4, a5, a6, a7, a8, a9]) g t (P ++ a0 :: a1 :: a2 :: a3 :: a4 :: a5 :: a6 :: a7 :: a8 :: a9 :: R).toArray := by
  subst hP
  have := (((((((((h.set_ P.length a0).set_ (P.length + 1) a1).set_ (P.length + 2) a2).set_ (P.length + 3) a3).set_ (P.length + 4) a4).set_ (P.length + 5) a5).set_ (P.length + 6) a6).set_ (P.length + 7) a7).set_ (P.length + 8) a8).set_ (P.length + 9) a9
  simpa [Go.Proofs.Ytmmgdgfpemkdnaa.set10, List.set_append_right] using this
theorem Keep.set10 {w : World} {g : Nat} {t : TypeId} {cs : Array Value} (h : Blk w g t cs) (o : Nat) (l : List Value) : Keep t w (Go.Proofs.Ytmmgdgfpemkdnaa.set10 w g o l) := by
  unfold Go.Proofs.Ytmmgdgfpemkdnaa.set10
  have s : ∀ {W : World} (hk : Keep t w W) (hc : ∃ cs, Blk W g t cs) (i : Nat) (u : Value), Keep t w (W.setCell ⟨g, i, none⟩ u) ∧ ∃ cs, Blk (W.setCell ⟨g, i, none⟩ u) g t cs := fun hk ⟨cs, hc⟩ i u => ⟨hk.trans (Keep.set_ hc i u), _, hc.set_ i u⟩
  have s0 := s (Keep.refl t w) ⟨_, h⟩ o (l.getD 0 undef)
  have s1 := s s0.1 s0.2 (o + 1) (l.getD 1 undef)
  have s2 := s s1.1 s1.2 (o + 2) (l.getD 2 undef)
  have s3 := s s2.1 s2.2 (o + 3) (l.getD 3 undef)
  have s4 := s s3.1 s3.2 (o + 4) (l.getD 4 undef)
  have s5 := s s4.1 s4.2 (o + 5) (l.getD 5 undef)
  have s6 := s s5.1 s5.2 (o + 6) (l.getD 6 undef)
  have s7 := s s6.1 s6.2 (o + 7) (l.getD 7 undef)
  have s8 := s s7.1 s7.2 (o + 8) (l.getD 8 undef)
  exact (s s8.1 s8.2 (o + 9) (l.getD 9 undef)).1
theorem drop_ten {zs : List Value} {o : Nat} (h : o + 10 ≤ zs.length) : ∃ z0 z1 z2 z3 z4 z5 z6 z7 z8 z9, zs.drop o = z0 :: z1 :: z2 :: z3 :: z4 :: z5 :: z6 :: z7 :: z8 :: z9 :: zs.drop (o + 10) := by
  refine ⟨zs[o], zs[o + 1], zs[o + 2], zs[o + 3], zs[o + 4], zs[o + 5], zs[o + 6], zs[o + 7], zs[o + 8], zs[o + 9], ?_⟩
  iterate 10 rw [List.drop_eq_getElem_cons (by omega)]
/-- The next node's cells are there, and what a copy put there leaves. -/
theorem CpRow.next {B : Nat} {w : World} {g : Nat} {zc : Array Value} {ns : List NodeD} {k : Nat} (h : CpRow B w g zc ns k) (hk : k < ns.length) (hz : zc.size = ns.length * 10) :
    (∃ z0 z1 z2 z3 z4 z5 z6 z7 z8 z9, w.cell? ⟨g, k * 10, none⟩ = some z0 ∧ w.cell? ⟨g, k * 10 + 1, none⟩ = some z1 ∧ w.cell? ⟨g, k * 10 + 2, none⟩ = some z2 ∧ w.cell? ⟨g, k * 10 + 3, none⟩ = some z3 ∧ w.cell? ⟨g, k * 10 + 4, none⟩ = some z4 ∧ w.cell? ⟨g, k * 10 + 5, none⟩ = some z5 ∧ w.cell? ⟨g, k * 10 + 6, none⟩ = some z6 ∧ w.cell? ⟨g, k * 10 + 7, none⟩ = some z7 ∧ w.cell? ⟨g, k * 10 + 8, none⟩ = some z8 ∧ w.cell? ⟨g, k * 10 + 9, none⟩ = some z9) ∧
    (∀ i, w.frozen? ⟨g, i, none⟩ = false) ∧
    ∀ x : CpQ, x.v = ns[k] → CpQ.R B w x → CpRow B (Go.Proofs.Ytmmgdgfpemkdnaa.set10 w g (k * 10) x.cells) g zc ns (k + 1) ∧ Keep 44 w (Go.Proofs.Ytmmgdgfpemkdnaa.set10 w g (k * 10) x.cells) := by
  obtain ⟨L, h1, h2, h3, h4⟩ := h
  obtain ⟨z0, z1, z2, z3, z4, z5, z6, z7, z8, z9, e⟩ := drop_ten (zs := zc.toList) (o := k * 10) (by simp; omega)
  rw [e] at h3
  have hl : (L.flatMap CpQ.cells).length = k * 10 := by rw [CpQ.flat, h2]
  refine ⟨⟨z0, z1, z2, z3, z4, z5, z6, z7, z8, z9, ?_, ?_, ?_, ?_, ?_, ?_, ?_, ?_, ?_, ?_⟩, fun i => h3.frozen i, fun x hx hR => ⟨⟨L ++ [x], ?_, by simp [h2], ?_, fun y hy => ?_⟩, Keep.set10 h3 _ _⟩⟩
  all_goals first | (rw [h3.cell]; simp [← hl]; done) | skip
  · rw [List.map_append, h1, List.take_succ_eq_append_getElem hk, ← hx]; rfl
  · have := Blk.set10 (a0 := .int .i64 x.v.op.kind) (a1 := .int .i64 x.v.op.k) (a2 := .int .i64 x.v.op.width) (a3 := .int .i64 x.v.op.step) (a4 := .int .i64 x.v.op.side) (a5 := .int .i64 x.v.op.frm) (a6 := .int .i64 x.v.op.to) (a7 := .slice (some ⟨x.S, 0, none⟩) x.v.op.s.length x.v.op.s.length) (a8 := .slice x.J x.v.ins.length x.jc) (a9 := .slice (some ⟨x.Q, 0, none⟩) x.v.p.length x.v.p.length) hl h3
    rw [List.flatMap_append, List.append_assoc, show (k + 1) * 10 = k * 10 + 10 by omega]
    exact this
  · have hkp : Keep 44 w (Go.Proofs.Ytmmgdgfpemkdnaa.set10 w g (k * 10) x.cells) := Keep.set10 h3 _ _
    rcases List.mem_append.1 hy with hy | hy
    · exact (h4 y hy).keep (by decide) (by decide) hkp
    · simp at hy; subst hy; exact hR.keep (by decide) (by decide) hkp
theorem Later.set10 {w w1 : World} {g o : Nat} {l : List Value} (h : Later w w1) (hg : w.heap.size ≤ g) : Later w (Go.Proofs.Ytmmgdgfpemkdnaa.set10 w1 g o l) := by
  unfold Go.Proofs.Ytmmgdgfpemkdnaa.set10
  exact (((((((((h.set (p := ⟨g, o, none⟩) hg _).set (p := ⟨g, o + 1, none⟩) hg _).set (p := ⟨g, o + 2, none⟩) hg _).set (p := ⟨g, o + 3, none⟩) hg _).set (p := ⟨g, o + 4, none⟩) hg _).set (p := ⟨g, o + 5, none⟩) hg _).set (p := ⟨g, o + 6, none⟩) hg _).set (p := ⟨g, o + 7, none⟩) hg _).set (p := ⟨g, o + 8, none⟩) hg _).set (p := ⟨g, o + 9, none⟩) hg _
theorem copy_step {B : Nat} {w w1 : World} {g G a r k : Nat} {zc : Array Value} {ns : List NodeD} {cG ca cr : Array Value} {v : NodeD} {h q : Nat} {J : Option Addr} {jc : Nat}
    (hput : ∀ x : CpQ, x.v = v → CpQ.R B w x → CpRow B (Go.Proofs.Ytmmgdgfpemkdnaa.set10 w g (k * 10) x.cells) g zc ns (k + 1) ∧ Keep 44 w (Go.Proofs.Ytmmgdgfpemkdnaa.set10 w g (k * 10) x.cells))
    (hR : CpQ.R B w ⟨v, h, J, jc, q⟩) (hG : Blk w G 26 cG) (ha : Blk w a 3 ca) (hr : Blk w r 26 cr) (hl : Later w1 w) (hg : w1.heap.size ≤ g) :
    CpRow B (Go.Proofs.Ytmmgdgfpemkdnaa.set10 w g (k * 10) (CpQ.cells ⟨v, h, J, jc, q⟩)) g zc ns (k + 1) ∧ Blk (Go.Proofs.Ytmmgdgfpemkdnaa.set10 w g (k * 10) (CpQ.cells ⟨v, h, J, jc, q⟩)) G 26 cG ∧ Blk (Go.Proofs.Ytmmgdgfpemkdnaa.set10 w g (k * 10) (CpQ.cells ⟨v, h, J, jc, q⟩)) a 3 ca ∧
      Blk (Go.Proofs.Ytmmgdgfpemkdnaa.set10 w g (k * 10) (CpQ.cells ⟨v, h, J, jc, q⟩)) r 26 cr ∧ Later w1 (Go.Proofs.Ytmmgdgfpemkdnaa.set10 w g (k * 10) (CpQ.cells ⟨v, h, J, jc, q⟩)) := by
  obtain ⟨h1, h2⟩ := hput _ rfl hR
  exact ⟨h1, hG.keep (by decide) h2, ha.keep (by decide) h2, hr.keep (by decide) h2, hl.set10 hg⟩
/-- A copied row reads as its nodes. -/
theorem CpRow.nodes {B : Nat} {w : World} {g : Nat} {zc : Array Value} {ns : List NodeD} (h : CpRow B w g zc ns ns.length) (hs : ∀ v ∈ ns, v.op.s.length ≤ 1048576 ∧ v.p.length ≤ 1048576 ∧ ∀ s ∈ v.p, s.length ≤ 1048576) : Nodes w (some ⟨g, 0, none⟩) ns := fun j hj => by
  obtain ⟨L, h1, h2, h3, h4⟩ := h
  rw [List.take_length] at h1
  subst h1
  rw [List.length_map] at hj
  have hx := h4 L[j] (List.getElem_mem hj)
  have hsz := hs L[j].v (List.mem_map.2 ⟨_, List.getElem_mem hj, rfl⟩)
  obtain ⟨q1, q2, q3, q4⟩ := hx
  obtain ⟨r1, r2, r3⟩ := own_ints q3
  have hsplit : L = L.take j ++ L[j] :: L.drop (j + 1) := by rw [← List.drop_eq_getElem_cons hj, List.take_append_drop]
  have hfl : ((L.take j).flatMap CpQ.cells).length = j * 10 := by rw [CpQ.flat]; simp; omega
  have hcell : ∀ i, i < 10 → w.cell? ⟨g, j * 10 + i, none⟩ = L[j].cells[i]? := fun i hi => by
    rw [h3.cell]
    conv => lhs; rw [hsplit, List.flatMap_append, List.flatMap_cons, List.append_assoc, List.append_assoc]
    rw [List.getElem?_toArray, List.getElem?_append_right (by omega), hfl, show j * 10 + i - j * 10 = i by omega, List.getElem?_append_left (by rw [CpQ.len]; exact hi)]
  rw [List.getElem_map]
  refine ⟨g, 0, some ⟨L[j].S, 0, none⟩, L[j].v.op.s.length, L[j].J, L[j].jc, some ⟨L[j].Q, 0, none⟩, L[j].v.p.length, rfl, h3.lt, ?_, ?_, ?_, ?_, ?_, ?_, ?_, ?_, ?_, ?_, ⟨?_, Nat.le_refl _, by omega⟩, ⟨r1, r2, r3⟩, ⟨q4.shps (fun s h => by have := hsz.2.2 s h; omega), Nat.le_refl _, by omega⟩⟩
  all_goals first | (rw [Nat.zero_add]; exact hcell 0 (by omega)) | (rw [Nat.zero_add]; exact hcell _ (by omega)) | skip
  exact Ints.of_row fun i hi => by
    rw [Nat.zero_add, q2.cell i, getD_at hi]
    simp [hi]
/-- A copied net. -/
def NetCp (B : Nat) (n : NetD) (e : Ending) (w' : World) : Prop :=
  ∃ a g zc, e = .returned (.agg #[.slice (some ⟨a, 0, none⟩) n.inn.length n.inn.length, .slice (some ⟨g, 0, none⟩) n.nodes.length n.nodes.length]) ∧ B ≤ a ∧ B ≤ g ∧ Blk w' a 3 (n.inn.map (Value.int .i64)).toArray ∧ CpRow B w' g zc n.nodes n.nodes.length
end Go.Proofs.Ytmmgdgfpemkdnaa
/- Layer 13 (price): sizes, Of: contracts. -/
namespace Go.Proofs.Ytmmgdgfpemkdnaa
open Go.RowKit
theorem splice_at {α : Type} (L l : List α) (j : Nat) (hj : l.length ≤ j) : (splice L 0 l)[j]? = L[j]? := by
  unfold splice
  rw [List.take_zero, List.nil_append, List.getElem?_append_right hj, List.getElem?_drop]
  congr 1; omega
def intV (l : List Int) : List Value := l.map (Value.int .i64)
theorem intV_snoc (l : List Int) (x : Int) : intV (l ++ [x]) = intV l ++ [.int .i64 x] := by simp [intV]
theorem intV_len (l : List Int) : (intV l).length = l.length := by simp [intV]
def SizesP (ss : List (List Int)) (w : World) (e : Ending) (w' : World) : Prop :=
  ∃ g, e = .returned (.tuple #[.slice (some ⟨g, 0, none⟩) ss.length ss.length, .int .i64 0]) ∧ w.heap.size ≤ g ∧ Blk w' g 3 (intV (ss.map Safe.prod)).toArray ∧ Below w.heap.size w w'
/-- A row of numbers of the call's own, whose first are known. -/
theorem Blk.splice_set {w : World} {g : Nat} {t : TypeId} {L l : List Value} {o : Nat} (h : Blk w g t (splice L o l).toArray) (hl : o + l.length < L.length) (v : Value) : Blk (w.setCell ⟨g, o + l.length, none⟩ v) g t (splice L o (l ++ [v])).toArray := by
  have := h.set_ (o + l.length) v
  rw [← Go.Proofs.Ytmmgdgfpemkdnaa.splice_set L o l v hl]
  simpa using this
theorem Blk.has {w : World} {g : Nat} {t : TypeId} {L : List Value} {j : Nat} (h : Blk w g t L.toArray) (hj : j < L.length) : ∃ v, w.cell? ⟨g, j, none⟩ = some v := ⟨L[j], by rw [h.cell]; simp⟩
set_option maxRecDepth 20000 in
set_option maxHeartbeats 4000000 in
theorem price_sizes (A : Option Addr) (c : Nat) (ss : List (List Int)) (w : World) (hl : ss.length ≤ 1099511627776) (hr : ∀ s ∈ ss, Sh.right s = true) (hS : Shps w A ss) :
    Calls Try.prog 25 #[.slice A ss.length c] w (SizesP ss w) := by
  obtain ⟨i0, hi, hz0, hz1, hz2⟩ := info_parts int_info
  have Hr := Lib.hid hr
  have HS := Lib.hid hS
  clear hr hS
  go_enter Try.func25, Try.ntmps25
  go_wp2_with (at_make; refine wpList_make_full _ rfl _ _ 22 rfl w.heap.size 3 i0 (.int .i64 0) 1 Try.underlying22 hi hz0 hz1 _ _ _ _ ss.length rfl rfl (by first | rfl | simp | (go_simp; rfl)) (by first | rfl | simp | (go_simp; rfl)) ?b2 ?b3 ?b4 ?_)
  case b2 => rw [hz2]; omega
  case b3 => unfold maxLen; omega
  case b4 => exact Nat.le_refl _
  intro w1 hown hgrow
  have hblk := own_cur hown
  rw [made_one] at hblk
  have hb1 : Below w.heap.size w w1 := (Below.refl _ w).grown hgrow (Nat.le_refl _) (by simp)
  have hm0 : Blk w1 w.heap.size 3 (splice (List.replicate ss.length (Value.int .i64 0)) 0 (intV ((ss.take 0).map Safe.prod))).toArray := by simpa [splice, intV, Blk] using hblk
  have Hm0 := Lib.hid hm0
  clear hm0
  clear hblk hown hgrow
  go_wp2_with fail
  go_loopw [14] (fun i wx => ∃ k : Nat, k ≤ ss.length ∧ i = .int .i64 (k : Int) ∧ Blk wx w.heap.size 3 (splice (List.replicate ss.length (Value.int .i64 0)) 0 (intV ((ss.take k).map Safe.prod))).toArray ∧ Below w.heap.size w wx) (fun i _ => ss.length - (intOf i).toNat)
  case atStart => exact ⟨0, Nat.zero_le _, rfl, Hm0.out, hb1⟩
  case round =>
    obtain ⟨k, hk, rfl, hm, hbw⟩ := hrel
    clear Hm0 hb1
    by_cases hlt : k < ss.length
    · obtain ⟨b, off, S, sc, rfl, -, hc, hI, -⟩ := HS.out k hlt
      have hrs := Hr.out _ (List.getElem_mem hlt)
      have hc2 := cell_below hbw hc
      have hml : (intV ((ss.take k).map Safe.prod)).length = k := by rw [intV_len]; simp; omega
      have hsn : intV ((ss.take (k + 1)).map Safe.prod) = intV ((ss.take k).map Safe.prod) ++ [.int .i64 (Safe.prod ss[k])] := by rw [List.take_succ_eq_append_getElem hlt, List.map_append, List.map_singleton, intV_snoc]
      generalize ss[k] = s at *
      have hsz := Sh.size_right hrs
      have hlen := (Sh.right_mul hrs).2.1
      have hI2 := hI.below hbw (Nat.le_refl _)
      have Hm := Lib.hid hm
      have HI := Lib.hid hI
      have HI2 := Lib.hid hI2
      have Hrs := Lib.hid hrs
      have Hsz := Lib.hid hsz
      have Hml := Lib.hid hml
      have Hsn := Lib.hid hsn
      clear hm hI hI2 hrs hsz hml hsn
      clear hc
      go_wp2_with fail
      refine (shape_size S sc s _ (by omega) HI2.out).mono ?_
      rintro e w2 ⟨rfl, hb2⟩
      rw [Hsz.out]
      have hm2 := Hm.out.below hb2 Hm.out.lt
      have hbw2 := hbw.trans (hb2.mono hbw.size)
      have hm3 := hm2.splice_set (o := 0) (by rw [Hml.out]; simp; omega) (.int .i64 (Safe.prod s))
      rw [Hml.out, Nat.zero_add, ← Hsn.out] at hm3
      obtain ⟨y, hy⟩ := hm2.has (j := k) (by rw [length_splice _ _ _ (by rw [Hml.out]; simp; omega)]; simp; omega)
      have fy := hm2.frozen k
      have hbw3 := hbw2.setCell (p := ⟨w.heap.size, k, none⟩) (by simp) (.int .i64 (Safe.prod s))
      have Hm2 := Lib.hid hm2
      have Hm3 := Lib.hid hm3
      clear hm2 hm3
      clear hc2 hb2
      go_wp2_with fail
      go_roundw
      case rel => exact ⟨k + 1, by omega, by go_num, Hm3.out, hbw3⟩
      case measure => simp [intOf]; omega
    · obtain rfl : k = ss.length := by omega
      rw [List.take_length, splice_full _ _ (by rw [intV_len]; simp)] at hm
      have Hm := Lib.hid hm
      clear hm
      go_wp2_with fail
      go_ret2
      exact ⟨w.heap.size, rfl, Nat.le_refl _, Hm.out, hbw⟩
def OfP (n : NetD) (w : World) (e : Ending) (w' : World) : Prop :=
  Below w.heap.size w w' ∧ ((Nt.check n = 0 ∧ ∃ g g2, e = .returned (.tuple #[.agg #[.slice (some ⟨g, 0, none⟩) (n.nodes.length + 1) (n.nodes.length + 1), .slice (some ⟨g2, 0, none⟩) (n.nodes.length + 1) (n.nodes.length + 1), .int .i64 (Nt.total n)], .int .i64 0]) ∧ Blk w' g 3 (intV (Nt.words n)).toArray ∧ Blk w' g2 3 (intV (Nt.costs n)).toArray) ∨
    (Nt.check n ≠ 0 ∧ e = .returned (.tuple #[.agg #[.slice none 0 0, .slice none 0 0, .int .i64 0], .int .i64 (Nt.check n)])))
theorem costs_splice (n : NetD) (L : List Value) (hL : L.length = n.nodes.length + 1) (h0 : L[0]? = some (.int .i64 0)) : splice L 1 (intV (Nt.costsTo n n.nodes.length)) = intV (Nt.costs n) := by
  unfold splice
  have hd : L.drop (1 + (intV (Nt.costsTo n n.nodes.length)).length) = [] := List.drop_eq_nil_of_le (by rw [intV_len, Nt.costsTo_len]; omega)
  rw [hd, List.append_nil]
  match L, hL, h0 with
  | a :: r, _, h0 =>
    simp at h0
    subst h0
    simp [Nt.costs, intV]
theorem zeros_splice (n : NetD) (k : Nat) : splice (List.replicate k (Value.int .i64 0)) 1 (intV (Nt.costsTo n 0)) = List.replicate k (Value.int .i64 0) := by
  have e : intV (Nt.costsTo n 0) = [] := rfl
  rw [e]
  unfold splice
  rw [List.nil_append, List.length_nil, Nat.add_zero, List.take_append_drop]
theorem gets_at' {sh : List (List Int)} {u : Nat} (h : u < sh.length) : sh.getD u [] = sh[u] := by rw [List.getD_eq_getElem?_getD, List.getElem?_eq_getElem h]; rfl
set_option maxRecDepth 20000 in
set_option maxHeartbeats 16000000 in
theorem price_of (A N : Option Addr) (c d : Nat) (n : NetD) (w : World) (hok : n.ok) (hR : NetR w A N n) (hd : n.nodes.length ≤ d) (hsm : n.nodes.length ≤ 200) :
    Calls Try.prog 14 #[.agg #[.slice A n.inn.length c, .slice N n.nodes.length d]] w (OfP n w) := by
  obtain ⟨i0, hi, hz0, hz1, hz2⟩ := info_parts shpT_info
  obtain ⟨i1, hj, hy0, hy1, hy2⟩ := info_parts int_info
  have hk0 := (Blk.new w 26 #[.slice A n.inn.length c, .slice N n.nodes.length d]).alloc (.cells #[.slice none 0 0, .slice none 0 0, .int .i64 0] 61)
  have hr0 := Blk.new (w.alloc (.cells #[.slice A n.inn.length c, .slice N n.nodes.length d] 26)) 61 #[.slice none 0 0, .slice none 0 0, .int .i64 0]
  rw [World.size_alloc] at hr0
  have hl0 : Later w ((w.alloc (.cells #[.slice A n.inn.length c, .slice N n.nodes.length d] 26)).alloc (.cells #[.slice none 0 0, .slice none 0 0, .int .i64 0] 61)) := ((Later.refl w).alloc _).alloc _
  have HR := Lib.hid hR
  have Hk0 := Lib.hid hk0
  have Hl0 := Lib.hid hl0
  have Hr0 := Lib.hid hr0
  have Hok := Lib.hid hok
  clear hR hk0 hl0 hr0 hok
  go_enter Try.func14, Try.ntmps14
  go_wp2_with fail
  generalize (w.alloc (.cells #[.slice A n.inn.length c, .slice N n.nodes.length d] 26)).alloc (.cells #[.slice none 0 0, .slice none 0 0, .int .i64 0] 61) = w1 at *
  refine (net_shapes A N c d n w1 Hok.out (HR.out.below Hl0.out (Nat.le_refl _)) hd).mono ?_
  rintro e w2 ⟨hb2, ⟨hc, g, rfl, -, hrow⟩ | ⟨hc, rfl⟩⟩
  all_goals
    have hl2 := Hl0.out.call hb2
    have hk2 := (show Later w1 w2 from hb2).blk Hk0.out
    have hr2 := (show Later w1 w2 from hb2).blk Hr0.out
    clear hb2
  rotate_left
  · have q0 : (Nt.check n != 0) = true := by simp [hc]
    have c0 := hr2.cell 0
    have c1 := hr2.cell 1
    have c2 := hr2.cell 2
    have f0 := hr2.frozen 0
    have f1 := hr2.frozen 1
    have f2 := hr2.frozen 2
    simp at c0 c1 c2
    have hr3 := ((hr2.set_ 0 (.slice none 0 0)).set_ 1 (.slice none 0 0)).set_ 2 (.int .i64 0)
    have d0 := hr3.cell 0
    have d1 := hr3.cell 1
    have d2 := hr3.cell 2
    simp at d0 d1 d2
    have hs := hl2.size
    have Hc := Lib.hid hc
    have Hl2 := Lib.hid hl2
    have Hk2 := Lib.hid hk2
    have Hr2 := Lib.hid hr2
    have Hr3 := Lib.hid hr3
    clear hc hl2 hk2 hr2 hr3
    go_wp2_with fail
    refine bodyPost_ret (v := .tuple #[.agg #[.slice none 0 0, .slice none 0 0, .int .i64 0], .int .i64 (Nt.check n)]) (by simp [results, Try.results14, go_sem, d0, d1, d2]) rfl ?_
    exact ⟨((Hl2.out.set (p := ⟨w.heap.size + 1, 0, none⟩) (Nat.le_succ _) _).set (p := ⟨w.heap.size + 1, 1, none⟩) (Nat.le_succ _) _).set (p := ⟨w.heap.size + 1, 2, none⟩) (Nat.le_succ _) _, .inr ⟨Hc.out, rfl⟩⟩
  have hsl := Nt.shapes_len hc
  have hsr := Nt.shapes_all hc
  have hrs := hrow.shps
  have hca := fun k hk => @Nt.cost_at n hc k hk
  have htot := (Nt.total_bd hc hsm).2.2
  have hwd : (Nt.shapes n).map Safe.prod = Nt.words n := rfl
  have hsn := fun k hk => @Nt.costsTo_succ n k hk
  have hcb := Nt.costs_bd hc
  have hbad := Nt.bads_all (Nt.check_ok hc).2.2.2.1
  generalize Nt.shapes n = sh at *
  have Hc := Lib.hid hc
  have Hl2 := Lib.hid hl2
  have Hk2 := Lib.hid hk2
  have Hr2 := Lib.hid hr2
  have Hrow := Lib.hid hrow
  have Hsr := Lib.hid hsr
  have Hrs := Lib.hid hrs
  have Hca := Lib.hid hca
  have Htot := Lib.hid htot
  have Hwd := Lib.hid hwd
  have Hsn := Lib.hid hsn
  have Hcb := Lib.hid hcb
  have Hbad := Lib.hid hbad
  clear hc hl2 hk2 hr2 hrow hsr hrs hca htot hwd hsn hcb hbad
  have hsl2 : sh.length ≤ 201 := by omega
  rw [← hsl]
  have Hsl := Lib.hid hsl
  clear hsl
  go_wp2_with fail
  refine (price_sizes (some ⟨g, 0, none⟩) sh.length sh w2 (by omega) Hsr.out Hrs.out).mono ?_
  rintro e w3 ⟨gw, rfl, hgw, hbw, hb3⟩
  rw [Hwd.out] at hbw
  have hl3 := Hl2.out.call hb3
  have hl23 : Later w2 w3 := hb3
  have hk3 := hl23.blk Hk2.out
  have hr3 := hl23.blk Hr2.out
  have hrow3 := Hrow.out.below hb3 (Nat.le_refl _)
  have x1 : w3.cell? ⟨w.heap.size, 1, none⟩ = some (.slice N n.nodes.length d) := by rw [hk3.cell]; rfl
  have hs3 := hl3.size
  have Hl3 := Lib.hid hl3
  have Hk3 := Lib.hid hk3
  have Hr3 := Lib.hid hr3
  have Hrow3 := Lib.hid hrow3
  have Hbw := Lib.hid hbw
  have Hl23 := Lib.hid hl23
  clear hl3 hk3 hr3 hrow3 hbw hl23
  clear hb3 hgw
  go_wp2_with (at_make; refine wpList_make_full _ rfl _ _ 22 rfl w3.heap.size 3 i1 (.int .i64 0) 1 Try.underlying22 hj hy0 hy1 _ _ _ _ sh.length rfl rfl (by first | rfl | simp | (go_simp; rfl)) (by first | rfl | simp | (go_simp; rfl)) ?b2 ?b3 ?b4 ?_)
  case b2 => rw [hy2]; omega
  case b3 => unfold maxLen; omega
  case b4 => exact Nat.le_refl _
  intro w4 hown hgrow
  have hblk := own_cur hown
  rw [made_one] at hblk
  have hb4 : Below w3.heap.size w3 w4 := (Below.refl _ w3).grown hgrow (Nat.le_refl _) (by simp)
  have hl34 : Later w3 w4 := hb4
  have hm0 : Blk w4 w3.heap.size 3 (splice (List.replicate sh.length (Value.int .i64 0)) 1 (intV (Nt.costsTo n 0))).toArray := by
    rw [zeros_splice]
    exact hblk
  have x1' := hl34.cell x1
  have Hm0 := Lib.hid hm0
  have Hl34 := Lib.hid hl34
  clear hm0 hl34
  clear hblk hown hgrow hb4 x1
  go_wp2_with fail
  go_loopw [40] (fun i wx => ∃ k : Nat, k ≤ n.nodes.length ∧ i = .int .i64 (k : Int) ∧ Blk wx w3.heap.size 3 (splice (List.replicate sh.length (Value.int .i64 0)) 1 (intV (Nt.costsTo n k))).toArray ∧ Later w3 wx) (fun i _ => n.nodes.length - (intOf i).toNat)
  case atStart => exact ⟨0, Nat.zero_le _, rfl, Hm0.out, Hl34.out⟩
  case round =>
    obtain ⟨k, hk, rfl, hm, hlw⟩ := hrel
    clear Hm0 Hl34 x1'
    by_cases hlt : k < n.nodes.length
    · obtain ⟨b, off, S, sc, I, ic, Q, qc, rfl, hNA, hs1, hI1, hq1⟩ := HR.out.2.at_ hlt
      have hnok := Hok.out.2.2 _ (List.getElem_mem hlt)
      have hinr := (Hbad.out _ (List.getElem_mem hlt)).2
      have hcost := Hca.out k hlt
      have hsnk := Hsn.out k hlt
      have hcb1 : 0 ≤ Od.costV n.nodes[k].op n.nodes[k].p (sh.getD (k + 1) []) ∧ Od.costV n.nodes[k].op n.nodes[k].p (sh.getD (k + 1) []) ≤ 4294967296 := Hcb.out (k + 1) (by omega) _ (by rw [hsnk]; simp)
      have hvi := hnok.2.2.1
      have hlw' := Hl3.out.trans hlw
      have hNAw := hNA.below hlw'
      generalize n.nodes[k] = v at *
      generalize Od.costV v.op v.p (sh.getD (k + 1) []) = cv at *
      obtain ⟨⟨y0, y1, y2, y3, y4, y5, y6, y7, y8, y9⟩, -⟩ := hNAw
      have hkn := Blk.new wr 44 #[.int .i64 v.op.kind, .int .i64 v.op.k, .int .i64 v.op.width, .int .i64 v.op.step, .int .i64 v.op.side, .int .i64 v.op.frm, .int .i64 v.op.to, .slice S v.op.s.length sc, .slice I v.ins.length ic, .slice Q v.p.length qc]
      have hln : Later wr (wr.alloc (.cells #[.int .i64 v.op.kind, .int .i64 v.op.k, .int .i64 v.op.width, .int .i64 v.op.step, .int .i64 v.op.side, .int .i64 v.op.frm, .int .i64 v.op.to, .slice S v.op.s.length sc, .slice I v.ins.length ic, .slice Q v.p.length qc] 44)) := (Later.refl wr).alloc _
      have hmn := hm.alloc (.cells #[.int .i64 v.op.kind, .int .i64 v.op.k, .int .i64 v.op.width, .int .i64 v.op.step, .int .i64 v.op.side, .int .i64 v.op.frm, .int .i64 v.op.to, .slice S v.op.s.length sc, .slice I v.ins.length ic, .slice Q v.p.length qc] 44)
      have Hm := Lib.hid hm
      have Hlw := Lib.hid hlw
      have HNA := Lib.hid hNA
      have Hnok := Lib.hid hnok
      have Hinr := Lib.hid hinr
      have Hcost := Lib.hid hcost
      have Hsnk := Lib.hid hsnk
      have Hlw' := Lib.hid hlw'
      have Hkn := Lib.hid hkn
      have Hln := Lib.hid hln
      have Hmn := Lib.hid hmn
      clear hm hlw hNA hnok hinr hcost hsnk hlw' hkn hln hmn
      go_wp2_with (at_make; refine wpList_make_full _ rfl _ _ 42 rfl wr.heap.size 23 i0 (.slice none 0 0) 1 Try.underlying42 hi hz0 hz1 _ _ _ _ v.ins.length rfl rfl (by first | rfl | simp | (go_simp; rfl)) (by first | rfl | simp | (go_simp; rfl)) ?b2 ?b3 ?b4 ?_)
      case b2 => rw [hz2]; omega
      case b3 => unfold maxLen; omega
      case b4 => simp
      intro w5 hown hgrow
      have hblk := own_cur hown
      rw [made_one] at hblk
      have hrow5 : ShpRow w5 (wr.heap.size + 1) 23 (Nt.insMid sh v.ins 0) := by rw [Nt.insMid_zero]; exact ShpRow.new (by simpa [Blk] using hblk)
      have hl5 : Later wr w5 := Below.grown Hln.out hgrow (by simp) (by simp)
      have hkn5 : Blk w5 wr.heap.size 44 #[.int .i64 v.op.kind, .int .i64 v.op.k, .int .i64 v.op.width, .int .i64 v.op.step, .int .i64 v.op.side, .int .i64 v.op.frm, .int .i64 v.op.to, .slice S v.op.s.length sc, .slice I v.ins.length ic, .slice Q v.p.length qc] := Hkn.out.grown hgrow (by simp)
      have z8 : w5.cell? ⟨wr.heap.size, 8, none⟩ = some (.slice I v.ins.length ic) := by rw [hkn5.cell]; rfl
      have Hrow5 := Lib.hid hrow5
      have Hkn5 := Lib.hid hkn5
      have Hl5 := Lib.hid hl5
      clear hrow5 hkn5 hl5
      clear hblk hown hgrow y0 y1 y2 y3 y4 y5 y6 y7 y8 y9 Hln Hkn Hmn
      go_wp2_with fail
      clear z8
      obtain ⟨wo, rfl⟩ : ∃ wo, wo = wr := ⟨wr, rfl⟩
      go_loopw [52] (fun i wx => ∃ m : Nat, m ≤ v.ins.length ∧ i = .int .i64 m ∧ Blk wx wo.heap.size 44 #[.int .i64 v.op.kind, .int .i64 v.op.k, .int .i64 v.op.width, .int .i64 v.op.step, .int .i64 v.op.side, .int .i64 v.op.frm, .int .i64 v.op.to, .slice S v.op.s.length sc, .slice I v.ins.length ic, .slice Q v.p.length qc] ∧ Later wo wx ∧ ShpRow wx (wo.heap.size + 1) 23 (Nt.insMid sh v.ins m)) (fun i _ => v.ins.length - (intOf i).toNat)
      case atStart => exact ⟨0, Nat.zero_le _, rfl, Hkn5.out, Hl5.out, Hrow5.out⟩
      case round =>
        obtain ⟨m, hm, rfl, hknx, hlx, hrx⟩ := hrel
        clear Hkn5 Hrow5 Hl5
        have hNx := HNA.out.below (Hlw'.out.trans hlx)
        have hml := Nt.insMid_len sh v.ins hm
        by_cases hlm : m < v.ins.length
        · obtain ⟨b2, off2, rfl, -, hc2⟩ := hNx.2.2.1 m hlm
          rw [getD_at hlm] at hc2
          have hr2 := Hinr.out _ (List.getElem_mem hlm)
          have HM := Lib.hid (Nt.insMid_succ sh v.ins hlm)
          obtain ⟨u, hu⟩ : ∃ u : Nat, v.ins[m] = u := ⟨v.ins[m].toNat, by omega⟩
          rw [hu] at hc2 hr2
          have hul : u < sh.length := by rw [Hsl.out]; omega
          have hg2 := Hsr.out _ (List.getElem_mem hul)
          obtain ⟨Su, cu, yu, hIu, lu1, lu2, -⟩ := (Hrow3.out.below Hlw.out (Nat.le_refl _)).at_ hul
          obtain ⟨b3, off3, rfl, hb3, -⟩ := hIu 0 (right_short hg2).1
          have yu' := hlx.cell yu
          have hIu' := hIu.below hlx (Nat.le_refl _)
          have hset := hrx.set_ (i := m) hIu' lu1 lu2 (fun a h => by injection h with h; subst h; simp; omega)
          obtain ⟨Sm, cm, ym, -⟩ := hrx.at_ (j := m) (by omega)
          have fm : wr.frozen? ⟨wo.heap.size + 1, m, none⟩ = false := by obtain ⟨vs, _, hk, _⟩ := hrx; exact hk.frozen m
          have HS := Lib.hid (show ShpRow (wr.setCell ⟨wo.heap.size + 1, m, none⟩ (.slice (some ⟨b3, off3, none⟩) sh[u].length cu)) (wo.heap.size + 1) 23 (Nt.insMid sh v.ins (m + 1)) by
            rw [HM.out, hu, show ((u : Int)).toNat = u by omega, gets_at' hul]; exact hset)
          have HKN := Lib.hid (hknx.far (p := ⟨wo.heap.size + 1, m, none⟩) (by simp) (.slice (some ⟨b3, off3, none⟩) sh[u].length cu))
          have HLX := Lib.hid (hlx.set (p := ⟨wo.heap.size + 1, m, none⟩) (Nat.le_succ _) (.slice (some ⟨b3, off3, none⟩) sh[u].length cu))
          have u0 : (0 : Int) ≤ u := by omega
          have u1 : (u : Int) < (sh.length : Int) := by omega
          have m1 : (m : Int) < v.ins.length := by omega
          clear hset hIu hIu' hknx hrx hNx hg2 hu yu hlx
          go_wp2_with fail
          go_roundw
          case rel => exact ⟨m + 1, by omega, by go_num, HKN.out, HLX.out, HS.out⟩
          case measure => simp [intOf]; omega
        · obtain rfl : m = v.ins.length := by omega
          have hpl : (Nt.pick sh v.ins).length = v.ins.length := by simp [Nt.pick]
          rw [Nt.insMid_all] at hrx
          obtain ⟨y0, y1, y2, y3, y4, y5, y6, y7, y9⟩ : wr.cell? ⟨wo.heap.size, 0, none⟩ = some (.int .i64 v.op.kind) ∧ wr.cell? ⟨wo.heap.size, 1, none⟩ = some (.int .i64 v.op.k) ∧ wr.cell? ⟨wo.heap.size, 2, none⟩ = some (.int .i64 v.op.width) ∧ wr.cell? ⟨wo.heap.size, 3, none⟩ = some (.int .i64 v.op.step) ∧ wr.cell? ⟨wo.heap.size, 4, none⟩ = some (.int .i64 v.op.side) ∧ wr.cell? ⟨wo.heap.size, 5, none⟩ = some (.int .i64 v.op.frm) ∧ wr.cell? ⟨wo.heap.size, 6, none⟩ = some (.int .i64 v.op.to) ∧ wr.cell? ⟨wo.heap.size, 7, none⟩ = some (.slice S v.op.s.length sc) ∧ wr.cell? ⟨wo.heap.size, 9, none⟩ = some (.slice Q v.p.length qc) := by
            refine ⟨?_, ?_, ?_, ?_, ?_, ?_, ?_, ?_, ?_⟩
            all_goals (rw [hknx.cell]; rfl)
          have hno := Hnok.out
          have hxr : ∀ s ∈ Nt.pick sh v.ins, s.length ≤ 17592186043904 := fun s hs => by
            obtain ⟨i, hi, rfl⟩ := List.mem_map.1 hs
            have hr := Hinr.out i hi
            have hl : i.toNat < sh.length := by rw [Hsl.out]; omega
            rw [gets_at' hl]
            have := (right_short (Hsr.out _ (List.getElem_mem hl))).2
            omega
          have hcall := op_cost v.op S Q (some ⟨wo.heap.size + 1, 0, none⟩) sc qc v.ins.length v.p (Nt.pick sh v.ins) wr (by have := hno.2.1; omega) hNx.2.1 ⟨hNx.2.2.2, hq1.1, hq1.2, fun s hs => by have := hno.2.2.2.2.1 s hs; omega⟩ ⟨hrx.shps, by omega, by omega, hxr⟩
          rw [hpl, Hcost.out] at hcall
          have Hcall := Lib.hid hcall
          have Hlx := Lib.hid hlx
          clear hcall hlx
          clear hNx hrx hknx hpl hno hxr
          go_wp2_with fail
          clear y0 y1 y2 y3 y4 y5 y6 y7 y9
          refine (Hcall.out).mono ?_
          rintro e w6 ⟨rfl, hb6⟩
          have hlo6 := Hlx.out.call hb6
          have hm6 := hlo6.blk Hm.out
          have hl36 := Hlw.out.trans hlo6
          have hvl : (intV (Nt.costsTo n k)).length = k := by rw [intV_len, Nt.costsTo_len]
          have hslq := Hsl.out
          have hm7 := hm6.splice_set (by rw [hvl, List.length_replicate]; omega) (.int .i64 cv)
          rw [hvl, ← intV_snoc, ← Hsnk.out, show 1 + k = k + 1 by omega] at hm7
          obtain ⟨y, hy⟩ := hm6.has (j := k + 1) (by rw [length_splice _ _ _ (by rw [hvl, List.length_replicate]; omega), List.length_replicate]; omega)
          have fy := hm6.frozen (k + 1)
          have hl37 := hl36.set (p := ⟨w3.heap.size, k + 1, none⟩) (Nat.le_refl _) (.int .i64 cv)
          have k1 : (k : Int) + 1 < (sh.length : Int) := by omega
          have k2 : ((k : Int) + 1).toNat = k + 1 := by omega
          clear hslq hvl hb6
          have Hlo6 := Lib.hid hlo6
          have Hm6 := Lib.hid hm6
          have Hl36 := Lib.hid hl36
          have Hm7 := Lib.hid hm7
          have Hl37 := Lib.hid hl37
          clear hlo6 hm6 hl36 hm7 hl37
          go_wp2_with fail
          go_roundw
          case rel => exact ⟨k + 1, by omega, by go_num, Hm7.out, Hl37.out⟩
          case measure => simp [intOf]; omega
    · obtain rfl : k = n.nodes.length := by omega
      have hslq := Hsl.out
      have hne : (List.replicate sh.length (Value.int .i64 0))[0]? = some (.int .i64 0) := by rw [List.getElem?_replicate, if_pos (by omega)]
      rw [costs_splice n _ (by rw [List.length_replicate]; exact hslq) hne] at hm
      have hcl : (Nt.costs n).length = sh.length := by rw [hslq]; simp [Nt.costs, Nt.costsTo_len]
      have hIc : Ints .i64 wr (some ⟨w3.heap.size, 0, none⟩) (Nt.costs n) := Ints.of_row fun j hj => by
        rw [Nat.zero_add, hm.cell]
        simp [intV, hj]
      have hlr := Hl3.out.trans hlw
      have hcall := safe_add (some ⟨w3.heap.size, 0, none⟩) sh.length (Nt.costs n) wr (by rw [hcl]; omega) hIc
      rw [hcl, Htot.out] at hcall
      clear hslq hne hcl
      have Hm := Lib.hid hm
      have HIc := Lib.hid hIc
      have Hlr := Lib.hid hlr
      have Hcall := Lib.hid hcall
      have Hlw := Lib.hid hlw
      clear hm hIc hlr hcall hlw
      go_wp2_with fail
      refine (Hcall.out).mono ?_
      rintro e w5 ⟨rfl, hb5⟩
      have hl5 := Hlr.out.call hb5
      have hr5 := (Hlw.out.call hb5).blk Hr3.out
      have hm5 := (show Later wr w5 from hb5).blk Hm.out
      have hw5 := (Hlw.out.call hb5).blk Hbw.out
      have c0 := hr5.cell 0
      have c1 := hr5.cell 1
      have c2 := hr5.cell 2
      have f0 := hr5.frozen 0
      have f1 := hr5.frozen 1
      have f2 := hr5.frozen 2
      simp at c0 c1 c2
      have hr6 := ((hr5.set_ 0 (.slice (some ⟨gw, 0, none⟩) sh.length sh.length)).set_ 1 (.slice (some ⟨w3.heap.size, 0, none⟩) sh.length sh.length)).set_ 2 (.int .i64 (Nt.total n))
      have d0 := hr6.cell 0
      have d1 := hr6.cell 1
      have d2 := hr6.cell 2
      simp at d0 d1 d2
      have hkp : Keep 61 w5 (((w5.setCell ⟨w.heap.size + 1, 0, none⟩ (.slice (some ⟨gw, 0, none⟩) sh.length sh.length)).setCell ⟨w.heap.size + 1, 1, none⟩ (.slice (some ⟨w3.heap.size, 0, none⟩) sh.length sh.length)).setCell ⟨w.heap.size + 1, 2, none⟩ (.int .i64 (Nt.total n))) := ((Keep.set_ hr5 0 _).trans (Keep.set_ (hr5.set_ 0 _) 1 _)).trans (Keep.set_ ((hr5.set_ 0 _).set_ 1 _) 2 _)
      have hm6 := hm5.keep (by decide) hkp
      have hw6 := hw5.keep (by decide) hkp
      clear hb5
      have Hl5 := Lib.hid hl5
      have Hr5 := Lib.hid hr5
      have Hm5 := Lib.hid hm5
      have Hw5 := Lib.hid hw5
      have Hr6 := Lib.hid hr6
      have Hkp := Lib.hid hkp
      have Hm6 := Lib.hid hm6
      have Hw6 := Lib.hid hw6
      clear hl5 hr5 hm5 hw5 hr6 hkp hm6 hw6
      go_wp2_with fail
      refine bodyPost_ret (v := .tuple #[.agg #[.slice (some ⟨gw, 0, none⟩) sh.length sh.length, .slice (some ⟨w3.heap.size, 0, none⟩) sh.length sh.length, .int .i64 (Nt.total n)], .int .i64 0]) (by simp [results, Try.results14, go_sem, d0, d1, d2]) rfl ?_
      exact ⟨((Hl5.out.set (p := ⟨w.heap.size + 1, 0, none⟩) (Nat.le_succ _) _).set (p := ⟨w.heap.size + 1, 1, none⟩) (Nat.le_succ _) _).set (p := ⟨w.heap.size + 1, 2, none⟩) (Nat.le_succ _) _, .inl ⟨Hc.out, gw, w3.heap.size, by rw [← Hsl.out], Hw6.out, Hm6.out⟩⟩
end Go.Proofs.Ytmmgdgfpemkdnaa
/- Layer 18 (check): New: contract. -/
namespace Go.Proofs.Ytmmgdgfpemkdnaa
open Go.RowKit
def CloneQ (zs : List Int) (w : World) (e : Ending) (w' : World) : Prop :=
  ∃ J jc, e = .returned (.slice J zs.length jc) ∧ w'.ownsRow w.heap.size 3 1 (.slice J zs.length jc) zs.length (zs.map (Value.int .i64)) ∧ Below w.heap.size w w'
theorem clone_row (A : Option Addr) (c : Nat) (zs : List Int) (w : World) (hl : zs.length ≤ 1048576) (hI : Ints .i64 w A zs) :
    Calls Try.prog 17 #[.slice A zs.length c] w (CloneQ zs w) := by
  by_cases h : zs = []
  · subst h
    rcases A with _ | a
    · refine (Try.slices_Clone_int_nil 0 c w).mono ?_
      rintro e w' ⟨rfl, rfl⟩
      exact ⟨none, 0, rfl, World.ownsRow_nil _ _ _ _, Below.refl _ _⟩
    · refine (Try.slices_Clone_int_zero a c w).mono ?_
      rintro e w' ⟨v, rfl, ho, -, hb⟩
      obtain ⟨J, jc, rfl⟩ := own_form ho
      exact ⟨J, jc, rfl, ho, hb⟩
  · obtain ⟨b, off, rfl, -, -⟩ := hI 0 (List.length_pos_iff.2 h)
    refine (Try.slices_Clone_int b off zs.length c zs w (Nat.le_refl _) (by omega) (fun j hj => ?_)).mono ?_
    · obtain ⟨b', o', e, -, hc⟩ := hI j hj
      injection e with e; injection e with e1 e2; subst e1 e2
      exact hc
    · rintro e w' ⟨v, rfl, ho, -, hb⟩
      rw [List.take_length] at ho
      obtain ⟨J, jc, rfl⟩ := own_form ho
      exact ⟨J, jc, rfl, ho, hb⟩

theorem ck_ints {w : World} {g : Nat} {t : TypeId} (l : List Int) (h : Blk w g t (l.map (Value.int .i64)).toArray) : Ints .i64 w (some ⟨g, 0, none⟩) l := Ints.of_row fun j hj => by
  rw [Nat.zero_add, h.cell]; simp [hj]
theorem Ck.base_ok {n : NetD} (h : Nt.check n = 0) (hok : n.ok) {cap : Int} (hc : -9223372036854775808 ≤ cap ∧ cap ≤ 9223372036854775807) : (Ck.base n cap).Ok := by
  obtain ⟨h1, h2, h3, h4, h5, h6, h7, h8⟩ := Nt.check_ok h
  have hw := Nt.words_len h
  obtain ⟨-, l1, l2⟩ := Nt.loss_mem h7
  have hcl : (Nt.costs n).length = n.nodes.length + 1 := by rw [Nt.costs, List.length_cons, Nt.costsTo_len]
  refine ⟨by show 1 ≤ (Nt.words n).length; omega, by show (Nt.words n).length ≤ 513; omega, by show (Nt.costs n).length = (Nt.words n).length; omega, ?_, ?_, ?_, ?_, ?_, hc⟩
  · show ([] :: n.nodes.map (·.ins)).length = (Nt.words n).length
    rw [hw]; simp
  · intro r hr
    rcases List.mem_cons.1 hr with rfl | hr
    · simp
    · obtain ⟨v, hv, rfl⟩ := List.mem_map.1 hr
      obtain ⟨-, hb⟩ := Nt.bads_all h4 v hv
      have hlen := (hok.2.2 v hv).2.2.1
      exact ⟨hlen, fun i hi => by have := hb i hi; show 0 ≤ i ∧ i < ((Nt.words n).length : Int); omega⟩
  · show (Nt.sorted n.nodes).length ≤ 512; omega
  · show 0 ≤ Nt.loss n.nodes ∧ Nt.loss n.nodes < ((Nt.words n).length : Int); omega
  · intro z hz; have := Nt.words_bd h z hz; omega
/-- The rows of ins, the first k filled. -/
def Ck.rk (n : NetD) (k : Nat) : List (List Int) := [] :: ((n.nodes.take k).map (·.ins) ++ List.replicate (n.nodes.length - k) [])
theorem Ck.rk_zero (n : NetD) : Ck.rk n 0 = List.replicate (n.nodes.length + 1) [] := by simp [Ck.rk, List.replicate_succ]
theorem Ck.rk_len (n : NetD) {k : Nat} (h : k ≤ n.nodes.length) : (Ck.rk n k).length = n.nodes.length + 1 := by simp [Ck.rk]; omega
theorem Ck.rk_succ (n : NetD) {k : Nat} (h : k < n.nodes.length) : (Ck.rk n k).set (k + 1) n.nodes[k].ins = Ck.rk n (k + 1) := by
  unfold Ck.rk
  rw [List.set_cons_succ, List.take_succ_eq_append_getElem h, List.map_append]
  congr 1
  have hr : List.replicate (n.nodes.length - k) ([] : List Int) = [] :: List.replicate (n.nodes.length - (k + 1)) [] := by
    rw [← List.replicate_succ]; congr 1; omega
  rw [hr, List.set_append_right _ _ (by simp; omega)]
  simp [Nat.min_eq_left (Nat.le_of_lt h)]
theorem Ck.rk_all (n : NetD) : Ck.rk n n.nodes.length = [] :: n.nodes.map (·.ins) := by simp [Ck.rk]
def NewP (n : NetD) (cap : Int) (W : World) (e : Ending) (w' : World) : Prop :=
  (Nt.check n ≠ 0 ∧ e = .returned (.tuple #[.pointer none, .int .i64 (Nt.check n)]) ∨ Nt.check n = 0 ∧ ∃ a W0, CkA.Still a (Ck.base n cap) W0 ∧ Later W W0 ∧ e = .returned (.tuple #[.pointer (some ⟨a.p, 0, none⟩), .int .i64 0]) ∧ CkM a (Ck.base n cap) W0 (Ck.start (n.nodes.length + 1)) w') ∧ Later W w'
set_option maxHeartbeats 16000000 in
set_option maxRecDepth 100000 in
theorem check_new (A N : Option Addr) (c d : Nat) (n : NetD) (cap : Int) (W : World) (hok : n.ok) (hR : NetR W A N n) (hd : n.nodes.length ≤ d) (hsm : n.nodes.length ≤ 200) (hcap : -9223372036854775808 ≤ cap ∧ cap ≤ 9223372036854775807) :
    Calls Try.prog 7 #[.agg #[.slice A n.inn.length c, .slice N n.nodes.length d], .int .i64 cap] W (NewP n cap W) := by
  have hk0 := Blk.new W 26 #[.slice A n.inn.length c, .slice N n.nodes.length d]
  have hl0 : Later W (W.alloc (.cells #[.slice A n.inn.length c, .slice N n.nodes.length d] 26)) := (Later.refl W).alloc _
  have HR := Lib.hid hR
  have Hok := Lib.hid hok
  have Hk0 := Lib.hid hk0
  have Hl0 := Lib.hid hl0
  clear hR hok hk0 hl0
  go_enter Try.func7, Try.ntmps7
  go_wp2_with fail
  generalize W.alloc (.cells #[.slice A n.inn.length c, .slice N n.nodes.length d] 26) = W1 at *
  refine (price_of A N c d n W1 Hok.out (HR.out.below Hl0.out (Nat.le_refl _)) hd hsm).mono ?_
  rintro e W2 ⟨h2, hcase⟩
  have h12 : Later W1 W2 := h2
  by_cases hch : Nt.check n = 0
  rotate_left
  · rcases hcase with ⟨h0, _⟩ | ⟨_, rfl⟩
    · exact absurd h0 hch
    have hne : (Nt.check n != 0) = true := by simp [hch]
    have hl2 := Hl0.out.trans h12
    have hl3 := hl2.alloc (.cells #[.slice none 0 0, .slice none 0 0, .int .i64 0] 61)
    have Hch := Lib.hid hch
    have Hl3 := Lib.hid hl3
    clear hch hl3
    clear h2 h12 hl2
    go_wp2_with fail
    go_ret2
    exact ⟨.inl ⟨Hch.out, rfl⟩, Hl3.out⟩
  rcases hcase with ⟨_, g, g2, rfl, hG, hG2⟩ | ⟨h0, _⟩
  rotate_left
  · exact absurd hch h0
  have hpr := Blk.new W2 61 #[.slice (some ⟨g, 0, none⟩) (n.nodes.length + 1) (n.nodes.length + 1), .slice (some ⟨g2, 0, none⟩) (n.nodes.length + 1) (n.nodes.length + 1), .int .i64 (Nt.total n)]
  have h23 : Later W2 (W2.alloc (.cells #[.slice (some ⟨g, 0, none⟩) (n.nodes.length + 1) (n.nodes.length + 1), .slice (some ⟨g2, 0, none⟩) (n.nodes.length + 1) (n.nodes.length + 1), .int .i64 (Nt.total n)] 61)) := (Later.refl W2).alloc _
  have hk3 := (h12.trans h23).blk Hk0.out
  have hl3 := (Hl0.out.trans h12).trans h23
  have hG3 := h23.blk hG
  have hG23 := h23.blk hG2
  have e0 := hk3.cell 0
  have e1 := hk3.cell 1
  simp at e0 e1
  have Hpr := Lib.hid hpr
  have Hk3 := Lib.hid hk3
  have Hl3 := Lib.hid hl3
  have HG3 := Lib.hid hG3
  have HG23 := Lib.hid hG23
  have Hch := Lib.hid hch
  clear hpr hk3 hl3 hG3 hG23 hch
  clear h2 h12 h23 hG hG2 Hk0 Hl0
  go_wp2_with fail
  generalize W2.alloc (.cells #[.slice (some ⟨g, 0, none⟩) (n.nodes.length + 1) (n.nodes.length + 1), .slice (some ⟨g2, 0, none⟩) (n.nodes.length + 1) (n.nodes.length + 1), .int .i64 (Nt.total n)] 61) = W3 at *
  generalize W2.heap.size = pb at *
  refine (net_order A N c d n W3 Hok.out (HR.out.below Hl3.out (Nat.le_refl _)) hd).mono ?_
  rintro e W4 ⟨h4, hcase⟩
  rcases hcase with ⟨_, O, oc, rfl, hO, -, -⟩ | ⟨h0, _⟩
  rotate_left
  · exact absurd Hch.out h0
  have h34 : Later W3 W4 := h4
  have hl4 := Hl3.out.trans h34
  have hk4 := h34.blk Hk3.out
  have hO4 := hO
  clear e0 e1
  have e0 := hk4.cell 0
  have e1 := hk4.cell 1
  simp at e0 e1
  have Hl4 := Lib.hid hl4
  have Hk4 := Lib.hid hk4
  have HO4 := Lib.hid hO4
  have H34 := Lib.hid h34
  clear hl4 hk4 hO4 h34
  clear h4 hO Hk3 Hl3
  go_wp2_with fail
  refine (net_loss A N c d n W4 Hok.out (HR.out.below Hl4.out (Nat.le_refl _)) hd).mono ?_
  rintro e W5 ⟨rfl, h5⟩
  rw [Hch.out, show lossE n = Nt.loss n.nodes by unfold lossE; rw [if_pos Hch.out]]
  have h45 : Later W4 W5 := h5
  have h35 := H34.out.trans h45
  have hl5 := Hl4.out.trans h45
  have hk5 := h45.blk Hk4.out
  have hO5 := HO4.out.below h45 (Nat.le_refl _)
  have hpr5 := h35.blk Hpr.out
  have hG5 := h35.blk HG3.out
  have hG25 := h35.blk HG23.out
  clear e0 e1
  have e1 := hk5.cell 1
  simp at e1
  have Hl5 := Lib.hid hl5
  have Hk5 := Lib.hid hk5
  have HO5 := Lib.hid hO5
  have Hpr5 := Lib.hid hpr5
  have HG5 := Lib.hid hG5
  have HG25 := Lib.hid hG25
  clear hl5 hk5 hO5 hpr5 hG5 hG25
  clear h5 h45 h35 Hk4 Hl4 HO4 Hpr HG3 HG23 H34
  obtain ⟨i0, hi, hz0, hz1, hz2⟩ := info_parts intsT_info
  obtain ⟨i1, hj, hy0, hy1, hy2⟩ := info_parts bool_info
  have w1 : IntKind.i64.wrap ((n.nodes.length : Int) + 1) = ((n.nodes.length + 1 : Nat) : Int) := by rw [IntWalk.i64_in _ (by omega)]; omega
  have w2 : IntKind.i64.wrap ((n.nodes.length + 1 : Nat) : Int) = ((n.nodes.length + 1 : Nat) : Int) := IntWalk.i64_in _ (by omega)
  go_wp2_with (at_make; refine wpList_make_full _ rfl _ _ 54 rfl W5.heap.size 22 i0 (.slice none 0 0) 1 Try.underlying54 hi hz0 hz1 _ _ _ _ (n.nodes.length + 1) rfl rfl (by first | rfl | simp | (go_simp; rfl)) (by first | rfl | simp | (go_simp; rfl)) ?b2 ?b3 ?b4 ?_)
  case b2 => rw [hz2]; omega
  case b3 => unfold maxLen; omega
  case b4 => simp
  intro W6 hown hgrow
  have hblk := own_cur hown
  rw [made_one] at hblk
  have hrow : ShpRow W6 W5.heap.size 22 (Ck.rk n 0) := by rw [Ck.rk_zero]; exact ShpRow.new (by simpa [Blk] using hblk)
  have hl56 : Later W5 W6 := (Below.refl _ W5).grown hgrow (by simp) (by simp)
  clear e1
  have e1 := (hl56.blk Hk5.out).cell 1
  simp at e1
  have Hrow := Lib.hid hrow
  have Hl56 := Lib.hid hl56
  clear hrow hl56
  clear hblk hown hgrow
  go_wp2_with fail
  obtain ⟨wb, hwb⟩ : ∃ wb : World, wb = W5 := ⟨W5, rfl⟩
  go_loopw [11, 12, 46] (fun _ _ i wr => ∃ k : Nat, k ≤ n.nodes.length ∧ i = .int .i64 (k : Int) ∧ ShpRow wr W5.heap.size 22 (Ck.rk n k) ∧ Later W5 wr) (fun _ _ i _ => n.nodes.length - (intOf i).toNat)
  case atStart => exact ⟨0, Nat.zero_le _, rfl, Hrow.out, Hl56.out⟩
  case round =>
    clear Hrow Hl56 e1
    obtain ⟨wo, rfl⟩ : ∃ wo : World, wo = wr := ⟨wr, rfl⟩
    obtain ⟨k, hk, rfl, hrow, hlw⟩ := hrel
    have hlz := Hl5.out.trans hlw
    have hsz := Below.size hlw
    by_cases hlt : k < n.nodes.length
    · obtain ⟨b, off, S, sc, J, ic, Q, qc, rfl, hNA, -, hjc, -⟩ := HR.out.2.at_ hlt
      have hvok := Hok.out.2.2 _ (List.getElem_mem hlt)
      have HRK := Lib.hid (Ck.rk_succ n hlt)
      have hrl := Ck.rk_len n hk
      generalize n.nodes[k] = v at *
      obtain ⟨y0, y1, y2, y3, y4, y5, y6, y7, y8, y9⟩ := (hNA.below hlz).1
      have hJ := hNA.2.2.1.below hlz (Nat.le_refl _)
      have hlv := hvok.2.2.1
      have hb7 : Later wo (wo.alloc (.cells #[.int .i64 v.op.kind, .int .i64 v.op.k, .int .i64 v.op.width, .int .i64 v.op.step, .int .i64 v.op.side, .int .i64 v.op.frm, .int .i64 v.op.to, .slice S v.op.s.length sc, .slice J v.ins.length ic, .slice Q v.p.length qc] 44)) := (Later.refl wo).alloc _
      have hJ7 := hJ.below hb7 (Nat.le_refl _)
      have hrow7 := hrow.below hb7 (Nat.le_refl _)
      have hl7 := hlw.trans hb7
      have p1 : IntKind.i64.wrap ((k : Int) + 1) = ((k + 1 : Nat) : Int) := by rw [IntWalk.i64_in _ (by omega)]; omega
      have p2 : ((k + 1 : Nat) : Int) < ((n.nodes.length + 1 : Nat) : Int) := by omega
      have p3 : (0 : Int) ≤ ((k + 1 : Nat) : Int) := by omega
      have p4 : ((k + 1 : Nat) : Int).toNat = k + 1 := by omega
      have HJ7 := Lib.hid hJ7
      have Hrow7 := Lib.hid hrow7
      have Hl7 := Lib.hid hl7
      clear hJ7 hrow7 hl7
      clear hNA hJ hrow hb7 hlz hvok
      go_wp2_with fail
      clear y0 y1 y2 y3 y4 y5 y6 y7 y8 y9
      generalize wo.alloc (.cells #[.int .i64 v.op.kind, .int .i64 v.op.k, .int .i64 v.op.width, .int .i64 v.op.step, .int .i64 v.op.side, .int .i64 v.op.frm, .int .i64 v.op.to, .slice S v.op.s.length sc, .slice J v.ins.length ic, .slice Q v.p.length qc] 44) = w7 at *
      refine (clone_row J ic v.ins _ hlv HJ7.out).mono ?_
      rintro e w8 ⟨J8, jc8, rfl, hown8, hb8⟩
      have hl8 := Hl7.out.trans (show Later w7 w8 from hb8)
      have hrow8 := Hrow7.out.below hb8 (Nat.le_refl _)
      obtain ⟨hI8, q1, q2⟩ := own_ints hown8
      obtain ⟨S0, cc, hcell, -⟩ := hrow8.at_ (j := k + 1) (by omega)
      have hfz : w8.frozen? ⟨W5.heap.size, k + 1, none⟩ = false := by obtain ⟨vs, _, hk, _⟩ := hrow8; exact hk.frozen (k + 1)
      have hs7 := Below.size Hl7.out
      have hg5 := Hrow7.out.lt
      have hrow9 := hrow8.set_ (i := k + 1) hI8 q1 q2 (fun ad e => by
        have := (hown8.lt ad.block (by rw [e]; rfl)).1
        omega)
      rw [HRK.out] at hrow9
      have hl9 := Later.set hl8 (p := ⟨W5.heap.size, k + 1, none⟩) (Nat.le_refl _) (.slice J8 v.ins.length jc8)
      have Hrow9 := Lib.hid hrow9
      have Hl9 := Lib.hid hl9
      clear hrow9 hl9
      clear hown8 hb8 hl8 hrow8 hI8 HJ7 Hrow7 Hl7 hlw
      go_wp2_with fail
      go_roundw
      case rel => exact ⟨k + 1, by omega, by go_num, Hrow9.out, Hl9.out⟩
      case measure => simp [intOf]; omega
    · obtain rfl : k = n.nodes.length := by omega
      rw [Ck.rk_all] at hrow
      have hprw := hlw.blk Hpr5.out
      have hst := Blk.new wo 57 #[.slice (some ⟨g, 0, none⟩) (n.nodes.length + 1) (n.nodes.length + 1), .slice (some ⟨g2, 0, none⟩) (n.nodes.length + 1) (n.nodes.length + 1), .slice (some ⟨W5.heap.size, 0, none⟩) (n.nodes.length + 1) (n.nodes.length + 1), .slice O n.nodes.length oc, .int .i64 (Nt.loss n.nodes), .int .i64 cap, .slice none 0 0, .slice none 0 0, .slice none 0 0, .bool false, .bool false, .int .i64 0, .int .i64 0, .int .i64 0]
      have hsl : Later wo (wo.alloc (.cells #[.slice (some ⟨g, 0, none⟩) (n.nodes.length + 1) (n.nodes.length + 1), .slice (some ⟨g2, 0, none⟩) (n.nodes.length + 1) (n.nodes.length + 1), .slice (some ⟨W5.heap.size, 0, none⟩) (n.nodes.length + 1) (n.nodes.length + 1), .slice O n.nodes.length oc, .int .i64 (Nt.loss n.nodes), .int .i64 cap, .slice none 0 0, .slice none 0 0, .slice none 0 0, .bool false, .bool false, .int .i64 0, .int .i64 0, .int .i64 0] 57)) := (Later.refl wo).alloc _
      have hGw := hlw.blk HG5.out
      have hG2w := hlw.blk HG25.out
      have hOw := HO5.out.below hlw (Nat.le_refl _)
      have x0 := hprw.cell 0
      have x1 := hprw.cell 1
      simp at x0 x1
      have hwl := Nt.words_len Hch.out
      have Hrow := Lib.hid hrow
      have Hst := Lib.hid hst
      have Hsl := Lib.hid hsl
      have HGw := Lib.hid hGw
      have HG2w := Lib.hid hG2w
      have HOw := Lib.hid hOw
      have Hlz := Lib.hid hlz
      clear hrow hst hsl hGw hG2w hOw hlz
      clear hlw hprw Hl5 Hk5 HO5 Hpr5 HG5 HG25 hk hlt
      go_wp2_with (at_make; refine wpList_make_full _ rfl _ _ 55 rfl wo.heap.size 4 i1 (.bool false) 1 Try.underlying55 hj hy0 hy1 _ _ _ _ (n.nodes.length + 1) rfl rfl (by first | rfl | simp | (go_simp; rfl)) (by first | rfl | simp | (go_simp; rfl)) ?c2 ?c3 ?c4 ?_)
      case c2 => rw [hy2]; omega
      case c3 => unfold maxLen; omega
      case c4 => simp
      intro w7 hown7 hgrow7
      have hblk7 := own_cur hown7
      rw [made_one] at hblk7
      have hp7 : Blk w7 (wo.heap.size + 1) 4 ((List.replicate (n.nodes.length + 1) false).map Value.bool).toArray := by rw [List.map_replicate]; simpa [Blk] using hblk7
      have hst7 := Hst.out.grown hgrow7 (by simp)
      have hsl7 : Later wo w7 := Below.grown Hsl.out hgrow7 (by simp) (by simp)
      have y6 : w7.cell? ⟨wo.heap.size, 6, none⟩ = some (.slice none 0 0) := hst7.cell 6
      have f6 := hst7.frozen 6
      have hst8 : Blk (w7.setCell ⟨wo.heap.size, 6, none⟩ (.slice (some ⟨wo.heap.size + 1, 0, none⟩) (n.nodes.length + 1) (n.nodes.length + 1))) wo.heap.size 57 #[.slice (some ⟨g, 0, none⟩) (n.nodes.length + 1) (n.nodes.length + 1), .slice (some ⟨g2, 0, none⟩) (n.nodes.length + 1) (n.nodes.length + 1), .slice (some ⟨W5.heap.size, 0, none⟩) (n.nodes.length + 1) (n.nodes.length + 1), .slice O n.nodes.length oc, .int .i64 (Nt.loss n.nodes), .int .i64 cap, .slice (some ⟨wo.heap.size + 1, 0, none⟩) (n.nodes.length + 1) (n.nodes.length + 1), .slice none 0 0, .slice none 0 0, .bool false, .bool false, .int .i64 0, .int .i64 0, .int .i64 0] := hst7.set_ 6 _
      have hp8 := hp7.far (p := ⟨wo.heap.size, 6, none⟩) (by simp) (.slice (some ⟨wo.heap.size + 1, 0, none⟩) (n.nodes.length + 1) (n.nodes.length + 1))
      have hsl8 := hsl7.set (p := ⟨wo.heap.size, 6, none⟩) (Nat.le_refl _) (.slice (some ⟨wo.heap.size + 1, 0, none⟩) (n.nodes.length + 1) (n.nodes.length + 1))
      have Hst8 := Lib.hid hst8
      have Hp8 := Lib.hid hp8
      have Hsl8 := Lib.hid hsl8
      clear hst8 hp8 hsl8
      clear hown7 hgrow7 hblk7 hp7 hst7 hsl7 Hst Hsl x0 x1
      go_upto_region 18 with fail
      generalize w7.setCell ⟨wo.heap.size, 6, none⟩ (.slice (some ⟨wo.heap.size + 1, 0, none⟩) (n.nodes.length + 1) (n.nodes.length + 1)) = w8 at *
      clear y6 f6
      have s8 := Hp8.out.lt
      have t8 := Below.size Hsl8.out
      have y7 : w8.cell? ⟨wo.heap.size, 7, none⟩ = some (.slice none 0 0) := Hst8.out.cell 7
      have f7 := Hst8.out.frozen 7
      clear y7 f7
      go_wp2_with (at_make; refine wpList_make_full _ rfl _ _ 55 rfl wo.heap.size 4 i1 (.bool false) 1 Try.underlying55 hj hy0 hy1 _ _ _ _ (n.nodes.length + 1) rfl rfl (by first | rfl | simp | (go_simp; rfl)) (by first | rfl | simp | (go_simp; rfl)) ?d2 ?d3 ?d4 ?_)
      case d2 => rw [hy2]; omega
      case d3 => unfold maxLen; omega
      case d4 => first | omega | simp
      intro w9 hown9 hgrow9
      have hblk9 := own_cur hown9
      rw [made_one] at hblk9
      have hq9 : Blk w9 w8.heap.size 4 ((List.replicate (n.nodes.length + 1) false).map Value.bool).toArray := by rw [List.map_replicate]; simpa [Blk] using hblk9
      have hst9 := Hst8.out.grown hgrow9 (by simp)
      have hp9 := Hp8.out.grown hgrow9 (by simp)
      have hsl9 : Later wo w9 := Below.grown Hsl8.out hgrow9 (by omega) (by simp)
      have y7 : w9.cell? ⟨wo.heap.size, 7, none⟩ = some (.slice none 0 0) := hst9.cell 7
      have f7 := hst9.frozen 7
      have hst10 : Blk (w9.setCell ⟨wo.heap.size, 7, none⟩ (.slice (some ⟨w8.heap.size, 0, none⟩) (n.nodes.length + 1) (n.nodes.length + 1))) wo.heap.size 57 #[.slice (some ⟨g, 0, none⟩) (n.nodes.length + 1) (n.nodes.length + 1), .slice (some ⟨g2, 0, none⟩) (n.nodes.length + 1) (n.nodes.length + 1), .slice (some ⟨W5.heap.size, 0, none⟩) (n.nodes.length + 1) (n.nodes.length + 1), .slice O n.nodes.length oc, .int .i64 (Nt.loss n.nodes), .int .i64 cap, .slice (some ⟨wo.heap.size + 1, 0, none⟩) (n.nodes.length + 1) (n.nodes.length + 1), .slice (some ⟨w8.heap.size, 0, none⟩) (n.nodes.length + 1) (n.nodes.length + 1), .slice none 0 0, .bool false, .bool false, .int .i64 0, .int .i64 0, .int .i64 0] := hst9.set_ 7 _
      have hp10 := hp9.far (p := ⟨wo.heap.size, 7, none⟩) (by simp) (.slice (some ⟨w8.heap.size, 0, none⟩) (n.nodes.length + 1) (n.nodes.length + 1))
      have hq10 := hq9.far (p := ⟨wo.heap.size, 7, none⟩) (by simp; omega) (.slice (some ⟨w8.heap.size, 0, none⟩) (n.nodes.length + 1) (n.nodes.length + 1))
      have hsl10 := hsl9.set (p := ⟨wo.heap.size, 7, none⟩) (Nat.le_refl _) (.slice (some ⟨w8.heap.size, 0, none⟩) (n.nodes.length + 1) (n.nodes.length + 1))
      have Hst10 := Lib.hid hst10
      have Hp10 := Lib.hid hp10
      have Hq10 := Lib.hid hq10
      have Hsl10 := Lib.hid hsl10
      clear hst10 hp10 hq10 hsl10
      clear hown9 hgrow9 hblk9 hp9 hq9 hst9 hsl9 Hst8 Hp8 Hsl8
      go_upto_region 19 with fail
      generalize w9.setCell ⟨wo.heap.size, 7, none⟩ (.slice (some ⟨w8.heap.size, 0, none⟩) (n.nodes.length + 1) (n.nodes.length + 1)) = w10 at *
      clear y7 f7
      have s10 := Hq10.out.lt
      have t10 := Below.size Hsl10.out
      go_wp2_with (at_make; refine wpList_make_full _ rfl _ _ 55 rfl wo.heap.size 4 i1 (.bool false) 1 Try.underlying55 hj hy0 hy1 _ _ _ _ (n.nodes.length + 1) rfl rfl (by first | rfl | simp | (go_simp; rfl)) (by first | rfl | simp | (go_simp; rfl)) ?f2 ?f3 ?f4 ?_)
      case f2 => rw [hy2]; omega
      case f3 => unfold maxLen; omega
      case f4 => first | omega | simp
      intro w11 hown11 hgrow11
      have hblk11 := own_cur hown11
      rw [made_one] at hblk11
      have hr11 : Blk w11 w10.heap.size 4 ((List.replicate (n.nodes.length + 1) false).map Value.bool).toArray := by rw [List.map_replicate]; simpa [Blk] using hblk11
      have hst11 := Hst10.out.grown hgrow11 (by simp)
      have hp11 := Hp10.out.grown hgrow11 (by simp)
      have hq11 := Hq10.out.grown hgrow11 (by simp)
      have hsl11 : Later wo w11 := Below.grown Hsl10.out hgrow11 (by omega) (by simp)
      have y8 : w11.cell? ⟨wo.heap.size, 8, none⟩ = some (.slice none 0 0) := hst11.cell 8
      have f8 := hst11.frozen 8
      have hst12 : Blk (w11.setCell ⟨wo.heap.size, 8, none⟩ (.slice (some ⟨w10.heap.size, 0, none⟩) (n.nodes.length + 1) (n.nodes.length + 1))) wo.heap.size 57 #[.slice (some ⟨g, 0, none⟩) (n.nodes.length + 1) (n.nodes.length + 1), .slice (some ⟨g2, 0, none⟩) (n.nodes.length + 1) (n.nodes.length + 1), .slice (some ⟨W5.heap.size, 0, none⟩) (n.nodes.length + 1) (n.nodes.length + 1), .slice O n.nodes.length oc, .int .i64 (Nt.loss n.nodes), .int .i64 cap, .slice (some ⟨wo.heap.size + 1, 0, none⟩) (n.nodes.length + 1) (n.nodes.length + 1), .slice (some ⟨w8.heap.size, 0, none⟩) (n.nodes.length + 1) (n.nodes.length + 1), .slice (some ⟨w10.heap.size, 0, none⟩) (n.nodes.length + 1) (n.nodes.length + 1), .bool false, .bool false, .int .i64 0, .int .i64 0, .int .i64 0] := hst11.set_ 8 _
      have hp12 := hp11.far (p := ⟨wo.heap.size, 8, none⟩) (by simp) (.slice (some ⟨w10.heap.size, 0, none⟩) (n.nodes.length + 1) (n.nodes.length + 1))
      have hq12 := hq11.far (p := ⟨wo.heap.size, 8, none⟩) (by simp; omega) (.slice (some ⟨w10.heap.size, 0, none⟩) (n.nodes.length + 1) (n.nodes.length + 1))
      have hr12 := hr11.far (p := ⟨wo.heap.size, 8, none⟩) (by simp; omega) (.slice (some ⟨w10.heap.size, 0, none⟩) (n.nodes.length + 1) (n.nodes.length + 1))
      have hsl12 := hsl11.set (p := ⟨wo.heap.size, 8, none⟩) (Nat.le_refl _) (.slice (some ⟨w10.heap.size, 0, none⟩) (n.nodes.length + 1) (n.nodes.length + 1))
      have Hst12 := Lib.hid hst12
      have Hp12 := Lib.hid hp12
      have Hq12 := Lib.hid hq12
      have Hr12 := Lib.hid hr12
      have Hsl12 := Lib.hid hsl12
      clear hst12 hp12 hq12 hr12 hsl12
      clear hown11 hgrow11 hblk11 hp11 hq11 hr11 hst11 hsl11 Hst10 Hp10 Hq10 Hsl10
      go_upto_region 20 with fail
      generalize w11.setCell ⟨wo.heap.size, 8, none⟩ (.slice (some ⟨w10.heap.size, 0, none⟩) (n.nodes.length + 1) (n.nodes.length + 1)) = w12 at *
      clear y8 f8
      have y6 : w12.cell? ⟨wo.heap.size, 6, none⟩ = some (.slice (some ⟨wo.heap.size + 1, 0, none⟩) (n.nodes.length + 1) (n.nodes.length + 1)) := Hst12.out.cell 6
      have z0 : w12.cell? ⟨wo.heap.size + 1, 0, none⟩ = some (.bool false) := by rw [Hp12.out.cell]; simp
      have f0 := Hp12.out.frozen 0
      have hp13 := Hp12.out.set_ 0 (.bool true)
      rw [bools_set] at hp13
      have hst13 := Hst12.out.far (p := ⟨wo.heap.size + 1, 0, none⟩) (by simp) (.bool true)
      have hq13 := Hq12.out.far (p := ⟨wo.heap.size + 1, 0, none⟩) (by simp; omega) (.bool true)
      have hr13 := Hr12.out.far (p := ⟨wo.heap.size + 1, 0, none⟩) (by simp; omega) (.bool true)
      have hsl13 := Hsl12.out.set (p := ⟨wo.heap.size + 1, 0, none⟩) (by simp) (.bool true)
      have q0 : (0 : Int) < ((n.nodes.length + 1 : Nat) : Int) := by omega
      have Hp13 := Lib.hid hp13
      have Hst13 := Lib.hid hst13
      have Hq13 := Lib.hid hq13
      have Hr13 := Lib.hid hr13
      have Hsl13 := Lib.hid hsl13
      clear hp13 hst13 hq13 hr13 hsl13
      clear Hp12 Hst12 Hq12 Hr12 Hsl12
      go_wp2_with fail
      go_ret2
      refine ⟨.inr ⟨Hch.out, ⟨some ⟨g, 0, none⟩, some ⟨g2, 0, none⟩, some ⟨W5.heap.size, 0, none⟩, O, n.nodes.length + 1, n.nodes.length + 1, n.nodes.length + 1, oc, wo.heap.size, wo.heap.size + 1, w8.heap.size, w10.heap.size⟩, wo, ?_, Hlz.out, rfl, ?_⟩, Hlz.out.trans Hsl13.out⟩
      · exact ⟨Ck.base_ok Hch.out Hok.out hcap, ck_ints _ HGw.out, ck_ints _ HG2w.out, Hrow.out.shps, HOw.out, Nat.le_refl _, by simp, by simp; omega, by simp; omega, by show (Nt.words n).length ≤ n.nodes.length + 1; omega⟩
      · have hcl : (Nt.costs n).length = n.nodes.length + 1 := by rw [Nt.costs, List.length_cons, Nt.costsTo_len]
        have hso : (Nt.sorted n.nodes).length = n.nodes.length := (Nt.check_ok Hch.out).2.2.2.2.1
        refine ⟨Hsl13.out, ?_, Hp13.out, Hq13.out, Hr13.out, ?_, ?_, ?_⟩
        · have := Hst13.out
          unfold CkA.cells Ck.base Ck.start
          simp only [hwl, hcl, hso, List.length_cons, List.length_map]
          exact this
        · show ((List.replicate (n.nodes.length + 1) false).set 0 true).length = (Nt.words n).length
          rw [hwl]; simp
        · show (List.replicate (n.nodes.length + 1) false).length = (Nt.words n).length
          rw [hwl]; simp
        · show (List.replicate (n.nodes.length + 1) false).length = (Nt.words n).length
          rw [hwl]; simp
end Go.Proofs.Ytmmgdgfpemkdnaa
/- Layer 18 (check): Whole; how far a state's numbers go: contracts. -/
namespace Go.Proofs.Ytmmgdgfpemkdnaa
open Go.RowKit
set_option maxHeartbeats 4000000 in
set_option maxRecDepth 100000 in
theorem check_whole (a : CkA) (c : CkN) (W0 : World) (s : CkS) (W : World) (hM : CkM a c W0 s W) (hdn : s.done ≤ 1048576) :
    Calls Try.prog 10 #[.pointer (some ⟨a.p, 0, none⟩)] W fun e w' => e = .returned (.bool (Ck.whole c s)) ∧ Later W w' := by
  obtain ⟨-, -, -, y3, -, -, -, -, -, y9, -, y11, -⟩ := hM.cells14
  have HE := Lib.hid (show Ck.whole c s = (s.em && decide (s.done = c.order.length)) from rfl)
  clear hM
  generalize s.em = em at *
  cases em
  · go_enter Try.func10, Try.ntmps10
    go_wp2_with fail
    go_quiet (fail)
    go_wp2_with fail
    go_ret
    exact ⟨by rw [HE.out]; rfl, by first | exact Later.refl _ | exact (Later.refl _).drew | exact (Later.refl _).drewN _⟩
  · by_cases hd : s.done = c.order.length
    · have d1 : decide (s.done = c.order.length) = true := by simp [hd]
      have d2 : ((s.done : Int) == (c.order.length : Int)) = true := by simp [hd]
      rw [d1] at HE
      rw [hd] at y11
      clear d1 d2 hd
      go_enter Try.func10, Try.ntmps10
      go_wp2_with fail
      go_quiet (fail)
      go_wp2_with fail
      go_ret
      exact ⟨by rw [HE.out]; rfl, by first | exact Later.refl _ | exact (Later.refl _).drew | exact (Later.refl _).drewN _⟩
    · have d1 : decide (s.done = c.order.length) = false := by simp [hd]
      have d2 : ((s.done : Int) == (c.order.length : Int)) = false := by rw [beq_eq_false_iff_ne]; omega
      rw [d1] at HE
      go_enter Try.func10, Try.ntmps10
      go_wp2_with fail
      go_quiet (fail)
      go_wp2_with fail
      go_ret
      exact ⟨by rw [HE.out]; first | rfl | (apply ret_bool; simp [hd]), by first | exact Later.refl _ | exact (Later.refl _).drew | exact (Later.refl _).drewN _⟩
/-- A state's numbers behind k instructions. -/
structure Ck.Bd (s : CkS) (k : Nat) : Prop where
  done : s.done ≤ k
  n1 : -((k : Int) * 68719542272) ≤ s.now
  n2 : s.now ≤ (k : Int) * 68719542272
  p1 : -((k : Int) * 68719542272) ≤ s.peak
  p2 : s.peak ≤ (k : Int) * 68719542272
theorem Ck.wd_bd {a : CkA} {c : CkN} {W0 : World} (hS : a.Still c W0) (z : Int) : 0 ≤ Ck.wd c z ∧ Ck.wd c z ≤ 65536 := by
  have := Ck.sum_bd c hS.ok.word [z]
  simp [Ck.sumW] at this; exact this
theorem Ck.bd_do {a : CkA} {c : CkN} {W0 : World} (hS : a.Still c W0) {s : CkS} {k : Nat} (h : Ck.Bd s k) (kd id : Int) : Ck.Bd (Ck.do_ c s kd id).1 (k + 1) := by
  obtain ⟨h1, h2, h3, h4, h5⟩ := h
  have he : ((k + 1 : Nat) : Int) * 68719542272 = (k : Int) * 68719542272 + 68719542272 := by omega
  have triv : Ck.Bd s (k + 1) := ⟨by omega, by omega, by omega, by omega, by omega⟩
  unfold Ck.do_
  split
  · exact triv
  · rename_i hr
    split
    · exact triv
    · split
      · exact triv
      · have hid : (Cd.right (kd, id) = true) ∧ id < c.words.length := by
          rcases Bool.eq_false_or_eq_true (Cd.right (kd, id)) with h | h
          · exact ⟨h, by omega⟩
          · exact absurd (.inl h) hr
        obtain ⟨-, -, hi0, -⟩ := Cd.right_bd hid.1
        obtain ⟨n, rfl⟩ := Int.eq_ofNat_of_zero_le (show 0 ≤ id from hi0)
        have hm := Ck.more_bd hS s kd (n := n) (by omega)
        have hw := Ck.wd_bd hS n
        generalize Ck.more c s kd n = m at *
        have key : ∀ (s' : CkS), s'.done ≤ s.done + 1 → (s'.now = s.now + m ∨ s'.now = s.now + m - Ck.wd c n) → s'.peak = max s.peak (s.now + m) → Ck.Bd s' (k + 1) := fun s' q1 q2 q3 => by
          refine ⟨by omega, ?_, ?_, ?_, ?_⟩
          · rcases q2 with q2 | q2 <;> rw [q2] <;> omega
          · rcases q2 with q2 | q2 <;> rw [q2] <;> omega
          · rw [q3]; omega
          · rw [q3]; omega
        unfold Ck.act
        (repeat' split) <;> exact key _ (by simp) (by simp) rfl
end Go.Proofs.Ytmmgdgfpemkdnaa
/- Layer 17 (code): more contracts. -/
namespace Go.Proofs.Ytmmgdgfpemkdnaa
open Go.RowKit


set_option maxHeartbeats 400000 in
theorem code_count (A : Option Addr) (c : Nat) (ps : List (Int × Int)) (kind : Int) (w : World) (hl : ps.length ≤ 9223372036854775807) (hI : Pairs w A ps) :
    Calls Try.prog 13 #[.slice A ps.length c, .int .i64 kind] w fun e w' => e = .returned (.int .i64 (Cd.count kind ps)) ∧ Below w.heap.size w w' := by
  have HI := Lib.hid hI
  clear hI
  go_enter Try.func13, Try.ntmps13
  go_wp2_with fail
  go_loopw [5, 7, 10] (fun n _ i wr => ∃ k : Nat, k ≤ ps.length ∧ i = .int .i64 k ∧ Below w.heap.size w wr ∧ n = .int .i64 (Cd.count kind (ps.take k))) (fun _ _ i _ => ps.length - (intOf i).toNat)
  case atStart => exact ⟨0, Nat.zero_le _, rfl, Below.refl _ _, rfl⟩
  case round =>
    obtain ⟨k, hk, rfl, hbel, rfl⟩ := hrel
    by_cases hlt : k < ps.length
    · obtain ⟨b, off, rfl, hb, hc, hd⟩ := HI.out.below hbel (Nat.le_refl _) k hlt
      have ⟨hn0, hn1⟩ := Cd.count_bd kind (ps.take k)
      rw [List.length_take] at hn1
      have HS := Lib.hid (Cd.count_take_succ kind ps k hlt)
      have hb1 := hbel.alloc hbel.size (Obj.cells #[Value.int IntKind.i64 ps[k].1, Value.int IntKind.i64 ps[k].2] 46)
      clear hbel
      cases he : (ps[k].1 == kind)
      · go_wp2_with fail
        go_roundw
        case rel => exact ⟨k + 1, by omega, by go_num, hb1, by rw [HS.out, he]; simp⟩
        case measure => simp [intOf]; omega
      · go_wp2_with fail
        go_roundw
        case rel => exact ⟨k + 1, by omega, by go_num, hb1, by rw [HS.out, he]; simp⟩
        case measure => simp [intOf]; omega
    · obtain rfl : k = ps.length := by omega
      go_wp2_with fail
      go_ret
      exact ⟨ret_int (by rw [List.take_length]), hbel⟩



def flatTo (ps : List (Int × Int)) (k : Nat) : List Value := (Cd.flat (ps.take k)).map (Value.int .u8)
theorem flatTo_zero (ps : List (Int × Int)) : flatTo ps 0 = [] := by simp [flatTo, Cd.flat]
theorem flatTo_succ (ps : List (Int × Int)) (k : Nat) (h : k < ps.length) : flatTo ps (k + 1) = flatTo ps k ++ [.int .u8 ps[k].1, .int .u8 (ps[k].2 / 256), .int .u8 (ps[k].2 % 256)] := by
  unfold flatTo
  rw [Cd.flat_take_succ ps k h]; simp
theorem three_new (w : World) (t : TypeId) (x y z : Value) : ∀ (j : Nat) (u : Value), [x, y, z][j]? = some u → (w.alloc (.cells #[x, y, z] t)).cell? (Addr.add ⟨w.heap.size, 0, none⟩ j) = some u := by
  intro j u hj
  match j, hj with
  | 0, hj => simp at hj; subst hj; simp [Addr.add]
  | 1, hj => simp at hj; subst hj; simp [Addr.add]
  | 2, hj => simp at hj; subst hj; simp [Addr.add]

def BytesPost (ps : List (Int × Int)) (w : World) (e : Ending) (w' : World) : Prop :=
  ∃ A c, e = .returned (.tuple #[.slice A (Cd.bytes ps).length c, .int .i64 (Cd.check ps)]) ∧ Ints .u8 w' A (Cd.bytes ps) ∧ Below w.heap.size w w'

end Go.Proofs.Ytmmgdgfpemkdnaa
/- Bytes put together by shift and or. No program is named here. -/
namespace Go.Proofs.Ytmmgdgfpemkdnaa
open Go.RowKit
theorem or_i64_nat (a b : Nat) (ha : a < 2 ^ 62) (hb : b < 2 ^ 62) : bits .or .i64 (a : Int) (b : Int) = ((a ||| b : Nat) : Int) := by
  have hx : a ||| b < 2 ^ 62 := Nat.or_lt_two_pow ha hb
  have h1 : (BitVec.ofInt 64 (a : Int)).toNat = a := by
    rw [BitVec.ofInt_natCast, BitVec.toNat_ofNat]; exact Nat.mod_eq_of_lt (by omega)
  have h2 : (BitVec.ofInt 64 (b : Int)).toNat = b := by
    rw [BitVec.ofInt_natCast, BitVec.toNat_ofNat]; exact Nat.mod_eq_of_lt (by omega)
  show IntKind.i64.wrap ((BitVec.ofInt 64 (a : Int) ||| BitVec.ofInt 64 (b : Int)).toNat : Int) = _
  rw [BitVec.toNat_or, h1, h2, IntWalk.i64_in _ (by omega)]
theorem or_mul (a b i m : Nat) (hm : m = 2 ^ i) (h : a < m) : (b * m) ||| a = b * m + a := by
  subst hm
  rw [← Nat.shiftLeft_eq, Nat.shiftLeft_add_eq_or_of_lt h]
theorem or_byte (x y : Int) (x0 : 0 ≤ x) (x1 : x ≤ 255) (y0 : 0 ≤ y) (y1 : y ≤ 255) : bits .or .i64 (x * 256) y = x * 256 + y := by
  obtain ⟨n, rfl⟩ := Int.eq_ofNat_of_zero_le x0
  obtain ⟨m, rfl⟩ := Int.eq_ofNat_of_zero_le y0
  have e : ((n : Int) * 256) = ((n * 256 : Nat) : Int) := by omega
  rw [e, or_i64_nat _ _ (by omega) (by omega), or_mul m n 8 256 (by decide) (by omega)]
  omega
theorem or_u64_mul (a b : Nat) (ha : a * 256 + b < 18446744073709551616) (hb : b < 256) : bits .or .u64 ((a * 256 : Nat) : Int) (b : Int) = ((a * 256 + b : Nat) : Int) := by
  have h1 := bits_or_u64_nat (a * 256) b (Nat.lt_of_le_of_lt (Nat.le_add_right _ _) ha) (Nat.lt_of_le_of_lt (Nat.le_add_left _ _) ha)
  rw [h1, or_mul b a 8 256 (by decide) hb]
theorem or_u64_int (n c : Int) (n0 : 0 ≤ n) (n1 : n < 72057594037927936) (c0 : 0 ≤ c) (c1 : c ≤ 255) : bits .or .u64 (n * 256) c = n * 256 + c := by
  obtain ⟨a, rfl⟩ := Int.eq_ofNat_of_zero_le n0
  obtain ⟨b, rfl⟩ := Int.eq_ofNat_of_zero_le c0
  have e : ((a : Int) * 256) = ((a * 256 : Nat) : Int) := by omega
  rw [e, or_u64_mul a b (by omega) (by omega)]
  omega
end Go.Proofs.Ytmmgdgfpemkdnaa
/- Layer 17 (code): costs, and the code of bytes: contracts. -/
namespace Go.Proofs.Ytmmgdgfpemkdnaa
open Go.RowKit


def costTo (cost : List Int) (ps : List (Int × Int)) (k : Nat) : List Value := (Cd.costList cost (ps.take k)).map (Value.int .i64)
def costN (cost : List Int) (ps : List (Int × Int)) (k : Nat) : Nat := (Cd.costList cost (ps.take k)).length
theorem costN_le (cost : List Int) (ps : List (Int × Int)) (k : Nat) (h : k ≤ ps.length) : costN cost ps k ≤ k := by
  have := Cd.costList_le cost (ps.take k)
  unfold costN
  rw [List.length_take] at this
  omega
theorem cost_skip (cost : List Int) (ps : List (Int × Int)) (k : Nat) (h : k < ps.length) (hr : Cd.reck ps[k] = false) : costTo cost ps (k + 1) = costTo cost ps k ∧ costN cost ps (k + 1) = costN cost ps k := by
  unfold costTo costN
  rw [Cd.costList_take_skip cost ps k h hr]; exact ⟨rfl, rfl⟩
theorem cost_add (cost : List Int) (ps : List (Int × Int)) (k : Nat) (h : k < ps.length) (hr : Cd.reck ps[k] = true) : costTo cost ps (k + 1) = costTo cost ps k ++ [.int .i64 (cost.getD ps[k].2.toNat 0)] ∧ costN cost ps (k + 1) = costN cost ps k + 1 := by
  unfold costTo costN
  rw [Cd.costList_take_add cost ps k h hr]; simp

set_option maxHeartbeats 1600000 in
set_option maxRecDepth 20000 in
theorem code_cost (A : Option Addr) (c : Nat) (ps : List (Int × Int)) (B : Option Addr) (d : Nat) (cost : List Int) (w : World) (hl : ps.length ≤ 9223372036854775807) (hI : Pairs w A ps) (hlc : cost.length ≤ 9223372036854775807) (hJ : Ints .i64 w B cost) :
    Calls Try.prog 11 #[.slice A ps.length c, .slice B cost.length d] w fun e w' => e = .returned (.tuple #[.int .i64 (Cd.costs ps cost).1, .int .i64 (Cd.costs ps cost).2]) ∧ Below w.heap.size w w' := by
  have HI := Lib.hid hI
  have HJ := Lib.hid hJ
  clear hI hJ
  by_cases hck : Cd.check ps = 0
  · have ⟨hlen, hall⟩ := Cd.check_zero hck
    have HA := Lib.hid hall
    have HC := Lib.hid hck
    clear hck hall
    obtain ⟨i0, hi, hz0, hz1, hz2⟩ := info_parts int_info
    go_enter Try.func11, Try.ntmps11
    go_wp2_with fail
    refine (code_check A c ps _ hl HI.out).mono ?_
    rintro e w1 ⟨rfl, h1⟩
    rw [HC.out]
    go_wp2_with fail
    go_loopw [7, 9, 19] (fun v _ i wr => ∃ k : Nat, k ≤ ps.length ∧ i = .int .i64 k ∧ wr.ownsRow w.heap.size 3 1 v (costN cost ps k) (costTo cost ps k) ∧ Below w.heap.size w wr ∧ ∀ j (hj : j < ps.length), j < k → Cd.fine cost ps[j] = true) (fun _ _ i _ => ps.length - (intOf i).toNat)
    case atStart => exact ⟨0, Nat.zero_le _, rfl, World.ownsRow_nil _ _ _ _, h1, by intro j _ hj; omega⟩
    case round =>
      clear h1
      obtain ⟨k, hk, rfl, hown, hbel, hok⟩ := hrel
      have HO := Lib.hid hok
      clear hok
      by_cases hlt : k < ps.length
      · obtain ⟨b, off, rfl, hb, hc, hd⟩ := HI.out.below hbel (Nat.le_refl _) k hlt
        have hnk := costN_le cost ps k hk
        have ⟨hr1, hr2, hr3, hr4⟩ := Cd.right_bd (Cd.all_of HA.out k hlt)
        have hb1 := hbel.alloc hbel.size (Obj.cells #[Value.int IntKind.i64 ps[k].1, Value.int IntKind.i64 ps[k].2] 46)
        cases hrk : Cd.reck ps[k]
        · have HS := Lib.hid (cost_skip cost ps k hlt hrk)
          have HF := Lib.hid (show Cd.fine cost ps[k] = true by simp [Cd.fine, hrk])
          have hx : (ps[k].1 == 1) = false ∧ (ps[k].1 == 2) = false := by simpa [Cd.reck] using hrk
          have hx1 : (ps[k].1 != 1) = true := by simpa using hx.1
          have hx2 : (ps[k].1 != 2) = true := by simpa using hx.2
          have ho1 := hown.alloc (Obj.cells #[Value.int IntKind.i64 ps[k].1, Value.int IntKind.i64 ps[k].2] 46)
          clear hrk hx hbel hown
          go_wp2_with fail
          go_roundw
          case rel => exact ⟨k + 1, by omega, by go_num, by rw [HS.out.1, HS.out.2]; exact ho1, hb1, fun j hj hj2 => by rcases Nat.lt_succ_iff_lt_or_eq.1 hj2 with h | h; exact HO.out j hj h; subst h; exact HF.out⟩
          case measure => simp [intOf]; omega
        · have HS := Lib.hid (cost_add cost ps k hlt hrk)
          have HK := Lib.hid hrk
          have hx : ps[k].1 = 1 ∨ ps[k].1 = 2 := by simpa [Cd.reck] using hrk
          clear hrk
          generalize hp : ps[k] = p at hc hd hr1 hr2 hr3 hr4 hb1 HS HK hx
          obtain ⟨kd, id⟩ := p
          have HP := Lib.hid hp
          clear hp
          dsimp only at hc hd hr1 hr2 hr3 hr4 hb1 HS HK hx
          have ho1 := hown.alloc (Obj.cells #[Value.int IntKind.i64 kd, Value.int IntKind.i64 id] 46)
          clear hown
          by_cases hin : id < (cost.length : Int)
          · obtain ⟨m, rfl⟩ := Int.eq_ofNat_of_zero_le hr3
            rw [Int.toNat_natCast] at HS
            obtain ⟨b2, off2, rfl, hb2, hc2⟩ := HJ.out.below hbel (Nat.le_refl _) m (by omega)
            have hml : m < cost.length := by omega
            have ez : cost.getD m 0 = cost[m] := by simp [hml]
            have HE := Lib.hid ez
            clear ez
            cases hgood : Safe.ok cost[m]
            · have HF := Lib.hid (Cd.costs_form HC.out (Cd.not_all hlt (show Cd.fine cost ps[k] = false by rw [HP.out]; simp [Cd.fine, HK.out, Cd.costOk, hgood, hml])))
              have HG := Lib.hid hgood
              clear hgood
              rcases hx with rfl | rfl
              all_goals
                go_wp2_with fail
                refine (safe_right _ _).mono ?_
                rintro e w2 ⟨rfl, rfl⟩
                rw [HG.out]
                go_wp2_with fail
                go_ret2
                exact ⟨by rw [HF.out]; rfl, hb1⟩
            · have HF := Lib.hid (show Cd.fine cost ps[k] = true by rw [HP.out]; simp [Cd.fine, HK.out, Cd.costOk, hgood, hml])
              have HG := Lib.hid hgood
              clear hgood
              rcases hx with rfl | rfl
              all_goals
                go_wp2_with fail
                refine (safe_right _ _).mono ?_
                rintro e w2 ⟨rfl, rfl⟩
                rw [HG.out]
                go_wp2_with (at_builtin; refine wpList_append_own _ rfl _ _ 22 rfl w.heap.size 3 i0 (.int .i64 0) 1 8 Try.underlying22 hi hz0 hz1 hz2 rfl (by decide) _ _ _ rfl (ho1.alloc _) ⟨wr.heap.size + 1, 0, none⟩ 1 1 [.int .i64 cost[m]] rfl rfl (one_new2 _ _ _ _) (by intro u hu; simp at hu; subst hu; rfl) (by unfold maxLen; omega) (by omega) (by have := hbel.size; simp; omega) ?_)
                intro v' w3 hown' hgrow _
                have hb3 : Below w.heap.size w w3 := (hb1.alloc (by have := hbel.size; simp; omega) _).grown hgrow (by have := hbel.size; simp; omega) (fun g hg => (ho1.lt g hg).1)
                have ho3 : w3.ownsRow w.heap.size 3 1 v' (costN cost ps (k + 1)) (costTo cost ps (k + 1)) := by
                  rw [HS.out.1, HS.out.2, HE.out]; exact hown'
                clear hown' hgrow ho1 hbel hb1
                go_wp2_with fail
                go_roundw
                case rel => exact ⟨k + 1, by omega, by go_num, ho3, hb3, fun j hj hj2 => by rcases Nat.lt_succ_iff_lt_or_eq.1 hj2 with h | h; exact HO.out j hj h; subst h; exact HF.out⟩
                case measure => simp [intOf]; omega
          · have HF := Lib.hid (Cd.costs_form HC.out (Cd.not_all hlt (show Cd.fine cost ps[k] = false by rw [HP.out]; simp [Cd.fine, HK.out, Cd.costOk]; intro h; omega)))
            rcases hx with rfl | rfl
            all_goals
              go_wp2_with fail
              go_ret2
              exact ⟨by rw [HF.out]; rfl, hb1⟩
      · obtain rfl : k = ps.length := by omega
        have HF := Lib.hid (Cd.all_get (p := Cd.fine cost) (fun j hj => HO.out j hj hj))
        have HG := Lib.hid (Cd.costList_ok HF.out)
        have hcl := costN_le cost ps ps.length (Nat.le_refl _)
        have HS1 := Lib.hid (Cd.costs_sum HC.out HF.out)
        have HS2 := Lib.hid (Cd.costs_many HC.out HF.out)
        unfold costTo costN at hown
        unfold costN at hcl
        rw [List.take_length] at hown hcl
        generalize Cd.costList cost ps = cl at hown HG hcl HS1 HS2
        obtain ⟨A', c', hv, hn, hI'⟩ := Ints.of_own hown
        subst hv
        have HI' := Lib.hid hI'
        clear hI' hown hn HO
        go_wp2_with fail
        refine (safe_add A' c' cl _ (by omega) HI'.out).mono ?_
        rintro e w2 ⟨rfl, h2⟩
        have hb2 := hbel.trans (h2.mono hbel.size)
        clear h2 hbel
        by_cases hs : Safe.sum cl ≤ Safe.top
        · rw [Safe.add_sum HG.out hs]
          have HF2 := Lib.hid (HS1.out hs)
          clear hs
          go_wp2_with fail
          go_ret2
          exact ⟨by rw [HF2.out]; rfl, hb2⟩
        · rw [Safe.add_big HG.out cl.length (by rw [List.take_length]; omega)]
          have HF2 := Lib.hid (HS2.out (by omega))
          clear hs
          go_wp2_with fail
          go_ret2
          exact ⟨by rw [HF2.out]; rfl, hb2⟩
  · have hfin := Lib.hid (Cd.costs_bad hck cost)
    have hne : (Cd.check ps != 0) = true := by simp [hck]
    clear hck
    go_enter Try.func11, Try.ntmps11
    go_wp2_with fail
    refine (code_check A c ps _ hl HI.out).mono ?_
    rintro e w1 ⟨rfl, h1⟩
    go_wp2_with fail
    go_ret2
    exact ⟨by rw [hfin.out]; rfl, h1⟩

/-- The cells of pairs, one behind the other. -/
def pairCells (ps : List (Int × Int)) : List Value := ps.flatMap fun p => [.int .i64 p.1, .int .i64 p.2]
theorem pairCells_length (ps : List (Int × Int)) : (pairCells ps).length = ps.length * 2 := by
  induction ps with
  | nil => rfl
  | cons x r ih => simp [pairCells] at ih ⊢; omega
theorem pairCells_append (a b : List (Int × Int)) : pairCells (a ++ b) = pairCells a ++ pairCells b := by simp [pairCells]
theorem pairCells_at (ps : List (Int × Int)) : ∀ (k : Nat) (h : k < ps.length), (pairCells ps)[k * 2]? = some (.int .i64 ps[k].1) ∧ (pairCells ps)[k * 2 + 1]? = some (.int .i64 ps[k].2) := by
  induction ps with
  | nil => intro k h; simp at h
  | cons x r ih =>
    intro k h
    rcases k with _ | k
    · simp [pairCells]
    · have := ih k (by simpa using h)
      have e1 : (k + 1) * 2 = k * 2 + 1 + 1 := by omega
      rw [e1]
      simpa [pairCells] using this
theorem Pairs.of_own {w : World} {base : Nat} {e : TypeId} {v : Value} {n : Nat} {ps : List (Int × Int)} (h : w.ownsRow base e 2 v n (pairCells ps)) :
    ∃ A c, v = .slice A ps.length c ∧ n = ps.length ∧ Pairs w A ps := by
  have hn : ps.length = n := by have := h.1; rw [pairCells_length] at this; omega
  subst hn
  rcases h.2 with ⟨rfl, h0⟩ | ⟨g, cap, cur, rfl, hb, hh, r1, r2, r3, r4⟩
  · have : ps = [] := List.eq_nil_of_length_eq_zero h0
    subst this
    exact ⟨none, 0, rfl, rfl, Pairs.nil⟩
  · refine ⟨_, cap, rfl, rfl, fun k hk => ?_⟩
    have ⟨e1, e2⟩ := pairCells_at ps k hk
    have c1 : w.cell? ⟨g, 0 + k * 2, none⟩ = some (.int .i64 ps[k].1) := by rw [Nat.zero_add, h.cellAt (k * 2) (by omega)]; exact e1
    have c2 : w.cell? ⟨g, 0 + k * 2 + 1, none⟩ = some (.int .i64 ps[k].2) := by rw [Nat.zero_add, h.cellAt (k * 2 + 1) (by omega)]; exact e2
    exact ⟨g, 0, rfl, World.block_lt_of_cell? _ _ c1, c1, c2⟩

def groupCells (zs : List Int) (k : Nat) : List Value := pairCells (Cd.groupTo zs k)
theorem groupCells_zero (zs : List Int) : groupCells zs 0 = [] := rfl
theorem groupCells_succ (zs : List Int) (k : Nat) : groupCells zs (k + 1) = groupCells zs k ++ [.int .i64 (zs.getD (3 * k) 0), .int .i64 (zs.getD (3 * k + 1) 0 * 256 + zs.getD (3 * k + 2) 0)] := by
  unfold groupCells
  rw [Cd.groupTo_succ, pairCells_append]; rfl


def ParsePost (zs : List Int) (w : World) (e : Ending) (w' : World) : Prop :=
  ∃ A c, e = .returned (.tuple #[.slice A (Cd.parse zs).1.length c, .int .i64 (Cd.parse zs).2]) ∧ Pairs w' A (Cd.parse zs).1 ∧ Below w.heap.size w w'

end Go.Proofs.Ytmmgdgfpemkdnaa
/- Layer 2 (safe): maxima, differences, shares, and what the reference computes: contracts. -/
namespace Go.Proofs.Ytmmgdgfpemkdnaa
open Go.RowKit

set_option maxHeartbeats 400000 in
theorem safe_max (A : Option Addr) (c : Nat) (zs : List Int) (w : World) (hl : zs.length ≤ 9223372036854775807) (hI : Ints .i64 w A zs) :
    Calls Try.prog 12 #[.slice A zs.length c] w fun e w' => e = .returned (.int .i64 (Safe.max zs)) ∧ w = w' := by
  have HI := Lib.hid hI
  clear hI
  go_enter Try.func12, Try.ntmps12
  go_wp2_with fail
  go_loop [3, 5, 8] (fun m x i => ∃ k : Nat, k ≤ zs.length ∧ i = .int .i64 k ∧ m = .int .i64 (Safe.max (zs.take k))) (fun _ _ i => zs.length - (intOf i).toNat)
  case atStart => exact ⟨0, Nat.zero_le _, rfl, rfl⟩
  case round =>
    obtain ⟨k, hk, rfl, rfl⟩ := hrel
    by_cases hlt : k < zs.length
    · obtain ⟨b, off, rfl, hb, hc⟩ := HI.out k hlt
      have HS := Lib.hid (Safe.max_take_succ zs k hlt)
      generalize hm : Safe.max (zs.take k) = m
      rw [hm] at HS
      clear hm
      by_cases hmx : m < zs[k]
      · go_wp2_with fail
        go_round
        case rel => exact ⟨k + 1, by omega, by go_num, by first | (rw [HS.out, if_pos hmx]; done) | (rw [HS.out, if_pos hmx]; congr 1; omega)⟩
        case measure => simp [intOf]; omega
      · go_wp2_with fail
        go_round
        case rel => exact ⟨k + 1, by omega, by go_num, by first | (rw [HS.out, if_neg (by omega)]; done) | (rw [HS.out, if_neg (by omega)]; congr 1; omega)⟩
        case measure => simp [intOf]; omega
    · go_wp2_with fail
      go_ret
      exact ⟨ret_int (by rw [List.take_of_length_le (by omega)]), rfl⟩

def subS (a b : Int) : Int × Int := if Safe.ok a && Safe.ok b then (if b > a then (0, 17) else (a - b, 0)) else (0, 11)
def shareS (a b : Int) : Int × Int × Int := if Safe.ok a && Safe.ok b && b != 0 then (a / b, a % b, 0) else (0, 0, 11)




end Go.Proofs.Ytmmgdgfpemkdnaa

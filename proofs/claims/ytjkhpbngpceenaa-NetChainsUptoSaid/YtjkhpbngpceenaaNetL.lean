/- Layer 11 (net): look: contract. -/
import Derived.Test.YtjkhpbngpceenaaNetB
import Derived.Test.YtjkhpbngpceenaaNetS
namespace Go.Proofs.Ytjkhpbngpceenaa
open Go.RowKit

/-- What is known of a net, or what is first wrong. -/
def StudyP (n : NetD) (w : World) (e : Ending) (w' : World) : Prop :=
  Below w.heap.size w w' ∧ ((Nt.check n = 0 ∧ ∃ O oc g, e = .returned (.tuple #[.agg #[.slice O n.nodes.length oc, .slice (some ⟨g, 0, none⟩) (n.nodes.length + 1) (n.nodes.length + 1), .int .i64 (Nt.loss n.nodes)], .int .i64 0]) ∧
      Ints .i64 w' O (Nt.sorted n.nodes) ∧ n.nodes.length ≤ oc ∧ oc ≤ 9223372036854775807 ∧ w.heap.size ≤ g ∧ ShpRow w' g 23 (Nt.shapes n)) ∨
    (Nt.check n ≠ 0 ∧ e = .returned (.tuple #[.agg #[.slice none 0 0, .slice none 0 0, .int .i64 0], .int .i64 (Nt.check n)])))
namespace Nt
theorem check_many {n : NetD} (h : n.nodes.length < 1 ∨ 512 < n.nodes.length) : check n = 12 := by unfold check; rw [if_pos h]
theorem check_in {n : NetD} (h : ¬ (n.nodes.length < 1 ∨ 512 < n.nodes.length)) (h2 : Sh.right n.inn = false) : check n = 20 := by unfold check; rw [if_neg h, if_pos h2]
theorem check_bads {n : NetD} (h : ¬ (n.nodes.length < 1 ∨ 512 < n.nodes.length)) (h2 : Sh.right n.inn = true) (h3 : bads n.nodes.length n.nodes ≠ 0) : check n = bads n.nodes.length n.nodes := by
  unfold check; rw [if_neg h, if_neg (by simp [h2]), if_pos h3]
theorem check_cyc {n : NetD} (h : ¬ (n.nodes.length < 1 ∨ 512 < n.nodes.length)) (h2 : Sh.right n.inn = true) (h3 : bads n.nodes.length n.nodes = 0) (h4 : (sorted n.nodes).length ≠ n.nodes.length) : check n = 22 := by
  unfold check; rw [if_neg h, if_neg (by simp [h2]), if_neg (by simp [h3]), if_pos h4]
theorem check_lay {n : NetD} (h : ¬ (n.nodes.length < 1 ∨ 512 < n.nodes.length)) (h2 : Sh.right n.inn = true) (h3 : bads n.nodes.length n.nodes = 0) (h4 : (sorted n.nodes).length = n.nodes.length) (h5 : (lay n.nodes (start n) (sorted n.nodes)).2 ≠ 0) : check n = (lay n.nodes (start n) (sorted n.nodes)).2 := by
  unfold check; rw [if_neg h, if_neg (by simp [h2]), if_neg (by simp [h3]), if_neg (by simp [h4]), if_pos h5]
theorem check_loss {n : NetD} (h : ¬ (n.nodes.length < 1 ∨ 512 < n.nodes.length)) (h2 : Sh.right n.inn = true) (h3 : bads n.nodes.length n.nodes = 0) (h4 : (sorted n.nodes).length = n.nodes.length) (h5 : (lay n.nodes (start n) (sorted n.nodes)).2 = 0) (h6 : lossOk n.nodes = false) : check n = 23 := by
  unfold check; rw [if_neg h, if_neg (by simp [h2]), if_neg (by simp [h3]), if_neg (by simp [h4]), if_neg (by simp [h5]), if_pos h6]
theorem check_last {n : NetD} (h : ¬ (n.nodes.length < 1 ∨ 512 < n.nodes.length)) (h2 : Sh.right n.inn = true) (h3 : bads n.nodes.length n.nodes = 0) (h4 : (sorted n.nodes).length = n.nodes.length) (h5 : (lay n.nodes (start n) (sorted n.nodes)).2 = 0) (h6 : lossOk n.nodes = true) :
    check n = if Safe.prod ((shapes n).getD (loss n.nodes).toNat []) ≠ 1 then 23 else 0 := by
  unfold check; rw [if_neg h, if_neg (by simp [h2]), if_neg (by simp [h3]), if_neg (by simp [h4]), if_neg (by simp [h5]), if_neg (by simp [h6])]
theorem bads_op {n : Nat} {ns : List NodeD} {k : Nat} (hk : k < ns.length) (h : ∀ j (hj : j < ns.length), j < k → Od.right ns[j].op = true ∧ ns[j].ins.all (fun i => decide (0 ≤ i ∧ i ≤ n)) = true) (hr : Od.right ns[k].op = false) : bads n ns = 21 := by
  rw [bads_take h, List.drop_eq_getElem_cons hk, bads, if_neg (by simp [hr])]
theorem bads_in {n : Nat} {ns : List NodeD} {k : Nat} (hk : k < ns.length) (h : ∀ j (hj : j < ns.length), j < k → Od.right ns[j].op = true ∧ ns[j].ins.all (fun i => decide (0 ≤ i ∧ i ≤ n)) = true) (hr : Od.right ns[k].op = true) {m : Nat} (hm : m < ns[k].ins.length) (hb : ¬ (0 ≤ ns[k].ins[m] ∧ ns[k].ins[m] ≤ n)) : bads n ns = 11 := by
  rw [bads_take h, List.drop_eq_getElem_cons hk, bads, if_pos hr, if_neg]
  intro ha
  have := List.all_eq_true.1 ha _ (List.getElem_mem hm)
  simp at this
  exact hb this
theorem bads_none {n : Nat} {ns : List NodeD} (h : ∀ j (hj : j < ns.length), j < ns.length → Od.right ns[j].op = true ∧ ns[j].ins.all (fun i => decide (0 ≤ i ∧ i ≤ n)) = true) : bads n ns = 0 := by
  rw [bads_take h, List.drop_length, bads]
end Nt
def lookBad (n : NetD) (k : Nat) : Prop := ∀ j (hj : j < n.nodes.length), j < k → Od.right n.nodes[j].op = true ∧ n.nodes[j].ins.all (fun i => decide (0 ≤ i ∧ i ≤ n.nodes.length)) = true

theorem below_set3 {B g : Nat} {w w1 : World} (h : Below B w w1) (hg : B ≤ g) (a b c : Value) : Below B w (((w1.setCell ⟨g, 0, none⟩ a).setCell ⟨g, 1, none⟩ b).setCell ⟨g, 2, none⟩ c) :=
  ((h.setCell (p := ⟨g, 0, none⟩) hg a).setCell (p := ⟨g, 1, none⟩) hg b).setCell (p := ⟨g, 2, none⟩) hg c
theorem set3_heap {g k : Nat} {w : World} (a b c : Value) (h : k ≠ g) : (((w.setCell ⟨g, 0, none⟩ a).setCell ⟨g, 1, none⟩ b).setCell ⟨g, 2, none⟩ c).heap[k]? = w.heap[k]? := by
  rw [Below.heap_setCell _ ⟨g, 2, none⟩ c k h, Below.heap_setCell _ ⟨g, 1, none⟩ b k h, Below.heap_setCell _ ⟨g, 0, none⟩ a k h]
/-- What is not nought is not among the study's cells. -/
theorem ints_set3 {g : Nat} {t : TypeId} {w : World} {S : Option Addr} {zs : List Int} (hI : Ints .i64 w S zs) (hb : Blk w g t #[.slice none 0 0, .slice none 0 0, .int .i64 0]) (hz : ∀ z ∈ zs, z ≠ 0) (a b c : Value) :
    Ints .i64 (((w.setCell ⟨g, 0, none⟩ a).setCell ⟨g, 1, none⟩ b).setCell ⟨g, 2, none⟩ c) S zs := fun j hj => by
  obtain ⟨b0, off, e, hl, hc⟩ := hI j hj
  have hne : b0 ≠ g := fun q => by
    subst q
    rw [hb.cell] at hc
    have hzj : zs.getD j 0 ≠ 0 := by rw [getD_at hj]; exact hz _ (List.getElem_mem hj)
    match h : off + j, hc with
    | 0, hc => simp at hc
    | 1, hc => simp at hc
    | 2, hc => simp at hc; exact hzj (by simpa using hc.symm)
    | q + 3, hc => simp at hc
  refine ⟨b0, off, e, by simpa using hl, ?_⟩
  exact (World.cell?_of_block (w := w) (a := ⟨b0, off + j, none⟩) (set3_heap a b c hne)).trans hc
theorem shpRow_set3 {g g' : Nat} {t t' : TypeId} {w : World} {sh : List (List Int)} (h : ShpRow w g' t' sh) (hb : Blk w g t #[.slice none 0 0, .slice none 0 0, .int .i64 0]) (hg : g' ≠ g) (hz : ∀ s ∈ sh, ∀ z ∈ s, z ≠ 0) (a b c : Value) :
    ShpRow (((w.setCell ⟨g, 0, none⟩ a).setCell ⟨g, 1, none⟩ b).setCell ⟨g, 2, none⟩ c) g' t' sh := by
  obtain ⟨vs, hl, hk, hv⟩ := h
  refine ⟨vs, hl, (set3_heap a b c hg).trans hk, fun j hj => ?_⟩
  obtain ⟨S, d, e, hI, h2⟩ := hv j hj
  exact ⟨S, d, e, ints_set3 hI hb (hz _ (List.getElem_mem hj)) a b c, h2⟩
theorem study_cells {w : World} {g : Nat} {t : TypeId} (h : Blk w g t #[.slice none 0 0, .slice none 0 0, .int .i64 0]) :
    w.cell? ⟨g, 0, none⟩ = some (.slice none 0 0) ∧ w.cell? ⟨g, 1, none⟩ = some (.slice none 0 0) ∧ w.cell? ⟨g, 2, none⟩ = some (.int .i64 0) ∧ w.frozen? ⟨g, 0, none⟩ = false ∧ w.frozen? ⟨g, 1, none⟩ = false ∧ w.frozen? ⟨g, 2, none⟩ = false :=
  ⟨h.cell 0, h.cell 1, h.cell 2, h.frozen 0, h.frozen 1, h.frozen 2⟩
set_option maxRecDepth 20000 in
set_option maxHeartbeats 16000000 in
theorem net_look (A N : Option Addr) (c d : Nat) (n : NetD) (w : World) (hok : n.ok) (hR : NetR w A N n) (hd : n.nodes.length ≤ d) :
    Calls Try.prog 37 #[.agg #[.slice A n.inn.length c, .slice N n.nodes.length d]] w (StudyP n w) := by
  have hnl := hok.2.1
  have hil := hok.1
  have hb0 := below2 w (.cells #[.slice A n.inn.length c, .slice N n.nodes.length d] 26) (.cells #[.slice none 0 0, .slice none 0 0, .int .i64 0] 66)
  have hk0 := (Blk.new w 26 #[.slice A n.inn.length c, .slice N n.nodes.length d]).alloc (.cells #[.slice none 0 0, .slice none 0 0, .int .i64 0] 66)
  have hs0 := Blk.new (w.alloc (.cells #[.slice A n.inn.length c, .slice N n.nodes.length d] 26)) 66 #[.slice none 0 0, .slice none 0 0, .int .i64 0]
  rw [World.size_alloc] at hs0
  have hR0 := hR.below hb0 (Nat.le_refl _)
  by_cases hmany : n.nodes.length < 1 ∨ 512 < n.nodes.length
  · have HC := Lib.hid (Nt.check_many hmany)
    have HR := Lib.hid hR
    have Hok := Lib.hid hok
    have HR0 := Lib.hid hR0
    clear hR hok hR0
    clear hk0 hs0
    rcases hmany with h | h
    · have d1 : decide ((n.nodes.length : Int) < 1) = true := by simp; omega
      go_enter Try.func37, Try.ntmps37
      go_wp2_with fail
      exact bodyPost_ret (v := .tuple #[.agg #[.slice none 0 0, .slice none 0 0, .int .i64 0], .int .i64 12]) (by simp [results, Try.results37, go_sem]) rfl ⟨hb0, .inr (by rw [HC.out]; exact ⟨by omega, rfl⟩)⟩
    · have d1 : decide ((n.nodes.length : Int) < 1) = false := by simp; omega
      have d2 : decide ((512 : Int) < (n.nodes.length : Int)) = true := by simp; omega
      go_enter Try.func37, Try.ntmps37
      go_wp2_with fail
      exact bodyPost_ret (v := .tuple #[.agg #[.slice none 0 0, .slice none 0 0, .int .i64 0], .int .i64 12]) (by simp [results, Try.results37, go_sem]) rfl ⟨hb0, .inr (by rw [HC.out]; exact ⟨by omega, rfl⟩)⟩
  · have d1 : decide ((n.nodes.length : Int) < 1) = false := by simp; omega
    have d2 : decide ((512 : Int) < (n.nodes.length : Int)) = false := by simp; omega
    have h512 : n.nodes.length ≤ 512 := by omega
    have hone : 1 ≤ n.nodes.length := by omega
    have HR := Lib.hid hR
    have Hok := Lib.hid hok
    have HR0 := Lib.hid hR0
    have Hk0 := Lib.hid hk0
    have Hs0 := Lib.hid hs0
    have Hmany := Lib.hid hmany
    clear hR hok hR0 hk0 hs0 hmany
    go_enter Try.func37, Try.ntmps37
    go_wp2_with fail
    refine (shape_right A c n.inn _ (by omega) HR0.out.1).mono ?_
    rintro e w1 ⟨rfl, hb1⟩
    have hbw : Below w.heap.size w w1 := hb0.trans (hb1.mono (by simp; omega))
    have hbox := Hk0.out.below hb1 (by simp; omega)
    have hst := Hs0.out.below hb1 (by simp)
    obtain ⟨y0, y1, y2, f0, f1, f2⟩ := study_cells hst
    have x0 : w1.cell? ⟨w.heap.size, 0, none⟩ = some (.slice A n.inn.length c) := by rw [hbox.cell]; rfl
    have x1 : w1.cell? ⟨w.heap.size, 1, none⟩ = some (.slice N n.nodes.length d) := by rw [hbox.cell]; rfl
    clear Hk0 Hs0 HR0 hb0 hb1 d1 d2
    by_cases hin : Sh.right n.inn = true
    rotate_left
    · have hin' : Sh.right n.inn = false := by simpa using hin
      have HC := Lib.hid (Nt.check_in Hmany.out hin')
      have Hbox := Lib.hid hbox
      have Hst := Lib.hid hst
      clear hbox hst
      clear hin
      go_wp2_with fail
      exact bodyPost_ret (v := .tuple #[.agg #[.slice none 0 0, .slice none 0 0, .int .i64 0], .int .i64 20]) (by simp [results, Try.results37, go_sem, y0, y1, y2]) rfl ⟨below_set3 hbw (by omega) _ _ _, .inr (by rw [HC.out]; exact ⟨by omega, rfl⟩)⟩
    · have Hbox := Lib.hid hbox
      have Hst := Lib.hid hst
      clear hbox hst
      go_wp2_with fail
      clear y0 y1 y2 f0 f1 f2 x0 x1
      have Hin := Lib.hid hin
      clear hin
      go_loopw [34] (fun i wr => ∃ k : Nat, k ≤ n.nodes.length ∧ i = .int .i64 k ∧ Blk wr w.heap.size 26 #[.slice A n.inn.length c, .slice N n.nodes.length d] ∧ Blk wr (w.heap.size + 1) 66 #[.slice none 0 0, .slice none 0 0, .int .i64 0] ∧ Below w.heap.size w wr ∧ lookBad n k) (fun i _ => n.nodes.length - (intOf i).toNat)
      case atStart => exact ⟨0, Nat.zero_le _, rfl, Hbox.out, Hst.out, hbw, fun j hj h => by omega⟩
      case round =>
        clear Hbox Hst hbw
        obtain ⟨k, hk, rfl, hbox, hst, hbw, hbad⟩ := hrel
        have hsl := hst.lt
        by_cases hlt : k < n.nodes.length
        · obtain ⟨b, off, S, sc, J, ic, Q, qc, rfl, hNA, -, hI, -⟩ := HR.out.2.at_ hlt
          have hnok := Hok.out.2.2 _ (List.getElem_mem hlt)
          have hb21 := fun h => Nt.bads_op (n := n.nodes.length) hlt hbad h
          have hb11 := fun h m (hm : m < n.nodes[k].ins.length) h2 => Nt.bads_in (n := n.nodes.length) hlt hbad h (m := m) hm h2
          have hnext : Od.right n.nodes[k].op = true → n.nodes[k].ins.all (fun i => decide (0 ≤ i ∧ i ≤ n.nodes.length)) = true → lookBad n (k + 1) := fun h1 h2 j hj hjk => by
            by_cases e : j = k
            · subst e; exact ⟨h1, h2⟩
            · exact hbad j hj (by omega)
          have hil := hnok.2.2.1
          have hsl2 := hnok.2.1
          generalize n.nodes[k] = v at *
          have hNw := hNA.below hbw
          obtain ⟨⟨y0, y1, y2, y3, y4, y5, y6, y7, y8, y9⟩, -⟩ := hNA.below hbw
          have hkn := Blk.new wr 46 (#[.int .i64 v.op.kind, .int .i64 v.op.k, .int .i64 v.op.width, .int .i64 v.op.step, .int .i64 v.op.side, .int .i64 v.op.frm, .int .i64 v.op.to, .slice S v.op.s.length sc, .slice J v.ins.length ic, .slice Q v.p.length qc])
          have hbn : Below wr.heap.size wr (wr.alloc (.cells #[.int .i64 v.op.kind, .int .i64 v.op.k, .int .i64 v.op.width, .int .i64 v.op.step, .int .i64 v.op.side, .int .i64 v.op.frm, .int .i64 v.op.to, .slice S v.op.s.length sc, .slice J v.ins.length ic, .slice Q v.p.length qc] 46)) := (Below.refl _ _).alloc (Nat.le_refl _) _
          have Hbox := Lib.hid hbox
          have Hst := Lib.hid hst
          have HNA := Lib.hid hNA
          have Hnok := Lib.hid hnok
          have Hb21 := Lib.hid hb21
          have Hb11 := Lib.hid hb11
          have Hnext := Lib.hid hnext
          have HNw := Lib.hid hNw
          have Hkn := Lib.hid hkn
          have Hbad := Lib.hid hbad
          clear hbox hst hNA hnok hb21 hb11 hnext hNw hkn hbad
          go_wp2_with fail
          refine (op_right v.op S sc _ (by omega) (HNw.out.2.1.below hbn (Nat.le_refl _))).mono ?_
          rintro e w2 ⟨rfl, hb2⟩
          have hbw2 : Below wr.heap.size wr w2 := hbn.trans (hb2.mono (by simp))
          have hbx2 := hbw.trans (hbw2.mono hbw.size)
          have hbox2 := Hbox.out.below hbw2 (by omega)
          have hst2 := Hst.out.below hbw2 hsl
          have hkn2 := Hkn.out.below hb2 (by simp)
          obtain ⟨z0, z1, z2, f0, f1, f2⟩ := study_cells hst2
          have z8 : w2.cell? ⟨wr.heap.size, 8, none⟩ = some (.slice J v.ins.length ic) := by rw [hkn2.cell]; rfl
          have x1 : w2.cell? ⟨w.heap.size, 1, none⟩ = some (.slice (some ⟨b, off, none⟩) n.nodes.length d) := by rw [hbox2.cell]; rfl
          have hIJ := HNw.out.2.2.1.below hbw2 (Nat.le_refl _)
          clear y0 y1 y2 y3 y4 y5 y6 y7 y8 y9 hbn hb2 Hbox Hst Hkn
          by_cases hor : Od.right v.op = true
          rotate_left
          · have hor' : Od.right v.op = false := by simpa using hor
            have hc := Hb21.out hor'
            have HC := Lib.hid ((Nt.check_bads Hmany.out Hin.out (by rw [hc]; omega)).trans hc)
            have Hbox2 := Lib.hid hbox2
            have Hst2 := Lib.hid hst2
            have Hkn2 := Lib.hid hkn2
            have HIJ := Lib.hid hIJ
            clear hbox2 hst2 hkn2 hIJ
            clear hor hc
            go_wp2_with fail
            exact bodyPost_ret (v := .tuple #[.agg #[.slice none 0 0, .slice none 0 0, .int .i64 0], .int .i64 21]) (by simp [results, Try.results37, go_sem, z0, z1, z2]) rfl ⟨below_set3 hbx2 (by omega) _ _ _, .inr (by rw [HC.out]; exact ⟨by omega, rfl⟩)⟩
          · have Hor := Lib.hid hor
            have Hbox2 := Lib.hid hbox2
            have Hst2 := Lib.hid hst2
            have Hkn2 := Lib.hid hkn2
            have HIJ := Lib.hid hIJ
            clear hbox2 hst2 hkn2 hIJ
            go_wp2_with fail
            clear hor
            go_loop [46] (fun i => ∃ m : Nat, m ≤ v.ins.length ∧ i = .int .i64 m ∧ ∀ j (hj : j < v.ins.length), j < m → 0 ≤ v.ins[j] ∧ v.ins[j] ≤ n.nodes.length) (fun i => v.ins.length - (intOf i).toNat)
            case atStart => exact ⟨0, Nat.zero_le _, rfl, fun j hj h => by omega⟩
            case round =>
              obtain ⟨m, hm, rfl, hall⟩ := hrel
              by_cases hlm : m < v.ins.length
              · obtain ⟨b1, off1, rfl, -, hc⟩ := HIJ.out m hlm
                rw [getD_at hlm] at hc
                have hbd := Hb11.out Hor.out m hlm
                have hnx : (0 ≤ v.ins[m] ∧ v.ins[m] ≤ n.nodes.length) → ∀ j (hj : j < v.ins.length), j < m + 1 → 0 ≤ v.ins[j] ∧ v.ins[j] ≤ n.nodes.length := fun h j hj hjm => by
                  by_cases e : j = m
                  · subst e; exact h
                  · exact hall j hj (by omega)
                generalize v.ins[m] = u at *
                by_cases hu : 0 ≤ u ∧ u ≤ n.nodes.length
                · have HN := Lib.hid (hnx hu)
                  have e1 : decide (u < 0) = false := by simp; omega
                  have e2 : decide ((n.nodes.length : Int) < u) = false := by simp; omega
                  clear hu hbd
                  have Hnx := Lib.hid hnx
                  have Hall := Lib.hid hall
                  clear hnx hall
                  go_wp2_with fail
                  go_round
                  case rel => exact ⟨m + 1, by omega, by go_num, HN.out⟩
                  case measure => simp [intOf]; omega
                · have hc2 := hbd hu
                  have HC := Lib.hid ((Nt.check_bads Hmany.out Hin.out (by rw [hc2]; omega)).trans hc2)
                  clear hc2 hbd
                  have Hnx := Lib.hid hnx
                  have Hall := Lib.hid hall
                  clear hnx hall
                  by_cases hneg : u < 0
                  · have e1 : decide (u < 0) = true := by simpa using hneg
                    clear hu
                    go_wp2_with fail
                    exact bodyPost_ret (v := .tuple #[.agg #[.slice none 0 0, .slice none 0 0, .int .i64 0], .int .i64 11]) (by simp [results, Try.results37, go_sem, z0, z1, z2]) rfl ⟨below_set3 hbx2 (by omega) _ _ _, .inr (by rw [HC.out]; exact ⟨by omega, rfl⟩)⟩
                  · have e1 : decide (u < 0) = false := by simpa using hneg
                    have e2 : decide ((n.nodes.length : Int) < u) = true := by simp; omega
                    clear hu
                    go_wp2_with fail
                    exact bodyPost_ret (v := .tuple #[.agg #[.slice none 0 0, .slice none 0 0, .int .i64 0], .int .i64 11]) (by simp [results, Try.results37, go_sem, z0, z1, z2]) rfl ⟨below_set3 hbx2 (by omega) _ _ _, .inr (by rw [HC.out]; exact ⟨by omega, rfl⟩)⟩
              · obtain rfl : m = v.ins.length := by omega
                have HN := Lib.hid (Hnext.out Hor.out (List.all_eq_true.2 fun i hi => by obtain ⟨j, hj, rfl⟩ := List.getElem_of_mem hi; simpa using hall j hj hj))
                have Hall := Lib.hid hall
                clear hall
                go_wp2_with fail
                go_roundw
                case rel => exact ⟨k + 1, by omega, by go_num, Hbox2.out, Hst2.out, hbx2, HN.out⟩
                case measure => simp [intOf]; omega
        · obtain rfl : k = n.nodes.length := by omega
          have hb0 : Nt.bads n.nodes.length n.nodes = 0 := Nt.bads_none hbad
          have hins : ∀ v ∈ n.nodes, ∀ i ∈ v.ins, 0 ≤ i ∧ i ≤ n.nodes.length := fun v hv => (Nt.bads_all hb0 v hv).2
          have x0 : wr.cell? ⟨w.heap.size, 0, none⟩ = some (.slice A n.inn.length c) := by rw [hbox.cell]; rfl
          have x1 : wr.cell? ⟨w.heap.size, 1, none⟩ = some (.slice N n.nodes.length d) := by rw [hbox.cell]; rfl
          have Hbad := Lib.hid hbad
          have Hbox := Lib.hid hbox
          have Hst := Lib.hid hst
          have Hb0 := Lib.hid hb0
          have Hins := Lib.hid hins
          clear hbad hbox hst hb0 hins
          go_wp2_with fail
          refine (net_sorted A N c d n _ Hok.out h512 (HR.out.below hbw (Nat.le_refl _)) hd Hins.out).mono ?_
          rintro e w2 ⟨O, oc, rfl, hO, hoc, hoc2, hb2⟩
          have hbw2 := hbw.trans (hb2.mono hbw.size)
          have hbox2 := Hbox.out.below hb2 Hbox.out.lt
          have hst2 := Hst.out.below hb2 Hst.out.lt
          have hw2l : w.heap.size + 1 < w2.heap.size := hst2.lt
          have x0 : w2.cell? ⟨w.heap.size, 0, none⟩ = some (.slice A n.inn.length c) := by rw [hbox2.cell]; rfl
          have x1 : w2.cell? ⟨w.heap.size, 1, none⟩ = some (.slice N n.nodes.length d) := by rw [hbox2.cell]; rfl
          clear Hbox Hst
          by_cases hcy : (Nt.sorted n.nodes).length = n.nodes.length
          rotate_left
          · have HC := Lib.hid (Nt.check_cyc Hmany.out Hin.out Hb0.out hcy)
            have e1 : (((Nt.sorted n.nodes).length : Int) != (n.nodes.length : Int)) = true := by rw [bne_iff_ne]; omega
            have e2 : ((Nt.sorted n.nodes).length != n.nodes.length) = true := by rw [bne_iff_ne]; omega
            obtain ⟨y0, y1, y2, f0, f1, f2⟩ := study_cells hst2
            generalize Nt.sorted n.nodes = os at *
            have Hbox2 := Lib.hid hbox2
            have Hst2 := Lib.hid hst2
            have Hcy := Lib.hid hcy
            have HO := Lib.hid hO
            clear hbox2 hst2 hcy hO
            go_wp2_with fail
            exact bodyPost_ret (v := .tuple #[.agg #[.slice none 0 0, .slice none 0 0, .int .i64 0], .int .i64 22]) (by simp [results, Try.results37, go_sem, y0, y1, y2]) rfl ⟨below_set3 hbw2 (by omega) _ _ _, .inr (by rw [HC.out]; exact ⟨by omega, rfl⟩)⟩
          · have hcall := net_lay A N O c d oc n w2 Hok.out (HR.out.below hbw2 (Nat.le_refl _)) hd hO Hin.out Hins.out
            have hcheck := fun h5 => Nt.check_lay Hmany.out Hin.out Hb0.out hcy h5
            have hcheck6 := fun h5 h6 => Nt.check_loss Hmany.out Hin.out Hb0.out hcy h5 h6
            have hcheck7 := fun h5 h6 => Nt.check_last Hmany.out Hin.out Hb0.out hcy h5 h6
            have hgood := fun h5 : (Nt.lay n.nodes (Nt.start n) (Nt.sorted n.nodes)).2 = 0 => Nt.lay_good Hin.out (Nt.sorted n.nodes).length (Nat.le_refl _) (by rw [List.take_length]; exact h5)
            rw [List.take_length] at hgood
            have hfull := Kn.order_full (I := Nt.insF n.nodes) (n := n.nodes.length) hcy
            have hfull : ∀ u, u ∈ Nt.sorted n.nodes ↔ 1 ≤ u ∧ u ≤ n.nodes.length := hfull
            have hshp : (Nt.lay n.nodes (Nt.start n) (Nt.sorted n.nodes)).1 = Nt.shapes n := rfl
            rw [hcy] at hcall ⊢
            obtain ⟨os, hos⟩ : ∃ os, Nt.sorted n.nodes = os := ⟨_, rfl⟩
            rw [hos] at hcall hcheck hcheck6 hcheck7 hgood hfull hshp hO hcy hoc
            rw [hcy] at hoc
            have Hcall := Lib.hid hcall
            have Hcheck := Lib.hid hcheck
            have Hcheck6 := Lib.hid hcheck6
            have Hcheck7 := Lib.hid hcheck7
            have Hgood := Lib.hid hgood
            have Hfull := Lib.hid hfull
            have Hshp := Lib.hid hshp
            have Hcy := Lib.hid hcy
            have Hos := Lib.hid hos
            have HO := Lib.hid hO
            have Hbox2 := Lib.hid hbox2
            have Hst2 := Lib.hid hst2
            clear hcall hcheck hcheck6 hcheck7 hgood hfull hshp hcy hos hO hbox2 hst2
            go_wp2_with fail
            refine (Hcall.out).mono ?_
            rintro e w3 ⟨hb3, ⟨hr, g, rfl, hg, hrow, hrl⟩ | ⟨hr, rfl⟩⟩
            rotate_left
            · have HC := Lib.hid (Hcheck.out hr)
              have hbw3 := hbw2.trans (hb3.mono hbw2.size)
              obtain ⟨y0, y1, y2, f0, f1, f2⟩ := study_cells (Hst2.out.below hb3 Hst2.out.lt)
              generalize Nt.lay n.nodes (Nt.start n) os = r at *
              have q1 : (r.2 != 0) = true := by simp [hr]
              have HR2 := Lib.hid hr
              clear hr
              go_wp2_with fail
              exact bodyPost_ret (v := .tuple #[.agg #[.slice none 0 0, .slice none 0 0, .int .i64 0], .int .i64 r.2]) (by simp [results, Try.results37, go_sem, y0, y1, y2]) rfl ⟨below_set3 hbw3 (by omega) _ _ _, .inr (by rw [HC.out]; exact ⟨HR2.out, rfl⟩)⟩
            · have hg2 := Hgood.out hr
              have hc6 := fun h6 => Hcheck6.out hr h6
              have hc7 := fun h6 => Hcheck7.out hr h6
              rw [Hshp.out] at hrow hrl hg2
              have hbw3 := hbw2.trans (hb3.mono hbw2.size)
              have hbox3 := Hbox2.out.below hb3 Hbox2.out.lt
              have hst3 := Hst2.out.below hb3 Hst2.out.lt
              have x0 : w3.cell? ⟨w.heap.size, 0, none⟩ = some (.slice A n.inn.length c) := by rw [hbox3.cell]; rfl
              have x1 : w3.cell? ⟨w.heap.size, 1, none⟩ = some (.slice N n.nodes.length d) := by rw [hbox3.cell]; rfl
              have hO3 := HO.out.below hb3 (Nat.le_refl _)
              clear Hcall Hcheck Hcheck6 Hcheck7 Hgood Hbox2 Hst2 HO hr Hshp
              have Hg2 := Lib.hid hg2
              have Hc6 := Lib.hid hc6
              have Hc7 := Lib.hid hc7
              have Hrow := Lib.hid hrow
              have Hbox3 := Lib.hid hbox3
              have Hst3 := Lib.hid hst3
              have HO3 := Lib.hid hO3
              clear hg2 hc6 hc7 hrow hbox3 hst3 hO3
              go_wp2_with fail
              refine (net_unused A N c d n _ Hok.out (HR.out.below hbw3 (Nat.le_refl _)) hd Hins.out).mono ?_
              rintro e w4 ⟨rfl, hb4⟩
              have hbw4 := hbw3.trans (hb4.mono hbw3.size)
              have hst4 := Hst3.out.below hb4 Hst3.out.lt
              have hrow4 := Hrow.out.below hb4 (Nat.le_refl _)
              have hO4 := HO3.out.below hb4 (Nat.le_refl _)
              obtain ⟨y0, y1, y2, f0, f1, f2⟩ := study_cells hst4
              clear Hbox3 Hst3 Hrow HO3
              by_cases hlo : Nt.lossOk n.nodes = true
              rotate_left
              · have hlo' : Nt.lossOk n.nodes = false := by simpa using hlo
                have HC := Lib.hid (Hc6.out hlo')
                have Hst4 := Lib.hid hst4
                have Hrow4 := Lib.hid hrow4
                have HO4 := Lib.hid hO4
                clear hst4 hrow4 hO4
                clear hlo
                go_wp2_with fail
                exact bodyPost_ret (v := .tuple #[.agg #[.slice none 0 0, .slice none 0 0, .int .i64 0], .int .i64 23]) (by simp [results, Try.results37, go_sem, y0, y1, y2]) rfl ⟨below_set3 hbw4 (by omega) _ _ _, .inr (by rw [HC.out]; exact ⟨by omega, rfl⟩)⟩
              · have hlm := (Nt.loss_mem hlo).2
                have hch := Hc7.out hlo
                obtain ⟨l, hl⟩ : ∃ l : Nat, Nt.loss n.nodes = (l : Int) := ⟨(Nt.loss n.nodes).toNat, by omega⟩
                have Hl := Lib.hid hl
                rw [hl] at hlm hch ⊢
                rw [Int.toNat_natCast] at hch
                have hll : l < (Nt.shapes n).length := by omega
                have hgl := Hg2.out (l : Int) (.inr ((Hfull.out _).2 (by omega)))
                rw [Int.toNat_natCast, gets_at hll] at hgl
                rw [gets_at hll] at hch
                obtain ⟨S, sc, hcS, hIS, hs1, hs2, -⟩ := hrow4.at_ hll
                have hsz := shape_size S sc _ w4 (by omega) hIS
                have hse : Sh.size (Nt.shapes n)[l] = (Safe.prod (Nt.shapes n)[l], 0) := by unfold Sh.size; rw [if_pos hgl]
                rw [hse] at hsz
                have l0 : (0 : Int) ≤ (l : Int) := by omega
                have l1 : (l : Int) < ((n.nodes.length + 1 : Nat) : Int) := by omega
                generalize (Nt.shapes n)[l] = s at *
                have Hst4 := Lib.hid hst4
                have Hrow4 := Lib.hid hrow4
                have HO4 := Lib.hid hO4
                have Hch := Lib.hid hch
                have Hl := Lib.hid hl
                have Hsz := Lib.hid hsz
                have Hse := Lib.hid hse
                have HIS := Lib.hid hIS
                have Hgl := Lib.hid hgl
                clear hst4 hrow4 hO4 hch hl hsz hse hIS hgl
                go_wp2_with fail
                refine (Hsz.out).mono ?_
                rintro e w5 ⟨rfl, hb5⟩
                have hbw5 := hbw4.trans (hb5.mono hbw4.size)
                have hst5 := Hst4.out.below hb5 Hst4.out.lt
                have hrow5 := Hrow4.out.below hb5 (Nat.le_refl _)
                have hO5 := HO4.out.below hb5 (Nat.le_refl _)
                clear y0 y1 y2 f0 f1 f2
                obtain ⟨y0, y1, y2, f0, f1, f2⟩ := study_cells hst5
                by_cases hp : Safe.prod s = 1
                · have HC := Lib.hid (show Nt.check n = 0 by rw [Hch.out, if_neg (by simp [hp])])
                  have e1 : (Safe.prod s != 1) = false := by simp [hp]
                  clear hcS hp
                  have Hst5 := Lib.hid hst5
                  have Hrow5 := Lib.hid hrow5
                  have HO5 := Lib.hid hO5
                  clear hst5 hrow5 hO5
                  go_wp2_with fail
                  have hos0 : ∀ z ∈ os, z ≠ 0 := fun z hz => by have := (Hfull.out z).1 hz; omega
                  have hsh0 : ∀ s ∈ Nt.shapes n, ∀ z ∈ s, z ≠ 0 := fun s hs z hz => by
                    obtain ⟨i, hi, rfl⟩ := List.getElem_of_mem hs
                    have hgi := Hg2.out (i : Int) (by
                      by_cases h0 : i = 0
                      · exact .inl (by omega)
                      · exact .inr ((Hfull.out _).2 (by omega)))
                    rw [Int.toNat_natCast, gets_at hi] at hgi
                    have := (Sh.right_mul hgi).2.2.2.1 z hz
                    omega
                  refine bodyPost_ret (v := .tuple #[.agg #[.slice O n.nodes.length oc, .slice (some ⟨g, 0, none⟩) (n.nodes.length + 1) (n.nodes.length + 1), .int .i64 (l : Int)], .int .i64 0]) (by simp [results, Try.results37, go_sem, y0, y1, y2]) rfl ⟨below_set3 hbw5 (by omega) _ _ _, .inl ⟨HC.out, O, oc, g, by rw [Hl.out], ?_, hoc, hoc2, by omega, ?_⟩⟩
                  · rw [Hos.out]; exact ints_set3 HO5.out Hst5.out hos0 _ _ _
                  · exact shpRow_set3 Hrow5.out Hst5.out (by omega) hsh0 _ _ _
                · have HC := Lib.hid (show Nt.check n = 23 by rw [Hch.out, if_pos hp])
                  have e1 : (Safe.prod s != 1) = true := by simp [hp]
                  clear hcS hp
                  have Hst5 := Lib.hid hst5
                  have Hrow5 := Lib.hid hrow5
                  have HO5 := Lib.hid hO5
                  clear hst5 hrow5 hO5
                  go_wp2_with fail
                  exact bodyPost_ret (v := .tuple #[.agg #[.slice none 0 0, .slice none 0 0, .int .i64 0], .int .i64 23]) (by simp [results, Try.results37, go_sem, y0, y1, y2]) rfl ⟨below_set3 hbw5 (by omega) _ _ _, .inr (by rw [HC.out]; exact ⟨by omega, rfl⟩)⟩
end Go.Proofs.Ytjkhpbngpceenaa

/- Lemmas for the statements of this seat: contracts of functions and the plain laws. -/
import Derived.Ground.Names2Prog
import Derived.Maps.AppendAt
import Derived.Shelf.Bits.Mul64
import Derived.Shelf.Slices.Cells
import Derived.Shelf.Slices.Delete
import Derived.Shelf.Slices.Empties
import Derived.Shelf.Slices.Reverse
import Derived.Shelf.Slices.SearchI
import Derived.Shelf.Small.Bits
import Derived.Shelf.Small.Wraps
import Derived.Shelf.Spec.SlicesInsert
import Derived.Shelf.Spec.SlicesInsertGrow
import Derived.Shelf.Strconv.Itoa0
import Derived.Test.YtbnnpkcfifejmabGreatProg
import Derived.Test.YtbnnpkcfifejmabGreatZ02
set_option linter.unusedVariables false
namespace Go.Proofs.YtbnnpkcfifejmabGreat
open Go.RowKit
theorem shpT_info : (Tryz.prog.info? 23).map (fun i => (i.zero, i.size, i.bytes)) = some (some (.slice none 0 0), 1, 24) := by kernel_rfl
def LayPost (r : List (List Int) × Int) (n : Nat) (w : World) (e : Ending) (w' : World) : Prop :=
 Below w.heap.size w w' ∧ ((r.2 = 0 ∧ ∃ g, e = .returned (.tuple #[.slice (some ⟨g, 0, none⟩) (n + 1) (n + 1), .int .i64 0]) ∧ w.heap.size ≤ g ∧ ShpRow w' g 23 r.1 ∧ r.1.length = n + 1) ∨ (r.2 ≠ 0 ∧ e = .returned (.tuple #[.slice none 0 0, .int .i64 r.2])))
namespace Nt
def insMid (sh : List (List Int)) (l : List Int) (m : Nat) : List (List Int) := pick sh (l.take m) ++ List.replicate (l.length - m) []
theorem insMid_len (sh : List (List Int)) (l : List Int) {m : Nat} (h : m ≤ l.length) : (insMid sh l m).length = l.length := by simp [insMid, pick]; omega
theorem insMid_zero (sh : List (List Int)) (l : List Int) : insMid sh l 0 = List.replicate l.length [] := by simp [insMid, pick]
theorem insMid_all (sh : List (List Int)) (l : List Int) : insMid sh l l.length = pick sh l := by simp [insMid]
theorem insMid_succ (sh : List (List Int)) (l : List Int) {m : Nat} (h : m < l.length) : insMid sh l (m + 1) = (insMid sh l m).set m (sh.getD l[m].toNat []) := by
 unfold insMid
 rw [show l.length - m = (l.length - (m + 1)) + 1 by omega, List.replicate_succ, List.take_succ_eq_append_getElem h]
 unfold pick
 rw [List.map_append, List.set_append_right _ _ (by simp; omega)]
 rw [show m - ((l.take m).map fun i => sh.getD i.toNat []).length = 0 by simp; omega, List.set_cons_zero, List.append_assoc]
 rfl
end Nt
theorem lay_short {n : NetD} (hin : Sh.right n.inn = true) {k : Nat} (hk : k ≤ (Nt.sorted n.nodes).length) {sh : List (List Int)} (h : Nt.lay n.nodes (Nt.start n) ((Nt.sorted n.nodes).take k) = (sh, 0)) : Nt.Good ((Nt.sorted n.nodes).take k) sh ∧ sh.length = n.nodes.length + 1 := by
 have h2 := Nt.lay_good hin k hk (by rw [h])
 have h3 := Nt.lay_len (ns := n.nodes) (a := (Nt.sorted n.nodes).take k) (sh := Nt.start n) (by rw [h])
 rw [h] at h2 h3
 exact ⟨h2, by simpa [Nt.start] using h3⟩
set_option maxRecDepth 20000 in
set_option maxHeartbeats 8000000 in
theorem net_lay (A N O : Option Addr) (c d oc : Nat) (n : NetD) (w : World) (hok : n.ok) (hR : NetR w A N n) (hd : n.nodes.length ≤ d) (hO : Ints .i64 w O (Nt.sorted n.nodes)) (hin : Sh.right n.inn = true) (hins : ∀ v ∈ n.nodes, ∀ i ∈ v.ins, 0 ≤ i ∧ i ≤ n.nodes.length) :
  Calls Tryz.prog 54 #[.agg #[.slice A n.inn.length c, .slice N n.nodes.length d], .slice O (Nt.sorted n.nodes).length oc] w (LayPost (Nt.lay n.nodes (Nt.start n) (Nt.sorted n.nodes)) n.nodes.length w) := by
 obtain ⟨i0, hi, hz0, hz1, hz2⟩ := info_parts shpT_info
 have hnl := hok.2.1
 have hil := hok.1
 have hokn := hok.2.2
 have hol : (Nt.sorted n.nodes).length ≤ n.nodes.length := Kn.order_len_le _ _
 have hrng : ∀ u ∈ Nt.sorted n.nodes, 1 ≤ u ∧ u ≤ n.nodes.length := Kn.order_rng _ _
 have hbeh : ∀ a b u, Nt.sorted n.nodes = a ++ u :: b → ∀ i ∈ Nt.insF n.nodes u, i = 0 ∨ i ∈ a := fun a b u h => Kn.order_behind _ _ h
 obtain ⟨os, hos⟩ : ∃ os, Nt.sorted n.nodes = os := ⟨_, rfl⟩
 have hshort : ∀ k, k ≤ os.length → ∀ sh, Nt.lay n.nodes (Nt.start n) (os.take k) = (sh, 0) → Nt.Good (os.take k) sh ∧ sh.length = n.nodes.length + 1 := fun k hk sh h => by
  have := lay_short (n := n) hin (k := k) (by rw [hos]; exact hk) (sh := sh) (by rw [hos]; exact h)
  rw [hos] at this
  exact this
 rw [hos] at hO hol hrng hbeh ⊢
 have hk0 := Blk.new w 26 #[.slice A n.inn.length c, .slice N n.nodes.length d]
 have hb0 : Below w.heap.size w (w.alloc (.cells #[.slice A n.inn.length c, .slice N n.nodes.length d] 26)) := (Below.refl _ _).alloc (Nat.le_refl _) _
 have HR := Lib.hid hR
 have Hins := Lib.hid hins
 have Hokn := Lib.hid hokn
 have HO := Lib.hid hO
 have Hin := Lib.hid hin
 have Hrng := Lib.hid hrng
 have Hbeh := Lib.hid hbeh
 have Hshort := Lib.hid hshort
 have Hos := Lib.hid hos
 clear hR hins hokn hO hin hrng hbeh hshort hos
 clear hok
 have e1 : IntKind.i64.wrap ((n.nodes.length : Int) + 1) = ((n.nodes.length + 1 : Nat) : Int) := by rw [IntWalk.i64_in _ (by omega)]; omega
 go_enter Tryz.func54, Tryz.ntmps54
 go_wp2_with (at_make; refine wpList_make_full _ rfl _ _ 39 rfl w.heap.size 23 i0 (.slice none 0 0) 1 Tryz.underlying39 hi hz0 hz1 _ _ _ _ (n.nodes.length + 1) rfl rfl (by first | rfl | simp | (go_simp; rfl)) (by first | rfl | simp | (go_simp; rfl)) ?b2 ?b3 ?b4 ?_)
 case b2 => rw [hz2]; omega
 case b3 => unfold maxLen; omega
 case b4 => simp
 intro w1 hown hgrow
 have hblk := own_cur hown
 rw [made_one] at hblk
 have hrow : ShpRow w1 (w.heap.size + 1) 23 (List.replicate (n.nodes.length + 1) []) := ShpRow.new (by simpa [Blk] using hblk)
 have hb1 : Below w.heap.size w w1 := hb0.grown hgrow (by simp) (by simp)
 have hbox : Blk w1 w.heap.size 26 #[.slice A n.inn.length c, .slice N n.nodes.length d] := hk0.grown hgrow (by simp)
 have x0 : w1.cell? ⟨w.heap.size, 0, none⟩ = some (.slice A n.inn.length c) := by rw [hbox.cell]; rfl
 have Hbox := Lib.hid hbox
 have Hrow := Lib.hid hrow
 clear hbox hrow
 clear hblk hown hgrow hk0
 go_wp2_with fail
 refine (shape_copy A c n.inn _ (by omega) (HR.out.1.below hb1 (Nat.le_refl _))).mono ?_
 rintro e w2 ⟨g, rfl, hg, hB, h2⟩
 have hgl : w.heap.size + 1 < w1.heap.size := Hrow.out.lt
 have hb2 := hb1.trans (h2.mono hb1.size)
 have hrow2 := Hrow.out.below h2 (Nat.le_refl _)
 have hbox2 := Hbox.out.below h2 Hbox.out.lt
 obtain ⟨S0, c0, y0, -⟩ := hrow2.at_ (j := 0) (by simp)
 have f0 : w2.frozen? ⟨w.heap.size + 1, 0, none⟩ = false := by obtain ⟨vs, _, hk, _⟩ := hrow2; exact hk.frozen 0
 have hIn : Ints .i64 w2 (some ⟨g, 0, none⟩) n.inn := Ints.of_row fun j hj => by rw [Nat.zero_add, show w2.cell? ⟨g, j, none⟩ = _ from (show Blk w2 g 3 _ from hB).cell j]; simp [hj]
 have hrow3 := hrow2.set_ (i := 0) hIn (Nat.le_refl _) (by omega) (fun a h => by injection h with h; subst h; simp; omega)
 have hbox3 := hbox2.far (p := ⟨w.heap.size + 1, 0, none⟩) (by simp) (.slice (some ⟨g, 0, none⟩) n.inn.length n.inn.length)
 have hb3 := hb2.setCell (p := ⟨w.heap.size + 1, 0, none⟩) (by simp) (.slice (some ⟨g, 0, none⟩) n.inn.length n.inn.length)
 rw [show (List.replicate (n.nodes.length + 1) ([] : List Int)).set 0 n.inn = Nt.start n from rfl] at hrow3
 have Hrow2 := Lib.hid hrow2
 have Hrow3 := Lib.hid hrow3
 have Hbox2 := Lib.hid hbox2
 have Hbox3 := Lib.hid hbox3
 have HB := Lib.hid hB
 have HIn := Lib.hid hIn
 clear hrow2 hrow3 hbox2 hbox3 hB hIn
 clear x0 Hrow Hbox
 go_wp2_with fail
 clear y0 f0
 go_loopw [27] (fun i wr => ∃ k : Nat, k ≤ os.length ∧ i = .int .i64 k ∧ Blk wr w.heap.size 26 #[.slice A n.inn.length c, .slice N n.nodes.length d] ∧ Below w.heap.size w wr ∧ ∃ sh, Nt.lay n.nodes (Nt.start n) (os.take k) = (sh, 0) ∧ ShpRow wr (w.heap.size + 1) 23 sh) (fun i _ => os.length - (intOf i).toNat)
 case atStart => exact ⟨0, Nat.zero_le _, rfl, Hbox3.out, hb3, Nt.start n, rfl, Hrow3.out⟩
 case round =>
  obtain ⟨k, hk, rfl, hbox, hbw, sh, hlay, hrow⟩ := hrel
  clear Hrow2 Hrow3 Hbox2 Hbox3 HB HIn hb3 hb2 hb1 h2 hg hgl
  obtain ⟨hgood, hshl⟩ := Hshort.out k hk sh hlay
  have hgl : w.heap.size + 1 < wr.heap.size := hrow.lt
  by_cases hlt : k < os.length
  ·obtain ⟨b, off, rfl, -, hc⟩ := HO.out.below hbw (Nat.le_refl _) k hlt
   rw [getD_at hlt] at hc
   have hr := Hrng.out _ (List.getElem_mem hlt)
   have hsplit : os = os.take k ++ os[k] :: os.drop (k + 1) := by rw [← List.drop_eq_getElem_cons hlt, List.take_append_drop]
   have hbe := Hbeh.out _ _ _ hsplit
   obtain ⟨j, hj⟩ : ∃ j : Nat, os[k] = (j : Int) + 1 := ⟨(os[k] - 1).toNat, by omega⟩
   have hjl : j < n.nodes.length := by omega
   have hlay' := fun h : (Nt.layStep n.nodes sh os[k]).2 = 0 => Nt.lay_snoc (id := os[k]) hlay h
   have hfail := fun h : (Nt.layStep n.nodes sh os[k]).2 ≠ 0 => Nt.lay_fail (b := os.drop (k + 1)) (id := os[k]) hlay h
   rw [← List.take_succ_eq_append_getElem hlt] at hlay'
   rw [← hsplit] at hfail
   have hst : Nt.layStep n.nodes sh os[k] = Od.shape n.nodes[j].op n.nodes[j].p (Nt.pick sh n.nodes[j].ins) := by unfold Nt.layStep; rw [hj, Nt.node_at hjl]
   have hiF : Nt.insF n.nodes os[k] = n.nodes[j].ins := by unfold Nt.insF; rw [hj, Nt.node_at hjl]
   rw [hst] at hlay' hfail
   rw [hiF] at hbe
   have hpr := hgood.pick hbe
   rw [hj] at hc hlay'
   rw [show ((j : Int) + 1).toNat = j + 1 by omega] at hlay'
   have hnok := Hokn.out _ (List.getElem_mem hjl)
   have hinr := Hins.out _ (List.getElem_mem hjl)
   obtain ⟨b1, off1, S, sc, I, ic, Q, qc, rfl, hNA, hs1, hI1, hq1⟩ := HR.out.2.at_ hjl
   have hgr : ∀ i ∈ n.nodes[j].ins, Sh.right (sh.getD i.toNat []) = true := fun i hi => hgood i (hbe i hi)
   generalize n.nodes[j] = v at *
   obtain ⟨⟨y0, y1, y2, y3, y4, y5, y6, y7, y8, y9⟩, -⟩ := hNA.below hbw
   have x1 : wr.cell? ⟨w.heap.size, 1, none⟩ = some (.slice (some ⟨b1, off1, none⟩) n.nodes.length d) := by rw [hbox.cell]; rfl
   have j1 : IntKind.i64.wrap ((j : Int) + 1 - 1) = (j : Int) := by rw [IntWalk.i64_in _ (by omega)]; omega
   have j2 : (j : Int) < n.nodes.length := by omega
   have hvi := hnok.2.2.1
   have hkn := Blk.new wr 47 #[.int .i64 v.op.kind, .int .i64 v.op.k, .int .i64 v.op.width, .int .i64 v.op.step, .int .i64 v.op.side, .int .i64 v.op.frm, .int .i64 v.op.to, .slice S v.op.s.length sc, .slice I v.ins.length ic, .slice Q v.p.length qc]
   have hbn : Below wr.heap.size wr (wr.alloc (.cells #[.int .i64 v.op.kind, .int .i64 v.op.k, .int .i64 v.op.width, .int .i64 v.op.step, .int .i64 v.op.side, .int .i64 v.op.frm, .int .i64 v.op.to, .slice S v.op.s.length sc, .slice I v.ins.length ic, .slice Q v.p.length qc] 47)) := (Below.refl _ _).alloc (Nat.le_refl _) _
   have Hbox := Lib.hid hbox
   have Hrow := Lib.hid hrow
   have Hsplit := Lib.hid hsplit
   have Hbe := Lib.hid hbe
   have Hlay' := Lib.hid hlay'
   have Hfail := Lib.hid hfail
   have Hst := Lib.hid hst
   have HiF := Lib.hid hiF
   have Hpr := Lib.hid hpr
   have Hnok := Lib.hid hnok
   have Hinr := Lib.hid hinr
   have HNA := Lib.hid hNA
   have Hgr := Lib.hid hgr
   have Hlay := Lib.hid hlay
   have Hgood := Lib.hid hgood
   have Hkn := Lib.hid hkn
   have Hj := Lib.hid hj
   clear hbox hrow hsplit hbe hlay' hfail hst hiF hpr hnok hinr hNA hgr hlay hgood hkn hj
   go_wp2_with (at_make; refine wpList_make_full _ rfl _ _ 39 rfl wr.heap.size 23 i0 (.slice none 0 0) 1 Tryz.underlying39 hi hz0 hz1 _ _ _ _ v.ins.length rfl rfl (by first | rfl | simp | (go_simp; rfl)) (by first | rfl | simp | (go_simp; rfl)) ?b2 ?b3 ?b4 ?_)
   case b2 => rw [hz2]; omega
   case b3 => unfold maxLen; omega
   case b4 => simp
   intro w3 hown hgrow
   have hblk := own_cur hown
   rw [made_one] at hblk
   have hrow3 : ShpRow w3 (wr.heap.size + 1) 23 (Nt.insMid sh v.ins 0) := by rw [Nt.insMid_zero]; exact ShpRow.new (by simpa [Blk] using hblk)
   have hb3 : Below wr.heap.size wr w3 := hbn.grown hgrow (by simp) (by simp)
   have hkn3 : Blk w3 wr.heap.size 47 #[.int .i64 v.op.kind, .int .i64 v.op.k, .int .i64 v.op.width, .int .i64 v.op.step, .int .i64 v.op.side, .int .i64 v.op.frm, .int .i64 v.op.to, .slice S v.op.s.length sc, .slice I v.ins.length ic, .slice Q v.p.length qc] := Hkn.out.grown hgrow (by simp)
   have z8 : w3.cell? ⟨wr.heap.size, 8, none⟩ = some (.slice I v.ins.length ic) := by rw [hkn3.cell]; rfl
   have Hrow3 := Lib.hid hrow3
   have Hkn3 := Lib.hid hkn3
   clear hrow3 hkn3
   clear hblk hown hgrow y0 y1 y2 y3 y4 y5 y6 y7 y8 y9 x1 hbn Hkn
   go_wp2_with fail
   clear z8
   obtain ⟨wo, rfl⟩ : ∃ wo, wo = wr := ⟨wr, rfl⟩
   go_loopw [44] (fun i wx => ∃ m : Nat, m ≤ v.ins.length ∧ i = .int .i64 m ∧ Blk wx wo.heap.size 47 #[.int .i64 v.op.kind, .int .i64 v.op.k, .int .i64 v.op.width, .int .i64 v.op.step, .int .i64 v.op.side, .int .i64 v.op.frm, .int .i64 v.op.to, .slice S v.op.s.length sc, .slice I v.ins.length ic, .slice Q v.p.length qc] ∧ Below wo.heap.size wo wx ∧ ShpRow wx (wo.heap.size + 1) 23 (Nt.insMid sh v.ins m)) (fun i _ => v.ins.length - (intOf i).toNat)
   case atStart => exact ⟨0, Nat.zero_le _, rfl, Hkn3.out, hb3, Hrow3.out⟩
   case round =>
    obtain ⟨m, hm, rfl, hknx, hbx, hrx⟩ := hrel
    clear Hkn3 Hrow3 hb3
    have hbwx := hbw.trans (hbx.mono hbw.size)
    have hNx := HNA.out.below hbwx
    have hml := Nt.insMid_len sh v.ins hm
    by_cases hlm : m < v.ins.length
    ·obtain ⟨b2, off2, rfl, -, hc2⟩ := hNx.2.2.1 m hlm
     rw [getD_at hlm] at hc2
     have hr2 := Hinr.out _ (List.getElem_mem hlm)
     have hg2 := Hgr.out _ (List.getElem_mem hlm)
     have HM := Lib.hid (Nt.insMid_succ sh v.ins hlm)
     obtain ⟨u, hu⟩ : ∃ u : Nat, v.ins[m] = u := ⟨v.ins[m].toNat, by omega⟩
     rw [hu] at hc2 hr2 hg2
     have hul : u < sh.length := by omega
     rw [show ((u : Int)).toNat = u by omega, gets_at hul] at hg2
     obtain ⟨Su, cu, yu, hIu, lu1, lu2, -⟩ := Hrow.out.at_ hul
     obtain ⟨b3, off3, rfl, hb3, -⟩ := hIu 0 (right_short hg2).1
     have yu' := cell_below hbx yu
     have hIu' := hIu.below hbx (Nat.le_refl _)
     have hset := hrx.set_ (i := m) hIu' lu1 lu2 (fun a h => by injection h with h; subst h; simp; omega)
     obtain ⟨Sm, cm, ym, -⟩ := hrx.at_ (j := m) (by omega)
     have fm : wr.frozen? ⟨wo.heap.size + 1, m, none⟩ = false := by obtain ⟨vs, _, hk, _⟩ := hrx; exact hk.frozen m
     have HS := Lib.hid (show ShpRow (wr.setCell ⟨wo.heap.size + 1, m, none⟩ (.slice (some ⟨b3, off3, none⟩) sh[u].length cu)) (wo.heap.size + 1) 23 (Nt.insMid sh v.ins (m + 1)) by
      rw [HM.out, hu, show ((u : Int)).toNat = u by omega, gets_at hul]; exact hset)
     have HKN := Lib.hid (hknx.far (p := ⟨wo.heap.size + 1, m, none⟩) (by simp) (.slice (some ⟨b3, off3, none⟩) sh[u].length cu))
     have hbx2 := hbx.setCell (p := ⟨wo.heap.size + 1, m, none⟩) (by simp) (.slice (some ⟨b3, off3, none⟩) sh[u].length cu)
     have u0 : (0 : Int) ≤ u := by omega
     have u1 : (u : Int) < ((n.nodes.length + 1 : Nat) : Int) := by omega
     have m1 : (m : Int) < v.ins.length := by omega
     clear hset hIu hIu' hknx hrx hNx hg2 hu yu
     go_wp2_with fail
     go_roundw
     case rel => exact ⟨m + 1, by omega, by go_num, HKN.out, hbx2, HS.out⟩
     case measure => simp [intOf]; omega
    ·obtain rfl : m = v.ins.length := by omega
     have hpl : (Nt.pick sh v.ins).length = v.ins.length := by simp [Nt.pick]
     rw [Nt.insMid_all] at hrx
     obtain ⟨y0, y1, y2, y3, y4, y5, y6, y7, y9⟩ : wr.cell? ⟨wo.heap.size, 0, none⟩ = some (.int .i64 v.op.kind) ∧ wr.cell? ⟨wo.heap.size, 1, none⟩ = some (.int .i64 v.op.k) ∧ wr.cell? ⟨wo.heap.size, 2, none⟩ = some (.int .i64 v.op.width) ∧ wr.cell? ⟨wo.heap.size, 3, none⟩ = some (.int .i64 v.op.step) ∧ wr.cell? ⟨wo.heap.size, 4, none⟩ = some (.int .i64 v.op.side) ∧ wr.cell? ⟨wo.heap.size, 5, none⟩ = some (.int .i64 v.op.frm) ∧ wr.cell? ⟨wo.heap.size, 6, none⟩ = some (.int .i64 v.op.to) ∧ wr.cell? ⟨wo.heap.size, 7, none⟩ = some (.slice S v.op.s.length sc) ∧ wr.cell? ⟨wo.heap.size, 9, none⟩ = some (.slice Q v.p.length qc) := by
      refine ⟨?_, ?_, ?_, ?_, ?_, ?_, ?_, ?_, ?_⟩
      all_goals (rw [hknx.cell]; rfl)
     have hno := Hnok.out
     have hcall := op_shape v.op S Q (some ⟨wo.heap.size + 1, 0, none⟩) sc qc v.ins.length v.p (Nt.pick sh v.ins) wr (by have := hno.2.1; omega) hNx.2.1 ⟨hNx.2.2.2, hq1.1, hq1.2, fun s hs => by have := hno.2.2.2.2.1 s hs; omega⟩ ⟨hrx.shps, by omega, by omega, fun s hs => by have := (right_short (List.all_eq_true.1 Hpr.out s hs)).2; omega⟩
     rw [hpl] at hcall
     have hrgt := fun h : (Od.shape v.op v.p (Nt.pick sh v.ins)).2 = 0 => right_short (Od.shape_right h)
     have hl2 := Hlay'.out
     have hf2 := Hfail.out
     generalize Od.shape v.op v.p (Nt.pick sh v.ins) = r at *
     have Hcall := Lib.hid hcall
     have Hrgt := Lib.hid hrgt
     have Hl2 := Lib.hid hl2
     have Hf2 := Lib.hid hf2
     clear hcall hrgt hl2 hf2
     clear hNx hrx hknx hpl hno Hlay' Hfail Hst
     go_wp2_with fail
     clear y0 y1 y2 y3 y4 y5 y6 y7 y9
     refine (Hcall.out).mono ?_
     rintro e w4 ⟨S5, d5, rfl, hI5, r1, r2, hf5, hb5⟩
     have hb4 := hbx.trans (hb5.mono hbx.size)
     have hbw4 := hbw.trans (hb4.mono hbw.size)
     by_cases hr2 : r.2 = 0
     ·have q1 : (r.2 != 0) = false := by simp [hr2]
      have hrow4 := Hrow.out.below hb4 (Nat.le_refl _)
      have hbox4 := Hbox.out.below hb4 Hbox.out.lt
      have hj1 : j + 1 < sh.length := by omega
      obtain ⟨Sm, cm, ym, -⟩ := hrow4.at_ hj1
      have fm : w4.frozen? ⟨w.heap.size + 1, j + 1, none⟩ = false := by obtain ⟨vs, _, hk, _⟩ := hrow4; exact hk.frozen (j + 1)
      have hset := hrow4.set_ (i := j + 1) hI5 r1 r2 (fun a h => by have := hf5 a h; have := hbx.size; omega)
      have HS := Lib.hid hset
      have HBX := Lib.hid (hbox4.far (p := ⟨w.heap.size + 1, j + 1, none⟩) (by simp) (.slice S5 r.1.length d5))
      have hbw5 := hbw4.setCell (p := ⟨w.heap.size + 1, j + 1, none⟩) (by simp) (.slice S5 r.1.length d5)
      have HL := Lib.hid (Hl2.out hr2)
      have j3 : ((j : Int) + 1) < ((n.nodes.length + 1 : Nat) : Int) := by omega
      have j4 : ((j : Int) + 1).toNat = j + 1 := by omega
      clear hset hrow4 hbox4 hr2
      have HI5 := Lib.hid hI5
      have Hf5 := Lib.hid hf5
      clear hI5 hf5
      go_wp2_with fail
      go_roundw
      case rel => exact ⟨k + 1, by omega, by go_num, HBX.out, hbw5, _, HL.out, HS.out⟩
      case measure => simp [intOf]; omega
     ·have q1 : (r.2 != 0) = true := by simp [hr2]
      have HF := Lib.hid (Hf2.out hr2)
      have HR2 := Lib.hid hr2
      have HI5 := Lib.hid hI5
      have Hf5 := Lib.hid hf5
      clear hI5 hf5
      clear hr2
      go_wp2_with fail
      go_ret2
      exact ⟨hbw4, .inr (by rw [HF.out]; exact ⟨HR2.out, rfl⟩)⟩
  ·obtain rfl : k = os.length := by omega
   rw [List.take_length] at hlay
   have Hlay := Lib.hid hlay
   have Hrow := Lib.hid hrow
   have Hbox := Lib.hid hbox
   have Hgood := Lib.hid hgood
   clear hlay hrow hbox hgood
   go_wp2_with fail
   go_ret2
   exact ⟨hbw, .inl (by rw [Hlay.out]; exact ⟨rfl, _, rfl, by omega, Hrow.out, hshl⟩)⟩
end Go.Proofs.YtbnnpkcfifejmabGreat
namespace Go.Proofs.YtbnnpkcfifejmabGreat
open Go.RowKit
def URow (X : Nat → Prop) (B : Nat) (w : World) (g : Nat) (t e : TypeId) (us : List (List Int)) : Prop :=
 X g ∧ ∃ vs : List Value, vs.length = us.length ∧ Blk w g t vs.toArray ∧
  (∀ j (hj : j < us.length) v, vs[j]? = some v → w.ownsRow B e 1 v us[j].length (us[j].map (Value.int .i64))) ∧
  (∀ (j : Nat) (v : Value) (b : Nat), vs[j]? = some v → v.ownBlock = some b → ¬ X b) ∧
  (∀ (i j : Nat) (u v : Value) (b : Nat), i ≠ j → vs[i]? = some u → vs[j]? = some v → u.ownBlock = some b → v.ownBlock ≠ some b)
section
variable {X : Nat → Prop} {B : Nat} {w w' : World} {g : Nat} {t e : TypeId} {us : List (List Int)}
theorem URow.lt (h : URow X B w g t e us) : g < w.heap.size := by obtain ⟨_, vs, _, hb, _⟩ := h; exact hb.lt
theorem URow.agree (h : URow X B w g t e us) (ha : ∀ b, b < w.heap.size → (b = g ∨ ¬ X b) → w'.heap[b]? = w.heap[b]?) : URow X B w' g t e us := by
 obtain ⟨hg, vs, hl, hk, ho, hx, hd⟩ := h
 refine ⟨hg, vs, hl, (ha g hk.lt (.inl rfl)).trans hk, fun j hj v hv => ?_, hx, hd⟩
 exact ownsRow_heap (ho j hj v hv) fun b hb => ha b ((ho j hj v hv).lt b hb).2 (.inr (hx j v b hv hb))
theorem URow.new {n : Nat} (hX : X g) (h : Blk w g t (List.replicate n (Value.slice none 0 0)).toArray) : URow X B w g t e (List.replicate n []) := by
 refine ⟨hX, List.replicate n (.slice none 0 0), by simp, h, fun j hj v hv => ?_, fun j v b hv hb => ?_, fun i j u v b _ hu _ hb => ?_⟩
 ·rw [List.getElem?_replicate] at hv
  split at hv
  ·injection hv with hv
   subst hv
   simpa using World.ownsRow_nil w B e 1
  ·cases hv
 ·rw [List.getElem?_replicate] at hv
  split at hv
  ·injection hv with hv; subst hv; simp [Value.ownBlock] at hb
  ·cases hv
 ·rw [List.getElem?_replicate] at hu
  split at hu
  ·injection hu with hu; subst hu; simp [Value.ownBlock] at hb
  ·cases hu
theorem URow.at_ (h : URow X B w g t e us) (hlt : ∀ b, X b → b < w.heap.size) {j : Nat} (hj : j < us.length) :
  ∃ v, w.cell? ⟨g, j, none⟩ = some v ∧ w.ownsRow B e 1 v us[j].length (us[j].map (Value.int .i64)) ∧ (∀ b, v.ownBlock = some b → ¬ X b) ∧
   ∀ v' w1 x, w1.ownsRow B e 1 v' (us[j].length + 1) (us[j].map (Value.int .i64) ++ [.int .i64 x]) → w.grownBy w1 v.ownBlock → (v'.ownBlock = v.ownBlock ∨ v'.ownBlock = some w.heap.size) →
    URow X B (w1.setCell ⟨g, j, none⟩ v') g t e (us.set j (us[j] ++ [x])) := by
 obtain ⟨hg, vs, hl, hk, ho, hx, hd⟩ := h
 obtain ⟨v, hv⟩ : ∃ v, vs[j]? = some v := ⟨vs[j], List.getElem?_eq_getElem (by omega)⟩
 refine ⟨v, by rw [hk.cell j]; simpa using hv, ho j hj v hv, fun b hb => hx j v b hv hb, fun v' w1 x hown hgr hat => ?_⟩
 have hgv : some g ≠ v.ownBlock := fun h => hx j v g hv h.symm hg
 have hk1 : Blk w1 g t vs.toArray := (hgr.block g hk.lt hgv).trans hk
 have hb' : ∀ b, v'.ownBlock = some b → ¬ X b := fun b hb => by
  rcases hat with h | h
  ·exact hx j v b hv (h ▸ hb)
  ·rw [h] at hb; injection hb with hb; subst hb; intro hX; have := hlt _ hX; omega
 have hset : ∀ b, b ≠ g → (w1.setCell ⟨g, j, none⟩ v').heap[b]? = w1.heap[b]? := fun b hb => Below.heap_setCell w1 _ _ b hb
 refine ⟨hg, vs.set j v', by simp [hl], ?_, fun i hi u hu => ?_, fun i u b hu hb => ?_, fun i k u z b hik hu hz hb => ?_⟩
 ·have := hk1.set_ j v'
  simpa using this
 ·rw [List.length_set] at hi
  by_cases e : j = i
  ·subst e
   rw [List.getElem?_set_self (by omega)] at hu
   injection hu with hu
   subst hu
   have := ownsRow_heap (w' := w1.setCell ⟨g, j, none⟩ v') hown fun b hb => hset b fun q => hb' b hb (q ▸ hg)
   simpa using this
  ·rw [List.getElem?_set_ne e] at hu
   simp only [List.getElem_set_ne e]
   refine ownsRow_heap (ho i hi u hu) fun b hb => ?_
   rw [hset b fun q => hx i u b hu hb (q ▸ hg)]
   exact hgr.block b ((ho i hi u hu).lt b hb).2 fun q => hd i j u v b (fun q => e q.symm) hu hv hb q.symm
 ·by_cases e : j = i
  ·subst e
   rw [List.getElem?_set_self (by omega)] at hu
   injection hu with hu
   subst hu
   exact hb' b hb
  ·rw [List.getElem?_set_ne e] at hu
   exact hx i u b hu hb
 ·have hne : ∀ i' u' b', i' ≠ j → vs[i']? = some u' → u'.ownBlock = some b' → v'.ownBlock ≠ some b' := fun i' u' b' hi' hu' hb' q => by
   rcases hat with h | h
   ·exact hd i' j u' v b' hi' hu' hv hb' (h ▸ q)
   ·rw [h] at q
    injection q with q
    subst q
    have hi2 : i' < us.length := by
     rw [← hl]
     exact (List.getElem?_eq_some_iff.1 hu').1
    have := ((ho i' hi2 u' hu').lt _ hb').2
    omega
  by_cases e : j = i
  ·subst e
   rw [List.getElem?_set_self (by omega)] at hu
   injection hu with hu
   subst hu
   rw [List.getElem?_set_ne hik] at hz
   intro q
   exact hne k z b (fun q => hik q.symm) hz q hb
  ·rw [List.getElem?_set_ne e] at hu
   by_cases e2 : j = k
   ·subst e2
    rw [List.getElem?_set_self (by omega)] at hz
    injection hz with hz
    subst hz
    exact hne i u b (fun q => e q.symm) hu hb
   ·rw [List.getElem?_set_ne e2] at hz
    exact hd i k u z b hik hu hz hb
end
end Go.Proofs.YtbnnpkcfifejmabGreat
namespace Go.Proofs.YtbnnpkcfifejmabGreat
namespace Kn
def wl (I : Int → List Int) (n k : Nat) (l : List Int) : List Int := (List.range (n + 1)).map fun u : Nat => ((wMid I k l (u : Int) : Nat) : Int)
def ul (I : Int → List Int) (n k : Nat) (l : List Int) : List (List Int) := (List.range (n + 1)).map fun u : Nat => uMid I k l (u : Int)
theorem wl_len (I : Int → List Int) (n k : Nat) (l : List Int) : (wl I n k l).length = n + 1 := by simp [wl]
theorem ul_len (I : Int → List Int) (n k : Nat) (l : List Int) : (ul I n k l).length = n + 1 := by simp [ul]
theorem wl_at (I : Int → List Int) (n k : Nat) (l : List Int) {u : Nat} (h : u < n + 1) : (wl I n k l)[u]? = some ((wMid I k l (u : Int) : Nat) : Int) := by simp [wl, h]
theorem ul_at (I : Int → List Int) (n k : Nat) (l : List Int) {u : Nat} (h : u < (ul I n k l).length) : (ul I n k l)[u] = uMid I k l (u : Int) := by simp [ul]
theorem wl_zero (I : Int → List Int) (n : Nat) : wl I n 0 [] = List.replicate (n + 1) 0 := by
 unfold wl
 rw [wMid_zero, List.eq_replicate_iff]
 exact ⟨by simp, fun b hb => by obtain ⟨x, _, rfl⟩ := List.mem_map.1 hb; rfl⟩
theorem ul_zero (I : Int → List Int) (n : Nat) : ul I n 0 [] = List.replicate (n + 1) [] := by
 unfold ul
 rw [uMid_zero, List.eq_replicate_iff]
 exact ⟨by simp, fun b hb => by obtain ⟨x, _, rfl⟩ := List.mem_map.1 hb; rfl⟩
theorem wl_next (I : Int → List Int) (n k : Nat) : wl I n k (I ((k : Int) + 1)) = wl I n (k + 1) [] := by unfold wl; rw [wMid_next]
theorem ul_next (I : Int → List Int) (n k : Nat) : ul I n k (I ((k : Int) + 1)) = ul I n (k + 1) [] := by unfold ul; rw [uMid_next]
theorem wl_skip (I : Int → List Int) (n k : Nat) (l : List Int) : wl I n k (l ++ [0]) = wl I n k l := by unfold wl; rw [wMid_zero_in]
theorem ul_skip (I : Int → List Int) (n k : Nat) (l : List Int) : ul I n k (l ++ [0]) = ul I n k l := by unfold ul; rw [uMid_zero_in]
theorem wl_in (I : Int → List Int) (n k : Nat) (l : List Int) {id : Int} (h : id ≠ 0) : wl I n k (l ++ [id]) = (wl I n k l).set (k + 1) (((wMid I k l ((k : Int) + 1) : Nat) : Int) + 1) := by
 apply List.ext_getElem?
 intro j
 rw [List.getElem?_set]
 by_cases hj : j < n + 1
 ·rw [wl_at _ _ _ _ hj, wl_at _ _ _ _ hj, wMid_in h, wl_len]
  by_cases e : k + 1 = j
  ·subst e
   simp [hj]
  ·have : ((j : Nat) : Int) ≠ (k : Int) + 1 := by omega
   simp [e, this]
 ·rw [List.getElem?_eq_none (by rw [wl_len]; omega), List.getElem?_eq_none (by rw [wl_len]; omega), wl_len]
  simp
  omega
theorem ul_in (I : Int → List Int) (n k : Nat) (l : List Int) {id : Int} (h : id ≠ 0) (h0 : 0 ≤ id) : ul I n k (l ++ [id]) = (ul I n k l).set id.toNat (uMid I k l id ++ [(k : Int) + 1]) := by
 apply List.ext_getElem?
 intro j
 rw [List.getElem?_set]
 unfold ul
 simp only [List.getElem?_map, List.length_map, List.length_range]
 by_cases hj : j < n + 1
 ·rw [List.getElem?_range hj]
  simp only [Option.map_some]
  rw [uMid_in h]
  by_cases e : id.toNat = j
  ·subst e
   have : ((id.toNat : Nat) : Int) = id := by omega
   simp [hj, this]
  ·have : ((j : Nat) : Int) ≠ id := by omega
   simp [e, this]
 ·rw [List.getElem?_eq_none (by simp; omega)]
  simp
  omega
theorem wMid_le {I : Int → List Int} {B : Nat} (hI : ∀ u, (I u).length ≤ B) (k : Nat) {l : List Int} (hl : l.length ≤ B) (u : Int) : wMid I k l u ≤ B := by
 unfold wMid
 split
 ·rw [wt_nil]; exact Nat.le_trans (List.length_filter_le _ _) (hI u)
 ·split
  ·exact Nat.le_trans (List.length_filter_le _ _) hl
  ·omega
theorem sum_le {B : Nat} : ∀ (l : List Nat), (∀ x ∈ l, x ≤ B) → l.sum ≤ l.length * B
 | [], _ => by simp
 | x :: r, h => by
  have h1 := h x (by simp)
  have h2 := sum_le r fun y hy => h y (by simp [hy])
  simp only [List.sum_cons, List.length_cons, Nat.succ_mul]
  omega
theorem uMid_le {I : Int → List Int} {B : Nat} (hI : ∀ u, (I u).length ≤ B) (k : Nat) {l : List Int} (hl : l.length ≤ B) (id : Int) : (uMid I k l id).length ≤ (k + 1) * B := by
 have h1 := uMid_len I k l id
 have h2 := sum_le ((ids k).map fun u => (I u).length) (B := B) fun x hx => by obtain ⟨u, _, rfl⟩ := List.mem_map.1 hx; exact hI u
 rw [List.length_map, ids_length] at h2
 rw [Nat.succ_mul]
 omega
def rk (I : Int → List Int) (k : Nat) : List Int := (ids k).filter fun u => wt I [] u == 0
theorem rk_succ (I : Int → List Int) (k : Nat) : rk I (k + 1) = if wt I [] ((k : Int) + 1) = 0 then rk I k ++ [(k : Int) + 1] else rk I k := by
 unfold rk
 rw [ids_succ, List.filter_append]
 by_cases h : wt I [] ((k : Int) + 1) = 0 <;> simp [h]
theorem rk_len (I : Int → List Int) (k : Nat) : (rk I k).length ≤ k := Nat.le_trans (List.length_filter_le _ _) (by rw [ids_length]; exact Nat.le_refl _)
theorem rk_all (I : Int → List Int) (n : Nat) : rk I n = ready I n [] := by
 unfold rk ready
 apply List.filter_congr
 intro u _
 rw [free_iff]
 simp
def wm (I : Int → List Int) (n : Nat) (out a : List Int) : List Int := (List.range (n + 1)).map fun u : Nat => if u = 0 then 0 else ((mid I out a (u : Int) : Nat) : Int)
theorem wm_len (I : Int → List Int) (n : Nat) (out a : List Int) : (wm I n out a).length = n + 1 := by simp [wm]
theorem wm_at (I : Int → List Int) (n : Nat) (out a : List Int) {u : Nat} (h : u < n + 1) (h0 : u ≠ 0) : (wm I n out a)[u]? = some ((mid I out a (u : Int) : Nat) : Int) := by simp [wm, h, h0]
theorem wm_start (I : Int → List Int) (n : Nat) : wl I n n [] = wm I n [] [] := by
 unfold wl wm
 apply List.map_congr_left
 intro u hu
 have hu := List.mem_range.1 hu
 by_cases h : u = 0
 ·subst h
  simp [wMid]
 ·rw [wMid_end (by omega) (by omega)]
  simp [h, mid]
theorem wm_next {I : Int → List Int} {n : Nat} {out : List Int} {id : Int} (hid : id ∈ ready I n out) : wm I n out (users I n id) = wm I n (out ++ [id]) [] := by
 unfold wm
 apply List.map_congr_left
 intro u hu
 have hu := List.mem_range.1 hu
 by_cases h : u = 0
 ·simp [h]
 ·rw [mid_end hid (mem_ids.2 ⟨by omega, by omega⟩)]
  simp [h, mid]
theorem wm_in {I : Int → List Int} {n : Nat} {out a : List Int} {u : Int} (h0 : 1 ≤ u) : wm I n out (a ++ [u]) = (wm I n out a).set u.toNat ((mid I out (a ++ [u]) u : Nat) : Int) := by
 apply List.ext_getElem?
 intro j
 rw [List.getElem?_set, wm_len]
 by_cases hj : j < n + 1
 ·by_cases e : u.toNat = j
  ·subst e
   have : ((u.toNat : Nat) : Int) = u := by omega
   rw [wm_at _ _ _ _ hj (by omega), this]
   simp [hj]
  ·simp only [e, if_false]
   unfold wm
   simp only [List.getElem?_map, List.getElem?_range hj, Option.map_some]
   rw [mid_other (by omega)]
 ·rw [List.getElem?_eq_none (by rw [wm_len]; omega), List.getElem?_eq_none (by rw [wm_len]; omega)]
  simp
  omega
theorem count_lt {l : List Int} (h : l.Pairwise (· < ·)) (u : Int) : (∀ j (hj : j < l.length), j < l.countP (· < u) → l[j] < u) ∧ (∀ j (hj : j < l.length), l.countP (· < u) ≤ j → u ≤ l[j]) := by
 induction l with
 | nil => exact ⟨fun j hj => by simp at hj, fun j hj => by simp at hj⟩
 | cons x r ih =>
  obtain ⟨hx, hr⟩ := List.pairwise_cons.1 h
  obtain ⟨i1, i2⟩ := ih hr
  by_cases hxu : x < u
  ·have hc : (x :: r).countP (· < u) = r.countP (· < u) + 1 := by rw [List.countP_cons]; simp [hxu]
   rw [hc]
   refine ⟨fun j hj hlt => ?_, fun j hj hle => ?_⟩
   ·match j with
    | 0 => simpa using hxu
    | j + 1 => simpa using i1 j (by simpa using hj) (by omega)
   ·match j with
    | 0 => omega
    | j + 1 => simpa using i2 j (by simpa using hj) (by omega)
  ·have hz : r.countP (· < u) = 0 := by
    rw [List.countP_eq_zero]
    intro y hy
    have := hx y hy
    simp; omega
   have hc : (x :: r).countP (· < u) = 0 := by rw [List.countP_cons, hz]; simp; omega
   rw [hc]
   refine ⟨fun j hj hlt => by omega, fun j hj _ => ?_⟩
   match j with
   | 0 => simp; omega
   | j + 1 =>
    have := i2 j (by simpa using hj) (by omega)
    simpa using this
theorem midReady_sorted (I : Int → List Int) (n : Nat) (out : List Int) (id : Int) (us : List Int) : (midReady I n out id us).Pairwise (· < ·) := (ids_pairwise n).filter _
theorem midReady_len (I : Int → List Int) (n : Nat) (out : List Int) (id : Int) (us : List Int) : (midReady I n out id us).length ≤ n := Nat.le_trans (List.length_filter_le _ _) (by rw [ids_length]; exact Nat.le_refl _)
theorem ready_len (I : Int → List Int) (n : Nat) (out : List Int) : (ready I n out).length ≤ n := Nat.le_trans (List.length_filter_le _ _) (by rw [ids_length]; exact Nat.le_refl _)
theorem mid_put' {I : Int → List Int} {n : Nat} {out a b : List Int} {id u : Int} (hok : Ok I n out) (hid : id ∈ ready I n out) (hu : users I n id = a ++ u :: b) (h : mid I out (a ++ [u]) u = 0) :
  midReady I n out id (a ++ [u]) = (midReady I n out id a).take ((midReady I n out id a).countP (· < u)) ++ u :: (midReady I n out id a).drop ((midReady I n out id a).countP (· < u)) := by
 obtain ⟨h1, h2⟩ := count_lt (midReady_sorted I n out id a) u
 exact mid_put hok hid hu h h1 h2 List.countP_le_length
end Kn
end Go.Proofs.YtbnnpkcfifejmabGreat
namespace Go.Proofs.YtbnnpkcfifejmabGreat
open Go.Shelf
def insRen : Go.Shelf.Ren := ⟨fun | 21 => 98 | 27 => 132 | 28 => 133 | 35 => 141 | 39 => 143 | n => n, fun | 22 => 22 | 3 => 3 | 4 => 4 | 0 => 0 | n => n, fun | n => n⟩
theorem laysIns : Go.Proofs.Lays2.n21 Tryz.prog insRen := {
 mixed := by kernel_rfl
 f21 := Tryz.func98.trans (congrArg some (by kernel_rfl))
 f27 := Tryz.func132.trans (congrArg some (by kernel_rfl))
 f28 := Tryz.func133.trans (congrArg some (by kernel_rfl))
 f35 := Tryz.func141.trans (congrArg some (by kernel_rfl))
 f39 := Tryz.func143.trans (congrArg some (by kernel_rfl))
 t0 := Tryz.underlying0
 a0 := Tryz.isAgg0
 z0 := Tryz.sizeOf0
 v0 := Tryz.zeroValue0
 t3 := Tryz.underlying3
 a3 := Tryz.isAgg3
 z3 := Tryz.sizeOf3
 v3 := Tryz.zeroValue3
 t4 := Tryz.underlying4
 a4 := Tryz.isAgg4
 z4 := Tryz.sizeOf4
 v4 := Tryz.zeroValue4
 t22 := Tryz.underlying22
 a22 := Tryz.isAgg22
 z22 := Tryz.sizeOf22
 v22 := Tryz.zeroValue22
 i3 := by kernel_rfl }
end Go.Proofs.YtbnnpkcfifejmabGreat
namespace Go.Proofs
open Go.Shelf
def Tryz.lays134_ren : Go.Shelf.Ren := ⟨fun | 134 => 139 | 129 => 142 | n => n, fun | 53 => 174 | 3 => 3 | 4 => 4 | 46 => 100 | 5 => 5 | 9 => 9 | n => n, fun | n => n⟩
theorem Tryz.lays134 : Go.Proofs.Lays.n134 Tryz.prog Tryz.lays134_ren := {
 mixed := by kernel_rfl
 f129 := Tryz.func142.trans (congrArg some (by kernel_rfl))
 f134 := Tryz.func139.trans (congrArg some (by kernel_rfl))
 t3 := Tryz.underlying3
 a3 := Tryz.isAgg3
 z3 := Tryz.sizeOf3
 v3 := Tryz.zeroValue3
 t4 := Tryz.underlying4
 a4 := Tryz.isAgg4
 z4 := Tryz.sizeOf4
 v4 := Tryz.zeroValue4
 t5 := Tryz.underlying5
 a5 := Tryz.isAgg5
 z5 := Tryz.sizeOf5
 v5 := Tryz.zeroValue5
 t9 := Tryz.underlying9
 a9 := Tryz.isAgg9
 z9 := Tryz.sizeOf9
 v9 := Tryz.zeroValue9
 t46 := Tryz.underlying100
 a46 := Tryz.isAgg100
 z46 := Tryz.sizeOf100
 v46 := Tryz.zeroValue100
 t53 := Tryz.underlying174
 a53 := Tryz.isAgg174
 z53 := Tryz.sizeOf174
 v53 := Tryz.zeroValue174 }
theorem Tryz.bits_LeadingZeros64 (x : Int) (w : World) (h0 : 0 ≤ x) (h1 : x ≤ 18446744073709551615) :
  Calls Tryz.prog 139 #[.int .u64 x] w fun e w' => e = .returned (.int .i64 (64 - (Lib.bitLen x.toNat : Int))) ∧ w' = w := Any.bits_LeadingZeros64 Tryz.lays134 x w h0 h1
def Tryz.lays215_ren : Go.Shelf.Ren := ⟨fun | 215 => 140 | n => n, fun | 3 => 3 | 4 => 4 | n => n, fun | n => n⟩
theorem Tryz.lays215 : Go.Proofs.Lays.n215 Tryz.prog Tryz.lays215_ren := {
 mixed := by kernel_rfl
 f215 := Tryz.func140.trans (congrArg some (by kernel_rfl))
 t3 := Tryz.underlying3
 a3 := Tryz.isAgg3
 z3 := Tryz.sizeOf3
 v3 := Tryz.zeroValue3
 t4 := Tryz.underlying4
 a4 := Tryz.isAgg4
 z4 := Tryz.sizeOf4
 v4 := Tryz.zeroValue4 }
open Go.RowKit in
theorem Tryz.cmp_isNaN_int (x : Int) (w : World) :
  Calls Tryz.prog 140 #[.int .i64 x] w fun e w' => e = .returned (.bool false) ∧ w' = w := Any.cmp_isNaN_int Tryz.lays215 x w
def Tryz.lays129_ren : Go.Shelf.Ren := ⟨fun | 129 => 142 | n => n, fun | 53 => 174 | 3 => 3 | 4 => 4 | 46 => 100 | 5 => 5 | 9 => 9 | n => n, fun | n => n⟩
theorem Tryz.lays129 : Go.Proofs.Lays.n129 Tryz.prog Tryz.lays129_ren := {
 mixed := by kernel_rfl
 f129 := Tryz.func142.trans (congrArg some (by kernel_rfl))
 t3 := Tryz.underlying3
 a3 := Tryz.isAgg3
 z3 := Tryz.sizeOf3
 v3 := Tryz.zeroValue3
 t4 := Tryz.underlying4
 a4 := Tryz.isAgg4
 z4 := Tryz.sizeOf4
 v4 := Tryz.zeroValue4
 t5 := Tryz.underlying5
 a5 := Tryz.isAgg5
 z5 := Tryz.sizeOf5
 v5 := Tryz.zeroValue5
 t9 := Tryz.underlying9
 a9 := Tryz.isAgg9
 z9 := Tryz.sizeOf9
 v9 := Tryz.zeroValue9
 t46 := Tryz.underlying100
 a46 := Tryz.isAgg100
 z46 := Tryz.sizeOf100
 v46 := Tryz.zeroValue100
 t53 := Tryz.underlying174
 a53 := Tryz.isAgg174
 z53 := Tryz.sizeOf174
 v53 := Tryz.zeroValue174 }
theorem Tryz.bits_Len64 (x : Int) (w : World) (h0 : 0 ≤ x) (h1 : x ≤ 18446744073709551615) :
  Calls Tryz.prog 142 #[.int .u64 x] w fun e w' => e = .returned (.int .i64 (Lib.bitLen x.toNat)) ∧ w' = w := Any.bits_Len64 Tryz.lays129 x w h0 h1
def Tryz.lays264_ren : Go.Shelf.Ren := ⟨fun | 264 => 108 | n => n, fun | 53 => 174 | 46 => 100 | n => n, fun | n => n⟩
theorem Tryz.lays264 : Go.Proofs.Lays.n264 Tryz.prog Tryz.lays264_ren := {
 mixed := by kernel_rfl
 f264 := Tryz.func108.trans (congrArg some (by kernel_rfl))
 t46 := Tryz.underlying100
 a46 := Tryz.isAgg100
 z46 := Tryz.sizeOf100
 v46 := Tryz.zeroValue100
 t53 := Tryz.underlying174
 a53 := Tryz.isAgg174
 z53 := Tryz.sizeOf174
 v53 := Tryz.zeroValue174 }
open Go.RowKit Go.Lib in
theorem Tryz.bits_Mul64 (x y : Nat) (hx : x < 18446744073709551616) (hy : y < 18446744073709551616) (w : World) :
  Calls Tryz.prog 108 #[.int .u64 x, .int .u64 y] w fun e w' => e = .returned (.tuple #[.int .u64 ((x * y / 18446744073709551616 : Nat) : Int), .int .u64 ((x * y % 18446744073709551616 : Nat) : Int)]) ∧ w' = w := Any.bits_Mul64 Tryz.lays264 x y hx hy w
def Tryz.lays112_ren : Go.Shelf.Ren := ⟨fun | 112 => 143 | n => n, fun | 28 => 22 | 3 => 3 | 4 => 4 | 0 => 0 | n => n, fun | n => n⟩
theorem Tryz.lays112 : Go.Proofs.Lays.n112 Tryz.prog Tryz.lays112_ren := {
 mixed := by kernel_rfl
 f112 := Tryz.func143.trans (congrArg some (by kernel_rfl))
 t0 := Tryz.underlying0
 a0 := Tryz.isAgg0
 z0 := Tryz.sizeOf0
 v0 := Tryz.zeroValue0
 t3 := Tryz.underlying3
 a3 := Tryz.isAgg3
 z3 := Tryz.sizeOf3
 v3 := Tryz.zeroValue3
 t4 := Tryz.underlying4
 a4 := Tryz.isAgg4
 z4 := Tryz.sizeOf4
 v4 := Tryz.zeroValue4
 t28 := Tryz.underlying22
 a28 := Tryz.isAgg22
 z28 := Tryz.sizeOf22
 v28 := Tryz.zeroValue22 }
open Go.RowKit Go.Lib Go.Sort in
theorem Tryz.slices_Reverse_int_arr (blk off cap : Nat) (d : Array Int) (w : World) (hH : Holds encI w blk off d) (hsz : d.size ≤ 9223372036854775807) :
  Calls Tryz.prog 143 #[.slice (some ⟨blk, off, none⟩) d.size cap] w fun e w' => e = .returned (.tuple #[]) ∧ ∃ n, w' = putRow encI (Sort.ahead w n) blk off d.reverse := Any.slices_Reverse_int_arr Tryz.lays112 blk off cap d w hH hsz
open Go.RowKit Go.Lib Go.Sort in
theorem Tryz.slices_Reverse_int (blk off cap : Nat) (zs : List Int) (w : World) (hH : Holds (Value.int .i64) w blk off zs.toArray) (hsz : zs.length ≤ 9223372036854775807) :
  Calls Tryz.prog 143 #[.slice (some ⟨blk, off, none⟩) zs.length cap] w fun e w' => e = .returned (.tuple #[]) ∧ ∃ n, w' = putRow (Value.int .i64) (Sort.ahead w n) blk off zs.reverse.toArray := Any.slices_Reverse_int Tryz.lays112 blk off cap zs w hH hsz
open Go.RowKit Go.Lib Go.Sort in
theorem Tryz.slices_Reverse_int_empty (a : Option Addr) (cap : Nat) (w : World) :
  Calls Tryz.prog 143 #[.slice a 0 cap] w fun e w' => e = .returned (.tuple #[]) ∧ w' = w := Any.slices_Reverse_int_empty Tryz.lays112 a cap w
def Tryz.laysNm237_ren : Go.Shelf.Ren := ⟨fun | 37 => 140 | n => n, fun | 3 => 3 | 4 => 4 | n => n, fun | n => n⟩
theorem Tryz.laysNm237 : Go.Proofs.Lays2.n37 Tryz.prog Tryz.laysNm237_ren := {
 mixed := by kernel_rfl
 f37 := Tryz.func140.trans (congrArg some (by kernel_rfl))
 t3 := Tryz.underlying3
 a3 := Tryz.isAgg3
 z3 := Tryz.sizeOf3
 v3 := Tryz.zeroValue3
 t4 := Tryz.underlying4
 a4 := Tryz.isAgg4
 z4 := Tryz.sizeOf4
 v4 := Tryz.zeroValue4 }
open Go.RowKit Go.Lib in
theorem Tryz.cmp_isNaN_int2 (x : Int) (w : World) :
  Calls Tryz.prog 140 #[.int .i64 x] w fun e w' => e = .returned (.bool false) ∧ w' = w := Any.cmp_isNaN_int2 Tryz.laysNm237 x w
def Tryz.laysNm232_ren : Go.Shelf.Ren := ⟨fun | 32 => 131 | n => n, fun | 3 => 3 | 4 => 4 | n => n, fun | n => n⟩
theorem Tryz.laysNm232 : Go.Proofs.Lays2.n32 Tryz.prog Tryz.laysNm232_ren := {
 mixed := by kernel_rfl
 f32 := Tryz.func131.trans (congrArg some (by kernel_rfl))
 t3 := Tryz.underlying3
 a3 := Tryz.isAgg3
 z3 := Tryz.sizeOf3
 v3 := Tryz.zeroValue3
 t4 := Tryz.underlying4
 a4 := Tryz.isAgg4
 z4 := Tryz.sizeOf4
 v4 := Tryz.zeroValue4 }
open Go.RowKit Go.Lib in
theorem Tryz.slices_isNaN_int2 (x : Int) (w : World) :
  Calls Tryz.prog 131 #[.int .i64 x] w fun e w' => e = .returned (.bool false) ∧ w' = w := Any.slices_isNaN_int2 Tryz.laysNm232 x w
def Tryz.laysNm231_ren : Go.Shelf.Ren := ⟨fun | 31 => 130 | 37 => 140 | n => n, fun | 3 => 3 | 4 => 4 | n => n, fun | n => n⟩
theorem Tryz.laysNm231 : Go.Proofs.Lays2.n31 Tryz.prog Tryz.laysNm231_ren := {
 mixed := by kernel_rfl
 f31 := Tryz.func130.trans (congrArg some (by kernel_rfl))
 f37 := Tryz.func140.trans (congrArg some (by kernel_rfl))
 t3 := Tryz.underlying3
 a3 := Tryz.isAgg3
 z3 := Tryz.sizeOf3
 v3 := Tryz.zeroValue3
 t4 := Tryz.underlying4
 a4 := Tryz.isAgg4
 z4 := Tryz.sizeOf4
 v4 := Tryz.zeroValue4 }
open Go.RowKit Go.Lib in
theorem Tryz.cmp_Less_int2 (x y : Int) (w : World) :
  Calls Tryz.prog 130 #[.int .i64 x, .int .i64 y] w fun e w' => e = .returned (.bool (decide (x < y))) ∧ w' = w := Any.cmp_Less_int2 Tryz.laysNm231 x y w
def Tryz.laysNm225_ren : Go.Shelf.Ren := ⟨fun | 25 => 97 | 31 => 130 | 32 => 131 | 37 => 140 | n => n, fun | 22 => 22 | 3 => 3 | 4 => 4 | 40 => 100 | 0 => 0 | n => n, fun | n => n⟩
theorem Tryz.laysNm225 : Go.Proofs.Lays2.n25 Tryz.prog Tryz.laysNm225_ren := {
 mixed := by kernel_rfl
 f25 := Tryz.func97.trans (congrArg some (by kernel_rfl))
 f31 := Tryz.func130.trans (congrArg some (by kernel_rfl))
 f32 := Tryz.func131.trans (congrArg some (by kernel_rfl))
 f37 := Tryz.func140.trans (congrArg some (by kernel_rfl))
 t0 := Tryz.underlying0
 a0 := Tryz.isAgg0
 z0 := Tryz.sizeOf0
 v0 := Tryz.zeroValue0
 t3 := Tryz.underlying3
 a3 := Tryz.isAgg3
 z3 := Tryz.sizeOf3
 v3 := Tryz.zeroValue3
 t4 := Tryz.underlying4
 a4 := Tryz.isAgg4
 z4 := Tryz.sizeOf4
 v4 := Tryz.zeroValue4
 t22 := Tryz.underlying22
 a22 := Tryz.isAgg22
 z22 := Tryz.sizeOf22
 v22 := Tryz.zeroValue22
 t40 := Tryz.underlying100
 a40 := Tryz.isAgg100
 z40 := Tryz.sizeOf100
 v40 := Tryz.zeroValue100 }
open Go.RowKit Go.Lib in
theorem Tryz.slices_BinarySearch_int (b off n c : Nat) (zs : List Int) (x : Int) (w : World) (hz : n ≤ zs.length) (hbig : n < 4611686018427387904) (hc : ∀ j, j < zs.length → w.cell? ⟨b, off + j, none⟩ = some (.int .i64 (zs.getD j 0))) (hs : (zs.take n).Pairwise (· ≤ ·)) :
  Calls Tryz.prog 97 #[.slice (some ⟨b, off, none⟩) n c, .int .i64 x] w fun e w' => e = .returned (.tuple #[.int .i64 ((zs.take n).countP (· < x) : Nat), .bool ((zs.take n).contains x)]) ∧ ∃ q, w' = w.drewN q := Any.slices_BinarySearch_int Tryz.laysNm225 b off n c zs x w hz hbig hc hs
def Tryz.laysNm223_ren : Go.Shelf.Ren := ⟨fun | 23 => 96 | n => n, fun | 22 => 22 | 3 => 3 | 4 => 4 | 0 => 0 | n => n, fun | n => n⟩
theorem Tryz.laysNm223 : Go.Proofs.Lays2.n23 Tryz.prog Tryz.laysNm223_ren := {
 mixed := by kernel_rfl
 f23 := Tryz.func96.trans (congrArg some (by kernel_rfl))
 t0 := Tryz.underlying0
 a0 := Tryz.isAgg0
 z0 := Tryz.sizeOf0
 v0 := Tryz.zeroValue0
 t3 := Tryz.underlying3
 a3 := Tryz.isAgg3
 z3 := Tryz.sizeOf3
 v3 := Tryz.zeroValue3
 t4 := Tryz.underlying4
 a4 := Tryz.isAgg4
 z4 := Tryz.sizeOf4
 v4 := Tryz.zeroValue4
 t22 := Tryz.underlying22
 a22 := Tryz.isAgg22
 z22 := Tryz.sizeOf22
 v22 := Tryz.zeroValue22
 i3 := by kernel_rfl }
open Go.RowKit Go.Lib Go.Sort in
theorem Tryz.slices_Delete_int_arr (blk off cap i j : Nat) (d : Array Int) (w : World) (hH : Holds encI w blk off d) (hcap : d.size ≤ cap) (hm : cap ≤ 9223372036854775807) (hij : i ≤ j) (hj : j ≤ d.size) :
  Calls Tryz.prog 96 #[.slice (some ⟨blk, off, none⟩) d.size cap, .int .i64 i, .int .i64 j] w fun e w' => e = .returned (.slice (some ⟨blk, off, none⟩) (d.size - (j - i)) cap) ∧ ∃ q, w' = putRow encI (Sort.ahead w q) blk off (d.toList.take i ++ d.toList.drop j ++ List.replicate (j - i) 0).toArray := Any.slices_Delete_int_arr Tryz.laysNm223 blk off cap i j d w hH hcap hm hij hj
open Go.RowKit Go.Lib Go.Sort in
theorem Tryz.slices_Delete_int (blk off cap i j : Nat) (zs : List Int) (w : World) (hH : Holds (Value.int .i64) w blk off zs.toArray) (hcap : zs.length ≤ cap) (hm : cap ≤ 9223372036854775807) (hij : i ≤ j) (hj : j ≤ zs.length) :
  Calls Tryz.prog 96 #[.slice (some ⟨blk, off, none⟩) zs.length cap, .int .i64 i, .int .i64 j] w fun e w' => e = .returned (.slice (some ⟨blk, off, none⟩) (zs.length - (j - i)) cap) ∧ ∃ q, w' = putRow (Value.int .i64) (Sort.ahead w q) blk off (zs.take i ++ zs.drop j ++ List.replicate (j - i) 0).toArray := Any.slices_Delete_int Tryz.laysNm223 blk off cap i j zs w hH hcap hm hij hj
open Go.RowKit Go.Lib Go.Sort in
theorem Tryz.slices_Reverse_int_cells (b off n c : Nat) (zs : List Int) (w : World) (hz : n ≤ zs.length) (hbig : n ≤ 9223372036854775807) (hc : ∀ j, j < zs.length → w.cell? ⟨b, off + j, none⟩ = some (.int .i64 (zs.getD j 0))) (hf : ∀ j, j < n → w.frozen? ⟨b, off + j, none⟩ = false) :
  Calls Tryz.prog 143 #[.slice (some ⟨b, off, none⟩) n c] w fun e w' => e = .returned (.tuple #[]) ∧ ∃ q, w' = (w.drewN q).setCells b off ((zs.take n).reverse.map (Value.int .i64)) := Any.slices_Reverse_int_cells Tryz.lays112 b off n c zs w hz hbig hc hf
open Go.RowKit Go.Lib Go.Sort in
theorem Tryz.slices_Delete_int_cells (b off n c i j : Nat) (zs : List Int) (w : World) (hz : n ≤ zs.length) (hcap : n ≤ c) (hm : c ≤ 9223372036854775807) (hij : i ≤ j) (hj : j ≤ n) (hc : ∀ j, j < zs.length → w.cell? ⟨b, off + j, none⟩ = some (.int .i64 (zs.getD j 0))) (hf : ∀ j, j < n → w.frozen? ⟨b, off + j, none⟩ = false) :
  Calls Tryz.prog 96 #[.slice (some ⟨b, off, none⟩) n c, .int .i64 i, .int .i64 j] w fun e w' => e = .returned (.slice (some ⟨b, off, none⟩) (n - (j - i)) c) ∧ ∃ q, w' = (w.drewN q).setCells b off (((zs.take n).take i ++ (zs.take n).drop j ++ List.replicate (j - i) 0).map (Value.int .i64)) := Any.slices_Delete_int_cells Tryz.laysNm223 b off n c i j zs w hz hcap hm hij hj hc hf
open Go.RowKit Go.Lib in
theorem Tryz.slices_BinarySearch_int_empty (a : Option Addr) (c : Nat) (x : Int) (w : World) :
  Calls Tryz.prog 97 #[.slice a 0 c, .int .i64 x] w fun e w' => e = .returned (.tuple #[.int .i64 0, .bool false]) ∧ w' = w := Any.slices_BinarySearch_int_empty Tryz.laysNm225 a c x w
open Go.RowKit Go.Lib in
theorem Tryz.slices_Delete_int_empty (a : Option Addr) (c : Nat) (w : World) :
  Calls Tryz.prog 96 #[.slice a 0 c, .int .i64 0, .int .i64 0] w fun e w' => e = .returned (.slice a 0 c) ∧ w' = w := Any.slices_Delete_int_empty Tryz.laysNm223 a c w
end Go.Proofs
namespace Go.Proofs.YtbnnpkcfifejmabGreat
open Go.RowKit
theorem splice_cons {L : List Value} {o : Nat} {v : Value} {r : List Value} (h : o + (v :: r).length ≤ L.length) : splice (L.set o v) (o + 1) r = splice L o (v :: r) := by
 simp only [List.length_cons] at h
 unfold splice
 have e1 : (L.set o v).take (o + 1) = L.take o ++ [v] := by
  rw [List.take_succ_eq_append_getElem (by simp; omega), List.take_set_of_le (Nat.le_refl _)]
  simp
 rw [e1, List.drop_set_of_lt (by omega)]
 simp [Nat.add_assoc, Nat.add_comm 1]
theorem setCells_blk {g : Nat} {t : TypeId} : ∀ (vs : List Value) (o : Nat) (w : World) (L : List Value), Blk w g t L.toArray → o + vs.length ≤ L.length → Blk (w.setCells g o vs) g t (splice L o vs).toArray
 | [], o, w, L, h, _ => by rw [splice_zero]; exact h
 | v :: r, o, w, L, h, hl => by
  rw [← splice_cons hl]
  refine setCells_blk r (o + 1) _ _ ?_ (by simp at hl ⊢; omega)
  have := h.set_ o v
  simpa using this
theorem setCells_fr {S : Nat → Prop} {g : Nat} (hg : S g) : ∀ (vs : List Value) (o : Nat) (w0 w : World), Fr S w0 w → Fr S w0 (w.setCells g o vs)
 | [], _, _, _, h => h
 | v :: r, o, w0, w, h => setCells_fr hg r (o + 1) w0 _ (h.setCell (fun _ => hg) v)
theorem fr_new {S : Nat → Prop} {w w1 : World} (h : Fr S w w1) : ∀ (vs : List Value) (o : Nat), Fr S w (w1.setCells w.heap.size o vs)
 | [], _ => h
 | v :: r, o => fr_new (h.setCell (p := ⟨w.heap.size, o, none⟩) (fun q => absurd q (Nat.lt_irrefl _)) v) r (o + 1)
theorem Blk.shape {w : World} {g : Nat} {t : TypeId} {cs : Array Value} (h : Blk w g t cs) : w.shape? g = some (t, cs.size) := by
 unfold Blk at h
 simp [World.shape?, h]
theorem Blk.own {w : World} {B g n : Nat} {t : TypeId} {L : List Value} {xs : List Value} (h : Blk w g t L.toArray) (hB : B ≤ g) (hn : xs.length = n) (hl : n ≤ L.length) (hm : L.length ≤ maxLen) (ht : L.take n = xs) {c : Nat} (hc : c = L.length) :
  w.ownsRow B t 1 (.slice (some ⟨g, 0, none⟩) n c) n xs := by
 subst hc
 exact ⟨by omega, .inr ⟨g, _, _, rfl, hB, h, hl, hm, by simp, by simpa using ht⟩⟩
def OwnPost (B : Nat) (t : TypeId) (v : Value) (zs : List Int) (w : World) (e : Ending) (w' : World) : Prop :=
 ∃ v', e = .returned v' ∧ w'.ownsRow B t 1 v' zs.length (zs.map (Value.int .i64)) ∧ Fr (fun b => v.ownBlock = some b) w w' ∧ (v'.ownBlock = v.ownBlock ∨ v'.ownBlock = some w.heap.size)
theorem spl_mid (A X Y B : List Value) (h : X.length = Y.length) : splice (A ++ (X ++ B)) A.length Y = A ++ (Y ++ B) := by
 unfold splice
 rw [List.take_append_of_le_length (Nat.le_refl _), List.take_length, ← h, ← List.length_append, ← List.append_assoc A X B, List.drop_left]
theorem ins_a {Z D : List Value} {x : Value} {i : Nat} (hi : i < Z.length) (hD : 1 ≤ D.length) : splice (splice (Z ++ D) (i + 1) (Z.drop i)) i [x] = Z.take i ++ x :: Z.drop i ++ D.drop 1 := by
 obtain ⟨d, D', rfl⟩ : ∃ d D', D = d :: D' := by cases D with | nil => simp at hD | cons d D' => exact ⟨d, D', rfl⟩
 obtain ⟨A, b, B, rfl, rfl⟩ : ∃ A b B, Z = A ++ b :: B ∧ i = A.length := ⟨Z.take i, Z[i], Z.drop (i + 1), by rw [← List.drop_eq_getElem_cons hi, List.take_append_drop], by simp; omega⟩
 rw [List.drop_left, List.take_left]
 have e1 : A ++ b :: B ++ d :: D' = (A ++ [b]) ++ ((B ++ [d]) ++ D') := by simp
 have e2 : A.length + 1 = (A ++ [b]).length := by simp
 rw [e1, e2, spl_mid _ _ (b :: B) _ (by simp)]
 have e3 : A ++ [b] ++ (b :: B ++ D') = A ++ ([b] ++ (b :: B ++ D')) := by simp
 rw [e3, spl_mid _ [b] [x] _ rfl]
 simp
theorem ins_b {Z Z1 Z2 : List Value} {x : Value} {i : Nat} (hi : i < Z.length) (h1 : Z1.length = Z.length + 1 - i) : splice (splice (Z.take i ++ Z1 ++ Z2) i [x]) (i + 1) (Z.drop i) = Z.take i ++ x :: Z.drop i ++ Z2 := by
 obtain ⟨d, D, rfl⟩ : ∃ d D, Z1 = d :: D := by cases Z1 with | nil => simp at h1; omega | cons d D => exact ⟨d, D, rfl⟩
 obtain ⟨A, B, rfl, rfl⟩ : ∃ A B, Z = A ++ B ∧ i = A.length := ⟨Z.take i, Z.drop i, (List.take_append_drop _ _).symm, by simp; omega⟩
 rw [List.drop_left, List.take_left]
 have e1 : A ++ d :: D ++ Z2 = A ++ ([d] ++ (D ++ Z2)) := by simp
 rw [e1, spl_mid _ [d] [x] _ rfl]
 have e2 : A ++ ([x] ++ (D ++ Z2)) = (A ++ [x]) ++ (D ++ Z2) := by simp
 have e3 : A.length + 1 = (A ++ [x]).length := by simp
 rw [e2, e3, spl_mid _ _ B _ (by simp at h1; omega)]
 simp
theorem ins_list {zs : List Int} {x : Int} {i : Nat} (h : i ≤ zs.length) : (zs.take i ++ x :: zs.drop i).length = zs.length + 1 := by simp; omega
theorem Blk.cells_map {w : World} {g : Nat} {t : TypeId} {L xs : List Value} {n : Nat} (h : Blk w g t L.toArray) (ht : L.take n = xs) : ∀ j v, xs[j]? = some v → w.cell? ⟨g, 0 + j, none⟩ = some v := fun j v hj => by
 rw [Nat.zero_add, h.cell j]
 subst ht
 rw [List.getElem?_take] at hj
 split at hj
 ·simpa using hj
 ·cases hj
theorem one_cell' {zs : List Int} : ∀ v ∈ zs.map (Value.int .i64), v.oneCell' = true := fun v hv => by
 obtain ⟨x, _, rfl⟩ := List.mem_map.1 hv
 rfl
theorem insert_own (B : Nat) (v : Value) (zs : List Int) (x : Int) (i vb : Nat) (w : World) (hi : i ≤ zs.length) (hn : zs.length ≤ 1099511627776) (hB : B ≤ w.heap.size) (hown : w.ownsRow B 3 1 v zs.length (zs.map (Value.int .i64))) (hv : Blk w vb 3 #[.int .i64 x]) (hvb : v.ownBlock ≠ some vb) :
  Calls Tryz.prog 98 #[v, .int .i64 i, .slice (some ⟨vb, 0, none⟩) 1 1] w (OwnPost B 3 v (zs.take i ++ x :: zs.drop i) w) := by
 have hvc : ∀ j u, [Value.int .i64 x][j]? = some u → w.cell? ⟨vb, 0 + j, none⟩ = some u := fun j u hj => by
  match j, hj with
  | 0, hj => simp at hj; subst hj; rw [hv.cell]; rfl
 have h1v : ∀ u ∈ [Value.int .i64 x], u.oneCell' = true := fun u hu => by simp at hu; subst hu; rfl
 have hmax : maxLen = 9223372036854775807 := rfl
 rcases hown.2 with ⟨rfl, h0⟩ | ⟨g, cap, cur, rfl, hBg, hh, hnc, hcm, hsz, htk⟩
 ·have hz : zs = [] := List.eq_nil_of_length_eq_zero h0
  subst hz
  obtain rfl : i = 0 := by simpa using hi
  refine (Any2.slices_Insert_int_end_grow laysIns none 0 0 vb 0 1 1 [] [.int .i64 x] w (by omega) (by omega) (by omega) (by omega) rfl rfl (fun _ => rfl) (fun a h => by cases h) hvc h1v).mono ?_
  rintro e w' ⟨rfl, rfl⟩
  have hg := grownCap_ge w (0 + 1) 0 3
  have hgm := grownCap_le_maxLen w (0 + 1) 0 3 (by unfold maxLen; omega)
  refine ⟨_, rfl, ?_, ((Fr.refl _ w).drew).alloc _, .inr rfl⟩
  have hk := Blk.new w.drew 3 (([] ++ [Value.int .i64 x]).toArray ++ Builtin.zeroCells (Value.int .i64 0).cells (grownCap w (0 + 1) 0 3 - (0 + 1)))
  have hk2 : Blk (w.drew.alloc (.cells (([] ++ [Value.int .i64 x]).toArray ++ Builtin.zeroCells (Value.int .i64 0).cells (grownCap w (0 + 1) 0 3 - (0 + 1))) 3)) w.heap.size 3 (([Value.int .i64 x] ++ (Builtin.zeroCells (Value.int .i64 0).cells (grownCap w (0 + 1) 0 3 - (0 + 1))).toList).toArray) := by
   have e : (([Value.int .i64 x] ++ (Builtin.zeroCells (Value.int .i64 0).cells (grownCap w (0 + 1) 0 3 - (0 + 1))).toList).toArray) = ([] ++ [Value.int .i64 x]).toArray ++ Builtin.zeroCells (Value.int .i64 0).cells (grownCap w (0 + 1) 0 3 - (0 + 1)) := by
    apply Array.ext'
    simp
   rw [e]
   exact hk
  have hzl : (Builtin.zeroCells (Value.int .i64 0).cells (grownCap w (0 + 1) 0 3 - (0 + 1))).toList.length = grownCap w (0 + 1) 0 3 - (0 + 1) := by
   rw [Array.length_toList, size_zeroCells]; simp [Value.cells]
  exact hk2.own hB rfl (by simp) (by simp only [List.length_append, hzl, List.length_singleton]; omega) (by simp) (by simp only [List.length_append, hzl, List.length_singleton]; show grownCap w (0 + 1) 0 3 = _; omega)
 ·have hk : Blk w g 3 cur.toList.toArray := by simpa [Blk] using hh
  have hcl : cur.toList.length = cap := by simpa using hsz
  have htk' : cur.toList.take zs.length = zs.map (Value.int .i64) := by simpa using htk
  have hcs := hk.cells_map htk'
  have hgv : g ≠ vb := fun h => hvb (by rw [h]; rfl)
  have hml : (zs.map (Value.int .i64)).length = zs.length := by simp
  by_cases hroom : zs.length + 1 ≤ cap
  ·by_cases hlt : i < zs.length
   ·refine (Any2.slices_Insert_int_shift laysIns g 0 zs.length cap i vb 0 1 1 (zs.map (Value.int .i64)) [.int .i64 x] w hlt (by omega) hroom (by omega) (fun h => hgv h.symm) hml rfl hcs ?_ ?_ hvc one_cell' h1v 3 3 1 cap ?_ ?_ (by omega) ?_ ?_).mono ?_
    ·intro j hj; rw [Nat.zero_add, hk.cell]; simp; omega
    ·intro j hj; exact hk.frozen _
    ·exact hv.shape
    ·rw [hk.shape]; simp [hsz]
    ·exact hv.frozen _
    ·exact hv.frozen _
    ·rintro e w' ⟨rfl, rfl⟩
     have hd : (List.drop i (zs.map (Value.int .i64))).length = zs.length - i := by simp
     have k1 := setCells_blk ((zs.map (Value.int .i64)).drop i) (0 + (i + 1)) w.drew _ hk.drew (by rw [hd, hcl]; omega)
     have k2 := setCells_blk [Value.int .i64 x] (0 + i) _ _ k1 (by simp [splice]; omega)
     refine ⟨_, rfl, ?_, setCells_fr (by rfl) _ _ _ _ (setCells_fr (by rfl) _ _ _ _ (Fr.refl _ w).drew), .inl rfl⟩
     have hlen : (splice (splice cur.toList (0 + (i + 1)) ((zs.map (Value.int .i64)).drop i)) (0 + i) [Value.int .i64 x]).length = cap := by
      simp only [splice, List.length_append, List.length_take, List.length_drop, List.length_singleton, hd, hcl]; omega
     rw [ins_list hi]
     refine k2.own hBg (by simp; omega) (by rw [hlen]; omega) (by rw [hlen]; exact hcm) ?_ hlen.symm
     rw [Nat.zero_add, Nat.zero_add]
     have e0 : cur.toList = zs.map (Value.int .i64) ++ cur.toList.drop zs.length := by rw [← htk']; exact (List.take_append_drop _ _).symm
     rw [e0]
     generalize cur.toList.drop zs.length = D at *
     generalize hZ : zs.map (Value.int .i64) = Z at *
     have hZi : i < Z.length := by omega
     have hDl : 1 ≤ D.length := by rw [e0, List.length_append] at hcl; omega
     rw [ins_a hZi hDl]
     have : (Z.take i ++ Value.int .i64 x :: Z.drop i).length = zs.length + 1 := by simp; omega
     rw [List.take_append_of_le_length (by omega), List.take_of_length_le (by omega)]
     rw [← hZ]
     simp [List.map_take, List.map_drop]
   ·obtain rfl : i = zs.length := by omega
    refine (Any2.slices_Insert_int_end_room laysIns g 0 zs.length cap vb 0 1 1 [.int .i64 x] w (by omega) hroom (by omega) rfl ?_ ?_ hvc h1v).mono ?_
    ·intro j hj; rw [Nat.zero_add, hk.cell]; simp; omega
    ·intro j hj; exact hk.frozen _
    ·rintro e w' ⟨rfl, rfl⟩
     have k1 := setCells_blk [Value.int .i64 x] (0 + zs.length) w _ hk (by simp; omega)
     refine ⟨_, rfl, ?_, setCells_fr (by rfl) _ _ _ _ (Fr.refl _ w), .inl rfl⟩
     have hlen : (splice cur.toList (0 + zs.length) [Value.int .i64 x]).length = cap := by
      simp only [splice, List.length_append, List.length_take, List.length_drop, List.length_singleton, hcl]; omega
     rw [ins_list (Nat.le_refl _)]
     refine k1.own hBg (by simp) (by rw [hlen]; omega) (by rw [hlen]; exact hcm) ?_ hlen.symm
     rw [Nat.zero_add]
     unfold splice
     rw [htk', ← List.append_assoc]
     rw [List.take_append_of_le_length (by simp), List.take_of_length_le (by simp)]
     simp
  ·have hce : cap = zs.length := by omega
   subst hce
   have hg := grownCap_ge w (zs.length + 1) zs.length 3
   have hgm := grownCap_le_maxLen w (zs.length + 1) zs.length 3 (by unfold maxLen; omega)
   by_cases hlt : i < zs.length
   ·refine (Any2.slices_Insert_int_grow laysIns g 0 zs.length zs.length i vb 0 1 1 (zs.map (Value.int .i64)) [.int .i64 x] w hlt (by omega) (by omega) (by omega) (by omega) hml rfl hcs hvc one_cell' h1v).mono ?_
    rintro e w' ⟨rfl, rfl⟩
    have hz1 : (Builtin.zeroCells (Value.int .i64 0).cells (zs.length + 1 - i)).toList.length = zs.length + 1 - i := by rw [Array.length_toList, size_zeroCells]; simp [Value.cells]
    have hz2 : (Builtin.zeroCells (Value.int .i64 0).cells (grownCap w (zs.length + 1) zs.length 3 - (zs.length + 1))).toList.length = grownCap w (zs.length + 1) zs.length 3 - (zs.length + 1) := by rw [Array.length_toList, size_zeroCells]; simp [Value.cells]
    generalize hZ1 : Builtin.zeroCells (Value.int .i64 0).cells (zs.length + 1 - i) = Z1 at *
    have hT : insRen.t 3 = 3 := rfl
    rw [hT] at *
    generalize hZ2 : Builtin.zeroCells (Value.int .i64 0).cells (grownCap w (zs.length + 1) zs.length 3 - (zs.length + 1)) = Z2 at *
    generalize hG : grownCap w (zs.length + 1) zs.length 3 = G at *
    have hk0 : Blk (w.alloc (.cells (((zs.map (Value.int .i64)).take i).toArray ++ Z1 ++ Z2) 3)).drew w.heap.size 3 (((zs.map (Value.int .i64)).take i ++ Z1.toList ++ Z2.toList).toArray) := by
     have := Blk.new w 3 (((zs.map (Value.int .i64)).take i).toArray ++ Z1 ++ Z2)
     have e : (((zs.map (Value.int .i64)).take i ++ Z1.toList ++ Z2.toList).toArray) = ((zs.map (Value.int .i64)).take i).toArray ++ Z1 ++ Z2 := by
      apply Array.ext'
      simp
     rw [e]
     exact this.drew
    have hti : ((zs.map (Value.int .i64)).take i).length = i := by simp; omega
    have hd : ((zs.map (Value.int .i64)).drop i).length = zs.length - i := by simp
    have k1 := setCells_blk [Value.int .i64 x] i _ _ hk0 (by simp only [List.length_append, hti, hz1, hz2, List.length_singleton]; omega)
    have k2 := setCells_blk ((zs.map (Value.int .i64)).drop i) (i + 1) _ _ k1.drew (by simp only [splice, List.length_append, List.length_take, List.length_drop, List.length_singleton, hz1, hz2, List.length_map]; omega)
    refine ⟨_, rfl, ?_, ?_, .inr rfl⟩
    ·have hlen : (splice (splice ((zs.map (Value.int .i64)).take i ++ Z1.toList ++ Z2.toList) i [Value.int .i64 x]) (i + 1) ((zs.map (Value.int .i64)).drop i)).length = G := by
      simp only [splice, List.length_append, List.length_take, List.length_drop, List.length_singleton, hz1, hz2, List.length_map]; omega
     rw [ins_list hi]
     refine k2.own hB (by simp; omega) (by rw [hlen]; omega) (by rw [hlen]; exact hgm) ?_ hlen.symm
     generalize hZ : zs.map (Value.int .i64) = Z at *
     rw [ins_b (by omega) (by omega)]
     have : (Z.take i ++ Value.int .i64 x :: Z.drop i).length = zs.length + 1 := by simp; omega
     rw [List.take_append_of_le_length (by omega), List.take_of_length_le (by omega)]
     rw [← hZ]
     simp [List.map_take, List.map_drop]
    ·have f1 : Fr (fun b => (Value.slice (some ⟨g, 0, none⟩) zs.length zs.length).ownBlock = some b) w (w.alloc (.cells (((zs.map (Value.int .i64)).take i).toArray ++ Z1 ++ Z2) 3)) := (Fr.refl _ w).alloc _
     exact fr_new (fr_new f1.drew _ _).drew _ _
   ·obtain rfl : i = zs.length := by omega
    refine (Any2.slices_Insert_int_end_grow laysIns (some ⟨g, 0, none⟩) zs.length zs.length vb 0 1 1 (zs.map (Value.int .i64)) [.int .i64 x] w (by omega) (Nat.le_refl _) (by omega) (by omega) hml rfl (fun h => by cases h) (fun a h => by injection h with h; subst h; intro j u hj; have := hcs j u hj; rw [Addr.add_lit]; simpa using this) hvc h1v).mono ?_
    rintro e w' ⟨rfl, rfl⟩
    have hT : insRen.t 3 = 3 := rfl
    rw [hT] at *
    have hz2 : (Builtin.zeroCells (Value.int .i64 0).cells (grownCap w (zs.length + 1) zs.length 3 - (zs.length + 1))).toList.length = grownCap w (zs.length + 1) zs.length 3 - (zs.length + 1) := by rw [Array.length_toList, size_zeroCells]; simp [Value.cells]
    generalize hZ2 : Builtin.zeroCells (Value.int .i64 0).cells (grownCap w (zs.length + 1) zs.length 3 - (zs.length + 1)) = Z2 at *
    generalize hG : grownCap w (zs.length + 1) zs.length 3 = G at *
    refine ⟨_, rfl, ?_, ((Fr.refl _ w).drew).alloc _, .inr rfl⟩
    have hk0 : Blk (w.drew.alloc (.cells ((zs.map (Value.int .i64) ++ [Value.int .i64 x]).toArray ++ Z2) 3)) w.heap.size 3 ((zs.map (Value.int .i64) ++ [Value.int .i64 x] ++ Z2.toList).toArray) := by
     have := Blk.new w.drew 3 ((zs.map (Value.int .i64) ++ [Value.int .i64 x]).toArray ++ Z2)
     have e : ((zs.map (Value.int .i64) ++ [Value.int .i64 x] ++ Z2.toList).toArray) = (zs.map (Value.int .i64) ++ [Value.int .i64 x]).toArray ++ Z2 := by
      apply Array.ext'
      simp
     rw [e]
     exact this
    have hlen : (zs.map (Value.int .i64) ++ [Value.int .i64 x] ++ Z2.toList).length = G := by simp only [List.length_append, List.length_map, List.length_singleton, hz2]; omega
    rw [ins_list (Nat.le_refl _)]
    refine hk0.own hB (by simp) (by rw [hlen]; omega) (by rw [hlen]; exact hgm) ?_ hlen.symm
    rw [List.take_append_of_le_length (by simp), List.take_of_length_le (by simp)]
    simp
theorem delete_own (B : Nat) (v : Value) (x : Int) (zs : List Int) (w : World) (hn : (x :: zs).length ≤ 1099511627776) (hown : w.ownsRow B 3 1 v (x :: zs).length ((x :: zs).map (Value.int .i64))) :
  Calls Tryz.prog 96 #[v, .int .i64 0, .int .i64 1] w (OwnPost B 3 v zs w) := by
 have hmax : maxLen = 9223372036854775807 := rfl
 rcases hown.2 with ⟨rfl, h0⟩ | ⟨g, cap, cur, rfl, hBg, hh, hnc, hcm, hsz, htk⟩
 ·simp at h0
 ·have hk : Blk w g 3 cur.toList.toArray := by simpa [Blk] using hh
  have hcl : cur.toList.length = cap := by simpa using hsz
  have htk' : cur.toList.take (x :: zs).length = (x :: zs).map (Value.int .i64) := by simpa using htk
  have hcs := hk.cells_map htk'
  refine (Tryz.slices_Delete_int_cells g 0 (x :: zs).length cap 0 1 (x :: zs) w (Nat.le_refl _) hnc (by omega) (by omega) (by simp) ?_ ?_).mono ?_
  ·intro j hj
   refine hcs j _ ?_
   rw [List.getElem?_map, List.getElem?_eq_getElem hj, List.getD_eq_getElem?_getD, List.getElem?_eq_getElem hj]
   rfl
  ·intro j hj; exact hk.frozen _
  ·rintro e w' ⟨rfl, q, rfl⟩
   have hlist : ((((x :: zs).take (x :: zs).length).take 0 ++ ((x :: zs).take (x :: zs).length).drop 1 ++ List.replicate (1 - 0) 0).map (Value.int .i64)) = zs.map (Value.int .i64) ++ [Value.int .i64 0] := by simp
   rw [hlist]
   have k1 := setCells_blk (zs.map (Value.int .i64) ++ [Value.int .i64 0]) 0 (w.drewN q) _ (hk.drewN q) (by rw [hcl]; simp at hnc ⊢; omega)
   refine ⟨_, rfl, ?_, setCells_fr (by rfl) _ _ _ _ ((Fr.refl _ w).drewN q), .inl rfl⟩
   have hlen : (splice cur.toList 0 (zs.map (Value.int .i64) ++ [Value.int .i64 0])).length = cap := by
    simp only [splice, List.length_append, List.length_take, List.length_drop, List.length_singleton, List.length_map, hcl]; simp at hnc; omega
   refine k1.own hBg (by simp) (by rw [hlen]; simp at hnc ⊢; omega) (by rw [hlen]; exact hcm) ?_ hlen.symm
   unfold splice
   simp
theorem search_own (B : Nat) (v : Value) (x : Int) (zs : List Int) (w : World) (hn : zs.length ≤ 1099511627776) (hs : zs.Pairwise (· ≤ ·)) (hown : w.ownsRow B 3 1 v zs.length (zs.map (Value.int .i64))) :
  Calls Tryz.prog 97 #[v, .int .i64 x] w fun e w' => (∃ b, e = .returned (.tuple #[.int .i64 (zs.countP (· < x) : Nat), .bool b])) ∧ ∃ q, w' = w.drewN q := by
 rcases hown.2 with ⟨rfl, h0⟩ | ⟨g, cap, cur, rfl, hBg, hh, hnc, hcm, hsz, htk⟩
 ·have : zs = [] := List.eq_nil_of_length_eq_zero h0
  subst this
  refine (Tryz.slices_BinarySearch_int_empty none 0 x w).mono ?_
  rintro e w' ⟨rfl, rfl⟩
  exact ⟨⟨_, rfl⟩, 0, rfl⟩
 ·have hk : Blk w g 3 cur.toList.toArray := by simpa [Blk] using hh
  have htk' : cur.toList.take zs.length = zs.map (Value.int .i64) := by simpa using htk
  have hcs := hk.cells_map htk'
  refine (Tryz.slices_BinarySearch_int g 0 zs.length cap zs x w (Nat.le_refl _) (by omega) ?_ (by rw [List.take_length]; exact hs)).mono ?_
  ·intro j hj
   refine hcs j _ ?_
   rw [List.getElem?_map, List.getElem?_eq_getElem hj, List.getD_eq_getElem?_getD, List.getElem?_eq_getElem hj]
   rfl
  ·rintro e w' ⟨rfl, q, rfl⟩
   rw [List.take_length]
   exact ⟨⟨_, rfl⟩, q, rfl⟩
end Go.Proofs.YtbnnpkcfifejmabGreat
namespace Go.Proofs.YtbnnpkcfifejmabGreat
open Go.RowKit
theorem intsT_info : (Tryz.prog.info? 22).map (fun i => (i.zero, i.size, i.bytes)) = some (some (.slice none 0 0), 1, 24) := by kernel_rfl
def Two (C : Nat) (t : TypeId) (w : World) (r o : Value) (zr zo : List Int) : Prop :=
 w.ownsRow C t 1 r zr.length (zr.map (Value.int .i64)) ∧ w.ownsRow C t 1 o zo.length (zo.map (Value.int .i64)) ∧ ∀ b, r.ownBlock = some b → o.ownBlock ≠ some b
section
variable {C : Nat} {t : TypeId} {w w' : World} {r o r' o' : Value} {zr zo zr' zo' : List Int} {S : Nat → Prop}
theorem Two.fr (h : Two C t w r o zr zo) (hf : Fr S w w') (hS : ∀ b, S b → ¬ C ≤ b) : Two C t w' r o zr zo :=
 ⟨ownsRow_fr h.1 hf fun b hb hs => hS b hs (h.1.lt b hb).1, ownsRow_fr h.2.1 hf fun b hb hs => hS b hs (h.2.1.lt b hb).1, h.2.2⟩
theorem Two.new (h : Two C t w r o zr zo) (x : Obj) : Two C t (w.alloc x) r o zr zo := h.fr ((Fr.refl (fun _ => False) w).alloc x) fun _ h => h.elim
theorem Two.left (h : Two C t w r o zr zo) (hf : Fr (fun b => r.ownBlock = some b) w w') (ho : w'.ownsRow C t 1 r' zr'.length (zr'.map (Value.int .i64))) (hat : r'.ownBlock = r.ownBlock ∨ r'.ownBlock = some w.heap.size) : Two C t w' r' o zr' zo :=
 ⟨ho, ownsRow_fr h.2.1 hf fun b hb hs => h.2.2 b hs hb, fun b hb ho => by
  rcases hat with e | e
  ·exact h.2.2 b (e ▸ hb) ho
  ·rw [e] at hb; injection hb with hb; subst hb; have := (h.2.1.lt _ ho).2; omega⟩
theorem Two.right (h : Two C t w r o zr zo) (hf : Fr (fun b => o.ownBlock = some b) w w') (ho : w'.ownsRow C t 1 o' zo'.length (zo'.map (Value.int .i64))) (hat : o'.ownBlock = o.ownBlock ∨ o'.ownBlock = some w.heap.size) : Two C t w' r o' zr zo' :=
 ⟨ownsRow_fr h.1 hf fun b hb hs => h.2.2 b hb hs, ho, fun b hb ho => by
  rcases hat with e | e
  ·exact h.2.2 b hb (e ▸ ho)
  ·rw [e] at ho; injection ho with ho; subst ho; have := (h.1.lt _ hb).2; omega⟩
end
def SortPost (os : List Int) (w : World) (e : Ending) (w' : World) : Prop :=
 ∃ A c, e = .returned (.slice A os.length c) ∧ Ints .i64 w' A os ∧ os.length ≤ c ∧ c ≤ 9223372036854775807 ∧ Below w.heap.size w w'
section
variable {X : Nat → Prop} {B : Nat} {w w' : World} {g : Nat} {t e : TypeId} {us : List (List Int)}
theorem URow.at3 (h : URow X B w g t e us) {j : Nat} (hj : j < us.length) (hlt : ∀ b, X b → b < w.heap.size) :
  ∃ v, w.cell? ⟨g, j, none⟩ = some v ∧ (∀ b, v.ownBlock = some b → ¬ X b) ∧ ∀ W : World, (∀ b, b < w.heap.size → (b = g ∨ ¬ X b) → W.heap[b]? = w.heap[b]?) → w.heap.size ≤ W.heap.size →
   W.ownsRow B e 1 v us[j].length (us[j].map (Value.int .i64)) ∧
   ∀ (v' : Value) (w1 : World) (x : Int), w1.ownsRow B e 1 v' (us[j].length + 1) (us[j].map (Value.int .i64) ++ [.int .i64 x]) → W.grownBy w1 v.ownBlock → (v'.ownBlock = v.ownBlock ∨ v'.ownBlock = some W.heap.size) →
    w1.cell? ⟨g, j, none⟩ = some v ∧ w1.frozen? ⟨g, j, none⟩ = false ∧ URow X B (w1.setCell ⟨g, j, none⟩ v') g t e (us.set j (us[j] ++ [x])) := by
 obtain ⟨v, hc, ho, hx, -⟩ := h.at_ hlt hj
 refine ⟨v, hc, hx, fun W ha hs => ?_⟩
 have hW := h.agree ha
 obtain ⟨v2, hc2, ho2, hx2, hn2⟩ := hW.at_ (fun b hb => Nat.lt_of_lt_of_le (hlt b hb) hs) hj
 have hv : v2 = v := by
  have e := World.cell?_of_block (w := w) (w' := W) (a := ⟨g, j, none⟩) (ha g h.lt (.inl rfl))
  rw [hc2, hc] at e
  injection e
 subst hv
 refine ⟨ho2, fun v' w1 x h1 h2 h3 => ?_⟩
 have hgb : some g ≠ v2.ownBlock := fun q => hx2 g q.symm h.1
 have hgW : g < W.heap.size := Nat.lt_of_lt_of_le h.lt hs
 refine ⟨h2.cell hc2 hgb, ?_, hn2 v' w1 x h1 h2 h3⟩
 obtain ⟨_, vs, _, hk, _⟩ := hW
 exact (hk.grown h2 hgb).frozen j
theorem URow.shut (h : URow (fun b => b < B) B w g t e us) : URow (fun b => b < B ∨ w.heap.size ≤ b) B w g t e us := by
 obtain ⟨hg, vs, hl, hk, ho, hx, hd⟩ := h
 refine ⟨.inl hg, vs, hl, hk, ho, fun j v b hv hb => ?_, hd⟩
 have h1 : ¬ b < B := hx j v b hv hb
 have hj : j < us.length := by rw [← hl]; exact (List.getElem?_eq_some_iff.1 hv).1
 have h2 := ((ho j hj v hv).lt b hb).2
 omega
def SInv (tN : TypeId) (box : Array Value) (B C g2 : Nat) (tL tI : TypeId) (ws : List Int) (us : List (List Int)) (w wr : World) : Prop :=
 Blk wr w.heap.size tN box ∧ Below w.heap.size w wr ∧ C ≤ wr.heap.size ∧ Blk wr (w.heap.size + 1) tI (ws.map (Value.int .i64)).toArray ∧ URow (fun b => b < B ∨ C ≤ b) B wr g2 tL tI us
section
variable {tN : TypeId} {box : Array Value} {C g2 : Nat} {tL tI : TypeId} {ws : List Int} {wr wr' : World} {S : Nat → Prop}
theorem SInv.fr (h : SInv tN box B C g2 tL tI ws us w wr) (hf : Fr S wr wr') (hS : ∀ b, S b → C ≤ b) (h1 : w.heap.size + 1 < B) (h2 : B ≤ C) (h3 : g2 < B) : SInv tN box B C g2 tL tI ws us w wr' := by
 obtain ⟨a1, a2, a3, a4, a5⟩ := h
 have hn : ∀ b, b < C → ¬ S b := fun b hb hs => by have := hS b hs; omega
 refine ⟨hf.blk a1 (hn _ (by omega)), a2.trans (hf.below (fun b hb => by have := hS b hb; omega) a2.size), Nat.le_trans a3 hf.size, hf.blk a4 (hn _ (by omega)), a5.agree fun b hb ho => hf.2 b hb (hn b ?_)⟩
 rcases ho with rfl | ho
 ·omega
 ·omega
theorem SInv.wait (h : SInv tN box B C g2 tL tI ws us w wr) (u : Nat) (z : Int) (h1 : w.heap.size + 1 < B) (h2 : B ≤ C) (h3 : g2 ≠ w.heap.size + 1) : SInv tN box B C g2 tL tI (ws.set u z) us w (wr.setCell ⟨w.heap.size + 1, u, none⟩ (.int .i64 z)) := by
 obtain ⟨a1, a2, a3, a4, a5⟩ := h
 refine ⟨a1.far (by simp) _, a2.setCell (p := ⟨w.heap.size + 1, u, none⟩) (by simp) _, by simpa using a3, ?_, a5.agree fun b hb ho => Below.heap_setCell wr _ _ b ?_⟩
 ·have := a4.set_ u (.int .i64 z)
  simpa [List.map_set] using this
 ·rcases ho with rfl | ho
  ·exact h3
  ·simp; omega
theorem SInv.read (h : SInv tN box B C g2 tL tI ws us w wr) {j : Nat} (hj : j < us.length) : ∃ A c, wr.cell? ⟨g2, j, none⟩ = some (.slice A us[j].length c) ∧ Ints .i64 wr A us[j] ∧ ∀ a, A = some a → B ≤ a.block ∧ a.block < C := by
 obtain ⟨a1, a2, a3, a4, hg, vs, hl, hk, ho, hx, hd⟩ := h
 have hv : vs[j]? = some vs[j] := List.getElem?_eq_getElem (by omega)
 obtain ⟨A, c, e, _, hI⟩ := Ints.of_own (ho j hj _ hv)
 refine ⟨A, c, by rw [hk.cell j]; simpa [e] using hv, hI, fun a ha => ?_⟩
 subst ha
 rcases (ho j hj _ hv).2 with ⟨h1, _⟩ | ⟨g, cap, cur, h1, h2, _⟩
 ·rw [h1] at e; cases e
 ·rw [e] at h1
  injection h1 with h1
  injection h1 with h1
  subst h1
  have := hx j _ g hv (by rw [e]; rfl)
  exact ⟨h2, by simp at this; simp; omega⟩
end
end
theorem Kn.mid_le (I : Int → List Int) (out a : List Int) (u : Int) : Kn.mid I out a u ≤ (I u).length := by
 unfold Kn.mid Kn.wt
 have := List.length_filter_le (fun i => !(i == 0) && !out.contains i) (I u)
 omega
def slen : Value → Nat
 | .slice _ n _ => n
 | _ => 0
set_option maxRecDepth 20000 in
set_option maxHeartbeats 16000000 in
theorem net_sorted (A N : Option Addr) (c d : Nat) (n : NetD) (w : World) (hok : n.ok) (h512 : n.nodes.length ≤ 512) (hR : NetR w A N n) (hd : n.nodes.length ≤ d) (hins : ∀ v ∈ n.nodes, ∀ i ∈ v.ins, 0 ≤ i ∧ i ≤ n.nodes.length) :
  Calls Tryz.prog 53 #[.agg #[.slice A n.inn.length c, .slice N n.nodes.length d]] w (SortPost (Nt.sorted n.nodes) w) := by
 obtain ⟨i0, hi, hz0, hz1, hz2⟩ := info_parts int_info
 obtain ⟨i1, hj, hy0, hy1, hy2⟩ := info_parts intsT_info
 have hokn := hok.2.2
 have hIlen : ∀ u, (Nt.insF n.nodes u).length ≤ 1048576 := fun u => by
  unfold Nt.insF Nt.node
  rw [List.getD_eq_getElem?_getD]
  cases h : n.nodes[u.toNat - 1]? with
  | none => simp [Nt.none_]
  | some v => exact (hokn v (List.mem_of_getElem? h)).2.2.1
 have hIat : ∀ k (h : k < n.nodes.length), Nt.insF n.nodes ((k : Int) + 1) = n.nodes[k].ins := fun k h => by unfold Nt.insF; rw [Nt.node_at h]
 have hsort : Nt.sorted n.nodes = Kn.order (Nt.insF n.nodes) n.nodes.length := rfl
 generalize Nt.insF n.nodes = I at *
 generalize Nt.sorted n.nodes = os at *
 have hk0 := Blk.new w 26 #[.slice A n.inn.length c, .slice N n.nodes.length d]
 have hb0 : Below w.heap.size w (w.alloc (.cells #[.slice A n.inn.length c, .slice N n.nodes.length d] 26)) := (Below.refl _ _).alloc (Nat.le_refl _) _
 have HR := Lib.hid hR
 have Hins := Lib.hid hins
 have Hokn := Lib.hid hokn
 have HIlen := Lib.hid hIlen
 have HIat := Lib.hid hIat
 have Hsort := Lib.hid hsort
 clear hR hins hokn hIlen hIat hsort
 clear hok
 have e1 : IntKind.i64.wrap ((n.nodes.length : Int) + 1) = ((n.nodes.length + 1 : Nat) : Int) := by rw [IntWalk.i64_in _ (by omega)]; omega
 go_enter Tryz.func53, Tryz.ntmps53
 go_wp2_with (at_make; refine wpList_make_full _ rfl _ _ 22 rfl w.heap.size 3 i0 (.int .i64 0) 1 Tryz.underlying22 hi hz0 hz1 _ _ _ _ (n.nodes.length + 1) rfl rfl (by first | rfl | simp | (go_simp; rfl)) (by first | rfl | simp | (go_simp; rfl)) ?b2 ?b3 ?b4 ?_)
 case b2 => rw [hz2]; omega
 case b3 => unfold maxLen; omega
 case b4 => simp
 intro w1 hown hgrow
 have hblk := own_cur hown
 rw [made_one] at hblk
 have hs1 : w.heap.size + 2 ≤ w1.heap.size := by have := lt_of_block hblk; omega
 have hk1 : Blk w1 (w.heap.size + 1) 3 ((Kn.wl I n.nodes.length 0 []).map (Value.int .i64)).toArray := by
  rw [Kn.wl_zero, List.map_replicate]
  simpa [Blk] using hblk
 have hb1 : Below w.heap.size w w1 := hb0.grown hgrow (by simp) (by simp)
 have hbox : Blk w1 w.heap.size 26 #[.slice A n.inn.length c, .slice N n.nodes.length d] := hk0.grown hgrow (by simp)
 have x1 : w1.cell? ⟨w.heap.size, 1, none⟩ = some (.slice N n.nodes.length d) := by rw [hbox.cell]; rfl
 have Hbox := Lib.hid hbox
 have Hk1 := Lib.hid hk1
 clear hbox hk1
 clear hblk hown hgrow hk0
 go_wp2_with (at_make; refine wpList_make_full _ rfl _ _ 52 rfl w.heap.size 22 i1 (.slice none 0 0) 1 Tryz.underlying52 hj hy0 hy1 _ _ _ _ (n.nodes.length + 1) rfl rfl (by first | rfl | simp | (go_simp; rfl)) (by first | rfl | simp | (go_simp; rfl)) ?b2 ?b3 ?b4 ?_)
 case b2 => rw [hy2]; omega
 case b3 => unfold maxLen; omega
 case b4 => exact hb1.size
 intro w2 hown hgrow
 have hblk := own_cur hown
 rw [made_one] at hblk
 obtain ⟨g2, hg2⟩ : ∃ g2, w1.heap.size = g2 := ⟨_, rfl⟩
 have hb2 : Below w.heap.size w w2 := hb1.grown hgrow hb1.size (by simp)
 have hbox2 := Hbox.out.grown hgrow (by simp)
 have hk2 := Hk1.out.grown hgrow (by simp)
 have x1 : w2.cell? ⟨w.heap.size, 1, none⟩ = some (.slice N n.nodes.length d) := by rw [hbox2.cell]; rfl
 have hblk2 : Blk w2 g2 22 (List.replicate (n.nodes.length + 1) (Value.slice none 0 0)).toArray := by rw [← hg2]; simpa [Blk] using hblk
 have hU : URow (fun b => b < w2.heap.size) w2.heap.size w2 g2 22 3 (Kn.ul I n.nodes.length 0 []) := by rw [Kn.ul_zero]; exact URow.new hblk2.lt hblk2
 have hg2l : g2 < w2.heap.size := hblk2.lt
 have hg12 : w.heap.size + 1 < g2 := by omega
 rw [hg2]
 have Hbox2 := Lib.hid hbox2
 have Hk2 := Lib.hid hk2
 have HU := Lib.hid hU
 clear hbox2 hk2 hU
 clear hblk hown hgrow Hbox Hk1 hblk2 hb1
 obtain ⟨B, hB⟩ : ∃ B, w2.heap.size = B := ⟨_, rfl⟩
 rw [hB] at HU hg2l
 go_wp2_with fail
 clear x1
 have hne1 : ¬ g2 = w.heap.size + 1 := by omega
 have hne2 : ¬ w.heap.size + 1 = g2 := by omega
 have hne3 : ¬ w.heap.size = g2 := by omega
 have hne4 : ¬ g2 = w.heap.size := by omega
 go_loopw [30] (fun i wr => ∃ k : Nat, k ≤ n.nodes.length ∧ i = .int .i64 k ∧ Blk wr w.heap.size 26 #[.slice A n.inn.length c, .slice N n.nodes.length d] ∧ Below w.heap.size w wr ∧ B ≤ wr.heap.size ∧ Blk wr (w.heap.size + 1) 3 ((Kn.wl I n.nodes.length k []).map (Value.int .i64)).toArray ∧ URow (fun b => b < B) B wr g2 22 3 (Kn.ul I n.nodes.length k [])) (fun i _ => n.nodes.length - (intOf i).toNat)
 case atStart => exact ⟨0, Nat.zero_le _, rfl, Hbox2.out, hb2, by omega, Hk2.out, HU.out⟩
 case round =>
  obtain ⟨k, hk, rfl, hbox, hbw, hBw, hkw, hU⟩ := hrel
  clear Hbox2 Hk2 HU hb2 hg2 hB
  by_cases hlt : k < n.nodes.length
  ·
   obtain ⟨b, off, S, sc, J, ic, Q, qc, rfl, hNA, -, hI, -⟩ := HR.out.2.at_ hlt
   have hnok := Hokn.out _ (List.getElem_mem hlt)
   have hin := Hins.out _ (List.getElem_mem hlt)
   have hIk := HIat.out k hlt
   have hil := hnok.2.2.1
   generalize n.nodes[k] = v at *
   obtain ⟨⟨y0, y1, y2, y3, y4, y5, y6, y7, y8, y9⟩, -⟩ := hNA.below hbw
   have hb3 := hbw.alloc hbw.size (.cells #[.int .i64 v.op.kind, .int .i64 v.op.k, .int .i64 v.op.width, .int .i64 v.op.step, .int .i64 v.op.side, .int .i64 v.op.frm, .int .i64 v.op.to, .slice S v.op.s.length sc, .slice J v.ins.length ic, .slice Q v.p.length qc] 47)
   have hbox3 := hbox.alloc (.cells #[.int .i64 v.op.kind, .int .i64 v.op.k, .int .i64 v.op.width, .int .i64 v.op.step, .int .i64 v.op.side, .int .i64 v.op.frm, .int .i64 v.op.to, .slice S v.op.s.length sc, .slice J v.ins.length ic, .slice Q v.p.length qc] 47)
   have hkw3 := hkw.alloc (.cells #[.int .i64 v.op.kind, .int .i64 v.op.k, .int .i64 v.op.width, .int .i64 v.op.step, .int .i64 v.op.side, .int .i64 v.op.frm, .int .i64 v.op.to, .slice S v.op.s.length sc, .slice J v.ins.length ic, .slice Q v.p.length qc] 47)
   have hU3 := hU.agree (w' := wr.alloc (.cells #[.int .i64 v.op.kind, .int .i64 v.op.k, .int .i64 v.op.width, .int .i64 v.op.step, .int .i64 v.op.side, .int .i64 v.op.frm, .int .i64 v.op.to, .slice S v.op.s.length sc, .slice J v.ins.length ic, .slice Q v.p.length qc] 47)) (fun b hb _ => Below.heap_alloc wr _ b hb)
   have HNA := Lib.hid hNA
   have Hnok := Lib.hid hnok
   have Hin := Lib.hid hin
   have Hbox := Lib.hid hbox
   have Hkw := Lib.hid hkw
   have HU := Lib.hid hU
   have Hbox3 := Lib.hid hbox3
   have Hkw3 := Lib.hid hkw3
   have HU3 := Lib.hid hU3
   have HIk := Lib.hid hIk
   clear hNA hnok hin hbox hkw hU hbox3 hkw3 hU3 hIk
   go_wp2_with fail
   clear y0 y1 y2 y3 y4 y5 y6 y7 y8 y9
   go_loopw [38] (fun i wx => ∃ m : Nat, m ≤ v.ins.length ∧ i = .int .i64 m ∧ Blk wx w.heap.size 26 #[.slice A n.inn.length c, .slice (some ⟨b, off, none⟩) n.nodes.length d] ∧ Below w.heap.size w wx ∧ B ≤ wx.heap.size ∧ Blk wx (w.heap.size + 1) 3 ((Kn.wl I n.nodes.length k (v.ins.take m)).map (Value.int .i64)).toArray ∧ URow (fun b => b < B) B wx g2 22 3 (Kn.ul I n.nodes.length k (v.ins.take m))) (fun i _ => v.ins.length - (intOf i).toNat)
   case atStart => exact ⟨0, Nat.zero_le _, rfl, Hbox3.out, hb3, by simp; omega, by rw [List.take_zero]; exact Hkw3.out, by rw [List.take_zero]; exact HU3.out⟩
   case round =>
    obtain ⟨m, hm, rfl, hbox, hbx, hBx, hkx, hUx⟩ := hrel
    clear Hbox Hkw HU Hbox3 Hkw3 HU3 hbw hb3 hBw
    by_cases hlm : m < v.ins.length
    ·obtain ⟨b1, off1, rfl, -, hc⟩ := (HNA.out.below hbx).2.2.1 m hlm
     rw [getD_at hlm] at hc
     have hr := Hin.out _ (List.getElem_mem hlm)
     have htk := List.take_succ_eq_append_getElem hlm
     by_cases hz : v.ins[m] = 0
     ·rw [hz] at hc htk
      have HW := Lib.hid (show Kn.wl I n.nodes.length k (v.ins.take (m + 1)) = Kn.wl I n.nodes.length k (v.ins.take m) by rw [htk, Kn.wl_skip])
      have HV := Lib.hid (show Kn.ul I n.nodes.length k (v.ins.take (m + 1)) = Kn.ul I n.nodes.length k (v.ins.take m) by rw [htk, Kn.ul_skip])
      have Hkx := Lib.hid hkx
      have HUx := Lib.hid hUx
      have Hbox := Lib.hid hbox
      clear hkx hUx hbox
      clear hz htk hr
      go_wp2_with fail
      go_roundw
      case rel => exact ⟨m + 1, by omega, by go_num, Hbox.out, hbx, hBx, by rw [HW.out]; exact Hkx.out, by rw [HV.out]; exact HUx.out⟩
      case measure => simp [intOf]; omega
     ·have HW := Lib.hid (show Kn.wl I n.nodes.length k (v.ins.take (m + 1)) = _ by rw [htk, Kn.wl_in _ _ _ _ hz])
      have hul := Kn.ul_in I n.nodes.length k (v.ins.take m) hz hr.1
      rw [← htk] at hul
      obtain ⟨u, hu⟩ : ∃ u : Nat, v.ins[m] = u := ⟨v.ins[m].toNat, by omega⟩
      have hun : ((u : Int) != 0) = true := by rw [← hu]; simp [hz]
      rw [hu] at hc hr hul
      rw [show ((u : Int)).toNat = u by omega] at hul
      have hlu : u < (Kn.ul I n.nodes.length k (v.ins.take m)).length := by rw [Kn.ul_len]; omega
      have hua := Kn.ul_at I n.nodes.length k (v.ins.take m) hlu
      rw [← hua] at hul
      have HV := Lib.hid hul
      have hlen : (Kn.ul I n.nodes.length k (v.ins.take m))[u].length ≤ (k + 1) * 1048576 := by rw [hua]; exact Kn.uMid_le HIlen.out k (by simp; omega) _
      have hlen2 : (k + 1) * 1048576 ≤ 536870912 := by
       have : (k + 1) * 1048576 ≤ 512 * 1048576 := Nat.mul_le_mul_right _ (by omega)
       omega
      have hwb := Kn.wMid_le HIlen.out k (l := v.ins.take m) (by simp; omega) ((k : Int) + 1)
      obtain ⟨q, hq⟩ : ∃ q, Kn.wMid I k (v.ins.take m) ((k : Int) + 1) = q := ⟨_, rfl⟩
      rw [hq] at hwb HW
      have hcw : wr.cell? ⟨w.heap.size + 1, k + 1, none⟩ = some (.int .i64 (q : Int)) := by
       have e := Kn.wl_at I n.nodes.length k (v.ins.take m) (u := k + 1) (by omega)
       rw [hkx.cell]
       simp only [List.getElem?_toArray, List.getElem?_map, e]
       rw [show ((k + 1 : Nat) : Int) = (k : Int) + 1 by omega, hq]
       rfl
      have hfw := hkx.frozen (k + 1)
      obtain ⟨vv, hcv, hXv, hnx⟩ := hUx.at3 hlu (fun b hb => by omega)
      have hxw : wr.heap.size ≤ ((wr.setCell ⟨w.heap.size + 1, k + 1, none⟩ (.int .i64 ((q : Int) + 1))).alloc (.cells #[.int .i64 ((k : Int) + 1)] 3)).heap.size := by simp
      obtain ⟨ho, hnx⟩ := hnx ((wr.setCell ⟨w.heap.size + 1, k + 1, none⟩ (.int .i64 ((q : Int) + 1))).alloc (.cells #[.int .i64 ((k : Int) + 1)] 3)) (fun b hb hb2 => by
       rw [Below.heap_alloc _ _ b (by simpa using hb)]
       exact Below.heap_setCell wr _ _ b (by rcases hb2 with h | h <;> simp <;> omega)) hxw
      generalize (Kn.ul I n.nodes.length k (v.ins.take m))[u] = uu at *
      obtain ⟨Av, cv, rfl⟩ := own_form ho
      have hvlt : ∀ b, (Value.slice Av uu.length cv).ownBlock = some b → B ≤ b := fun b hb => by have := hXv b hb; omega
      have w1 : IntKind.i64.wrap ((k : Int) + 1) = (k : Int) + 1 := IntWalk.i64_in _ (by omega)
      have w2 : IntKind.i64.wrap ((q : Int) + 1) = (q : Int) + 1 := IntWalk.i64_in _ (by omega)
      have t1 : ((k : Int) + 1).toNat = k + 1 := by omega
      have l1 : ((k : Int) + 1) < ((n.nodes.length + 1 : Nat) : Int) := by omega
      have l2 : (u : Int) < ((n.nodes.length + 1 : Nat) : Int) := by omega
      have u0 : (0 : Int) ≤ u := by omega
      have Hkx := Lib.hid hkx
      have HUx := Lib.hid hUx
      have Hbox := Lib.hid hbox
      have Hnx := Lib.hid hnx
      have Hua := Lib.hid hua
      have Hul := Lib.hid hul
      have HXv := Lib.hid hXv
      have Hq := Lib.hid hq
      have Hvlt := Lib.hid hvlt
      clear hkx hUx hbox hnx hua hul hXv hq hvlt
      clear hz htk hu
      go_wp2_with (at_builtin; refine wpList_append_own_at _ rfl _ _ 22 rfl B 3 i0 (.int .i64 0) 1 8 Tryz.underlying22 hi hz0 hz1 hz2 rfl (by decide) _ _ _ rfl ho ⟨wr.heap.size, 0, none⟩ 1 1 [.int .i64 ((k : Int) + 1)] rfl rfl ?c1 (by intro u hu; simp at hu; subst hu; rfl) (by unfold maxLen; omega) (by omega) (by simp; omega) ?_)
      case c1 =>
       intro j u hj
       match j, hj with
       | 0, hj =>
        simp at hj
        subst hj
        have e := (Blk.new (wr.setCell ⟨w.heap.size + 1, k + 1, none⟩ (.int .i64 ((q : Int) + 1))) 3 #[.int .i64 ((k : Int) + 1)]).cell 0
        simpa [Addr.add] using e
      intro v' w3 hown' hgrow _ hat
      obtain ⟨hc9, hf9, hU9⟩ := Hnx.out v' w3 _ hown' hgrow (by simpa using hat)
      have hvl := Hvlt.out
      have hb9 : Below w.heap.size w w3 := ((hbx.setCell (p := ⟨w.heap.size + 1, k + 1, none⟩) (by simp) (.int .i64 ((q : Int) + 1))).alloc (by simpa using hbx.size) (.cells #[.int .i64 ((k : Int) + 1)] 3)).grown hgrow (by simp; have := hbx.size; omega) (fun b hb => by have := hvl b hb; omega)
      have hB9 : B ≤ w3.heap.size := Nat.le_trans (Nat.le_trans hBx hxw) hgrow.size
      have hbox9 := ((Hbox.out.far (p := ⟨w.heap.size + 1, k + 1, none⟩) (by simp) (.int .i64 ((q : Int) + 1))).alloc (.cells #[.int .i64 ((k : Int) + 1)] 3)).grown hgrow (fun e => by have := hvl _ e.symm; omega)
      have hbox9 := hbox9.far (p := ⟨g2, u, none⟩) hne3 v'
      have hk9 := ((Hkx.out.set_ (k + 1) (.int .i64 ((q : Int) + 1))).alloc (.cells #[.int .i64 ((k : Int) + 1)] 3)).grown hgrow (fun e => by have := hvl _ e.symm; omega)
      have hk9 := hk9.far (p := ⟨g2, u, none⟩) hne2 v'
      have hb9' := hb9.setCell (p := ⟨g2, u, none⟩) (by simp; omega) v'
      have HK := Lib.hid (show Blk (w3.setCell ⟨g2, u, none⟩ v') (w.heap.size + 1) 3 (((Kn.wl I n.nodes.length k (v.ins.take m)).set (k + 1) ((q : Int) + 1)).map (Value.int .i64)).toArray by simpa [List.map_set] using hk9)
      have HU9 := Lib.hid hU9
      have Hbox9 := Lib.hid hbox9
      clear hU9 hbox9
      clear hk9 hvl hgrow hat hb9 hcv
      obtain ⟨A9, c9, rfl⟩ := own_form hown'
      clear hown'
      go_wp2_with fail
      go_roundw
      case rel => exact ⟨m + 1, by omega, by go_num, Hbox9.out, hb9', by simpa using hB9, by rw [HW.out]; exact HK.out, by rw [HV.out]; exact HU9.out⟩
      case measure => simp [intOf]; omega
    ·obtain rfl : m = v.ins.length := by omega
     rw [List.take_length] at hkx hUx
     have hIk := HIk.out
     rw [← hIk, Kn.wl_next] at hkx
     rw [← hIk, Kn.ul_next] at hUx
     have Hkx := Lib.hid hkx
     have HUx := Lib.hid hUx
     have Hbox := Lib.hid hbox
     clear hkx hUx hbox
     clear hIk
     go_wp2_with fail
     go_roundw
     case rel => exact ⟨k + 1, by omega, by go_num, Hbox.out, hbx, hBx, Hkx.out, HUx.out⟩
     case measure => simp [intOf]; omega
  ·obtain rfl : k = n.nodes.length := by omega
   obtain ⟨C, hC⟩ : ∃ C, wr.heap.size = C := ⟨_, rfl⟩
   have hinv : SInv 26 #[.slice A n.inn.length c, .slice N n.nodes.length d] B C g2 22 3 (Kn.wl I n.nodes.length n.nodes.length []) (Kn.ul I n.nodes.length n.nodes.length []) w wr := ⟨hbox, hbw, by omega, hkw, by rw [← hC]; exact hU.shut⟩
   have hBC : B ≤ C := by omega
   have hwB : w.heap.size + 1 < B := by omega
   have Hinv := Lib.hid hinv
   clear hinv
   clear hkw hU hbox hbw hBw
   go_wp2_with fail
   clear hC
   go_loopw [9, 10] (fun r i wx => ∃ k : Nat, k ≤ n.nodes.length ∧ i = .int .i64 ((k : Int) + 1) ∧ SInv 26 #[.slice A n.inn.length c, .slice N n.nodes.length d] B C g2 22 3 (Kn.wl I n.nodes.length n.nodes.length []) (Kn.ul I n.nodes.length n.nodes.length []) w wx ∧ wx.ownsRow C 3 1 r (Kn.rk I k).length ((Kn.rk I k).map (Value.int .i64))) (fun _ i _ => n.nodes.length + 1 - (intOf i).toNat)
   case atStart => exact ⟨0, Nat.zero_le _, rfl, Hinv.out, by simpa [Kn.rk, Kn.ids] using World.ownsRow_nil wr C 3 1⟩
   case round =>
    obtain ⟨k, hk, rfl, hinv, hown⟩ := hrel
    clear Hinv
    have hx : wr.cell? ⟨w.heap.size, 1, none⟩ = some (.slice N n.nodes.length d) := by rw [hinv.1.cell]; rfl
    obtain ⟨Ar, cr, rfl⟩ := own_form hown
    by_cases hlt : k < n.nodes.length
    ·
     have hwt : wr.cell? ⟨w.heap.size + 1, k + 1, none⟩ = some (.int .i64 (Kn.wt I [] ((k : Int) + 1) : Nat)) := by
      have e := Kn.wl_at I n.nodes.length n.nodes.length [] (u := k + 1) (by omega)
      rw [hinv.2.2.2.1.cell]
      simp only [List.getElem?_toArray, List.getElem?_map, e]
      rw [show ((k + 1 : Nat) : Int) = (k : Int) + 1 by omega, Kn.wMid_end (by omega) (by omega)]
      rfl
     have hs := Kn.rk_succ I k
     have hl := Kn.rk_len I k
     generalize Kn.wt I [] ((k : Int) + 1) = q at *
     have t1 : ((k : Int) + 1).toNat = k + 1 := by omega
     have l0 : (k : Int) + 1 ≤ (n.nodes.length : Int) := by omega
     have l1 : ((k : Int) + 1) < ((n.nodes.length + 1 : Nat) : Int) := by omega
     by_cases hq : q = 0
     ·subst hq
      rw [if_pos rfl] at hs
      have hinv2 := hinv.fr ((Fr.refl (fun _ => False) wr).alloc (.cells #[.int .i64 ((k : Int) + 1)] 3)) (fun b hb => hb.elim) hwB hBC hg2l
      have ho := ownsRow_new hown (.cells #[.int .i64 ((k : Int) + 1)] 3)
      have hCb : ∀ b, (Value.slice Ar (Kn.rk I k).length cr).ownBlock = some b → C ≤ b := fun b hb => (hown.lt b hb).1
      have Hinv := Lib.hid hinv
      have Hs := Lib.hid hs
      have Hinv2 := Lib.hid hinv2
      clear hinv hs hinv2
      clear hown
      go_wp2_with (at_builtin; refine wpList_append_own_at _ rfl _ _ 22 rfl C 3 i0 (.int .i64 0) 1 8 Tryz.underlying22 hi hz0 hz1 hz2 rfl (by decide) _ _ _ rfl ho ⟨wr.heap.size, 0, none⟩ 1 1 [.int .i64 ((k : Int) + 1)] rfl rfl ?c1 (by intro u hu; simp at hu; subst hu; rfl) (by unfold maxLen; omega) (by omega) ?c2 ?_)
      case c1 => exact one_new wr _ _
      case c2 => exact Hinv2.out.2.2.1
      intro v' w3 hown' hgrow _ hat
      have HI3 := Lib.hid (Hinv2.out.fr (Fr.of_grown (S := fun b => C ≤ b) hgrow (fun b hb _ => hCb b hb)) (fun b hb => hb) hwB hBC hg2l)
      have HO3 := Lib.hid (show w3.ownsRow C 3 1 v' (Kn.rk I (k + 1)).length ((Kn.rk I (k + 1)).map (Value.int .i64)) by rw [Hs.out]; simpa using hown')
      clear hown' hgrow hat
      go_wp2_with fail
      go_roundw
      case rel => exact ⟨k + 1, by omega, by go_num, HI3.out, HO3.out⟩
      case measure => simp [intOf]; omega
     ·have hqq : ((q : Int) == 0) = false := by simp; omega
      rw [if_neg hq] at hs
      have Hinv := Lib.hid hinv
      have Hs := Lib.hid hs
      have Hown := Lib.hid hown
      clear hinv hs hown
      go_wp2_with fail
      go_roundw
      case rel => exact ⟨k + 1, by omega, by go_num, Hinv.out, by rw [Hs.out]; exact Hown.out⟩
      case measure => simp [intOf]; omega
    ·obtain rfl : k = n.nodes.length := by omega
     rw [Kn.rk_all] at hown
     have l0 : ¬ ((n.nodes.length : Int) + 1 ≤ (n.nodes.length : Int)) := by omega
     rw [Kn.wm_start] at hinv
     have hkl : (Kn.rk I n.nodes.length).length = (Kn.ready I n.nodes.length []).length := by rw [Kn.rk_all]
     rw [hkl]
     have hCb : ∀ b, (Value.slice Ar (Kn.ready I n.nodes.length []).length cr).ownBlock = some b → C ≤ b ∧ b < wr.heap.size := fun b hb => hown.lt b hb
     have Hinv := Lib.hid hinv
     have Hown := Lib.hid hown
     have HCb := Lib.hid hCb
     clear hinv hown hCb
     go_wp2_with (at_make; refine wpList_make_own _ rfl _ _ 22 rfl C 3 i0 (.int .i64 0) 1 Tryz.underlying22 hi hz0 hz1 _ _ _ n.nodes.length rfl (by first | rfl | simp | (go_simp; rfl)) (by first | rfl | simp | (go_simp; rfl)) ?b2 ?b3 ?b4 ?_)
     case b2 => first | omega | (rw [hz2]; omega)
     case b3 => unfold maxLen; omega
     case b4 => exact Hinv.out.2.2.1
     intro w4 hown4 hgrow
     have HI4 := Lib.hid (Hinv.out.fr (Fr.of_grown (S := fun b => C ≤ b) hgrow (fun b hb _ => by cases hb)) (fun b hb => hb) hwB hBC hg2l)
     have HT4 := Lib.hid (show Two C 3 w4 (.slice Ar (Kn.ready I n.nodes.length []).length cr) (.slice (some ⟨wr.heap.size, 0, none⟩) 0 n.nodes.length) (Kn.ready I n.nodes.length []) [] from ⟨ownsRow_grown Hown.out hgrow (fun b _ h => by cases h), hown4, fun b hb h => by have := (HCb.out b hb).2; simp [Value.ownBlock] at h; omega⟩)
     clear hgrow
     have Hown4 := Lib.hid hown4
     clear hown4
     go_wp2_with fail
     clear hx l0 Hown Hinv HCb
     generalize hro : Value.slice Ar (Kn.ready I n.nodes.length []).length cr = r0 at *
     generalize hoo : Value.slice (some ⟨wr.heap.size, 0, none⟩) 0 n.nodes.length = o0 at *
     clear hro hoo hkl hk hlt x1 e1 hb0 hs1
     go_loopw [9, 11] (fun r o wx => ∃ k : Nat, (Kn.go I n.nodes.length k).length = k ∧ SInv 26 #[.slice A n.inn.length c, .slice N n.nodes.length d] B C g2 22 3 (Kn.wm I n.nodes.length (Kn.go I n.nodes.length k) []) (Kn.ul I n.nodes.length n.nodes.length []) w wx ∧ Two C 3 wx r o (Kn.ready I n.nodes.length (Kn.go I n.nodes.length k)) (Kn.go I n.nodes.length k)) (fun _ o _ => n.nodes.length + 1 - slen o)
     case atStart => exact ⟨0, rfl, HI4.out, HT4.out⟩
     case round =>
      obtain ⟨k, hkl, hinv, htwo⟩ := hrel
      clear HI4 HT4 Hown4
      obtain ⟨Ar, cr, rfl⟩ := own_form htwo.1
      obtain ⟨Ao, co, rfl⟩ := own_form htwo.2.1
      have hok := Kn.go_ok I n.nodes.length k
      have hmore := @Kn.go_more I n.nodes.length k
      have hstuck := @Kn.order_of_stuck I n.nodes.length k hkl
      generalize Kn.go I n.nodes.length k = out at *
      have hmid := @Kn.mid_start I n.nodes.length out
      have hrl := Kn.ready_len I n.nodes.length out
      have hol := hok.len
      subst hkl
      cases hrd : Kn.ready I n.nodes.length out with
      | nil =>
       rw [hrd] at htwo
       have hor := hstuck hrd
       rw [← Hsort.out] at hor
       subst hor
       clear hmore hmid
       have Hinv := Lib.hid hinv
       have Htwo := Lib.hid htwo
       have Hok := Lib.hid hok
       have Hstuck := Lib.hid hstuck
       have Hrd := Lib.hid hrd
       clear hinv htwo hok hstuck hrd
       go_wp2_with fail
       go_ret
       obtain ⟨q1, q2, q3⟩ := own_ints Htwo.out.2.1
       exact ⟨Ao, co, rfl, q1, q2, q3, Hinv.out.2.1⟩
      | cons id rest =>
       have hid : id ∈ Kn.ready I n.nodes.length out := by rw [hrd]; simp
       have hrng := (Kn.mem_ready.1 hid).1
       obtain ⟨j, rfl⟩ : ∃ j : Nat, id = (j : Int) := ⟨id.toNat, by omega⟩
       replace hmore := hmore hrd
       replace hmid := hmid hrd
       rw [hrd] at htwo hrl
       obtain ⟨hI1, -⟩ := own_ints htwo.1
       obtain ⟨b1, off1, rfl, -, hc1⟩ := hI1 0 (by simp)
       rw [Nat.add_zero] at hc1
       replace hc1 : wr.cell? ⟨b1, off1, none⟩ = some (.int .i64 (j : Int)) := hc1
       have hz : 0 < rest.length + 1 := by omega
       clear hstuck hI1
       have hrl2 : rest.length + 1 ≤ 512 := by simp at hrl; omega
       clear hrl hz
       rw [List.length_cons] at htwo
       have Hid_ := Lib.hid hid
       clear hid
       have Hinv := Lib.hid hinv
       have Htwo := Lib.hid htwo
       have Hok := Lib.hid hok
       have Hmid := Lib.hid hmid
       have Hmore := Lib.hid hmore
       have Hrd := Lib.hid hrd
       clear hinv htwo hok hmid hmore hrd
       go_wp2_with fail
       refine (delete_own C _ _ rest _ (by simp; omega) Htwo.out.1).mono ?_
       rintro e w5 ⟨v5, rfl, ho5, hf5, hat5⟩
       have hinv5 := Hinv.out.fr hf5 (fun b hb => (Htwo.out.1.lt b hb).1) hwB hBC hg2l
       have htwo5 := Htwo.out.left hf5 ho5 hat5
       have hinv6 := hinv5.fr ((Fr.refl (fun _ => False) w5).alloc (.cells #[.int .i64 (j : Int)] 3)) (fun b hb => hb.elim) hwB hBC hg2l
       have htwo6 := htwo5.new (.cells #[.int .i64 (j : Int)] 3)
       obtain ⟨A5, c5, rfl⟩ := own_form ho5
       clear Hinv Htwo hf5 hat5 hinv5 htwo5 ho5 hc1
       have Hinv6 := Lib.hid hinv6
       have Htwo6 := Lib.hid htwo6
       clear hinv6 htwo6
       go_wp2_with (at_builtin; refine wpList_append_own_at _ rfl _ _ 22 rfl C 3 i0 (.int .i64 0) 1 8 Tryz.underlying22 hi hz0 hz1 hz2 rfl (by decide) _ _ _ rfl Htwo6.out.2.1 ⟨w5.heap.size, 0, none⟩ 1 1 [.int .i64 (j : Int)] rfl rfl ?c1 (by intro u hu; simp at hu; subst hu; rfl) (by unfold maxLen; omega) (by omega) ?c2 ?_)
       case c1 => exact one_new w5 _ _
       case c2 => exact Hinv6.out.2.2.1
       intro v7 w7 hown7 hgrow7 _ hat7
       have hfr7 : Fr (fun b => (Value.slice Ao out.length co).ownBlock = some b) _ w7 := Fr.of_grown hgrow7 (fun b hb _ => hb)
       have hinv7 := Hinv6.out.fr hfr7 (fun b hb => (Htwo6.out.2.1.lt b hb).1) hwB hBC hg2l
       have htwo7 := Htwo6.out.right (zo' := out ++ [(j : Int)]) hfr7 (by simpa using hown7) (by simpa using hat7)
       clear Hinv6 Htwo6 hown7 hgrow7 hat7 hfr7
       have hjl : j < (Kn.ul I n.nodes.length n.nodes.length []).length := by rw [Kn.ul_len]; omega
       obtain ⟨Au, cu, hcu, hIu, hAu⟩ := hinv7.read hjl
       have hus : (Kn.ul I n.nodes.length n.nodes.length [])[j] = Kn.users I n.nodes.length (j : Int) := by rw [Kn.ul_at, Kn.uMid_end (by omega)]
       rw [hus] at hcu hIu
       have hul : (Kn.users I n.nodes.length (j : Int)).length ≤ 537919488 := by
        have h1 := Kn.uMid_le HIlen.out n.nodes.length (l := []) (by simp) (j : Int)
        rw [Kn.uMid_end (by omega)] at h1
        have : (n.nodes.length + 1) * 1048576 ≤ 513 * 1048576 := Nat.mul_le_mul_right _ (by omega)
        omega
       have hue := @Kn.mid_end_ready I n.nodes.length out (j : Int) Hid_.out
       have hwe := @Kn.wm_next I n.nodes.length out (j : Int) Hid_.out
       have hmp := fun a b u (h : Kn.users I n.nodes.length (j : Int) = a ++ u :: b) => Kn.mid_pos Hok.out Hid_.out h
       have hms := fun a b u (h : Kn.users I n.nodes.length (j : Int) = a ++ u :: b) => Kn.mid_stay Hok.out Hid_.out h
       have hmt := fun a b u (h : Kn.users I n.nodes.length (j : Int) = a ++ u :: b) => Kn.mid_put' Hok.out Hid_.out h
       obtain ⟨us, husd⟩ : ∃ us, Kn.users I n.nodes.length (j : Int) = us := ⟨_, rfl⟩
       rw [husd] at hcu hIu hul hue hwe hmp hms hmt
       obtain ⟨A7, c7, rfl⟩ := own_form htwo7.2.1
       generalize hro : Value.slice A5 rest.length c5 = r5 at *
       clear hro
       rw [← Hmid.out] at htwo7
       have j0 : (0 : Int) ≤ (j : Int) := by omega
       have j1 : (j : Int) < ((n.nodes.length + 1 : Nat) : Int) := by omega
       have Hinv7 := Lib.hid hinv7
       have Htwo7 := Lib.hid htwo7
       have HIu := Lib.hid hIu
       have HAu := Lib.hid hAu
       have Hus := Lib.hid hus
       have Husd := Lib.hid husd
       have Hue := Lib.hid hue
       have Hwe := Lib.hid hwe
       have Hmp := Lib.hid hmp
       have Hms := Lib.hid hms
       have Hmt := Lib.hid hmt
       clear hinv7 htwo7 hIu hAu hus husd hue hwe hmp hms hmt
       clear Hrd Hmid
       go_wp2_with fail
       clear Hus
       clear hcu j0 j1 hjl
       go_loopw [9, 101] (fun r i wx => ∃ m : Nat, m ≤ us.length ∧ i = .int .i64 m ∧ SInv 26 #[.slice A n.inn.length c, .slice N n.nodes.length d] B C g2 22 3 (Kn.wm I n.nodes.length out (us.take m)) (Kn.ul I n.nodes.length n.nodes.length []) w wx ∧ Two C 3 wx r (.slice A7 (out ++ [(j : Int)]).length c7) (Kn.midReady I n.nodes.length out (j : Int) (us.take m)) (out ++ [(j : Int)]) ∧ Ints .i64 wx Au us) (fun _ i _ => us.length - (intOf i).toNat)
       case atStart => exact ⟨0, Nat.zero_le _, rfl, Hinv7.out, Htwo7.out, HIu.out⟩
       case round =>
        obtain ⟨m, hm, rfl, hinv, htwo, hIu⟩ := hrel
        clear Hinv7 Htwo7 HIu
        by_cases hlm : m < us.length
        ·have hspl : us = us.take m ++ us[m] :: us.drop (m + 1) := by rw [← List.drop_eq_getElem_cons hlm, List.take_append_drop]
         have htk := List.take_succ_eq_append_getElem hlm
         obtain ⟨b1, off1, rfl, -, hc1⟩ := hIu m hlm
         rw [getD_at hlm] at hc1
         obtain ⟨p1, p2, p3, p4, p5⟩ := Hmp.out _ _ _ hspl
         have hst := Hms.out _ _ _ hspl
         have hpt := Hmt.out _ _ _ hspl
         have hwi := @Kn.wm_in I n.nodes.length out (us.take m) us[m] p3
         rw [← htk] at hst hpt hwi p5
         obtain ⟨u, hu⟩ : ∃ u : Nat, us[m] = (u : Int) := ⟨us[m].toNat, by omega⟩
         rw [hu] at hc1 p1 p2 p3 p4 p5 hst hpt hwi
         rw [Int.toNat_natCast] at hwi
         have hql : Kn.mid I out (us.take m) (u : Int) ≤ 1048576 := Nat.le_trans (Kn.mid_le _ _ _ _) (HIlen.out _)
         have hwc : wr.cell? ⟨w.heap.size + 1, u, none⟩ = some (.int .i64 ((Kn.mid I out (us.take m) (u : Int) : Nat) : Int)) := by
          rw [hinv.2.2.2.1.cell]
          simp only [List.getElem?_toArray, List.getElem?_map]
          rw [Kn.wm_at _ _ _ _ (by omega) (by omega)]
          rfl
         have hwf := hinv.2.2.2.1.frozen u
         generalize hq2 : Kn.mid I out (us.take (m + 1)) (u : Int) = q at *
         rw [← p5] at hwc hql
         have hinvw := hinv.wait u (q : Int) hwB hBC hne1
         rw [← hwi] at hinvw
         have hfw : Fr (fun b => b = w.heap.size + 1) wr (wr.setCell ⟨w.heap.size + 1, u, none⟩ (.int .i64 (q : Int))) := (Fr.refl (fun b => b = w.heap.size + 1) wr).setCell (p := ⟨w.heap.size + 1, u, none⟩) (fun _ => rfl) (.int .i64 (q : Int))
         have htwow := htwo.fr hfw (fun b hb => by omega)
         have hIw := hIu.set_far (p := ⟨w.heap.size + 1, u, none⟩) (fun a ha => by have := HAu.out a ha; simp; omega) (.int .i64 (q : Int))
         have u0 : (0 : Int) ≤ (u : Int) := by omega
         have u1 : (u : Int) < ((n.nodes.length + 1 : Nat) : Int) := by omega
         have hqe : ((q + 1 : Nat) : Int) = (q : Int) + 1 := by omega
         rw [hqe] at hwc
         have hq1 : (q : Int) + 1 - 1 = (q : Int) := by omega
         have hmrl := Kn.midReady_len I n.nodes.length out (j : Int) (us.take m)
         have hmrs := Kn.midReady_sorted I n.nodes.length out (j : Int) (us.take m)
         by_cases hq : q = 0
         ·subst hq
          replace hpt := hpt rfl
          generalize Kn.midReady I n.nodes.length out (j : Int) (us.take m) = mr at *
          have hsle : mr.Pairwise (· ≤ ·) := hmrs.imp fun h => Int.le_of_lt h
          clear hst hwi hinv htwo hIu htk hspl p5 hq2 hqe hmrs hfw
          rw [show ((0 : Nat) : Int) = 0 from rfl] at hinvw htwow hIw
          have Hinvw := Lib.hid hinvw
          have Htwow := Lib.hid htwow
          have HIw := Lib.hid hIw
          have Hu := Lib.hid hu
          have Hpt := Lib.hid hpt
          have Hsle := Lib.hid hsle
          clear hinvw htwow hIw hu hpt hsle
          go_wp2_with fail
          refine (search_own C _ (u : Int) mr _ (by omega) Hsle.out Htwow.out.1).mono ?_
          rintro e w8 ⟨⟨bb, rfl⟩, qq, rfl⟩
          go_wp2_with fail
          have hcl : mr.countP (fun x => decide (x < (u : Int))) ≤ mr.length := List.countP_le_length
          have hf9 := ((Fr.refl (fun _ => False) (wr.setCell ⟨w.heap.size + 1, u, none⟩ (.int .i64 0))).drewN qq).alloc (.cells #[.int .i64 (u : Int)] 3)
          have hinv9 := Hinvw.out.fr hf9 (fun b hb => hb.elim) hwB hBC hg2l
          have htwo9 := Htwow.out.fr hf9 (fun b hb => hb.elim)
          have hI9 := (HIw.out.drewN qq).alloc (.cells #[.int .i64 (u : Int)] 3)
          have hb9 : Blk (((wr.setCell ⟨w.heap.size + 1, u, none⟩ (.int .i64 0)).drewN qq).alloc (.cells #[.int .i64 (u : Int)] 3)) wr.heap.size 3 #[.int .i64 (u : Int)] := by
           have := Blk.new ((wr.setCell ⟨w.heap.size + 1, u, none⟩ (.int .i64 0)).drewN qq) 3 #[.int .i64 (u : Int)]
           simpa using this
          have hne9 : u9.ownBlock ≠ some wr.heap.size := fun e => by have := (Htwow.out.1.lt _ e).2; simp at this
          refine (insert_own C u9 mr (u : Int) _ wr.heap.size _ hcl (by omega) hinv9.2.2.1 htwo9.1 hb9 hne9).mono ?_
          rintro e w10 ⟨v10, rfl, ho10, hf10, hat10⟩
          have hinv10 := hinv9.fr hf10 (fun b hb => (htwo9.1.lt b hb).1) hwB hBC hg2l
          have htwo10 := htwo9.left hf10 ho10 hat10
          have hI10 := hf10.ints hI9 (fun a ha hb => by have h1 := (htwo9.1.lt _ hb).1; have h2 := (HAu.out a ha).2; omega)
          rw [← Hpt.out] at htwo10
          clear hinv9 htwo9 hI9 hb9 hf9 ho10 hf10 hat10 hcl hne9
          have Hinv10 := Lib.hid hinv10
          have Htwo10 := Lib.hid htwo10
          have HI10 := Lib.hid hI10
          clear hinv10 htwo10 hI10
          go_wp2_with fail
          go_roundw
          case rel => exact ⟨m + 1, by omega, by go_num, Hinv10.out, Htwo10.out, HI10.out⟩
          case measure => simp [intOf]; omega
         ·have hqq : ((q : Int) == 0) = false := by simp; omega
          replace hst := hst hq
          rw [← hst] at htwow
          clear hst hpt hwi hinv htwo hIu htk hspl p5 hq2 hqe hmrs hfw
          have Hinvw := Lib.hid hinvw
          have Htwow := Lib.hid htwow
          have HIw := Lib.hid hIw
          have Hu := Lib.hid hu
          clear hinvw htwow hIw hu
          go_wp2_with fail
          go_roundw
          case rel => exact ⟨m + 1, by omega, by go_num, Hinvw.out, Htwow.out, HIw.out⟩
          case measure => simp [intOf]; omega
        ·obtain rfl : m = us.length := by omega
         rw [List.take_length] at hinv htwo
         rw [Hwe.out] at hinv
         rw [Hue.out, show (out ++ [(j : Int)]).length = out.length + 1 by simp] at htwo
         have hmo := Hmore.out
         rw [← hmo] at hinv htwo
         have hln : (Kn.go I n.nodes.length (out.length + 1)).length = out.length + 1 := by rw [hmo]; simp
         have Hinv := Lib.hid hinv
         have Htwo := Lib.hid htwo
         have HIu := Lib.hid hIu
         have Hmo := Lib.hid hmo
         have Hln := Lib.hid hln
         clear hinv htwo hIu hmo hln
         go_wp2_with fail
         exact ⟨⟨out.length + 1, Hln.out, Hinv.out, Htwo.out⟩, by simp only [slen]; omega⟩
end Go.Proofs.YtbnnpkcfifejmabGreat

/- Lemmas for the statements of this seat: contracts of functions and the plain laws. -/
import Derived.Deep.DeepCutAuto
import Derived.Test.YtjkhpbngpceenaaZ07
set_option linter.unusedVariables false
/- Layer 13 (price): sizes, Of: contracts. -/
namespace Go.Proofs.Ytjkhpbngpceenaa
open Go.RowKit
theorem splice_at {α : Type} (L l : List α) (j : Nat) (hj : l.length ≤ j) : (splice L 0 l)[j]? = L[j]? := by
  unfold splice
  rw [List.take_zero, List.nil_append, List.getElem?_append_right hj, List.getElem?_drop]
  congr 1; omega
def intV (l : List Int) : List Value := l.map (Value.int .i64)
theorem intV_snoc (l : List Int) (x : Int) : intV (l ++ [x]) = intV l ++ [.int .i64 x] := by simp [intV]
theorem intV_len (l : List Int) : (intV l).length = l.length := by simp [intV]
def SizesP (ss : List (List Int)) (w : World) (e : Ending) (w' : World) : Prop :=
  ∃ g, e = .returned (.tuple #[.slice (some ⟨g, 0, none⟩) ss.length ss.length, .int .i64 0]) ∧ w.heap.size ≤ g ∧ Blk w' g 3 (intV (ss.map Safe.prod)).toArray ∧ Below w.heap.size w w'
/-- A row of numbers of the call's own, whose first are known. -/
theorem Blk.splice_set {w : World} {g : Nat} {t : TypeId} {L l : List Value} {o : Nat} (h : Blk w g t (splice L o l).toArray) (hl : o + l.length < L.length) (v : Value) : Blk (w.setCell ⟨g, o + l.length, none⟩ v) g t (splice L o (l ++ [v])).toArray := by
  have := h.set_ (o + l.length) v
  rw [← Go.Proofs.Ytjkhpbngpceenaa.splice_set L o l v hl]
  simpa using this
theorem Blk.has {w : World} {g : Nat} {t : TypeId} {L : List Value} {j : Nat} (h : Blk w g t L.toArray) (hj : j < L.length) : ∃ v, w.cell? ⟨g, j, none⟩ = some v := ⟨L[j], by rw [h.cell]; simp⟩
set_option maxRecDepth 20000 in
set_option maxHeartbeats 4000000 in
theorem price_sizes (A : Option Addr) (c : Nat) (ss : List (List Int)) (w : World) (hl : ss.length ≤ 1099511627776) (hr : ∀ s ∈ ss, Sh.right s = true) (hS : Shps w A ss) :
    Calls Try.prog 51 #[.slice A ss.length c] w (SizesP ss w) := by
  obtain ⟨i0, hi, hz0, hz1, hz2⟩ := info_parts int_info
  have Hr := Lib.hid hr
  have HS := Lib.hid hS
  clear hr hS
  go_enter Try.func51, Try.ntmps51
  go_wp2_with (at_make; refine wpList_make_full _ rfl _ _ 22 rfl w.heap.size 3 i0 (.int .i64 0) 1 Try.underlying22 hi hz0 hz1 _ _ _ _ ss.length rfl rfl (by first | rfl | simp | (go_simp; rfl)) (by first | rfl | simp | (go_simp; rfl)) ?b2 ?b3 ?b4 ?_)
  case b2 => rw [hz2]; omega
  case b3 => unfold maxLen; omega
  case b4 => exact Nat.le_refl _
  intro w1 hown hgrow
  have hblk := own_cur hown
  rw [made_one] at hblk
  have hb1 : Below w.heap.size w w1 := (Below.refl _ w).grown hgrow (Nat.le_refl _) (by simp)
  have hm0 : Blk w1 w.heap.size 3 (splice (List.replicate ss.length (Value.int .i64 0)) 0 (intV ((ss.take 0).map Safe.prod))).toArray := by simpa [splice, intV, Blk] using hblk
  have Hm0 := Lib.hid hm0
  clear hm0
  clear hblk hown hgrow
  go_wp2_with fail
  go_loopw [14] (fun i wx => ∃ k : Nat, k ≤ ss.length ∧ i = .int .i64 (k : Int) ∧ Blk wx w.heap.size 3 (splice (List.replicate ss.length (Value.int .i64 0)) 0 (intV ((ss.take k).map Safe.prod))).toArray ∧ Below w.heap.size w wx) (fun i _ => ss.length - (intOf i).toNat)
  case atStart => exact ⟨0, Nat.zero_le _, rfl, Hm0.out, hb1⟩
  case round =>
    obtain ⟨k, hk, rfl, hm, hbw⟩ := hrel
    clear Hm0 hb1
    by_cases hlt : k < ss.length
    · obtain ⟨b, off, S, sc, rfl, -, hc, hI, -⟩ := HS.out k hlt
      have hrs := Hr.out _ (List.getElem_mem hlt)
      have hc2 := cell_below hbw hc
      have hml : (intV ((ss.take k).map Safe.prod)).length = k := by rw [intV_len]; simp; omega
      have hsn : intV ((ss.take (k + 1)).map Safe.prod) = intV ((ss.take k).map Safe.prod) ++ [.int .i64 (Safe.prod ss[k])] := by rw [List.take_succ_eq_append_getElem hlt, List.map_append, List.map_singleton, intV_snoc]
      generalize ss[k] = s at *
      have hsz := Sh.size_right hrs
      have hlen := (Sh.right_mul hrs).2.1
      have hI2 := hI.below hbw (Nat.le_refl _)
      have Hm := Lib.hid hm
      have HI := Lib.hid hI
      have HI2 := Lib.hid hI2
      have Hrs := Lib.hid hrs
      have Hsz := Lib.hid hsz
      have Hml := Lib.hid hml
      have Hsn := Lib.hid hsn
      clear hm hI hI2 hrs hsz hml hsn
      clear hc
      go_wp2_with fail
      refine (shape_size S sc s _ (by omega) HI2.out).mono ?_
      rintro e w2 ⟨rfl, hb2⟩
      rw [Hsz.out]
      have hm2 := Hm.out.below hb2 Hm.out.lt
      have hbw2 := hbw.trans (hb2.mono hbw.size)
      have hm3 := hm2.splice_set (o := 0) (by rw [Hml.out]; simp; omega) (.int .i64 (Safe.prod s))
      rw [Hml.out, Nat.zero_add, ← Hsn.out] at hm3
      obtain ⟨y, hy⟩ := hm2.has (j := k) (by rw [length_splice _ _ _ (by rw [Hml.out]; simp; omega)]; simp; omega)
      have fy := hm2.frozen k
      have hbw3 := hbw2.setCell (p := ⟨w.heap.size, k, none⟩) (by simp) (.int .i64 (Safe.prod s))
      have Hm2 := Lib.hid hm2
      have Hm3 := Lib.hid hm3
      clear hm2 hm3
      clear hc2 hb2
      go_wp2_with fail
      go_roundw
      case rel => exact ⟨k + 1, by omega, by go_num, Hm3.out, hbw3⟩
      case measure => simp [intOf]; omega
    · obtain rfl : k = ss.length := by omega
      rw [List.take_length, splice_full _ _ (by rw [intV_len]; simp)] at hm
      have Hm := Lib.hid hm
      clear hm
      go_wp2_with fail
      go_ret2
      exact ⟨w.heap.size, rfl, Nat.le_refl _, Hm.out, hbw⟩
def OfP (n : NetD) (w : World) (e : Ending) (w' : World) : Prop :=
  Below w.heap.size w w' ∧ ((Nt.check n = 0 ∧ ∃ g g2, e = .returned (.tuple #[.agg #[.slice (some ⟨g, 0, none⟩) (n.nodes.length + 1) (n.nodes.length + 1), .slice (some ⟨g2, 0, none⟩) (n.nodes.length + 1) (n.nodes.length + 1), .int .i64 (Nt.total n)], .int .i64 0]) ∧ Blk w' g 3 (intV (Nt.words n)).toArray ∧ Blk w' g2 3 (intV (Nt.costs n)).toArray) ∨
    (Nt.check n ≠ 0 ∧ e = .returned (.tuple #[.agg #[.slice none 0 0, .slice none 0 0, .int .i64 0], .int .i64 (Nt.check n)])))
theorem costs_splice (n : NetD) (L : List Value) (hL : L.length = n.nodes.length + 1) (h0 : L[0]? = some (.int .i64 0)) : splice L 1 (intV (Nt.costsTo n n.nodes.length)) = intV (Nt.costs n) := by
  unfold splice
  have hd : L.drop (1 + (intV (Nt.costsTo n n.nodes.length)).length) = [] := List.drop_eq_nil_of_le (by rw [intV_len, Nt.costsTo_len]; omega)
  rw [hd, List.append_nil]
  match L, hL, h0 with
  | a :: r, _, h0 =>
    simp at h0
    subst h0
    simp [Nt.costs, intV]
theorem zeros_splice (n : NetD) (k : Nat) : splice (List.replicate k (Value.int .i64 0)) 1 (intV (Nt.costsTo n 0)) = List.replicate k (Value.int .i64 0) := by
  have e : intV (Nt.costsTo n 0) = [] := rfl
  rw [e]
  unfold splice
  rw [List.nil_append, List.length_nil, Nat.add_zero, List.take_append_drop]
theorem gets_at' {sh : List (List Int)} {u : Nat} (h : u < sh.length) : sh.getD u [] = sh[u] := by rw [List.getD_eq_getElem?_getD, List.getElem?_eq_getElem h]; rfl
set_option maxRecDepth 20000 in
set_option maxHeartbeats 16000000 in
theorem price_of (A N : Option Addr) (c d : Nat) (n : NetD) (w : World) (hok : n.ok) (hR : NetR w A N n) (hd : n.nodes.length ≤ d) (hsm : n.nodes.length ≤ 200) :
    Calls Try.prog 29 #[.agg #[.slice A n.inn.length c, .slice N n.nodes.length d]] w (OfP n w) := by
  obtain ⟨i0, hi, hz0, hz1, hz2⟩ := info_parts shpT_info
  obtain ⟨i1, hj, hy0, hy1, hy2⟩ := info_parts int_info
  have hk0 := (Blk.new w 26 #[.slice A n.inn.length c, .slice N n.nodes.length d]).alloc (.cells #[.slice none 0 0, .slice none 0 0, .int .i64 0] 60)
  have hr0 := Blk.new (w.alloc (.cells #[.slice A n.inn.length c, .slice N n.nodes.length d] 26)) 60 #[.slice none 0 0, .slice none 0 0, .int .i64 0]
  rw [World.size_alloc] at hr0
  have hl0 : Later w ((w.alloc (.cells #[.slice A n.inn.length c, .slice N n.nodes.length d] 26)).alloc (.cells #[.slice none 0 0, .slice none 0 0, .int .i64 0] 60)) := ((Later.refl w).alloc _).alloc _
  have HR := Lib.hid hR
  have Hk0 := Lib.hid hk0
  have Hl0 := Lib.hid hl0
  have Hr0 := Lib.hid hr0
  have Hok := Lib.hid hok
  clear hR hk0 hl0 hr0 hok
  go_enter Try.func29, Try.ntmps29
  go_wp2_with fail
  generalize (w.alloc (.cells #[.slice A n.inn.length c, .slice N n.nodes.length d] 26)).alloc (.cells #[.slice none 0 0, .slice none 0 0, .int .i64 0] 60) = w1 at *
  refine (net_shapes A N c d n w1 Hok.out (HR.out.below Hl0.out (Nat.le_refl _)) hd).mono ?_
  rintro e w2 ⟨hb2, ⟨hc, g, rfl, -, hrow⟩ | ⟨hc, rfl⟩⟩
  all_goals
    have hl2 := Hl0.out.call hb2
    have hk2 := (show Later w1 w2 from hb2).blk Hk0.out
    have hr2 := (show Later w1 w2 from hb2).blk Hr0.out
    clear hb2
  rotate_left
  · have q0 : (Nt.check n != 0) = true := by simp [hc]
    have c0 := hr2.cell 0
    have c1 := hr2.cell 1
    have c2 := hr2.cell 2
    have f0 := hr2.frozen 0
    have f1 := hr2.frozen 1
    have f2 := hr2.frozen 2
    simp at c0 c1 c2
    have hr3 := ((hr2.set_ 0 (.slice none 0 0)).set_ 1 (.slice none 0 0)).set_ 2 (.int .i64 0)
    have d0 := hr3.cell 0
    have d1 := hr3.cell 1
    have d2 := hr3.cell 2
    simp at d0 d1 d2
    have hs := hl2.size
    have Hc := Lib.hid hc
    have Hl2 := Lib.hid hl2
    have Hk2 := Lib.hid hk2
    have Hr2 := Lib.hid hr2
    have Hr3 := Lib.hid hr3
    clear hc hl2 hk2 hr2 hr3
    go_wp2_with fail
    refine bodyPost_ret (v := .tuple #[.agg #[.slice none 0 0, .slice none 0 0, .int .i64 0], .int .i64 (Nt.check n)]) (by simp [results, Try.results29, go_sem, d0, d1, d2]) rfl ?_
    exact ⟨((Hl2.out.set (p := ⟨w.heap.size + 1, 0, none⟩) (Nat.le_succ _) _).set (p := ⟨w.heap.size + 1, 1, none⟩) (Nat.le_succ _) _).set (p := ⟨w.heap.size + 1, 2, none⟩) (Nat.le_succ _) _, .inr ⟨Hc.out, rfl⟩⟩
  have hsl := Nt.shapes_len hc
  have hsr := Nt.shapes_all hc
  have hrs := hrow.shps
  have hca := fun k hk => @Nt.cost_at n hc k hk
  have htot := (Nt.total_bd hc hsm).2.2
  have hwd : (Nt.shapes n).map Safe.prod = Nt.words n := rfl
  have hsn := fun k hk => @Nt.costsTo_succ n k hk
  have hcb := Nt.costs_bd hc
  have hbad := Nt.bads_all (Nt.check_ok hc).2.2.2.1
  generalize Nt.shapes n = sh at *
  have Hc := Lib.hid hc
  have Hl2 := Lib.hid hl2
  have Hk2 := Lib.hid hk2
  have Hr2 := Lib.hid hr2
  have Hrow := Lib.hid hrow
  have Hsr := Lib.hid hsr
  have Hrs := Lib.hid hrs
  have Hca := Lib.hid hca
  have Htot := Lib.hid htot
  have Hwd := Lib.hid hwd
  have Hsn := Lib.hid hsn
  have Hcb := Lib.hid hcb
  have Hbad := Lib.hid hbad
  clear hc hl2 hk2 hr2 hrow hsr hrs hca htot hwd hsn hcb hbad
  have hsl2 : sh.length ≤ 201 := by omega
  rw [← hsl]
  have Hsl := Lib.hid hsl
  clear hsl
  go_wp2_with fail
  refine (price_sizes (some ⟨g, 0, none⟩) sh.length sh w2 (by omega) Hsr.out Hrs.out).mono ?_
  rintro e w3 ⟨gw, rfl, hgw, hbw, hb3⟩
  rw [Hwd.out] at hbw
  have hl3 := Hl2.out.call hb3
  have hl23 : Later w2 w3 := hb3
  have hk3 := hl23.blk Hk2.out
  have hr3 := hl23.blk Hr2.out
  have hrow3 := Hrow.out.below hb3 (Nat.le_refl _)
  have x1 : w3.cell? ⟨w.heap.size, 1, none⟩ = some (.slice N n.nodes.length d) := by rw [hk3.cell]; rfl
  have hs3 := hl3.size
  have Hl3 := Lib.hid hl3
  have Hk3 := Lib.hid hk3
  have Hr3 := Lib.hid hr3
  have Hrow3 := Lib.hid hrow3
  have Hbw := Lib.hid hbw
  have Hl23 := Lib.hid hl23
  clear hl3 hk3 hr3 hrow3 hbw hl23
  clear hb3 hgw
  go_wp2_with (at_make; refine wpList_make_full _ rfl _ _ 22 rfl w3.heap.size 3 i1 (.int .i64 0) 1 Try.underlying22 hj hy0 hy1 _ _ _ _ sh.length rfl rfl (by first | rfl | simp | (go_simp; rfl)) (by first | rfl | simp | (go_simp; rfl)) ?b2 ?b3 ?b4 ?_)
  case b2 => rw [hy2]; omega
  case b3 => unfold maxLen; omega
  case b4 => exact Nat.le_refl _
  intro w4 hown hgrow
  have hblk := own_cur hown
  rw [made_one] at hblk
  have hb4 : Below w3.heap.size w3 w4 := (Below.refl _ w3).grown hgrow (Nat.le_refl _) (by simp)
  have hl34 : Later w3 w4 := hb4
  have hm0 : Blk w4 w3.heap.size 3 (splice (List.replicate sh.length (Value.int .i64 0)) 1 (intV (Nt.costsTo n 0))).toArray := by
    rw [zeros_splice]
    exact hblk
  have x1' := hl34.cell x1
  have Hm0 := Lib.hid hm0
  have Hl34 := Lib.hid hl34
  clear hm0 hl34
  clear hblk hown hgrow hb4 x1
  go_wp2_with fail
  go_loopw [40] (fun i wx => ∃ k : Nat, k ≤ n.nodes.length ∧ i = .int .i64 (k : Int) ∧ Blk wx w3.heap.size 3 (splice (List.replicate sh.length (Value.int .i64 0)) 1 (intV (Nt.costsTo n k))).toArray ∧ Later w3 wx) (fun i _ => n.nodes.length - (intOf i).toNat)
  case atStart => exact ⟨0, Nat.zero_le _, rfl, Hm0.out, Hl34.out⟩
  case round =>
    obtain ⟨k, hk, rfl, hm, hlw⟩ := hrel
    clear Hm0 Hl34 x1'
    by_cases hlt : k < n.nodes.length
    · obtain ⟨b, off, S, sc, I, ic, Q, qc, rfl, hNA, hs1, hI1, hq1⟩ := HR.out.2.at_ hlt
      have hnok := Hok.out.2.2 _ (List.getElem_mem hlt)
      have hinr := (Hbad.out _ (List.getElem_mem hlt)).2
      have hcost := Hca.out k hlt
      have hsnk := Hsn.out k hlt
      have hcb1 : 0 ≤ Od.costV n.nodes[k].op n.nodes[k].p (sh.getD (k + 1) []) ∧ Od.costV n.nodes[k].op n.nodes[k].p (sh.getD (k + 1) []) ≤ 4294967296 := Hcb.out (k + 1) (by omega) _ (by rw [hsnk]; simp)
      have hvi := hnok.2.2.1
      have hlw' := Hl3.out.trans hlw
      have hNAw := hNA.below hlw'
      generalize n.nodes[k] = v at *
      generalize Od.costV v.op v.p (sh.getD (k + 1) []) = cv at *
      obtain ⟨⟨y0, y1, y2, y3, y4, y5, y6, y7, y8, y9⟩, -⟩ := hNAw
      have hkn := Blk.new wr 46 #[.int .i64 v.op.kind, .int .i64 v.op.k, .int .i64 v.op.width, .int .i64 v.op.step, .int .i64 v.op.side, .int .i64 v.op.frm, .int .i64 v.op.to, .slice S v.op.s.length sc, .slice I v.ins.length ic, .slice Q v.p.length qc]
      have hln : Later wr (wr.alloc (.cells #[.int .i64 v.op.kind, .int .i64 v.op.k, .int .i64 v.op.width, .int .i64 v.op.step, .int .i64 v.op.side, .int .i64 v.op.frm, .int .i64 v.op.to, .slice S v.op.s.length sc, .slice I v.ins.length ic, .slice Q v.p.length qc] 46)) := (Later.refl wr).alloc _
      have hmn := hm.alloc (.cells #[.int .i64 v.op.kind, .int .i64 v.op.k, .int .i64 v.op.width, .int .i64 v.op.step, .int .i64 v.op.side, .int .i64 v.op.frm, .int .i64 v.op.to, .slice S v.op.s.length sc, .slice I v.ins.length ic, .slice Q v.p.length qc] 46)
      have Hm := Lib.hid hm
      have Hlw := Lib.hid hlw
      have HNA := Lib.hid hNA
      have Hnok := Lib.hid hnok
      have Hinr := Lib.hid hinr
      have Hcost := Lib.hid hcost
      have Hsnk := Lib.hid hsnk
      have Hlw' := Lib.hid hlw'
      have Hkn := Lib.hid hkn
      have Hln := Lib.hid hln
      have Hmn := Lib.hid hmn
      clear hm hlw hNA hnok hinr hcost hsnk hlw' hkn hln hmn
      go_wp2_with (at_make; refine wpList_make_full _ rfl _ _ 44 rfl wr.heap.size 23 i0 (.slice none 0 0) 1 Try.underlying44 hi hz0 hz1 _ _ _ _ v.ins.length rfl rfl (by first | rfl | simp | (go_simp; rfl)) (by first | rfl | simp | (go_simp; rfl)) ?b2 ?b3 ?b4 ?_)
      case b2 => rw [hz2]; omega
      case b3 => unfold maxLen; omega
      case b4 => simp
      intro w5 hown hgrow
      have hblk := own_cur hown
      rw [made_one] at hblk
      have hrow5 : ShpRow w5 (wr.heap.size + 1) 23 (Nt.insMid sh v.ins 0) := by rw [Nt.insMid_zero]; exact ShpRow.new (by simpa [Blk] using hblk)
      have hl5 : Later wr w5 := Below.grown Hln.out hgrow (by simp) (by simp)
      have hkn5 : Blk w5 wr.heap.size 46 #[.int .i64 v.op.kind, .int .i64 v.op.k, .int .i64 v.op.width, .int .i64 v.op.step, .int .i64 v.op.side, .int .i64 v.op.frm, .int .i64 v.op.to, .slice S v.op.s.length sc, .slice I v.ins.length ic, .slice Q v.p.length qc] := Hkn.out.grown hgrow (by simp)
      have z8 : w5.cell? ⟨wr.heap.size, 8, none⟩ = some (.slice I v.ins.length ic) := by rw [hkn5.cell]; rfl
      have Hrow5 := Lib.hid hrow5
      have Hkn5 := Lib.hid hkn5
      have Hl5 := Lib.hid hl5
      clear hrow5 hkn5 hl5
      clear hblk hown hgrow y0 y1 y2 y3 y4 y5 y6 y7 y8 y9 Hln Hkn Hmn
      go_wp2_with fail
      clear z8
      obtain ⟨wo, rfl⟩ : ∃ wo, wo = wr := ⟨wr, rfl⟩
      go_loopw [52] (fun i wx => ∃ m : Nat, m ≤ v.ins.length ∧ i = .int .i64 m ∧ Blk wx wo.heap.size 46 #[.int .i64 v.op.kind, .int .i64 v.op.k, .int .i64 v.op.width, .int .i64 v.op.step, .int .i64 v.op.side, .int .i64 v.op.frm, .int .i64 v.op.to, .slice S v.op.s.length sc, .slice I v.ins.length ic, .slice Q v.p.length qc] ∧ Later wo wx ∧ ShpRow wx (wo.heap.size + 1) 23 (Nt.insMid sh v.ins m)) (fun i _ => v.ins.length - (intOf i).toNat)
      case atStart => exact ⟨0, Nat.zero_le _, rfl, Hkn5.out, Hl5.out, Hrow5.out⟩
      case round =>
        obtain ⟨m, hm, rfl, hknx, hlx, hrx⟩ := hrel
        clear Hkn5 Hrow5 Hl5
        have hNx := HNA.out.below (Hlw'.out.trans hlx)
        have hml := Nt.insMid_len sh v.ins hm
        by_cases hlm : m < v.ins.length
        · obtain ⟨b2, off2, rfl, -, hc2⟩ := hNx.2.2.1 m hlm
          rw [getD_at hlm] at hc2
          have hr2 := Hinr.out _ (List.getElem_mem hlm)
          have HM := Lib.hid (Nt.insMid_succ sh v.ins hlm)
          obtain ⟨u, hu⟩ : ∃ u : Nat, v.ins[m] = u := ⟨v.ins[m].toNat, by omega⟩
          rw [hu] at hc2 hr2
          have hul : u < sh.length := by rw [Hsl.out]; omega
          have hg2 := Hsr.out _ (List.getElem_mem hul)
          obtain ⟨Su, cu, yu, hIu, lu1, lu2, -⟩ := (Hrow3.out.below Hlw.out (Nat.le_refl _)).at_ hul
          obtain ⟨b3, off3, rfl, hb3, -⟩ := hIu 0 (right_short hg2).1
          have yu' := hlx.cell yu
          have hIu' := hIu.below hlx (Nat.le_refl _)
          have hset := hrx.set_ (i := m) hIu' lu1 lu2 (fun a h => by injection h with h; subst h; simp; omega)
          obtain ⟨Sm, cm, ym, -⟩ := hrx.at_ (j := m) (by omega)
          have fm : wr.frozen? ⟨wo.heap.size + 1, m, none⟩ = false := by obtain ⟨vs, _, hk, _⟩ := hrx; exact hk.frozen m
          have HS := Lib.hid (show ShpRow (wr.setCell ⟨wo.heap.size + 1, m, none⟩ (.slice (some ⟨b3, off3, none⟩) sh[u].length cu)) (wo.heap.size + 1) 23 (Nt.insMid sh v.ins (m + 1)) by
            rw [HM.out, hu, show ((u : Int)).toNat = u by omega, gets_at' hul]; exact hset)
          have HKN := Lib.hid (hknx.far (p := ⟨wo.heap.size + 1, m, none⟩) (by simp) (.slice (some ⟨b3, off3, none⟩) sh[u].length cu))
          have HLX := Lib.hid (hlx.set (p := ⟨wo.heap.size + 1, m, none⟩) (Nat.le_succ _) (.slice (some ⟨b3, off3, none⟩) sh[u].length cu))
          have u0 : (0 : Int) ≤ u := by omega
          have u1 : (u : Int) < (sh.length : Int) := by omega
          have m1 : (m : Int) < v.ins.length := by omega
          clear hset hIu hIu' hknx hrx hNx hg2 hu yu hlx
          go_wp2_with fail
          go_roundw
          case rel => exact ⟨m + 1, by omega, by go_num, HKN.out, HLX.out, HS.out⟩
          case measure => simp [intOf]; omega
        · obtain rfl : m = v.ins.length := by omega
          have hpl : (Nt.pick sh v.ins).length = v.ins.length := by simp [Nt.pick]
          rw [Nt.insMid_all] at hrx
          obtain ⟨y0, y1, y2, y3, y4, y5, y6, y7, y9⟩ : wr.cell? ⟨wo.heap.size, 0, none⟩ = some (.int .i64 v.op.kind) ∧ wr.cell? ⟨wo.heap.size, 1, none⟩ = some (.int .i64 v.op.k) ∧ wr.cell? ⟨wo.heap.size, 2, none⟩ = some (.int .i64 v.op.width) ∧ wr.cell? ⟨wo.heap.size, 3, none⟩ = some (.int .i64 v.op.step) ∧ wr.cell? ⟨wo.heap.size, 4, none⟩ = some (.int .i64 v.op.side) ∧ wr.cell? ⟨wo.heap.size, 5, none⟩ = some (.int .i64 v.op.frm) ∧ wr.cell? ⟨wo.heap.size, 6, none⟩ = some (.int .i64 v.op.to) ∧ wr.cell? ⟨wo.heap.size, 7, none⟩ = some (.slice S v.op.s.length sc) ∧ wr.cell? ⟨wo.heap.size, 9, none⟩ = some (.slice Q v.p.length qc) := by
            refine ⟨?_, ?_, ?_, ?_, ?_, ?_, ?_, ?_, ?_⟩
            all_goals (rw [hknx.cell]; rfl)
          have hno := Hnok.out
          have hxr : ∀ s ∈ Nt.pick sh v.ins, s.length ≤ 17592186043904 := fun s hs => by
            obtain ⟨i, hi, rfl⟩ := List.mem_map.1 hs
            have hr := Hinr.out i hi
            have hl : i.toNat < sh.length := by rw [Hsl.out]; omega
            rw [gets_at' hl]
            have := (right_short (Hsr.out _ (List.getElem_mem hl))).2
            omega
          have hcall := op_cost v.op S Q (some ⟨wo.heap.size + 1, 0, none⟩) sc qc v.ins.length v.p (Nt.pick sh v.ins) wr (by have := hno.2.1; omega) hNx.2.1 ⟨hNx.2.2.2, hq1.1, hq1.2, fun s hs => by have := hno.2.2.2.2.1 s hs; omega⟩ ⟨hrx.shps, by omega, by omega, hxr⟩
          rw [hpl, Hcost.out] at hcall
          have Hcall := Lib.hid hcall
          have Hlx := Lib.hid hlx
          clear hcall hlx
          clear hNx hrx hknx hpl hno hxr
          go_wp2_with fail
          clear y0 y1 y2 y3 y4 y5 y6 y7 y9
          refine (Hcall.out).mono ?_
          rintro e w6 ⟨rfl, hb6⟩
          have hlo6 := Hlx.out.call hb6
          have hm6 := hlo6.blk Hm.out
          have hl36 := Hlw.out.trans hlo6
          have hvl : (intV (Nt.costsTo n k)).length = k := by rw [intV_len, Nt.costsTo_len]
          have hslq := Hsl.out
          have hm7 := hm6.splice_set (by rw [hvl, List.length_replicate]; omega) (.int .i64 cv)
          rw [hvl, ← intV_snoc, ← Hsnk.out, show 1 + k = k + 1 by omega] at hm7
          obtain ⟨y, hy⟩ := hm6.has (j := k + 1) (by rw [length_splice _ _ _ (by rw [hvl, List.length_replicate]; omega), List.length_replicate]; omega)
          have fy := hm6.frozen (k + 1)
          have hl37 := hl36.set (p := ⟨w3.heap.size, k + 1, none⟩) (Nat.le_refl _) (.int .i64 cv)
          have k1 : (k : Int) + 1 < (sh.length : Int) := by omega
          have k2 : ((k : Int) + 1).toNat = k + 1 := by omega
          clear hslq hvl hb6
          have Hlo6 := Lib.hid hlo6
          have Hm6 := Lib.hid hm6
          have Hl36 := Lib.hid hl36
          have Hm7 := Lib.hid hm7
          have Hl37 := Lib.hid hl37
          clear hlo6 hm6 hl36 hm7 hl37
          go_wp2_with fail
          go_roundw
          case rel => exact ⟨k + 1, by omega, by go_num, Hm7.out, Hl37.out⟩
          case measure => simp [intOf]; omega
    · obtain rfl : k = n.nodes.length := by omega
      have hslq := Hsl.out
      have hne : (List.replicate sh.length (Value.int .i64 0))[0]? = some (.int .i64 0) := by rw [List.getElem?_replicate, if_pos (by omega)]
      rw [costs_splice n _ (by rw [List.length_replicate]; exact hslq) hne] at hm
      have hcl : (Nt.costs n).length = sh.length := by rw [hslq]; simp [Nt.costs, Nt.costsTo_len]
      have hIc : Ints .i64 wr (some ⟨w3.heap.size, 0, none⟩) (Nt.costs n) := Ints.of_row fun j hj => by
        rw [Nat.zero_add, hm.cell]
        simp [intV, hj]
      have hlr := Hl3.out.trans hlw
      have hcall := safe_add (some ⟨w3.heap.size, 0, none⟩) sh.length (Nt.costs n) wr (by rw [hcl]; omega) hIc
      rw [hcl, Htot.out] at hcall
      clear hslq hne hcl
      have Hm := Lib.hid hm
      have HIc := Lib.hid hIc
      have Hlr := Lib.hid hlr
      have Hcall := Lib.hid hcall
      have Hlw := Lib.hid hlw
      clear hm hIc hlr hcall hlw
      go_wp2_with fail
      refine (Hcall.out).mono ?_
      rintro e w5 ⟨rfl, hb5⟩
      have hl5 := Hlr.out.call hb5
      have hr5 := (Hlw.out.call hb5).blk Hr3.out
      have hm5 := (show Later wr w5 from hb5).blk Hm.out
      have hw5 := (Hlw.out.call hb5).blk Hbw.out
      have c0 := hr5.cell 0
      have c1 := hr5.cell 1
      have c2 := hr5.cell 2
      have f0 := hr5.frozen 0
      have f1 := hr5.frozen 1
      have f2 := hr5.frozen 2
      simp at c0 c1 c2
      have hr6 := ((hr5.set_ 0 (.slice (some ⟨gw, 0, none⟩) sh.length sh.length)).set_ 1 (.slice (some ⟨w3.heap.size, 0, none⟩) sh.length sh.length)).set_ 2 (.int .i64 (Nt.total n))
      have d0 := hr6.cell 0
      have d1 := hr6.cell 1
      have d2 := hr6.cell 2
      simp at d0 d1 d2
      have hkp : Keep 60 w5 (((w5.setCell ⟨w.heap.size + 1, 0, none⟩ (.slice (some ⟨gw, 0, none⟩) sh.length sh.length)).setCell ⟨w.heap.size + 1, 1, none⟩ (.slice (some ⟨w3.heap.size, 0, none⟩) sh.length sh.length)).setCell ⟨w.heap.size + 1, 2, none⟩ (.int .i64 (Nt.total n))) := ((Keep.set_ hr5 0 _).trans (Keep.set_ (hr5.set_ 0 _) 1 _)).trans (Keep.set_ ((hr5.set_ 0 _).set_ 1 _) 2 _)
      have hm6 := hm5.keep (by decide) hkp
      have hw6 := hw5.keep (by decide) hkp
      clear hb5
      have Hl5 := Lib.hid hl5
      have Hr5 := Lib.hid hr5
      have Hm5 := Lib.hid hm5
      have Hw5 := Lib.hid hw5
      have Hr6 := Lib.hid hr6
      have Hkp := Lib.hid hkp
      have Hm6 := Lib.hid hm6
      have Hw6 := Lib.hid hw6
      clear hl5 hr5 hm5 hw5 hr6 hkp hm6 hw6
      go_wp2_with fail
      refine bodyPost_ret (v := .tuple #[.agg #[.slice (some ⟨gw, 0, none⟩) sh.length sh.length, .slice (some ⟨w3.heap.size, 0, none⟩) sh.length sh.length, .int .i64 (Nt.total n)], .int .i64 0]) (by simp [results, Try.results29, go_sem, d0, d1, d2]) rfl ?_
      exact ⟨((Hl5.out.set (p := ⟨w.heap.size + 1, 0, none⟩) (Nat.le_succ _) _).set (p := ⟨w.heap.size + 1, 1, none⟩) (Nat.le_succ _) _).set (p := ⟨w.heap.size + 1, 2, none⟩) (Nat.le_succ _) _, .inl ⟨Hc.out, gw, w3.heap.size, by rw [← Hsl.out], Hw6.out, Hm6.out⟩⟩
end Go.Proofs.Ytjkhpbngpceenaa
/- Layer 13 (price): Peak, Params: contracts. -/
namespace Go.Proofs.Ytjkhpbngpceenaa
open Go.RowKit
theorem add_small {l : List Int} (h : ∀ x ∈ l, 0 ≤ x ∧ x ≤ 65536) (hl : l.length ≤ 1000000) : Safe.add l = (Safe.sum l, 0) ∧ 0 ≤ Safe.sum l ∧ Safe.sum l ≤ 65536000000 := by
  have hs := Nt.sum_bd h
  have hb : (l.length : Int) * 65536 ≤ 1000000 * 65536 := Int.mul_le_mul_of_nonneg_right (by omega) (by omega)
  refine ⟨?_, hs.1, by omega⟩
  unfold Safe.add
  have hall : l.all Safe.ok = true := by
    rw [List.all_eq_true]
    intro x hx
    rw [Safe.ok_iff]
    have := h x hx; omega
  rw [if_pos hall, if_pos (by rw [Safe.top_eq]; omega)]
namespace Nt
def peak (n : NetD) : Int := if check n = 0 then Safe.sum (words n) + (Safe.sum (words n) - (words n).getD 0 0) else 0
def parW (n : NetD) : Int := if check n = 0 then Safe.sum ((params n).map Safe.prod) else 0
theorem words_sum {n : NetD} (h : check n = 0) (hn : n.nodes.length ≤ 200) : Safe.add (words n) = (Safe.sum (words n), 0) ∧ 0 ≤ Safe.sum (words n) ∧ Safe.sum (words n) ≤ 65536000000 ∧ 1 ≤ (words n).getD 0 0 ∧ (words n).getD 0 0 ≤ Safe.sum (words n) ∧ 0 < (words n).length := by
  have hl := words_len h
  obtain ⟨h1, h2, h3⟩ := add_small (l := words n) (fun x hx => by have := words_bd h x hx; omega) (by omega)
  have hp : ∀ x ∈ words n, 0 ≤ x ∧ x ≤ 65536 := fun x hx => by have := words_bd h x hx; omega
  have hb := words_bd h
  generalize words n = ws at *
  match ws, hl with
  | a :: r, _ =>
    have ha := hb a (by simp)
    have hr := sum_bd (l := r) (B := 65536) fun x hx => hp x (by simp [hx])
    have e : Safe.sum (a :: r) = a + Safe.sum r := rfl
    refine ⟨h1, h2, h3, ?_, ?_, by simp⟩
    · show 1 ≤ a; omega
    · show a ≤ _; omega
theorem par_len {n : NetD} (h : check n = 0) : ∀ k, k ≤ n.nodes.length → ((n.nodes.take k).flatMap (·.p)).length ≤ 2 * k := by
  intro k
  induction k with
  | zero => intro _; simp
  | succ k ih =>
    intro hk
    have hkl : k < n.nodes.length := by omega
    rw [List.take_succ_eq_append_getElem hkl, List.flatMap_append, List.length_append]
    have e : [n.nodes[k]].flatMap (·.p) = n.nodes[k].p := by simp
    have hs := shapes_node h hkl
    have hp := (Od.shape_good (o := n.nodes[k].op) (p := n.nodes[k].p) (x := pick (shapes n) n.nodes[k].ins) (by rw [hs])).2.1
    have h2 : Od.params n.nodes[k].op ≤ 2 := by
      unfold Od.params
      split
      · split
        · omega
        · split <;> omega
      · omega
    have := ih (by omega)
    rw [e]
    omega
theorem par_sum {n : NetD} (h : check n = 0) (hn : n.nodes.length ≤ 200) : Safe.add ((params n).map Safe.prod) = (Safe.sum ((params n).map Safe.prod), 0) ∧ 0 ≤ Safe.sum ((params n).map Safe.prod) ∧ Safe.sum ((params n).map Safe.prod) ≤ 65536000000 := by
  have hl := par_len h n.nodes.length (Nat.le_refl _)
  rw [List.take_length] at hl
  refine add_small (fun x hx => ?_) (by rw [List.length_map]; show (n.nodes.flatMap (·.p)).length ≤ _; omega)
  obtain ⟨s, hs, rfl⟩ := List.mem_map.1 hx
  have := Od.prod_right_ (params_right h s hs)
  omega
end Nt
theorem Blk.intV_ints {w : World} {g : Nat} {t : TypeId} {l : List Int} (h : Blk w g t (intV l).toArray) : Ints .i64 w (some ⟨g, 0, none⟩) l := Ints.of_row fun j hj => by
  rw [Nat.zero_add, h.cell]
  simp [intV, hj]
set_option maxRecDepth 20000 in
set_option maxHeartbeats 8000000 in
theorem price_peak (A N : Option Addr) (c d : Nat) (n : NetD) (w : World) (hok : n.ok) (hR : NetR w A N n) (hd : n.nodes.length ≤ d) (hsm : n.nodes.length ≤ 200) :
    Calls Try.prog 30 #[.agg #[.slice A n.inn.length c, .slice N n.nodes.length d]] w fun e w' => e = .returned (.tuple #[.int .i64 (Nt.peak n), .int .i64 (Nt.check n)]) ∧ Below w.heap.size w w' := by
  have hl0 : Later w (w.alloc (.cells #[.slice A n.inn.length c, .slice N n.nodes.length d] 26)) := (Later.refl w).alloc _
  have HR := Lib.hid hR
  have Hl0 := Lib.hid hl0
  have Hok := Lib.hid hok
  clear hR hl0 hok
  go_enter Try.func30, Try.ntmps30
  go_wp2_with fail
  generalize w.alloc (.cells #[.slice A n.inn.length c, .slice N n.nodes.length d] 26) = w1 at *
  refine (price_of A N c d n w1 Hok.out (HR.out.below Hl0.out (Nat.le_refl _)) hd hsm).mono ?_
  rintro e w2 ⟨hb2, ⟨hc, g, g2, rfl, hg, -⟩ | ⟨hc, rfl⟩⟩
  all_goals have hl2 := Hl0.out.call hb2
  all_goals clear hb2
  · obtain ⟨a1, a2, a3, a4, a5, a6⟩ := Nt.words_sum hc hsm
    have hwl := Nt.words_len hc
    have hpk : Nt.peak n = Safe.sum (Nt.words n) + (Safe.sum (Nt.words n) - (Nt.words n).getD 0 0) := by unfold Nt.peak; rw [if_pos hc]
    have hck := hc
    have hI := hg.intV_ints
    have hk3 := Blk.new w2 60 #[.slice (some ⟨g, 0, none⟩) (n.nodes.length + 1) (n.nodes.length + 1), .slice (some ⟨g2, 0, none⟩) (n.nodes.length + 1) (n.nodes.length + 1), .int .i64 (Nt.total n)]
    have hl3 := (Later.refl w2).alloc (.cells #[.slice (some ⟨g, 0, none⟩) (n.nodes.length + 1) (n.nodes.length + 1), .slice (some ⟨g2, 0, none⟩) (n.nodes.length + 1) (n.nodes.length + 1), .int .i64 (Nt.total n)] 60)
    have hI3 := hI.alloc (.cells #[.slice (some ⟨g, 0, none⟩) (n.nodes.length + 1) (n.nodes.length + 1), .slice (some ⟨g2, 0, none⟩) (n.nodes.length + 1) (n.nodes.length + 1), .int .i64 (Nt.total n)] 60)
    have hc0 : Hid (Nt.check n = 0) := Lib.hid hc
    clear hc hck hg hI
    generalize Nt.words n = ws at *
    have hcall := safe_add (some ⟨g, 0, none⟩) (n.nodes.length + 1) ws _ (by omega) hI3
    rw [hwl, a1] at hcall
    have hy : ∃ y, ws.getD 0 0 = y := ⟨_, rfl⟩
    obtain ⟨w0, hw0⟩ := hy
    rw [hw0] at a4 a5 hpk
    have ck0 : (Nt.check n == 0) = true := by simp [hc0.out]
    have ckr := hc0.out
    have Hl2 := Lib.hid hl2
    have Hk3 := Lib.hid hk3
    have Hl3 := Lib.hid hl3
    have HI3 := Lib.hid hI3
    have Hcall := Lib.hid hcall
    have Ha1 := Lib.hid a1
    have Hwl := Lib.hid hwl
    have Hpk := Lib.hid hpk
    have Hw0 := Lib.hid hw0
    have Hckr := Lib.hid ckr
    clear hl2 hk3 hl3 hI3 hcall a1 hwl hpk hw0 ckr
    clear ck0
    go_wp2_with fail
    generalize w2.alloc (.cells #[.slice (some ⟨g, 0, none⟩) (n.nodes.length + 1) (n.nodes.length + 1), .slice (some ⟨g2, 0, none⟩) (n.nodes.length + 1) (n.nodes.length + 1), .int .i64 (Nt.total n)] 60) = w3 at *
    refine (Hcall.out).mono ?_
    rintro e w4 ⟨rfl, hb4⟩
    have hl4 := Hl3.out.call hb4
    have hk4 := (show Later w3 w4 from hb4).blk Hk3.out
    have x0 : w4.cell? ⟨w2.heap.size, 0, none⟩ = some (.slice (some ⟨g, 0, none⟩) (n.nodes.length + 1) (n.nodes.length + 1)) := by rw [hk4.cell]; rfl
    have y0 : w4.cell? ⟨g, 0, none⟩ = some (.int .i64 w0) := by
      obtain ⟨b', o', e, -, h⟩ := (HI3.out.below hb4 (Nat.le_refl _)) 0 a6
      injection e with e; injection e with e1 e2; subst e1 e2
      rw [Hw0.out] at h
      exact h
    clear hb4
    generalize Safe.sum ws = S at *
    have hsub : Safe.add [S, S - w0] = (S + (S - w0), 0) := by
      unfold Safe.add
      rw [if_pos (by simp [Safe.ok]; omega), if_pos (by rw [Safe.top_eq]; simp [Safe.sum]; omega)]
      simp [Safe.sum]
    have Hl4 := Lib.hid hl4
    have Hk4 := Lib.hid hk4
    have Hsub := Lib.hid hsub
    clear hl4 hk4 hsub
    go_wp2_with fail
    refine (safe_add (some ⟨w4.heap.size, 0, none⟩) 2 [S, S - w0] _ (by simp) (ints_two _ _)).mono ?_
    rintro e w5 ⟨rfl, hb5⟩
    rw [Hsub.out]
    have hl5 := (Hl2.out.trans (Hl4.out.alloc (.cells #[.int .i64 S, .int .i64 (S - w0)] 3))).call hb5
    have Hl5 := Lib.hid hl5
    clear hl5
    go_wp2_with fail
    go_ret2
    exact ⟨by (rw [Hpk.out, Hckr.out] <;> rfl), Hl5.out⟩
  · have hpk : Nt.peak n = 0 := by unfold Nt.peak; rw [if_neg hc]
    have q0 : (Nt.check n != 0) = true := by simp [hc]
    clear hc
    have Hpk := Lib.hid hpk
    have Hl2 := Lib.hid hl2
    clear hpk hl2
    go_wp2_with fail
    go_ret2
    exact ⟨by (rw [Hpk.out] <;> rfl), Hl2.out.alloc _⟩
set_option maxRecDepth 20000 in
set_option maxHeartbeats 8000000 in
theorem price_params (A N : Option Addr) (c d : Nat) (n : NetD) (w : World) (hok : n.ok) (hR : NetR w A N n) (hd : n.nodes.length ≤ d) (hsm : n.nodes.length ≤ 200) :
    Calls Try.prog 31 #[.agg #[.slice A n.inn.length c, .slice N n.nodes.length d]] w fun e w' => e = .returned (.tuple #[.int .i64 (Nt.parW n), .int .i64 (Nt.check n)]) ∧ Below w.heap.size w w' := by
  have hk0 := Blk.new w 26 #[.slice A n.inn.length c, .slice N n.nodes.length d]
  have hl0 : Later w (w.alloc (.cells #[.slice A n.inn.length c, .slice N n.nodes.length d] 26)) := (Later.refl w).alloc _
  have HR := Lib.hid hR
  have Hl0 := Lib.hid hl0
  have Hok := Lib.hid hok
  have Hk0 := Lib.hid hk0
  clear hR hl0 hok hk0
  go_enter Try.func31, Try.ntmps31
  go_wp2_with fail
  generalize w.alloc (.cells #[.slice A n.inn.length c, .slice N n.nodes.length d] 26) = w1 at *
  refine (net_check A N c d n w1 Hok.out (HR.out.below Hl0.out (Nat.le_refl _)) hd).mono ?_
  rintro e w2 ⟨rfl, hb2⟩
  have hl2 := Hl0.out.call hb2
  have hk2 := (show Later w1 w2 from hb2).blk Hk0.out
  clear hb2
  by_cases hc : Nt.check n = 0
  · have hpw : Nt.parW n = Safe.sum ((Nt.params n).map Safe.prod) := by unfold Nt.parW; rw [if_pos hc]
    have hpr := Nt.params_right hc
    have hps := (Nt.par_sum hc hsm).1
    have hpl := Nt.par_len hc n.nodes.length (Nat.le_refl _)
    rw [List.take_length] at hpl
    replace hpl : (Nt.params n).length ≤ 400 := by show (n.nodes.flatMap (·.p)).length ≤ _; omega
    have x0 : w2.cell? ⟨w.heap.size, 0, none⟩ = some (.slice A n.inn.length c) := by rw [hk2.cell]; rfl
    have x1 : w2.cell? ⟨w.heap.size, 1, none⟩ = some (.slice N n.nodes.length d) := by rw [hk2.cell]; rfl
    have q0 : (Nt.check n != 0) = false := by simp [hc]
    have Hl2 := Lib.hid hl2
    have Hk2 := Lib.hid hk2
    have Hpw := Lib.hid hpw
    have Hpr := Lib.hid hpr
    have Hps := Lib.hid hps
    have Hc := Lib.hid hc
    clear hl2 hk2 hpw hpr hps hc
    go_wp2_with fail
    refine (net_params A N c d n w2 Hok.out (HR.out.below Hl2.out (Nat.le_refl _))).mono ?_
    rintro e w3 ⟨P, pc, rfl, hP, hp1, hp2, hb3⟩
    have hl3 := Hl2.out.call hb3
    clear hb3 x0 x1
    generalize Nt.params n = ps at *
    have Hl3 := Lib.hid hl3
    have HP := Lib.hid hP
    clear hl3 hP
    go_wp2_with fail
    refine (price_sizes P pc ps w3 (by omega) Hpr.out HP.out).mono ?_
    rintro e w4 ⟨g, rfl, -, hg, hb4⟩
    have hl4 := Hl3.out.call hb4
    have hcall := safe_add (some ⟨g, 0, none⟩) ps.length (ps.map Safe.prod) w4 (by rw [List.length_map]; omega) hg.intV_ints
    rw [List.length_map, Hps.out] at hcall
    clear hb4
    have Hl4 := Lib.hid hl4
    have Hg := Lib.hid hg
    have Hcall := Lib.hid hcall
    clear hl4 hg hcall
    go_wp2_with fail
    refine (Hcall.out).mono ?_
    rintro e w5 ⟨rfl, hb5⟩
    have hl5 := Hl4.out.call hb5
    have Hl5 := Lib.hid hl5
    clear hl5
    go_wp2_with fail
    go_ret2
    exact ⟨by (rw [Hpw.out, Hc.out] <;> rfl), Hl5.out⟩
  · have hpw : Nt.parW n = 0 := by unfold Nt.parW; rw [if_neg hc]
    have q0 : (Nt.check n != 0) = true := by simp [hc]
    clear hc
    have Hl2 := Lib.hid hl2
    have Hk2 := Lib.hid hk2
    have Hpw := Lib.hid hpw
    clear hl2 hk2 hpw
    go_wp2_with fail
    go_ret2
    exact ⟨by (rw [Hpw.out] <;> rfl), Hl2.out⟩
end Go.Proofs.Ytjkhpbngpceenaa
/- Layer 13 (price): Chain: contract. -/
namespace Go.Proofs.Ytjkhpbngpceenaa
open Go.RowKit
namespace Nt
def wAt (n : NetD) (u : Int) : Int := (words n).getD u.toNat 0
def cAt (n : NetD) (u : Int) : Int := (costs n).getD u.toNat 0
def chainW (n : NetD) : List Int := wAt n 0 :: (sorted n.nodes).map (wAt n)
def chainC (n : NetD) : List Int := (sorted n.nodes).map (cAt n)
end Nt
def ChainP (n : NetD) (w : World) (e : Ending) (w' : World) : Prop :=
  Below w.heap.size w w' ∧ ((Nt.check n = 0 ∧ Nt.chain n = true ∧ ∃ A c A2 c2, e = .returned (.tuple #[.slice A (n.nodes.length + 1) c, .slice A2 n.nodes.length c2, .int .i64 0]) ∧ Ints .i64 w' A (Nt.chainW n) ∧ Ints .i64 w' A2 (Nt.chainC n)) ∨
    (Nt.check n = 0 ∧ Nt.chain n = false ∧ e = .returned (.tuple #[.slice none 0 0, .slice none 0 0, .int .i64 27])) ∨
    (Nt.check n ≠ 0 ∧ e = .returned (.tuple #[.slice none 0 0, .slice none 0 0, .int .i64 (Nt.check n)])))
def Apart (v u : Value) : Prop := ∀ b, v.ownBlock = some b → u.ownBlock = some b → False
theorem Apart.symm {v u : Value} (h : Apart v u) : Apart u v := fun b h1 h2 => h b h2 h1
theorem own_other {w w' : World} {B : Nat} {e : TypeId} {s n : Nat} {v u : Value} {xs : List Value} (h : w.ownsRow B e s u n xs) (hg : w.grownBy w' v.ownBlock) (ha : Apart v u) : w'.ownsRow B e s u n xs :=
  ownsRow_heap h fun b hb => hg.block b (h.lt b hb).2 fun e => ha b e.symm hb
theorem Apart.next {w : World} {B : Nat} {e : TypeId} {s n : Nat} {v v' u : Value} {xs : List Value} (ha : Apart v u) (hu : w.ownsRow B e s u n xs) (hat : v'.ownBlock = v.ownBlock ∨ v'.ownBlock = some w.heap.size) : Apart v' u := fun b h1 h2 => by
  rcases hat with h | h
  · exact ha b (h ▸ h1) h2
  · rw [h] at h1
    injection h1 with h1
    have := (hu.lt b h2).2
    omega
set_option maxRecDepth 20000 in
set_option maxHeartbeats 16000000 in
theorem price_chain (A N : Option Addr) (c d : Nat) (n : NetD) (w : World) (hok : n.ok) (hR : NetR w A N n) (hd : n.nodes.length ≤ d) (hsm : n.nodes.length ≤ 200) :
    Calls Try.prog 50 #[.agg #[.slice A n.inn.length c, .slice N n.nodes.length d]] w (ChainP n w) := by
  obtain ⟨i0, hi, hz0, hz1, hz2⟩ := info_parts int_info
  have hk0 := Blk.new w 26 #[.slice A n.inn.length c, .slice N n.nodes.length d]
  have hl0 : Later w (w.alloc (.cells #[.slice A n.inn.length c, .slice N n.nodes.length d] 26)) := (Later.refl w).alloc _
  have HR := Lib.hid hR
  have Hl0 := Lib.hid hl0
  have Hok := Lib.hid hok
  have Hk0 := Lib.hid hk0
  clear hR hl0 hok hk0
  go_enter Try.func50, Try.ntmps50
  go_wp2_with fail
  generalize w.alloc (.cells #[.slice A n.inn.length c, .slice N n.nodes.length d] 26) = w1 at *
  refine (price_of A N c d n w1 Hok.out (HR.out.below Hl0.out (Nat.le_refl _)) hd hsm).mono ?_
  rintro e w2 ⟨hb2, ⟨hc, g, g2, rfl, hg, hg2⟩ | ⟨hc, rfl⟩⟩
  all_goals
    have hl2 := Hl0.out.call hb2
    have hk2 := (show Later w1 w2 from hb2).blk Hk0.out
    clear hb2
  rotate_left
  · have q0 : (Nt.check n != 0) = true := by simp [hc]
    have Hl2 := Lib.hid hl2
    have Hk2 := Lib.hid hk2
    have Hc := Lib.hid hc
    clear hl2 hk2 hc
    go_wp2_with fail
    go_ret3
    exact ⟨Hl2.out.alloc _, .inr (.inr ⟨Hc.out, rfl⟩)⟩
  have hwl := Nt.words_len hc
  have hcl : (Nt.costs n).length = n.nodes.length + 1 := by simp [Nt.costs, Nt.costsTo_len]
  have hx2 : Later w2 (w2.alloc (.cells #[.slice (some ⟨g, 0, none⟩) (n.nodes.length + 1) (n.nodes.length + 1), .slice (some ⟨g2, 0, none⟩) (n.nodes.length + 1) (n.nodes.length + 1), .int .i64 (Nt.total n)] 60)) := (Later.refl w2).alloc _
  have hb3 := Blk.new w2 60 #[.slice (some ⟨g, 0, none⟩) (n.nodes.length + 1) (n.nodes.length + 1), .slice (some ⟨g2, 0, none⟩) (n.nodes.length + 1) (n.nodes.length + 1), .int .i64 (Nt.total n)]
  have hk3 := hx2.blk hk2
  have hg3 := hx2.blk hg
  have hg23 := hx2.blk hg2
  have hl3 := hl2.trans hx2
  have x0 : (w2.alloc (.cells #[.slice (some ⟨g, 0, none⟩) (n.nodes.length + 1) (n.nodes.length + 1), .slice (some ⟨g2, 0, none⟩) (n.nodes.length + 1) (n.nodes.length + 1), .int .i64 (Nt.total n)] 60)).cell? ⟨w.heap.size, 0, none⟩ = some (.slice A n.inn.length c) := by rw [hk3.cell]; rfl
  have x1 : (w2.alloc (.cells #[.slice (some ⟨g, 0, none⟩) (n.nodes.length + 1) (n.nodes.length + 1), .slice (some ⟨g2, 0, none⟩) (n.nodes.length + 1) (n.nodes.length + 1), .int .i64 (Nt.total n)] 60)).cell? ⟨w.heap.size, 1, none⟩ = some (.slice N n.nodes.length d) := by rw [hk3.cell]; rfl
  have q0 : (Nt.check n != 0) = false := by simp [hc]
  have hx0 := Lib.hid x0
  have hx1 := Lib.hid x1
  clear x0 x1
  have Hl2 := Lib.hid hl2
  have Hk2 := Lib.hid hk2
  have Hc := Lib.hid hc
  have Hwl := Lib.hid hwl
  have Hcl := Lib.hid hcl
  have Hx2 := Lib.hid hx2
  have Hb3 := Lib.hid hb3
  have Hk3 := Lib.hid hk3
  have Hg3 := Lib.hid hg3
  have Hg23 := Lib.hid hg23
  have Hl3 := Lib.hid hl3
  have Hg := Lib.hid hg
  have Hg2 := Lib.hid hg2
  clear hl2 hk2 hc hwl hcl hx2 hb3 hk3 hg3 hg23 hl3 hg hg2
  go_upto_region 4 with fail
  generalize w2.alloc (.cells #[.slice (some ⟨g, 0, none⟩) (n.nodes.length + 1) (n.nodes.length + 1), .slice (some ⟨g2, 0, none⟩) (n.nodes.length + 1) (n.nodes.length + 1), .int .i64 (Nt.total n)] 60) = w3 at *
  have x0 := hx0.out
  have x1 := hx1.out
  generalize w2.heap.size = pb at *
  clear hx0 hx1 Hx2 Hg Hg2 Hk2
  go_wp2_with fail
  refine (net_chain A N c d n w3 Hok.out (HR.out.below Hl3.out (Nat.le_refl _)) hd).mono ?_
  rintro e w4 ⟨rfl, hb4⟩
  have h34 : Later w3 w4 := hb4
  have hl4 := Hl3.out.trans h34
  have hk4 := h34.blk Hk3.out
  have y0 := h34.cell x0
  have y1 := h34.cell x1
  clear hb4 x0 x1
  by_cases hch : Nt.chain n = true
  rotate_left
  · have hch : Nt.chain n = false := by simpa using hch
    rw [hch]
    have Hch := Lib.hid hch
    have H34 := Lib.hid h34
    have Hl4 := Lib.hid hl4
    have Hk4 := Lib.hid hk4
    clear hch h34 hl4 hk4
    go_wp2_with fail
    go_ret3
    exact ⟨Hl4.out, .inr (.inl ⟨Hc.out, Hch.out, rfl⟩)⟩
  rw [hch]
  have Hch := Lib.hid hch
  have H34 := Lib.hid h34
  have Hl4 := Lib.hid hl4
  have Hk4 := Lib.hid hk4
  clear hch h34 hl4 hk4
  go_wp2_with fail
  refine (net_order A N c d n w4 Hok.out (HR.out.below Hl4.out (Nat.le_refl _)) hd).mono ?_
  rintro e w5 ⟨hb5, ⟨-, O, oc, rfl, hO, -, -⟩ | ⟨hc', -⟩⟩
  rotate_left
  · exact absurd Hc.out hc'
  have h35 := H34.out.call hb5
  have hl5 := Hl3.out.trans h35
  have hp5 := h35.blk Hb3.out
  have hg5 := h35.blk Hg3.out
  have hg25 := h35.blk Hg23.out
  have hso : (Nt.sorted n.nodes).length = n.nodes.length := (Nt.check_ok Hc.out).2.2.2.2.1
  have hrng : ∀ u ∈ Nt.sorted n.nodes, 1 ≤ u ∧ u ≤ n.nodes.length := Kn.order_rng _ _
  have hcw : Nt.chainW n = Nt.wAt n 0 :: (Nt.sorted n.nodes).map (Nt.wAt n) := rfl
  have hcc : Nt.chainC n = (Nt.sorted n.nodes).map (Nt.cAt n) := rfl
  have hwat : ∀ (W : World), Later w5 W → ∀ u : Nat, u ≤ n.nodes.length → W.cell? ⟨g, u, none⟩ = some (.int .i64 (Nt.wAt n u)) := fun W h u hu => by
    have e : (Nt.words n)[u]? = some (Nt.wAt n u) := by unfold Nt.wAt; rw [Int.toNat_natCast, List.getD_eq_getElem?_getD, List.getElem?_eq_getElem (by rw [Hwl.out]; omega)]; rfl
    rw [(h.blk hg5).cell]; simp [intV, e]
  have hcat : ∀ (W : World), Later w5 W → ∀ u : Nat, u ≤ n.nodes.length → W.cell? ⟨g2, u, none⟩ = some (.int .i64 (Nt.cAt n u)) := fun W h u hu => by
    have e : (Nt.costs n)[u]? = some (Nt.cAt n u) := by unfold Nt.cAt; rw [Int.toNat_natCast, List.getD_eq_getElem?_getD, List.getElem?_eq_getElem (by rw [Hcl.out]; omega)]; rfl
    rw [(h.blk hg25).cell]; simp [intV, e]
  have z0 : w5.cell? ⟨pb, 0, none⟩ = some (.slice (some ⟨g, 0, none⟩) (n.nodes.length + 1) (n.nodes.length + 1)) := by rw [hp5.cell]; rfl
  have z1 : w5.cell? ⟨g, 0, none⟩ = some (.int .i64 (Nt.wAt n 0)) := hwat w5 (Later.refl _) 0 (Nat.zero_le _)
  clear hb5 y0 y1
  generalize Nt.sorted n.nodes = os at *
  have hown0 : (w5.alloc (.cells #[.int .i64 (Nt.wAt n 0)] 3)).ownsRow w5.heap.size 3 1 (.slice (some ⟨w5.heap.size, 0, none⟩) 1 1) (0 + 1) (intV (Nt.wAt n 0 :: (os.take 0).map (Nt.wAt n))) := ⟨rfl, .inr ⟨w5.heap.size, 1, #[.int .i64 (Nt.wAt n 0)], rfl, Nat.le_refl _, heap_alloc_new w5 _, Nat.le_refl _, by decide, rfl, rfl⟩⟩
  have hl5a : Later w5 (w5.alloc (.cells #[.int .i64 (Nt.wAt n 0)] 3)) := (Later.refl w5).alloc _
  have hle : (n.nodes.length : Int) = os.length := by omega
  have hos : os.length ≤ 200 := by omega
  rw [show n.nodes.length + 1 = os.length + 1 by omega] at z0
  have hnn : n.nodes.length = os.length := by omega
  clear hle
  rw [hnn]
  have H35 := Lib.hid h35
  have Hl5 := Lib.hid hl5
  have Hp5 := Lib.hid hp5
  have Hg5 := Lib.hid hg5
  have Hg25 := Lib.hid hg25
  have Hso := Lib.hid hso
  have Hrng := Lib.hid hrng
  have Hcw := Lib.hid hcw
  have Hcc := Lib.hid hcc
  have Hwat := Lib.hid hwat
  have Hcat := Lib.hid hcat
  have Hown0 := Lib.hid hown0
  have Hl5a := Lib.hid hl5a
  have HO := Lib.hid hO
  have Hnn := Lib.hid hnn
  clear h35 hl5 hp5 hg5 hg25 hso hrng hcw hcc hwat hcat hown0 hl5a hO hnn
  go_wp2_with fail
  go_loopw [2, 3, 35] (fun v u i wx => ∃ k : Nat, k ≤ os.length ∧ i = .int .i64 (k : Int) ∧ wx.ownsRow w5.heap.size 3 1 v (k + 1) (intV (Nt.wAt n 0 :: (os.take k).map (Nt.wAt n))) ∧ wx.ownsRow w5.heap.size 3 1 u k (intV ((os.take k).map (Nt.cAt n))) ∧ Apart v u ∧ Later w5 wx) (fun _ _ i _ => os.length - (intOf i).toNat)
  case atStart => exact ⟨0, Nat.zero_le _, rfl, Hown0.out, by simpa [intV] using World.ownsRow_nil _ w5.heap.size 3 1, fun b _ h => by simp [Value.ownBlock] at h, Hl5a.out⟩
  case round =>
    obtain ⟨k, hk, rfl, hov, hou, hap, hlw⟩ := hrel
    obtain ⟨Av, cv, rfl⟩ := own_form hov
    obtain ⟨Au, cu, rfl⟩ := own_form hou
    clear Hown0 Hl5a z1
    by_cases hlt : k < os.length
    · obtain ⟨b, off, rfl, -, hc0⟩ := HO.out k hlt
      rw [getD_at hlt] at hc0
      have hc1 := hlw.cell hc0
      have hr := Hrng.out _ (List.getElem_mem hlt)
      have hs1 : intV (Nt.wAt n 0 :: (os.take (k + 1)).map (Nt.wAt n)) = intV (Nt.wAt n 0 :: (os.take k).map (Nt.wAt n)) ++ [.int .i64 (Nt.wAt n os[k])] := by rw [List.take_succ_eq_append_getElem hlt, List.map_append, List.map_singleton, ← List.cons_append, intV_snoc]
      have hs2 : intV ((os.take (k + 1)).map (Nt.cAt n)) = intV ((os.take k).map (Nt.cAt n)) ++ [.int .i64 (Nt.cAt n os[k])] := by rw [List.take_succ_eq_append_getElem hlt, List.map_append, List.map_singleton, intV_snoc]
      obtain ⟨j, hj⟩ : ∃ j : Nat, os[k] = (j : Int) := ⟨os[k].toNat, by omega⟩
      rw [hj] at hs1 hs2 hc1
      have hjn : j ≤ n.nodes.length := by omega
      have q1 := Hwat.out wr hlw j hjn
      have p0 := hlw.cell z0
      have j0 : (0 : Int) ≤ (j : Int) := by omega
      have hjo : j ≤ os.length := by rw [← Hnn.out]; exact hjn
      have j1 : (j : Int) < (os.length : Int) + 1 := by omega
      generalize Nt.wAt n (j : Int) = wj at *
      have hcj : ∀ (W : World), Later w5 W → W.cell? ⟨g2, j, none⟩ = some (.int .i64 (Nt.cAt n j)) := fun W h => Hcat.out W h j hjn
      generalize Nt.cAt n (j : Int) = cj at *
      generalize intV (Nt.wAt n 0 :: (os.take k).map (Nt.wAt n)) = ws at *
      generalize intV ((os.take k).map (Nt.cAt n)) = cs at *
      have hsz0 := hlw.size
      have Hov := Lib.hid hov
      have Hou := Lib.hid hou
      have Hap := Lib.hid hap
      have Hlw := Lib.hid hlw
      have Hs1 := Lib.hid hs1
      have Hs2 := Lib.hid hs2
      have Hcj := Lib.hid hcj
      clear hov hou hap hlw hs1 hs2 hcj
      clear hc0 hr hj hjn
      have ho := ownsRow_new Hov.out (.cells #[.int .i64 wj] 3)
      have hbx := Hlw.out.alloc (.cells #[.int .i64 wj] 3)
      have hou1 := ownsRow_new Hou.out (.cells #[.int .i64 wj] 3)
      have Hbx := Lib.hid hbx
      have Hou1 := Lib.hid hou1
      clear hbx hou1
      have HLO := Lib.hid (fun b (hb : (Value.slice Av (k + 1) cv).ownBlock = some b) => (Hov.out.lt b hb).1)
      go_wp2_with (at_builtin; refine wpList_append_own_at _ rfl _ _ 22 rfl w5.heap.size 3 i0 (.int .i64 0) 1 8 Try.underlying22 hi hz0 hz1 hz2 rfl (by decide) _ _ _ rfl ho ⟨wr.heap.size, 0, none⟩ 1 1 [.int .i64 wj] rfl rfl ?c1 (by intro u hu; simp at hu; subst hu; rfl) (by unfold maxLen; omega) (by omega) ?c2 ?_)
      first | (case c1 => exact one_new wr _ _) | skip
      case c2 => simp; omega
      intro v' w6 hown' hgrow _ hat
      have hl6 : Later w5 w6 := Below.grown Hbx.out hgrow (by simp; omega) (fun b hb => HLO.out b hb)
      have hou6 := own_other Hou1.out hgrow Hap.out
      have hap6 := Apart.next Hap.out Hou1.out (by rw [World.size_alloc]; exact hat)
      rw [← Hs1.out] at hown'
      obtain ⟨A7, c7, rfl⟩ := own_form hown'
      have q2 := Hcj.out w6 hl6
      have hp6 := hl6.blk Hp5.out
      have p1 : w6.cell? ⟨pb, 1, none⟩ = some (.slice (some ⟨g2, 0, none⟩) (n.nodes.length + 1) (n.nodes.length + 1)) := by rw [hp6.cell]; rfl
      rw [Hnn.out] at p1
      have hsz6 := hl6.size
      clear q1 p0 hgrow hat ho HLO
      have ho2 := ownsRow_new hou6 (.cells #[.int .i64 cj] 3)
      have hbx2 := hl6.alloc (.cells #[.int .i64 cj] 3)
      have hov2 := ownsRow_new hown' (.cells #[.int .i64 cj] 3)
      have HLO2 := Lib.hid (fun b (hb : (Value.slice Au k cu).ownBlock = some b) => (hou6.lt b hb).1)
      have Hl6 := Lib.hid hl6
      have Hap6 := Lib.hid hap6
      have Hown' := Lib.hid hown'
      have Hp6 := Lib.hid hp6
      have Hbx2 := Lib.hid hbx2
      have Hov2 := Lib.hid hov2
      have Hou6 := Lib.hid hou6
      clear hl6 hap6 hown' hp6 hbx2 hov2 hou6
      go_wp2_with (at_builtin; refine wpList_append_own_at _ rfl _ _ 22 rfl w5.heap.size 3 i0 (.int .i64 0) 1 8 Try.underlying22 hi hz0 hz1 hz2 rfl (by decide) _ _ _ rfl ho2 ⟨w6.heap.size, 0, none⟩ 1 1 [.int .i64 cj] rfl rfl ?c1 (by intro u hu; simp at hu; subst hu; rfl) (by unfold maxLen; omega) (by omega) ?c2 ?_)
      first | (case c1 => exact one_new w6 _ _) | skip
      case c2 => simp; omega
      intro u' w7 hown2 hgrow2 _ hat2
      have hl7 : Later w5 w7 := Below.grown Hbx2.out hgrow2 (by simp; omega) (fun b hb => HLO2.out b hb)
      have hov7 := own_other Hov2.out hgrow2 Hap6.out.symm
      have hap7 := (Apart.next Hap6.out.symm Hov2.out (by rw [World.size_alloc]; exact hat2)).symm
      rw [← Hs2.out] at hown2
      have Hl7 := Lib.hid hl7
      have Hov7 := Lib.hid hov7
      have Hap7 := Lib.hid hap7
      have Hown2 := Lib.hid hown2
      clear hl7 hov7 hap7 hown2
      clear q2 p1 hgrow2 hat2 ho2 HLO2
      go_wp2_with fail
      go_roundw
      case rel => exact ⟨k + 1, by omega, by go_num, Hov7.out, Hown2.out, Hap7.out, Hl7.out⟩
      case measure => simp [intOf]; omega
    · obtain rfl : k = os.length := by omega
      rw [List.take_length] at hov hou
      rw [← Hcw.out] at hov
      rw [← Hcc.out] at hou
      have l1 : (Nt.chainW n).length = os.length + 1 := by rw [Hcw.out]; simp
      have l2 : (Nt.chainC n).length = os.length := by rw [Hcc.out]; simp
      have r1 : Ints .i64 wr Av (Nt.chainW n) := by
        rw [← l1] at hov
        exact (own_ints hov).1
      have r2 : Ints .i64 wr Au (Nt.chainC n) := by
        rw [← l2] at hou
        exact (own_ints hou).1
      have hl := Hl5.out.trans hlw
      have Hov := Lib.hid hov
      have Hou := Lib.hid hou
      have Hap := Lib.hid hap
      have Hl1 := Lib.hid l1
      have Hl2 := Lib.hid l2
      have Hr1 := Lib.hid r1
      have Hr2 := Lib.hid r2
      have Hl := Lib.hid hl
      have Hlw := Lib.hid hlw
      clear hov hou hap l1 l2 r1 r2 hl hlw
      clear z0
      go_wp2_with fail
      go_ret3
      exact ⟨Hl.out, .inl ⟨Hc.out, Hch.out, Av, cv, Au, cu, by (rw [Hnn.out] <;> rfl), Hr1.out, Hr2.out⟩⟩
end Go.Proofs.Ytjkhpbngpceenaa
/- Layer 13's statements: the fixed answer. -/
namespace Go.Proofs.Ytjkhpbngpceenaa
open Go.RowKit
def ap0 : NetD := ⟨[3], [⟨⟨8, 0, 0, 0, 0, 0, 0, []⟩, [0], [[2, 3], [2]]⟩, ⟨⟨12, 0, 2, 1, 0, 0, 0, []⟩, [1], []⟩]⟩
def ap1 : NetD := ⟨[], []⟩
theorem ap0_check : Nt.check ap0 = 0 := by decide +kernel
theorem ap1_check : Nt.check ap1 = 12 := by decide +kernel
theorem ap0_words : Nt.words ap0 = [3, 2, 1] := by decide +kernel
theorem ap0_costs : Nt.costs ap0 = [0, 6, 2] := by decide +kernel
theorem ap0_total : Nt.total ap0 = 8 := by decide +kernel
theorem ap0_chain : Nt.chain ap0 = true := by decide +kernel
theorem ap0_cw : Nt.chainW ap0 = [3, 2, 1] := by decide +kernel
theorem ap0_cc : Nt.chainC ap0 = [6, 2] := by decide +kernel
theorem ap0_peak : Nt.peak ap0 = 9 := by decide +kernel
theorem ap0_par : Nt.parW ap0 = 8 := by decide +kernel
theorem ap0_ok : ap0.ok := by
  refine ⟨by decide, by decide, fun v hv => ?_⟩
  simp [ap0] at hv
  rcases hv with rfl | rfl <;> exact ⟨by intro z hz; simp at hz; omega, by decide, by decide, by decide, by intro s hs; simp at hs; try (rcases hs with rfl | rfl <;> simp), by intro z hz; simp at hz; omega⟩
theorem ap0_len : ap0.nodes.length ≤ 2 := by decide
theorem ap0_small : ap0.nodes.length ≤ 200 := by decide
theorem ap1_ok : ap1.ok := ⟨by decide, by decide, fun v hv => by simp [ap1] at hv⟩
theorem Blk.intsL {w : World} {g : Nat} {t : TypeId} (l : List Int) (h : Blk w g t (l.map (Value.int .i64)).toArray) : Ints .i64 w (some ⟨g, 0, none⟩) l := Ints.of_row fun j hj => by
  rw [Nat.zero_add, h.cell]
  simp [hj]
theorem ap0_net {W : World} {p q r s h m g : Nat} (hp : Blk W p 3 #[.int .i64 3]) (hq : Blk W q 3 #[.int .i64 0]) (hr : Blk W r 3 #[.int .i64 2, .int .i64 3]) (hs : Blk W s 3 #[.int .i64 2])
    (hh : Blk W h 23 #[.slice (some ⟨r, 0, none⟩) 2 2, .slice (some ⟨s, 0, none⟩) 1 1]) (hm : Blk W m 3 #[.int .i64 1])
    (hg : Blk W g 46 #[.int .i64 8, .int .i64 0, .int .i64 0, .int .i64 0, .int .i64 0, .int .i64 0, .int .i64 0, .slice none 0 0, .slice (some ⟨q, 0, none⟩) 1 1, .slice (some ⟨h, 0, none⟩) 2 2, .int .i64 12, .int .i64 0, .int .i64 2, .int .i64 1, .int .i64 0, .int .i64 0, .int .i64 0, .slice none 0 0, .slice (some ⟨m, 0, none⟩) 1 1, .slice none 0 0]) :
    NetR W (some ⟨p, 0, none⟩) (some ⟨g, 0, none⟩) ap0 := by
  refine ⟨hp.intsL [3], fun j hj => ?_⟩
  have hj2 : j = 0 ∨ j = 1 := by simp [ap0] at hj; omega
  rcases hj2 with rfl | rfl
  · refine ⟨g, 0, none, 0, some ⟨q, 0, none⟩, 1, some ⟨h, 0, none⟩, 2, rfl, hg.lt, hg.cell 0, hg.cell 1, hg.cell 2, hg.cell 3, hg.cell 4, hg.cell 5, hg.cell 6, hg.cell 7, hg.cell 8, hg.cell 9, ⟨Ints.nil, by simp [ap0], by omega⟩, ⟨hq.intsL [0], by simp [ap0], by omega⟩, fun k hk => ?_, by simp [ap0], by omega⟩
    have hk2 : k = 0 ∨ k = 1 := by simp [ap0] at hk; omega
    rcases hk2 with rfl | rfl
    · exact ⟨h, 0, some ⟨r, 0, none⟩, 2, rfl, hh.lt, hh.cell 0, hr.intsL [2, 3], by simp [ap0], by omega⟩
    · exact ⟨h, 0, some ⟨s, 0, none⟩, 1, rfl, hh.lt, hh.cell 1, hs.intsL [2], by simp [ap0], by omega⟩
  · exact ⟨g, 0, none, 0, some ⟨m, 0, none⟩, 1, none, 0, rfl, hg.lt, hg.cell 10, hg.cell 11, hg.cell 12, hg.cell 13, hg.cell 14, hg.cell 15, hg.cell 16, hg.cell 17, hg.cell 18, hg.cell 19, ⟨Ints.nil, by simp [ap0], by omega⟩, ⟨hm.intsL [1], by simp [ap0], by omega⟩, Shps.nil, by simp [ap0], by omega⟩
theorem ap_start (w : World) : NetR ((((((((w.alloc (.cells #[.int .i64 3] 3)).alloc (.cells #[.int .i64 0] 3)).alloc (.cells #[.int .i64 2, .int .i64 3] 3)).alloc (.cells #[.int .i64 2] 3)).alloc (.cells #[.slice (some ⟨w.heap.size + 1 + 1, 0, none⟩) 2 2, .slice (some ⟨w.heap.size + 1 + 1 + 1, 0, none⟩) 1 1] 23)).alloc (.cells #[.int .i64 1] 3)).alloc (.cells #[.int .i64 8, .int .i64 0, .int .i64 0, .int .i64 0, .int .i64 0, .int .i64 0, .int .i64 0, .slice none 0 0, .slice (some ⟨w.heap.size + 1, 0, none⟩) 1 1, .slice (some ⟨w.heap.size + 1 + 1 + 1 + 1, 0, none⟩) 2 2, .int .i64 12, .int .i64 0, .int .i64 2, .int .i64 1, .int .i64 0, .int .i64 0, .int .i64 0, .slice none 0 0, .slice (some ⟨w.heap.size + 1 + 1 + 1 + 1 + 1, 0, none⟩) 1 1, .slice none 0 0] 46)).alloc (.cells #[.slice (some ⟨w.heap.size, 0, none⟩) 1 1, .slice (some ⟨w.heap.size + 1 + 1 + 1 + 1 + 1 + 1, 0, none⟩) 2 2] 26)) (some ⟨w.heap.size, 0, none⟩) (some ⟨w.heap.size + 1 + 1 + 1 + 1 + 1 + 1, 0, none⟩) ap0 ∧ Blk ((((((((w.alloc (.cells #[.int .i64 3] 3)).alloc (.cells #[.int .i64 0] 3)).alloc (.cells #[.int .i64 2, .int .i64 3] 3)).alloc (.cells #[.int .i64 2] 3)).alloc (.cells #[.slice (some ⟨w.heap.size + 1 + 1, 0, none⟩) 2 2, .slice (some ⟨w.heap.size + 1 + 1 + 1, 0, none⟩) 1 1] 23)).alloc (.cells #[.int .i64 1] 3)).alloc (.cells #[.int .i64 8, .int .i64 0, .int .i64 0, .int .i64 0, .int .i64 0, .int .i64 0, .int .i64 0, .slice none 0 0, .slice (some ⟨w.heap.size + 1, 0, none⟩) 1 1, .slice (some ⟨w.heap.size + 1 + 1 + 1 + 1, 0, none⟩) 2 2, .int .i64 12, .int .i64 0, .int .i64 2, .int .i64 1, .int .i64 0, .int .i64 0, .int .i64 0, .slice none 0 0, .slice (some ⟨w.heap.size + 1 + 1 + 1 + 1 + 1, 0, none⟩) 1 1, .slice none 0 0] 46)).alloc (.cells #[.slice (some ⟨w.heap.size, 0, none⟩) 1 1, .slice (some ⟨w.heap.size + 1 + 1 + 1 + 1 + 1 + 1, 0, none⟩) 2 2] 26)) (w.heap.size + 1 + 1 + 1 + 1 + 1 + 1 + 1) 26 #[.slice (some ⟨w.heap.size, 0, none⟩) 1 1, .slice (some ⟨w.heap.size + 1 + 1 + 1 + 1 + 1 + 1, 0, none⟩) 2 2] ∧ Later w ((((((((w.alloc (.cells #[.int .i64 3] 3)).alloc (.cells #[.int .i64 0] 3)).alloc (.cells #[.int .i64 2, .int .i64 3] 3)).alloc (.cells #[.int .i64 2] 3)).alloc (.cells #[.slice (some ⟨w.heap.size + 1 + 1, 0, none⟩) 2 2, .slice (some ⟨w.heap.size + 1 + 1 + 1, 0, none⟩) 1 1] 23)).alloc (.cells #[.int .i64 1] 3)).alloc (.cells #[.int .i64 8, .int .i64 0, .int .i64 0, .int .i64 0, .int .i64 0, .int .i64 0, .int .i64 0, .slice none 0 0, .slice (some ⟨w.heap.size + 1, 0, none⟩) 1 1, .slice (some ⟨w.heap.size + 1 + 1 + 1 + 1, 0, none⟩) 2 2, .int .i64 12, .int .i64 0, .int .i64 2, .int .i64 1, .int .i64 0, .int .i64 0, .int .i64 0, .slice none 0 0, .slice (some ⟨w.heap.size + 1 + 1 + 1 + 1 + 1, 0, none⟩) 1 1, .slice none 0 0] 46)).alloc (.cells #[.slice (some ⟨w.heap.size, 0, none⟩) 1 1, .slice (some ⟨w.heap.size + 1 + 1 + 1 + 1 + 1 + 1, 0, none⟩) 2 2] 26)) := by
  have k0 := (((((((Blk.new w 3 #[.int .i64 3]).alloc (.cells #[.int .i64 0] 3)).alloc (.cells #[.int .i64 2, .int .i64 3] 3)).alloc (.cells #[.int .i64 2] 3)).alloc (.cells #[.slice (some ⟨w.heap.size + 1 + 1, 0, none⟩) 2 2, .slice (some ⟨w.heap.size + 1 + 1 + 1, 0, none⟩) 1 1] 23)).alloc (.cells #[.int .i64 1] 3)).alloc (.cells #[.int .i64 8, .int .i64 0, .int .i64 0, .int .i64 0, .int .i64 0, .int .i64 0, .int .i64 0, .slice none 0 0, .slice (some ⟨w.heap.size + 1, 0, none⟩) 1 1, .slice (some ⟨w.heap.size + 1 + 1 + 1 + 1, 0, none⟩) 2 2, .int .i64 12, .int .i64 0, .int .i64 2, .int .i64 1, .int .i64 0, .int .i64 0, .int .i64 0, .slice none 0 0, .slice (some ⟨w.heap.size + 1 + 1 + 1 + 1 + 1, 0, none⟩) 1 1, .slice none 0 0] 46)).alloc (.cells #[.slice (some ⟨w.heap.size, 0, none⟩) 1 1, .slice (some ⟨w.heap.size + 1 + 1 + 1 + 1 + 1 + 1, 0, none⟩) 2 2] 26)
  have k1 := ((((((Blk.new (w.alloc (.cells #[.int .i64 3] 3)) 3 #[.int .i64 0]).alloc (.cells #[.int .i64 2, .int .i64 3] 3)).alloc (.cells #[.int .i64 2] 3)).alloc (.cells #[.slice (some ⟨w.heap.size + 1 + 1, 0, none⟩) 2 2, .slice (some ⟨w.heap.size + 1 + 1 + 1, 0, none⟩) 1 1] 23)).alloc (.cells #[.int .i64 1] 3)).alloc (.cells #[.int .i64 8, .int .i64 0, .int .i64 0, .int .i64 0, .int .i64 0, .int .i64 0, .int .i64 0, .slice none 0 0, .slice (some ⟨w.heap.size + 1, 0, none⟩) 1 1, .slice (some ⟨w.heap.size + 1 + 1 + 1 + 1, 0, none⟩) 2 2, .int .i64 12, .int .i64 0, .int .i64 2, .int .i64 1, .int .i64 0, .int .i64 0, .int .i64 0, .slice none 0 0, .slice (some ⟨w.heap.size + 1 + 1 + 1 + 1 + 1, 0, none⟩) 1 1, .slice none 0 0] 46)).alloc (.cells #[.slice (some ⟨w.heap.size, 0, none⟩) 1 1, .slice (some ⟨w.heap.size + 1 + 1 + 1 + 1 + 1 + 1, 0, none⟩) 2 2] 26)
  have k2 := (((((Blk.new ((w.alloc (.cells #[.int .i64 3] 3)).alloc (.cells #[.int .i64 0] 3)) 3 #[.int .i64 2, .int .i64 3]).alloc (.cells #[.int .i64 2] 3)).alloc (.cells #[.slice (some ⟨w.heap.size + 1 + 1, 0, none⟩) 2 2, .slice (some ⟨w.heap.size + 1 + 1 + 1, 0, none⟩) 1 1] 23)).alloc (.cells #[.int .i64 1] 3)).alloc (.cells #[.int .i64 8, .int .i64 0, .int .i64 0, .int .i64 0, .int .i64 0, .int .i64 0, .int .i64 0, .slice none 0 0, .slice (some ⟨w.heap.size + 1, 0, none⟩) 1 1, .slice (some ⟨w.heap.size + 1 + 1 + 1 + 1, 0, none⟩) 2 2, .int .i64 12, .int .i64 0, .int .i64 2, .int .i64 1, .int .i64 0, .int .i64 0, .int .i64 0, .slice none 0 0, .slice (some ⟨w.heap.size + 1 + 1 + 1 + 1 + 1, 0, none⟩) 1 1, .slice none 0 0] 46)).alloc (.cells #[.slice (some ⟨w.heap.size, 0, none⟩) 1 1, .slice (some ⟨w.heap.size + 1 + 1 + 1 + 1 + 1 + 1, 0, none⟩) 2 2] 26)
  have k3 := ((((Blk.new (((w.alloc (.cells #[.int .i64 3] 3)).alloc (.cells #[.int .i64 0] 3)).alloc (.cells #[.int .i64 2, .int .i64 3] 3)) 3 #[.int .i64 2]).alloc (.cells #[.slice (some ⟨w.heap.size + 1 + 1, 0, none⟩) 2 2, .slice (some ⟨w.heap.size + 1 + 1 + 1, 0, none⟩) 1 1] 23)).alloc (.cells #[.int .i64 1] 3)).alloc (.cells #[.int .i64 8, .int .i64 0, .int .i64 0, .int .i64 0, .int .i64 0, .int .i64 0, .int .i64 0, .slice none 0 0, .slice (some ⟨w.heap.size + 1, 0, none⟩) 1 1, .slice (some ⟨w.heap.size + 1 + 1 + 1 + 1, 0, none⟩) 2 2, .int .i64 12, .int .i64 0, .int .i64 2, .int .i64 1, .int .i64 0, .int .i64 0, .int .i64 0, .slice none 0 0, .slice (some ⟨w.heap.size + 1 + 1 + 1 + 1 + 1, 0, none⟩) 1 1, .slice none 0 0] 46)).alloc (.cells #[.slice (some ⟨w.heap.size, 0, none⟩) 1 1, .slice (some ⟨w.heap.size + 1 + 1 + 1 + 1 + 1 + 1, 0, none⟩) 2 2] 26)
  have k4 := (((Blk.new ((((w.alloc (.cells #[.int .i64 3] 3)).alloc (.cells #[.int .i64 0] 3)).alloc (.cells #[.int .i64 2, .int .i64 3] 3)).alloc (.cells #[.int .i64 2] 3)) 23 #[.slice (some ⟨w.heap.size + 1 + 1, 0, none⟩) 2 2, .slice (some ⟨w.heap.size + 1 + 1 + 1, 0, none⟩) 1 1]).alloc (.cells #[.int .i64 1] 3)).alloc (.cells #[.int .i64 8, .int .i64 0, .int .i64 0, .int .i64 0, .int .i64 0, .int .i64 0, .int .i64 0, .slice none 0 0, .slice (some ⟨w.heap.size + 1, 0, none⟩) 1 1, .slice (some ⟨w.heap.size + 1 + 1 + 1 + 1, 0, none⟩) 2 2, .int .i64 12, .int .i64 0, .int .i64 2, .int .i64 1, .int .i64 0, .int .i64 0, .int .i64 0, .slice none 0 0, .slice (some ⟨w.heap.size + 1 + 1 + 1 + 1 + 1, 0, none⟩) 1 1, .slice none 0 0] 46)).alloc (.cells #[.slice (some ⟨w.heap.size, 0, none⟩) 1 1, .slice (some ⟨w.heap.size + 1 + 1 + 1 + 1 + 1 + 1, 0, none⟩) 2 2] 26)
  have k5 := ((Blk.new (((((w.alloc (.cells #[.int .i64 3] 3)).alloc (.cells #[.int .i64 0] 3)).alloc (.cells #[.int .i64 2, .int .i64 3] 3)).alloc (.cells #[.int .i64 2] 3)).alloc (.cells #[.slice (some ⟨w.heap.size + 1 + 1, 0, none⟩) 2 2, .slice (some ⟨w.heap.size + 1 + 1 + 1, 0, none⟩) 1 1] 23)) 3 #[.int .i64 1]).alloc (.cells #[.int .i64 8, .int .i64 0, .int .i64 0, .int .i64 0, .int .i64 0, .int .i64 0, .int .i64 0, .slice none 0 0, .slice (some ⟨w.heap.size + 1, 0, none⟩) 1 1, .slice (some ⟨w.heap.size + 1 + 1 + 1 + 1, 0, none⟩) 2 2, .int .i64 12, .int .i64 0, .int .i64 2, .int .i64 1, .int .i64 0, .int .i64 0, .int .i64 0, .slice none 0 0, .slice (some ⟨w.heap.size + 1 + 1 + 1 + 1 + 1, 0, none⟩) 1 1, .slice none 0 0] 46)).alloc (.cells #[.slice (some ⟨w.heap.size, 0, none⟩) 1 1, .slice (some ⟨w.heap.size + 1 + 1 + 1 + 1 + 1 + 1, 0, none⟩) 2 2] 26)
  have k6 := (Blk.new ((((((w.alloc (.cells #[.int .i64 3] 3)).alloc (.cells #[.int .i64 0] 3)).alloc (.cells #[.int .i64 2, .int .i64 3] 3)).alloc (.cells #[.int .i64 2] 3)).alloc (.cells #[.slice (some ⟨w.heap.size + 1 + 1, 0, none⟩) 2 2, .slice (some ⟨w.heap.size + 1 + 1 + 1, 0, none⟩) 1 1] 23)).alloc (.cells #[.int .i64 1] 3)) 46 #[.int .i64 8, .int .i64 0, .int .i64 0, .int .i64 0, .int .i64 0, .int .i64 0, .int .i64 0, .slice none 0 0, .slice (some ⟨w.heap.size + 1, 0, none⟩) 1 1, .slice (some ⟨w.heap.size + 1 + 1 + 1 + 1, 0, none⟩) 2 2, .int .i64 12, .int .i64 0, .int .i64 2, .int .i64 1, .int .i64 0, .int .i64 0, .int .i64 0, .slice none 0 0, .slice (some ⟨w.heap.size + 1 + 1 + 1 + 1 + 1, 0, none⟩) 1 1, .slice none 0 0]).alloc (.cells #[.slice (some ⟨w.heap.size, 0, none⟩) 1 1, .slice (some ⟨w.heap.size + 1 + 1 + 1 + 1 + 1 + 1, 0, none⟩) 2 2] 26)
  have k7 := Blk.new (((((((w.alloc (.cells #[.int .i64 3] 3)).alloc (.cells #[.int .i64 0] 3)).alloc (.cells #[.int .i64 2, .int .i64 3] 3)).alloc (.cells #[.int .i64 2] 3)).alloc (.cells #[.slice (some ⟨w.heap.size + 1 + 1, 0, none⟩) 2 2, .slice (some ⟨w.heap.size + 1 + 1 + 1, 0, none⟩) 1 1] 23)).alloc (.cells #[.int .i64 1] 3)).alloc (.cells #[.int .i64 8, .int .i64 0, .int .i64 0, .int .i64 0, .int .i64 0, .int .i64 0, .int .i64 0, .slice none 0 0, .slice (some ⟨w.heap.size + 1, 0, none⟩) 1 1, .slice (some ⟨w.heap.size + 1 + 1 + 1 + 1, 0, none⟩) 2 2, .int .i64 12, .int .i64 0, .int .i64 2, .int .i64 1, .int .i64 0, .int .i64 0, .int .i64 0, .slice none 0 0, .slice (some ⟨w.heap.size + 1 + 1 + 1 + 1 + 1, 0, none⟩) 1 1, .slice none 0 0] 46)) 26 #[.slice (some ⟨w.heap.size, 0, none⟩) 1 1, .slice (some ⟨w.heap.size + 1 + 1 + 1 + 1 + 1 + 1, 0, none⟩) 2 2]
  simp only [World.size_alloc] at k1 k2 k3 k4 k5 k6 k7
  exact ⟨ap0_net k0 k1 k2 k3 k4 k5 k6, k7, (((((((((Later.refl w).alloc _).alloc _).alloc _).alloc _).alloc _).alloc _).alloc _).alloc _)⟩
set_option maxHeartbeats 8000000 in
set_option maxRecDepth 100000 in
theorem awake13 (w : World) : Calls Try.prog 28 #[] w fun e w' => e = .returned (.bool true) ∧ Below w.heap.size w w' := by
  obtain ⟨hR1, hk1, hl1⟩ := ap_start w
  have HR1 := Lib.hid hR1
  have Hk1 := Lib.hid hk1
  have Hl1 := Lib.hid hl1
  clear hR1 hk1 hl1
  go_enter Try.func28, Try.ntmps28
  go_wp2_with fail
  generalize ((((((((w.alloc (.cells #[.int .i64 3] 3)).alloc (.cells #[.int .i64 0] 3)).alloc (.cells #[.int .i64 2, .int .i64 3] 3)).alloc (.cells #[.int .i64 2] 3)).alloc (.cells #[.slice (some ⟨w.heap.size + 1 + 1, 0, none⟩) 2 2, .slice (some ⟨w.heap.size + 1 + 1 + 1, 0, none⟩) 1 1] 23)).alloc (.cells #[.int .i64 1] 3)).alloc (.cells #[.int .i64 8, .int .i64 0, .int .i64 0, .int .i64 0, .int .i64 0, .int .i64 0, .int .i64 0, .slice none 0 0, .slice (some ⟨w.heap.size + 1, 0, none⟩) 1 1, .slice (some ⟨w.heap.size + 1 + 1 + 1 + 1, 0, none⟩) 2 2, .int .i64 12, .int .i64 0, .int .i64 2, .int .i64 1, .int .i64 0, .int .i64 0, .int .i64 0, .slice none 0 0, .slice (some ⟨w.heap.size + 1 + 1 + 1 + 1 + 1, 0, none⟩) 1 1, .slice none 0 0] 46)).alloc (.cells #[.slice (some ⟨w.heap.size, 0, none⟩) 1 1, .slice (some ⟨w.heap.size + 1 + 1 + 1 + 1 + 1 + 1, 0, none⟩) 2 2] 26)) = W1 at *
  have hR1 := HR1.out
  have hk1 := Hk1.out
  have hl1 := Hl1.out
  generalize w.heap.size + 1 + 1 + 1 + 1 + 1 + 1 + 1 = b at *
  generalize w.heap.size + 1 + 1 + 1 + 1 + 1 + 1 = q at *
  clear HR1 Hk1 Hl1
  have hcall : Calls Try.prog 29 #[.agg #[.slice (some ⟨w.heap.size, 0, none⟩) 1 1, .slice (some ⟨q, 0, none⟩) 2 2]] W1 (OfP ap0 W1) := price_of (some ⟨w.heap.size, 0, none⟩) (some ⟨q, 0, none⟩) 1 2 ap0 W1 ap0_ok hR1 ap0_len ap0_small
  refine hcall.mono ?_
  intro e W2 hof
  obtain ⟨hb2, hq⟩ := hof
  rcases hq with ⟨_, g1, g2, rfl, hg1, hg2⟩ | ⟨hne, _⟩
  rotate_left
  · exact absurd ap0_check hne
  rw [ap0_words] at hg1
  rw [ap0_costs] at hg2
  rw [ap0_total, show ap0.nodes.length = 2 from rfl]
  have h2 : Later W1 (W2.alloc (.cells #[.slice (some ⟨g1, 0, none⟩) 3 3, .slice (some ⟨g2, 0, none⟩) 3 3, .int .i64 8] 60)) := (show Later W1 W2 from hb2).alloc _
  have hg1 := hg1.alloc (.cells #[.slice (some ⟨g1, 0, none⟩) 3 3, .slice (some ⟨g2, 0, none⟩) 3 3, .int .i64 8] 60)
  have hg2 := hg2.alloc (.cells #[.slice (some ⟨g1, 0, none⟩) 3 3, .slice (some ⟨g2, 0, none⟩) 3 3, .int .i64 8] 60)
  have hpx := Blk.new W2 60 #[.slice (some ⟨g1, 0, none⟩) 3 3, .slice (some ⟨g2, 0, none⟩) 3 3, .int .i64 8]
  have hk2 := h2.blk hk1
  have c0 := hk2.cell 0
  have c1 := hk2.cell 1
  simp at c0 c1
  have HR1 := Lib.hid hR1
  have Hk1 := Lib.hid hk1
  have Hl1 := Lib.hid hl1
  have H2 := Lib.hid h2
  have Hg1 := Lib.hid hg1
  have Hg2 := Lib.hid hg2
  have Hpx := Lib.hid hpx
  have Hk2 := Lib.hid hk2
  have Hc0 := Lib.hid c0
  have Hc1 := Lib.hid c1
  clear hR1 hk1 hl1 h2 hg1 hg2 hpx hk2 c0 c1
  clear hb2
  go_upto_region 3 with fail
  generalize W2.alloc (.cells #[.slice (some ⟨g1, 0, none⟩) 3 3, .slice (some ⟨g2, 0, none⟩) 3 3, .int .i64 8] 60) = W3 at *
  generalize W2.heap.size = pb at *
  have c0 := Hc0.out
  have c1 := Hc1.out
  clear Hc0 Hc1
  go_wp2_with fail
  refine (price_chain _ _ 1 2 ap0 W3 ap0_ok (HR1.out.below H2.out (Nat.le_refl _)) ap0_len ap0_small).mono ?_
  rintro e W4 ⟨hb4, ⟨-, -, A, ac, A2, ac2, rfl, hA, hA2⟩ | ⟨-, hch, -⟩ | ⟨hne, -⟩⟩
  rotate_left
  · rw [ap0_chain] at hch; cases hch
  · exact absurd ap0_check hne
  rw [ap0_cw] at hA
  rw [show ap0.nodes.length = 2 from rfl]
  have h34 : Later W3 W4 := hb4
  have d0 := h34.cell c0
  have d1 := h34.cell c1
  have H34 := Lib.hid h34
  have HA := Lib.hid hA
  have HA2 := Lib.hid hA2
  clear h34 hA hA2
  clear hb4 c0 c1
  go_wp2_with fail
  refine (price_peak _ _ 1 2 ap0 W4 ap0_ok (HR1.out.below (H2.out.trans H34.out) (Nat.le_refl _)) ap0_len ap0_small).mono ?_
  rintro e W5 ⟨rfl, hb5⟩
  rw [ap0_peak, ap0_check]
  have h45 : Later W4 W5 := hb5
  have c0 := h45.cell d0
  have c1 := h45.cell d1
  have H45 := Lib.hid h45
  clear h45
  clear hb5 d0 d1
  go_wp2_with fail
  refine (price_params _ _ 1 2 ap0 W5 ap0_ok (HR1.out.below ((H2.out.trans H34.out).trans H45.out) (Nat.le_refl _)) ap0_len ap0_small).mono ?_
  rintro e W6 ⟨rfl, hb6⟩
  rw [ap0_par, ap0_check]
  have h56 : Later W5 W6 := hb6
  have H56 := Lib.hid h56
  clear h56
  clear hb6 c0 c1
  go_wp2_with fail
  refine (price_of none none 0 0 ap1 W6 ap1_ok ⟨Ints.nil, fun j hj => by simp [ap1] at hj⟩ (by decide) (by decide)).mono ?_
  rintro e W7 ⟨hb7, ⟨hz, -⟩ | ⟨-, rfl⟩⟩
  · rw [ap1_check] at hz; cases hz
  rw [ap1_check]
  have h67 : Later W6 (W7.alloc (.cells #[.slice none 0 0, .slice none 0 0, .int .i64 0] 60)) := (show Later W6 W7 from hb7).alloc _
  have h38 := ((H34.out.trans H45.out).trans H56.out).trans h67
  have h48 := (H45.out.trans H56.out).trans h67
  have hp8 := h38.blk Hpx.out
  have c0 := hp8.cell 0
  have c1 := hp8.cell 1
  have c2 := hp8.cell 2
  simp at c0 c1 c2
  have H67 := Lib.hid h67
  have H38 := Lib.hid h38
  have H48 := Lib.hid h48
  have Hp8 := Lib.hid hp8
  have Hc0 := Lib.hid c0
  have Hc1 := Lib.hid c1
  have Hc2 := Lib.hid c2
  clear h67 h38 h48 hp8 c0 c1 c2
  clear hb7
  go_upto_region 7 with fail
  generalize W7.alloc (.cells #[.slice none 0 0, .slice none 0 0, .int .i64 0] 60) = W8 at *
  have c0 := Hc0.out
  have c1 := Hc1.out
  have c2 := Hc2.out
  have hl8 := (Hl1.out.trans H2.out).trans H38.out
  have hI1 := (H38.out.blk Hg1.out).intsL [3, 2, 1]
  have hI2 := (H38.out.blk Hg2.out).intsL [0, 6, 2]
  have hA8 := HA.out.below H48.out (Nat.le_refl _)
  clear Hc0 Hc1 Hc2
  have HI1 := Lib.hid hI1
  have HI2 := Lib.hid hI2
  have HA8 := Lib.hid hA8
  have Hl8 := Lib.hid hl8
  clear hI1 hI2 hA8 hl8
  go_wp2_with fail
  have hJ := (Blk.new W8 3 #[.int .i64 3, .int .i64 2, .int .i64 1]).intsL [3, 2, 1]
  refine (ref03_same (some ⟨g1, 0, none⟩) (some ⟨W8.heap.size, 0, none⟩) 3 3 [3, 2, 1] [3, 2, 1] _ (by decide) (by decide) (HI1.out.alloc _) hJ).mono ?_
  rintro e W9 ⟨rfl, k9, rfl⟩
  rw [decide_eq_true rfl]
  have h89 : Later W8 ((W8.alloc (.cells #[.int .i64 3, .int .i64 2, .int .i64 1] 3)).drewN k9) := ((Later.refl W8).alloc _).drewN k9
  have e0 := h89.cell c0
  have e1 := h89.cell c1
  have e2 := h89.cell c2
  generalize (W8.alloc (.cells #[.int .i64 3, .int .i64 2, .int .i64 1] 3)).drewN k9 = W9 at *
  have H89 := Lib.hid h89
  clear h89
  clear hJ c0 c1 c2
  go_wp2_with fail
  have hJ := (Blk.new W9 3 #[.int .i64 0, .int .i64 6, .int .i64 2]).intsL [0, 6, 2]
  refine (ref03_same (some ⟨g2, 0, none⟩) (some ⟨W9.heap.size, 0, none⟩) 3 3 [0, 6, 2] [0, 6, 2] _ (by decide) (by decide) ((HI2.out.below H89.out (Nat.le_refl _)).alloc _) hJ).mono ?_
  rintro e W10 ⟨rfl, k10, rfl⟩
  rw [decide_eq_true rfl]
  have h90 : Later W9 ((W9.alloc (.cells #[.int .i64 0, .int .i64 6, .int .i64 2] 3)).drewN k10) := ((Later.refl W9).alloc _).drewN k10
  have c0 := h90.cell e0
  have c2 := h90.cell e2
  generalize (W9.alloc (.cells #[.int .i64 0, .int .i64 6, .int .i64 2] 3)).drewN k10 = W10 at *
  have H90 := Lib.hid h90
  clear h90
  clear hJ e0 e1 e2
  go_wp2_with fail
  refine (ref03_same A (some ⟨g1, 0, none⟩) ac 3 [3, 2, 1] [3, 2, 1] _ (by decide) (by decide) (HA8.out.below (H89.out.trans H90.out) (Nat.le_refl _)) (HI1.out.below (H89.out.trans H90.out) (Nat.le_refl _))).mono ?_
  rintro e W11 ⟨rfl, k11, rfl⟩
  rw [decide_eq_true rfl]
  have hl := ((Hl8.out.trans H89.out).trans H90.out).drewN k11
  have Hl := Lib.hid hl
  clear hl
  go_wp2_with fail
  go_ret
  exact ⟨rfl, Hl.out⟩
end Go.Proofs.Ytjkhpbngpceenaa
/- The reference of layer 11: Check: contract. -/
namespace Go.Proofs.Ytjkhpbngpceenaa
open Go.RowKit
def RefCheckP (n : NetD) (w : World) (e : Ending) (w' : World) : Prop :=
  Below w.heap.size w w' ∧ ((Nt.check n = 0 ∧ ∃ g, e = .returned (.tuple #[.slice (some ⟨g, 0, none⟩) (n.nodes.length + 1) (n.nodes.length + 1), .int .i64 (Nt.loss n.nodes), .int .i64 0]) ∧ w.heap.size ≤ g ∧ ShpRow w' g 22 (Nt.shapes n)) ∨
    (Nt.check n ≠ 0 ∧ e = .returned (.tuple #[.slice none 0 0, .int .i64 0, .int .i64 (Nt.check n)])))
theorem RefCheckP.err {n : NetD} {w w' : World} {k : Int} (h : Nt.check n = k) (hk : k ≠ 0) (hb : Below w.heap.size w w') : RefCheckP n w (.returned (.tuple #[.slice none 0 0, .int .i64 0, .int .i64 k])) w' :=
  ⟨hb, .inr (by rw [h]; exact ⟨hk, rfl⟩)⟩
theorem ShpRow.apart {w : World} {g : Nat} {t : TypeId} {sh : List (List Int)} {S : Option Addr} {s : List Int} (h : ShpRow w g t sh) (hI : Ints .i64 w S s) (hs : 0 < s.length) : ∀ a, S = some a → a.block ≠ g := by
  intro a ha hg
  obtain ⟨b, off, e, hl, hc⟩ := hI 0 hs
  rw [ha] at e
  injection e with e
  subst e
  simp at hg
  subst hg
  obtain ⟨vs, hl2, hk, hv⟩ := h
  rw [Nat.add_zero, hk.cell off] at hc
  by_cases ho : off < sh.length
  · obtain ⟨S', c', e1, _⟩ := hv off ho
    simp at hc
    rw [e1] at hc
    simp at hc
  · rw [Array.getElem?_eq_none (by simp; omega)] at hc
    cases hc
theorem Nt.count_used (ns : List NodeD) (id : Int) : (Nt.count ns id = 0) ↔ Nt.isUsed ns id = false := by
  unfold Nt.count Nt.isUsed
  rw [List.length_eq_zero_iff, List.filter_eq_nil_iff, List.any_eq_false]
set_option maxRecDepth 20000 in
set_option maxHeartbeats 16000000 in
theorem ref11_check (A N : Option Addr) (c d : Nat) (n : NetD) (w : World) (hok : n.ok) (hR : NetR w A N n) (hd : n.nodes.length ≤ d) (hc : n.inn.length ≤ c) (hcm : c ≤ 9223372036854775807) :
    Calls Try.prog 12 #[.agg #[.slice A n.inn.length c, .slice N n.nodes.length d]] w (RefCheckP n w) := by
  obtain ⟨i1, hj, hy0, hy1, hy2⟩ := info_parts shpsT_info
  have hnl := hok.2.1
  have hil := hok.1
  have hb0 : Below w.heap.size w (w.alloc (.cells #[.slice A n.inn.length c, .slice N n.nodes.length d] 37)) := (Below.refl _ _).alloc (Nat.le_refl _) _
  have hk0 := Blk.new w 37 #[.slice A n.inn.length c, .slice N n.nodes.length d]
  have hR0 := hR.below hb0 (Nat.le_refl _)
  by_cases hmany : n.nodes.length < 1 ∨ 512 < n.nodes.length
  · have HC := Lib.hid (Nt.check_many hmany)
    have HR := Lib.hid hR
    have Hok := Lib.hid hok
    have HR0 := Lib.hid hR0
    have Hk0 := Lib.hid hk0
    clear hR hok hR0 hk0
    rcases hmany with h | h
    · have d1 : decide ((n.nodes.length : Int) < 1) = true := by simp; omega
      go_enter Try.func12, Try.ntmps12
      go_wp2_with fail
      go_ret3
      exact RefCheckP.err HC.out (by omega) hb0
    · have d1 : decide ((n.nodes.length : Int) < 1) = false := by simp; omega
      have d2 : decide ((512 : Int) < (n.nodes.length : Int)) = true := by simp; omega
      go_enter Try.func12, Try.ntmps12
      go_wp2_with fail
      go_ret3
      exact RefCheckP.err HC.out (by omega) hb0
  · have d1 : decide ((n.nodes.length : Int) < 1) = false := by simp; omega
    have d2 : decide ((512 : Int) < (n.nodes.length : Int)) = false := by simp; omega
    have h512 : n.nodes.length ≤ 512 := by omega
    have hone : 1 ≤ n.nodes.length := by omega
    have HR := Lib.hid hR
    have Hok := Lib.hid hok
    have HR0 := Lib.hid hR0
    have Hk0 := Lib.hid hk0
    have Hmany := Lib.hid hmany
    clear hR hok hR0 hk0 hmany
    go_enter Try.func12, Try.ntmps12
    go_wp2_with fail
    have hx := Hk0.out
    generalize w.alloc (.cells #[.slice A n.inn.length c, .slice N n.nodes.length d] 37) = w1 at *
    have hbox := Hk0.out
    refine (ref03_right A c n.inn _ (by omega) HR0.out.1).mono ?_
    rintro e w2 ⟨rfl, rfl⟩
    have x1 : w1.cell? ⟨w.heap.size, 1, none⟩ = some (.slice N n.nodes.length d) := by rw [hbox.cell]; rfl
    clear d1 d2 hx
    by_cases hin : Sh.right n.inn = true
    rotate_left
    · have hin' : Sh.right n.inn = false := by simpa using hin
      have HC := Lib.hid (Nt.check_in Hmany.out hin')
      rw [hin']
      have Hbox := Lib.hid hbox
      clear hbox
      clear hin hin'
      go_wp2_with fail
      go_ret3
      exact RefCheckP.err HC.out (by omega) hb0
    · have Hin := Lib.hid hin
      rw [hin]
      have Hbox := Lib.hid hbox
      clear hbox
      clear hin
      go_wp2_with fail
      clear x1 HR0 Hk0
      go_loopw [5] (fun i wr => ∃ k : Nat, k ≤ n.nodes.length ∧ i = .int .i64 k ∧ Blk wr w.heap.size 37 #[.slice A n.inn.length c, .slice N n.nodes.length d] ∧ Below w.heap.size w wr ∧ lookBad n k) (fun i _ => n.nodes.length - (intOf i).toNat)
      case atStart => exact ⟨0, Nat.zero_le _, rfl, Hbox.out, hb0, fun j hj h => by omega⟩
      case round =>
        clear Hbox hb0
        obtain ⟨k, hk, rfl, hbox, hbw, hbad⟩ := hrel
        have hsl := hbox.lt
        have x1 : wr.cell? ⟨w.heap.size, 1, none⟩ = some (.slice N n.nodes.length d) := by rw [hbox.cell]; rfl
        by_cases hlt : k < n.nodes.length
        · obtain ⟨b, off, S, sc, J, ic, Q, qc, rfl, hNA, -, hI, -⟩ := HR.out.2.at_ hlt
          have hnok := Hok.out.2.2 _ (List.getElem_mem hlt)
          have hb21 := fun h => Nt.bads_op (n := n.nodes.length) hlt hbad h
          have hb11 := fun h m (hm : m < n.nodes[k].ins.length) h2 => Nt.bads_in (n := n.nodes.length) hlt hbad h (m := m) hm h2
          have hnext : Od.right n.nodes[k].op = true → n.nodes[k].ins.all (fun i => decide (0 ≤ i ∧ i ≤ n.nodes.length)) = true → lookBad n (k + 1) := fun h1 h2 j hj hjk => by
            by_cases e : j = k
            · subst e; exact ⟨h1, h2⟩
            · exact hbad j hj (by omega)
          have hil := hnok.2.2.1
          have hsl2 := hnok.2.1
          generalize n.nodes[k] = v at *
          have hNw := hNA.below hbw
          obtain ⟨⟨y0, y1, y2, y3, y4, y5, y6, y7, y8, y9⟩, -⟩ := hNA.below hbw
          have hcall := ref10_right v.op S sc wr (by omega)
          rw [Od.ref_right] at hcall
          have Hbox := Lib.hid hbox
          have HNA := Lib.hid hNA
          have Hnok := Lib.hid hnok
          have Hb21 := Lib.hid hb21
          have Hb11 := Lib.hid hb11
          have Hnext := Lib.hid hnext
          have HNw := Lib.hid hNw
          have Hbad := Lib.hid hbad
          have Hcall := Lib.hid hcall
          clear hbox hNA hnok hb21 hb11 hnext hNw hbad hcall
          go_wp2_with fail
          refine (Hcall.out).mono ?_
          rintro e w2 ⟨rfl, hb2⟩
          have hbx2 := hbw.trans (hb2.mono hbw.size)
          have hbox2 := Hbox.out.below hb2 hsl
          clear x1
          have x1 : w2.cell? ⟨w.heap.size, 1, none⟩ = some (.slice (some ⟨b, off, none⟩) n.nodes.length d) := by rw [hbox2.cell]; rfl
          have hN2 := HNw.out.below hb2
          obtain ⟨⟨-, -, -, -, -, -, -, -, z8, -⟩, -, hIJ, -⟩ := hN2
          clear y0 y1 y2 y3 y4 y5 y6 y7 y8 y9 Hbox Hcall
          by_cases hor : Od.right v.op = true
          rotate_left
          · have hor' : Od.right v.op = false := by simpa using hor
            have hc := Hb21.out hor'
            have HC := Lib.hid ((Nt.check_bads Hmany.out Hin.out (by rw [hc]; omega)).trans hc)
            rw [hor']
            have Hbox2 := Lib.hid hbox2
            have HIJ := Lib.hid hIJ
            clear hbox2 hIJ
            clear hor hc hor'
            go_wp2_with fail
            go_ret3
            exact RefCheckP.err HC.out (by omega) hbx2
          · have Hor := Lib.hid hor
            rw [hor]
            have Hbox2 := Lib.hid hbox2
            have HIJ := Lib.hid hIJ
            clear hbox2 hIJ
            clear hor
            go_wp2_with fail
            go_loopw [6] (fun i wx => ∃ m q : Nat, m ≤ v.ins.length ∧ i = .int .i64 m ∧ (∀ j (hj : j < v.ins.length), j < m → 0 ≤ v.ins[j] ∧ v.ins[j] ≤ n.nodes.length) ∧ wx = w2.drewN q) (fun i _ => v.ins.length - (intOf i).toNat)
            case atStart => exact ⟨0, 0, Nat.zero_le _, rfl, (fun j hj h => by omega), rfl⟩
            case round =>
              obtain ⟨m, q, hm, rfl, hall, rfl⟩ := hrel
              by_cases hlm : m < v.ins.length
              · obtain ⟨b1, off1, rfl, -, hc⟩ := HIJ.out m hlm
                rw [getD_at hlm] at hc
                have hbd := Hb11.out Hor.out m hlm
                have hnx : (0 ≤ v.ins[m] ∧ v.ins[m] ≤ n.nodes.length) → ∀ j (hj : j < v.ins.length), j < m + 1 → 0 ≤ v.ins[j] ∧ v.ins[j] ≤ n.nodes.length := fun h j hj hjm => by
                  by_cases e : j = m
                  · subst e; exact h
                  · exact hall j hj (by omega)
                generalize v.ins[m] = u at *
                have m0 : (0 : Int) ≤ (m : Int) := by omega
                have m1 : (m : Int) < (v.ins.length : Int) := by omega
                have k0 : (0 : Int) ≤ (k : Int) := by omega
                have k1 : (k : Int) < (n.nodes.length : Int) := by omega
                by_cases hu : 0 ≤ u ∧ u ≤ n.nodes.length
                · have HN := Lib.hid (hnx hu)
                  have e1 : decide (u < 0) = false := by simp; omega
                  have e2 : decide ((n.nodes.length : Int) < u) = false := by simp; omega
                  clear hu hbd
                  have Hnx := Lib.hid hnx
                  have Hall := Lib.hid hall
                  clear hnx hall
                  go_wp2_with fail
                  go_quiet (fail)
                  go_wp2_with fail
                  go_roundw
                  case rel => exact ⟨m + 1, _, by omega, by go_num, HN.out, by first | rfl | exact World.drewN_drewN _ _ _⟩
                  case measure => simp [intOf]; omega
                · have hc2 := hbd hu
                  have HC := Lib.hid ((Nt.check_bads Hmany.out Hin.out (by rw [hc2]; omega)).trans hc2)
                  clear hc2 hbd
                  have Hnx := Lib.hid hnx
                  have Hall := Lib.hid hall
                  clear hnx hall
                  by_cases hneg : u < 0
                  · have e1 : decide (u < 0) = true := by simpa using hneg
                    clear hu
                    go_wp2_with fail
                    go_quiet (fail)
                    go_wp2_with fail
                    go_ret3
                    exact RefCheckP.err HC.out (by omega) (by first | exact Bdrawn2 hbx2 _ _ | exact Bdrawn hbx2 _)
                  · have e1 : decide (u < 0) = false := by simpa using hneg
                    have e2 : decide ((n.nodes.length : Int) < u) = true := by simp; omega
                    clear hu
                    go_wp2_with fail
                    go_quiet (fail)
                    go_wp2_with fail
                    go_ret3
                    exact RefCheckP.err HC.out (by omega) (by first | exact Bdrawn2 hbx2 _ _ | exact Bdrawn hbx2 _)
              · obtain rfl : m = v.ins.length := by omega
                have HN := Lib.hid (Hnext.out Hor.out (List.all_eq_true.2 fun i hi => by obtain ⟨j, hj, rfl⟩ := List.getElem_of_mem hi; simpa using hall j hj hj))
                have Hall := Lib.hid hall
                clear hall
                go_wp2_with fail
                go_roundw
                case rel => exact ⟨k + 1, by omega, by go_num, Hbox2.out.drewN q, Bdrawn hbx2 q, HN.out⟩
                case measure => simp [intOf]; omega
        · obtain rfl : k = n.nodes.length := by omega
          have hb0 : Nt.bads n.nodes.length n.nodes = 0 := Nt.bads_none hbad
          have hins : ∀ v ∈ n.nodes, ∀ i ∈ v.ins, 0 ≤ i ∧ i ≤ n.nodes.length := fun v hv => (Nt.bads_all hb0 v hv).2
          have hrop : ∀ v ∈ n.nodes, Od.right v.op = true := fun v hv => (Nt.bads_all hb0 v hv).1
          have x0 : wr.cell? ⟨w.heap.size, 0, none⟩ = some (.slice A n.inn.length c) := by rw [hbox.cell]; rfl
          have Hbad := Lib.hid hbad
          have Hbox := Lib.hid hbox
          have Hb0 := Lib.hid hb0
          have Hins := Lib.hid hins
          have Hrop := Lib.hid hrop
          clear hbad hbox hb0 hins hrop
          go_wp2_with fail
          refine (ref11_order A N c d n _ Hok.out (HR.out.below hbw (Nat.le_refl _))).mono ?_
          rintro e w2 ⟨O, oc, rfl, hO, hoc, hoc2, hb2⟩
          have hbw2 := hbw.trans (hb2.mono hbw.size)
          have hbox2 := Hbox.out.below hb2 Hbox.out.lt
          have hw2l : w.heap.size < w2.heap.size := hbox2.lt
          clear x0 x1
          have x0 : w2.cell? ⟨w.heap.size, 0, none⟩ = some (.slice A n.inn.length c) := by rw [hbox2.cell]; rfl
          have x1 : w2.cell? ⟨w.heap.size, 1, none⟩ = some (.slice N n.nodes.length d) := by rw [hbox2.cell]; rfl
          clear Hbox
          have hole : (Nt.sorted n.nodes).length ≤ n.nodes.length := Kn.order_len_le _ _
          by_cases hcy : (Nt.sorted n.nodes).length = n.nodes.length
          rotate_left
          · have HC := Lib.hid (Nt.check_cyc Hmany.out Hin.out Hb0.out hcy)
            have e1 : decide (((Nt.sorted n.nodes).length : Int) < (n.nodes.length : Int)) = true := by simp; omega
            have e2 : decide ((Nt.sorted n.nodes).length < n.nodes.length) = true := by simp; omega
            generalize Nt.sorted n.nodes = os at *
            have Hbox2 := Lib.hid hbox2
            have Hcy := Lib.hid hcy
            have HO := Lib.hid hO
            clear hbox2 hcy hO
            go_wp2_with fail
            go_ret3
            exact RefCheckP.err HC.out (by omega) hbw2
          · have hcheck := fun h5 => Nt.check_lay Hmany.out Hin.out Hb0.out hcy h5
            have hcheck6 := fun h5 h6 => Nt.check_loss Hmany.out Hin.out Hb0.out hcy h5 h6
            have hcheck7 := fun h5 h6 => Nt.check_last Hmany.out Hin.out Hb0.out hcy h5 h6
            have hgoodF := fun h5 : (Nt.lay n.nodes (Nt.start n) (Nt.sorted n.nodes)).2 = 0 => Nt.lay_good Hin.out (Nt.sorted n.nodes).length (Nat.le_refl _) (by rw [List.take_length]; exact h5)
            rw [List.take_length] at hgoodF
            have hfull : ∀ u, u ∈ Nt.sorted n.nodes ↔ 1 ≤ u ∧ u ≤ n.nodes.length := Kn.order_full (I := Nt.insF n.nodes) (n := n.nodes.length) hcy
            have hshp : (Nt.lay n.nodes (Nt.start n) (Nt.sorted n.nodes)).1 = Nt.shapes n := rfl
            have hrng : ∀ u ∈ Nt.sorted n.nodes, 1 ≤ u ∧ u ≤ n.nodes.length := Kn.order_rng _ _
            have hbeh : ∀ a b u, Nt.sorted n.nodes = a ++ u :: b → ∀ i ∈ Nt.insF n.nodes u, i = 0 ∨ i ∈ a := fun a b u h => Kn.order_behind _ _ h
            rw [hcy]
            obtain ⟨os, hos⟩ : ∃ os, Nt.sorted n.nodes = os := ⟨_, rfl⟩
            have hshort : ∀ k, k ≤ os.length → ∀ sh, Nt.lay n.nodes (Nt.start n) (os.take k) = (sh, 0) → Nt.Good (os.take k) sh ∧ sh.length = n.nodes.length + 1 := fun k hk sh h => by
              have := lay_short (n := n) Hin.out (k := k) (by rw [hos]; exact hk) (sh := sh) (by rw [hos]; exact h)
              rw [hos] at this
              exact this
            rw [hos] at hcheck hcheck6 hcheck7 hgoodF hfull hshp hO hcy hoc hole hrng hbeh
            rw [hcy] at hoc
            have hAb : ∀ a, A = some a → a.block < w.heap.size := fun a ha => by
              obtain ⟨b, off, e, hl, -⟩ := HR.out.1 0 (right_short Hin.out).1
              rw [ha] at e; injection e with e; subst e; exact hl
            have hInn := HR.out.1.below hbw2 (Nat.le_refl _)
            have e1 : IntKind.i64.wrap ((n.nodes.length : Int) + 1) = ((n.nodes.length + 1 : Nat) : Int) := by rw [IntWalk.i64_in _ (by omega)]; omega
            have Hcheck := Lib.hid hcheck
            have Hcheck6 := Lib.hid hcheck6
            have Hcheck7 := Lib.hid hcheck7
            have HgoodF := Lib.hid hgoodF
            have Hfull := Lib.hid hfull
            have Hshp := Lib.hid hshp
            have Hcy := Lib.hid hcy
            have Hos := Lib.hid hos
            have HO := Lib.hid hO
            have Hbox2 := Lib.hid hbox2
            have Hrng := Lib.hid hrng
            have Hbeh := Lib.hid hbeh
            have Hshort := Lib.hid hshort
            have HAb := Lib.hid hAb
            have HInn := Lib.hid hInn
            clear hcheck hcheck6 hcheck7 hgoodF hfull hshp hcy hos hO hbox2 hrng hbeh hshort hAb hInn
            go_wp2_with (at_make; refine wpList_make_full _ rfl _ _ 32 rfl w2.heap.size 22 i1 (.slice none 0 0) 1 Try.underlying32 hj hy0 hy1 _ _ _ _ (n.nodes.length + 1) rfl rfl (by first | rfl | simp | (go_simp; rfl)) (by first | rfl | simp | (go_simp; rfl)) ?b2 ?b3 ?b4 ?_)
            case b2 => rw [hy2]; omega
            case b3 => unfold maxLen; omega
            case b4 => exact Nat.le_refl _
            intro w3 hown hgrow
            have hblk := own_cur hown
            rw [made_one] at hblk
            obtain ⟨g, hg⟩ : ∃ g, w2.heap.size = g := ⟨_, rfl⟩
            have hrow : ShpRow w3 g 22 (List.replicate (n.nodes.length + 1) []) := by rw [← hg]; exact ShpRow.new (by simpa [Blk] using hblk)
            have hb3 : Below w2.heap.size w2 w3 := (Below.refl _ w2).grown hgrow (Nat.le_refl _) (by simp)
            have hbw3 := hbw2.trans (hb3.mono hbw2.size)
            have hbox3 := Hbox2.out.below hb3 hw2l
            have hrow0 := hrow.set_ (i := 0) (HInn.out.below hb3 (Nat.le_refl _)) hc hcm (fun a ha => by have := HAb.out a ha; omega)
            rw [show (List.replicate (n.nodes.length + 1) ([] : List Int)).set 0 n.inn = Nt.start n from rfl] at hrow0
            have hbox4 := hbox3.far (p := ⟨g, 0, none⟩) (by simp; omega) (.slice A n.inn.length c)
            have hbw4 := hbw3.setCell (p := ⟨g, 0, none⟩) (by simp; omega) (.slice A n.inn.length c)
            have hO4 := (HO.out.below hb3 (Nat.le_refl _))
            obtain ⟨S0, c0, z0, -⟩ := hrow.at_ (j := 0) (by simp)
            have f0 : w3.frozen? ⟨g, 0, none⟩ = false := by obtain ⟨vs, _, hk, _⟩ := hrow; exact hk.frozen 0
            have hOb : ∀ a, O = some a → a.block ≠ g := fun a ha => by
              obtain ⟨b, off, e, hl, -⟩ := HO.out 0 (by have := Hcy.out; omega)
              rw [ha] at e; injection e with e; subst e; simp; omega
            have hO5 := hO4.set_far (p := ⟨g, 0, none⟩) hOb (.slice A n.inn.length c)
            clear x0 x1
            have x0 : w3.cell? ⟨w.heap.size, 0, none⟩ = some (.slice A n.inn.length c) := by rw [hbox3.cell]; rfl
            have x1 : w3.cell? ⟨w.heap.size, 1, none⟩ = some (.slice N n.nodes.length d) := by rw [hbox3.cell]; rfl
            rw [hg]
            have hgw : w.heap.size < g := by omega
            have hgne : ¬ w.heap.size = g := by omega
            clear hblk hown hgrow hrow hO4 hbw2 hb2 hbw hg
            have Hrow0 := Lib.hid hrow0
            have Hbox3 := Lib.hid hbox3
            have Hbox4 := Lib.hid hbox4
            have HO5 := Lib.hid hO5
            have HOb := Lib.hid hOb
            clear hrow0 hbox3 hbox4 hO5 hOb
            clear HO HInn
            go_wp2_with fail
            clear z0 f0 x0 x1 hb3 hbw3
            go_loopw [9] (fun i wr => ∃ k : Nat, k ≤ os.length ∧ i = .int .i64 k ∧ Blk wr w.heap.size 37 #[.slice A n.inn.length c, .slice N n.nodes.length d] ∧ Below w.heap.size w wr ∧ Ints .i64 wr O os ∧ ∃ sh, Nt.lay n.nodes (Nt.start n) (os.take k) = (sh, 0) ∧ ShpRow wr g 22 sh) (fun i _ => os.length - (intOf i).toNat)
            case atStart => exact ⟨0, Nat.zero_le _, rfl, Hbox4.out, hbw4, HO5.out, Nt.start n, rfl, Hrow0.out⟩
            case round =>
              obtain ⟨k, hk, rfl, hbox, hbw, hO, sh, hlay, hrow⟩ := hrel
              clear Hrow0 Hbox3 Hbox4 HO5 hbw4
              obtain ⟨hgood, hshl⟩ := Hshort.out k hk sh hlay
              have x1 : wr.cell? ⟨w.heap.size, 1, none⟩ = some (.slice N n.nodes.length d) := by rw [hbox.cell]; rfl
              have hol := Hcy.out
              by_cases hlt : k < os.length
              · obtain ⟨b, off, rfl, -, hc⟩ := hO k hlt
                rw [getD_at hlt] at hc
                have hr := Hrng.out _ (List.getElem_mem hlt)
                have hsplit : os = os.take k ++ os[k] :: os.drop (k + 1) := by rw [← List.drop_eq_getElem_cons hlt, List.take_append_drop]
                have hbe := Hbeh.out _ _ _ hsplit
                obtain ⟨j, hj'⟩ : ∃ j : Nat, os[k] = (j : Int) + 1 := ⟨(os[k] - 1).toNat, by omega⟩
                have hjl : j < n.nodes.length := by omega
                have hlay' := fun h : (Nt.layStep n.nodes sh os[k]).2 = 0 => Nt.lay_snoc (id := os[k]) hlay h
                have hfail := fun h : (Nt.layStep n.nodes sh os[k]).2 ≠ 0 => Nt.lay_fail (b := os.drop (k + 1)) (id := os[k]) hlay h
                rw [← List.take_succ_eq_append_getElem hlt] at hlay'
                rw [← hsplit] at hfail
                have hst : Nt.layStep n.nodes sh os[k] = Od.shape n.nodes[j].op n.nodes[j].p (Nt.pick sh n.nodes[j].ins) := by unfold Nt.layStep; rw [hj', Nt.node_at hjl]
                have hiF : Nt.insF n.nodes os[k] = n.nodes[j].ins := by unfold Nt.insF; rw [hj', Nt.node_at hjl]
                rw [hst] at hlay' hfail
                rw [hiF] at hbe
                rw [hj'] at hc hlay'
                rw [show ((j : Int) + 1).toNat = j + 1 by omega] at hlay'
                have hnok := Hok.out.2.2 _ (List.getElem_mem hjl)
                have hrv := Hrop.out _ (List.getElem_mem hjl)
                have hinr := Hins.out _ (List.getElem_mem hjl)
                obtain ⟨b1, off1, S, sc, J, ic, Q, qc, rfl, hNA, hs1, hI1, hq1⟩ := HR.out.2.at_ hjl
                have hgr : ∀ i ∈ n.nodes[j].ins, 0 ≤ i ∧ i.toNat < sh.length ∧ Sh.right (sh.getD i.toNat []) = true := fun i hi => ⟨(hinr i hi).1, by have := hinr i hi; omega, hgood i (hbe i hi)⟩
                generalize n.nodes[j] = v at *
                have hNw := hNA.below hbw
                obtain ⟨⟨y0, y1, y2, y3, y4, y5, y6, y7, y8, y9⟩, -⟩ := hNA.below hbw
                have j1 : IntKind.i64.wrap ((j : Int) + 1 - 1) = (j : Int) := by rw [IntWalk.i64_in _ (by omega)]; omega
                have j2 : (j : Int) < n.nodes.length := by omega
                have j0 : (0 : Int) ≤ (j : Int) := by omega
                have k0 : (0 : Int) ≤ (k : Int) := by omega
                have k1 : (k : Int) < (n.nodes.length : Int) := by omega
                have j4 : (0 : Int) ≤ (j : Int) + 1 := by omega
                have j5 : IntKind.i64.wrap (j : Int) = (j : Int) := IntWalk.i64_in _ (by omega)
                have hcall : ∀ W : World, Ints .i64 W S v.op.s → Ints .i64 W J v.ins → Shps W Q v.p → Shps W (some ⟨g, 0, none⟩) sh → Calls Try.prog 40 #[.agg #[.int .i64 v.op.kind, .int .i64 v.op.k, .int .i64 v.op.width, .int .i64 v.op.step, .int .i64 v.op.side, .int .i64 v.op.frm, .int .i64 v.op.to, .slice S v.op.s.length sc, .slice J v.ins.length ic, .slice Q v.p.length qc], .slice (some ⟨g, 0, none⟩) (n.nodes.length + 1) (n.nodes.length + 1)] W (RefP (Od.shape v.op v.p (Nt.pick sh v.ins)) W) := fun W q1 q2 q3 q4 => by
                  rw [← hshl]
                  exact ref11_shape v S J Q sc ic qc g sh.length sh W hnok hrv hs1.1 hs1.2 q1 q2 q3 q4 hgr
                have hrgt := fun h : (Od.shape v.op v.p (Nt.pick sh v.ins)).2 = 0 => right_short (Od.shape_right h)
                generalize Od.shape v.op v.p (Nt.pick sh v.ins) = r at *
                have hcall2 := hcall
                have F1 := Lib.hid hNw.2.1
                have F2 := Lib.hid hNw.2.2.1
                have F3 := Lib.hid hNw.2.2.2
                have F4 := Lib.hid hrow.shps
                have HC1 := Lib.hid hcall
                have HT := Lib.hid hrgt
                have HL := Lib.hid hlay'
                have HFa := Lib.hid hfail
                clear hcall hcall2 hrgt hlay' hfail hNw hNA hgr hinr hnok hrv hst hiF hbe hsplit hj' hgood
                have Hbox := Lib.hid hbox
                have HO := Lib.hid hO
                have Hlay := Lib.hid hlay
                have Hrow := Lib.hid hrow
                clear hbox hO hlay hrow
                have kn : k < n.nodes.length := by omega
                go_wp2_with fail
                go_region_held3 (fun w' => w'.cell? ⟨w.heap.size, 1, none⟩ = some (.slice (some ⟨b1, off1, none⟩) n.nodes.length d) ∧ w'.cell? ⟨b, off + k, none⟩ = some (.int .i64 ((j : Int) + 1)) ∧ w'.cell? ⟨b1, off1 + j * 10, none⟩ = some (.int .i64 v.op.kind) ∧ w'.cell? ⟨b1, off1 + j * 10 + 1, none⟩ = some (.int .i64 v.op.k) ∧ w'.cell? ⟨b1, off1 + j * 10 + 2, none⟩ = some (.int .i64 v.op.width) ∧ w'.cell? ⟨b1, off1 + j * 10 + 3, none⟩ = some (.int .i64 v.op.step) ∧ w'.cell? ⟨b1, off1 + j * 10 + 4, none⟩ = some (.int .i64 v.op.side) ∧ w'.cell? ⟨b1, off1 + j * 10 + 5, none⟩ = some (.int .i64 v.op.frm) ∧ w'.cell? ⟨b1, off1 + j * 10 + 6, none⟩ = some (.int .i64 v.op.to) ∧ w'.cell? ⟨b1, off1 + j * 10 + 7, none⟩ = some (.slice S v.op.s.length sc) ∧ w'.cell? ⟨b1, off1 + j * 10 + 8, none⟩ = some (.slice J v.ins.length ic) ∧ w'.cell? ⟨b1, off1 + j * 10 + 9, none⟩ = some (.slice Q v.p.length qc)) (first | go_keep | (exact ⟨cell_below hb9 x1, cell_below hb9 hc, cell_below hb9 y0, cell_below hb9 y1, cell_below hb9 y2, cell_below hb9 y3, cell_below hb9 y4, cell_below hb9 y5, cell_below hb9 y6, cell_below hb9 y7, cell_below hb9 y8, cell_below hb9 y9⟩))
                  ((go_at_call 40; refine (HC1.out _ (by exact F1.out) (by exact F2.out) (by exact F3.out) (by exact F4.out)).mono ?_; rintro e w9 ⟨S9, c9, rfl, hI9, h91, h92, hb9⟩))
                have hb8 : Below wr.heap.size wr w9 := ⟨hb9.os, hb9.tape, hb9.output, hb9.size, hb9.block⟩
                have hbw9 := hbw.trans (hb8.mono hbw.size)
                clear y0 y1 y2 y3 y4 y5 y6 y7 y8 y9 hb9 x1 HC1 F1 F2 F3 F4
                by_cases hr2 : r.2 = 0
                · have q1 : (r.2 != 0) = false := by simp [hr2]
                  have hrow9 := Hrow.out.below hb8 (Nat.le_refl _)
                  have hbox9 := Hbox.out.below hb8 Hbox.out.lt
                  have hO9 := HO.out.below hb8 (Nat.le_refl _)
                  have hc9 := cell_below hb8 hc
                  have hj1 : j + 1 < sh.length := by omega
                  obtain ⟨Sm, cm, ym, -⟩ := hrow9.at_ hj1
                  have fm : w9.frozen? ⟨g, j + 1, none⟩ = false := by obtain ⟨vs, _, hk, _⟩ := hrow9; exact hk.frozen (j + 1)
                  have hset := hrow9.set_ (i := j + 1) hI9 h91 h92 (hrow9.apart hI9 (HT.out hr2).1)
                  have HS := Lib.hid hset
                  have HBX := Lib.hid (hbox9.far (p := ⟨g, j + 1, none⟩) hgne (.slice S9 r.1.length c9))
                  have hbw5 := hbw9.setCell (p := ⟨g, j + 1, none⟩) (by simp; omega) (.slice S9 r.1.length c9)
                  have HO5 := Lib.hid (hO9.set_far (p := ⟨g, j + 1, none⟩) HOb.out (.slice S9 r.1.length c9))
                  have HL2 := Lib.hid (HL.out hr2)
                  have j3 : ((j : Int) + 1) < ((n.nodes.length + 1 : Nat) : Int) := by omega
                  have j6 : ((j : Int) + 1).toNat = j + 1 := by omega
                  clear hset hrow9 hbox9 hO9 hr2 hc
                  have HI9 := Lib.hid hI9
                  clear hI9
                  go_wp2_with fail
                  go_roundw
                  case rel => exact ⟨k + 1, by omega, by go_num, HBX.out, hbw5, HO5.out, _, HL2.out, HS.out⟩
                  case measure => simp [intOf]; omega
                · have q1 : (r.2 != 0) = true := by simp [hr2]
                  have hck := Hcheck.out
                  rw [HFa.out hr2] at hck
                  have HC := Lib.hid (hck hr2)
                  have HR2 := Lib.hid hr2
                  have HI9 := Lib.hid hI9
                  clear hI9
                  clear hr2 hck
                  go_wp2_with fail
                  go_ret3
                  exact RefCheckP.err HC.out HR2.out hbw9
              · obtain rfl : k = os.length := by omega
                rw [List.take_length] at hlay
                have hc6 := fun h6 => Hcheck6.out (by rw [hlay]) h6
                have hc7 := fun h6 => Hcheck7.out (by rw [hlay]) h6
                have hg2 := HgoodF.out (by rw [hlay])
                have hsh := Hshp.out
                rw [hlay] at hg2 hsh
                have hsh : sh = Nt.shapes n := hsh
                subst hsh
                have hg2 : Nt.Good os (Nt.shapes n) := hg2
                have i2 : ¬ ((os.length : Int) < (n.nodes.length : Int)) := by omega
                have i3 : ¬ (os.length < n.nodes.length) := by omega
                clear hgood hk hlt
                have Hc6 := Lib.hid hc6
                have Hc7 := Lib.hid hc7
                have Hg2 := Lib.hid hg2
                have Hlay := Lib.hid hlay
                have Hrow := Lib.hid hrow
                have Hbox := Lib.hid hbox
                have HO := Lib.hid hO
                clear hc6 hc7 hg2 hlay hrow hbox hO
                have Hol := Lib.hid hol
                clear hol
                go_wp2_with fail
                clear x1
                obtain ⟨w5, rfl⟩ : ∃ w5, w5 = wr := ⟨wr, rfl⟩
                go_loopw [12, 13, 14] (fun l m i wx => ∃ k : Nat, k ≤ n.nodes.length + 1 ∧ i = .int .i64 k ∧ l = .int .i64 ((Nt.unusedTo n.nodes k).getLastD 0) ∧ m = .int .i64 ((Nt.unusedTo n.nodes k).length : Nat) ∧ Below w5.heap.size w5 wx) (fun _ _ i _ => n.nodes.length + 1 - (intOf i).toNat)
                case atStart => exact ⟨0, Nat.zero_le _, rfl, rfl, rfl, Below.refl _ _⟩
                case round =>
                  obtain ⟨k, hk, rfl, rfl, rfl, hbx⟩ := hrel
                  have hbox5 := Hbox.out.below hbx Hbox.out.lt
                  have hbwx := hbw.trans (hbx.mono hbw.size)
                  have x0 : wr.cell? ⟨w.heap.size, 0, none⟩ = some (.slice A n.inn.length c) := by rw [hbox5.cell]; rfl
                  have x1 : wr.cell? ⟨w.heap.size, 1, none⟩ = some (.slice N n.nodes.length d) := by rw [hbox5.cell]; rfl
                  have hul := Nt.unusedTo_len n.nodes k
                  by_cases hlt : k ≤ n.nodes.length
                  · have HS := Lib.hid (Nt.unusedTo_succ n.nodes k)
                    obtain ⟨L0, hL0⟩ : ∃ L0, (Nt.unusedTo n.nodes k).getLastD 0 = L0 := ⟨_, rfl⟩
                    obtain ⟨c0, hc0⟩ : ∃ c0, (Nt.unusedTo n.nodes k).length = c0 := ⟨_, rfl⟩
                    rw [hc0] at hul
                    rw [hL0, hc0]
                    have hcu := Nt.count_used n.nodes (k : Int)
                    have hcall := ref11_users A N c d n (k : Int) wr Hok.out (HR.out.below hbwx (Nat.le_refl _))
                    generalize Nt.count n.nodes (k : Int) = cn at *
                    have HL0 := Lib.hid hL0
                    have Hc0 := Lib.hid hc0
                    have Hcu := Lib.hid hcu
                    have Hcall := Lib.hid hcall
                    have Hbox5 := Lib.hid hbox5
                    clear hL0 hc0 hcu hcall hbox5
                    go_wp2_with fail
                    refine (Hcall.out).mono ?_
                    rintro e w6 ⟨rfl, hb6⟩
                    have hbx6 := hbx.trans (hb6.mono hbx.size)
                    clear x0 x1
                    by_cases hz : cn = 0
                    · have HU := Lib.hid (Hcu.out.1 hz)
                      have e1 : ((cn : Int) == 0) = true := by simp [hz]
                      have e2 : (cn == 0) = true := by simp [hz]
                      subst hz
                      go_wp2_with fail
                      go_roundw
                      case rel => exact ⟨k + 1, by omega, by go_num, by rw [HS.out, HU.out]; simp, by rw [HS.out, HU.out, if_neg (by simp), List.length_append, Hc0.out]; go_num, hbx6⟩
                      case measure => simp [intOf]; omega
                    · have HU := Lib.hid (show Nt.isUsed n.nodes (k : Int) = true by
                        cases h : Nt.isUsed n.nodes (k : Int)
                        · exact absurd (Hcu.out.2 h) hz
                        · rfl)
                      have e1 : ((cn : Int) == 0) = false := by simp; omega
                      have e2 : (cn == 0) = false := by simp; omega
                      clear hz
                      go_wp2_with fail
                      go_roundw
                      case rel => exact ⟨k + 1, by omega, by go_num, by rw [HS.out, HU.out, if_pos rfl, HL0.out], by rw [HS.out, HU.out, if_pos rfl, Hc0.out], hbx6⟩
                      case measure => simp [intOf]; omega
                  · obtain rfl : k = n.nodes.length + 1 := by omega
                    rw [Nt.unusedTo_all]
                    have i4 : ¬ (((n.nodes.length + 1 : Nat) : Int) ≤ (n.nodes.length : Int)) := by omega
                    have hl1 : (Nt.unused n.nodes).getLastD 0 = Nt.loss n.nodes := rfl
                    rw [hl1]
                    have hlok : Nt.lossOk n.nodes = decide ((Nt.unused n.nodes).length = 1 ∧ Nt.loss n.nodes ≠ 0) := rfl
                    rw [Nt.unusedTo_all] at hul
                    clear hl1
                    by_cases hu1 : (Nt.unused n.nodes).length = 1
                    rotate_left
                    · have HC := Lib.hid (Hc6.out (by rw [hlok]; simp [hu1]))
                      have e1 : (((Nt.unused n.nodes).length : Int) != 1) = true := by rw [bne_iff_ne]; omega
                      have e2 : ((Nt.unused n.nodes).length != 1) = true := by rw [bne_iff_ne]; omega
                      generalize (Nt.unused n.nodes).length = ul at *
                      have Hlok := Lib.hid hlok
                      clear hlok
                      clear hu1
                      go_wp2_with fail
                      go_ret3
                      exact RefCheckP.err HC.out (by omega) hbwx
                    · by_cases hl0 : Nt.loss n.nodes = 0
                      · have HC := Lib.hid (Hc6.out (by rw [hlok]; simp [hl0]))
                        rw [hu1, hl0]
                        clear hu1 hl0 hlok
                        go_wp2_with fail
                        go_ret3
                        exact RefCheckP.err HC.out (by omega) hbwx
                      · have hlo : Nt.lossOk n.nodes = true := by rw [hlok]; simp [hu1, hl0]
                        have hlm := (Nt.loss_mem hlo).2
                        have hch := Hc7.out hlo
                        obtain ⟨l, hl⟩ : ∃ l : Nat, Nt.loss n.nodes = (l : Int) := ⟨(Nt.loss n.nodes).toNat, by omega⟩
                        have Hl := Lib.hid hl
                        rw [hu1]
                        rw [hl] at hlm hch hl0 ⊢
                        rw [Int.toNat_natCast] at hch
                        have hll : l < (Nt.shapes n).length := by omega
                        have hgl := Hg2.out (l : Int) (.inr ((Hfull.out _).2 (by omega)))
                        rw [Int.toNat_natCast, gets_at hll] at hgl
                        rw [gets_at hll] at hch
                        have hrow5 := Hrow.out.below hbx (Nat.le_refl _)
                        obtain ⟨Sl, sc, hcS, hIS, hs1, hs2, -⟩ := hrow5.at_ hll
                        have hsz := ref03_size Sl sc _ wr hgl hIS
                        have e1 : ((l : Int) == 0) = false := by simp; omega
                        have e1' : (l == 0) = false := by simp; omega
                        have l0 : (0 : Int) ≤ (l : Int) := by omega
                        have l1 : (l : Int) < ((n.nodes.length + 1 : Nat) : Int) := by omega
                        generalize (Nt.shapes n)[l] = s at *
                        have Hrow5 := Lib.hid hrow5
                        have Hch := Lib.hid hch
                        have Hl := Lib.hid hl
                        have Hsz := Lib.hid hsz
                        have HIS := Lib.hid hIS
                        have Hgl := Lib.hid hgl
                        have Hlo := Lib.hid hlo
                        have Hlok := Lib.hid hlok
                        clear hrow5 hch hl hsz hIS hgl hlo hlok
                        clear hu1 hl0
                        go_wp2_with fail
                        refine (Hsz.out).mono ?_
                        rintro e w7 ⟨rfl, rfl⟩
                        by_cases hp : Safe.prod s = 1
                        · have HC := Lib.hid (show Nt.check n = 0 by rw [Hch.out, if_neg (by simp [hp])])
                          have e2 : (Safe.prod s != 1) = false := by simp [hp]
                          clear hp
                          go_wp2_with fail
                          go_ret3
                          exact ⟨hbwx, .inl ⟨HC.out, g, by rw [Hl.out]; rfl, by omega, Hrow5.out⟩⟩
                        · have HC := Lib.hid (show Nt.check n = 23 by rw [Hch.out, if_pos hp])
                          have e2 : (Safe.prod s != 1) = true := by simp [hp]
                          clear hp
                          go_wp2_with fail
                          go_ret3
                          exact RefCheckP.err HC.out (by omega) hbwx
end Go.Proofs.Ytjkhpbngpceenaa

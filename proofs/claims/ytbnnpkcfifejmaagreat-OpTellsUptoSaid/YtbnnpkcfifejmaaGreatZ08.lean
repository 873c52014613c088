/- Lemmas for the statements of this seat: contracts of functions and the plain laws. -/
import Derived.BigQuiet
import Derived.Deep.DeepCutAuto
import Derived.Deep.QuietTactic
import Derived.Deep.RegionHeld3
import Derived.Deep.RegionLaw
import Derived.Test.YtbnnpkcfifejmaaGreatZ07
set_option linter.unusedVariables false
namespace Go.Proofs.YtbnnpkcfifejmaaGreat
open Go.RowKit
theorem tenT_info : (Tryz.prog.info? 30).map (fun i => (i.zero, i.size, i.bytes)) = some (some (.agg #[.slice none 0 0, .slice none 0 0]), 2, 48) := by kernel_rfl
theorem shpF_info : (Tryz.prog.info? 24).map (fun i => (i.zero, i.size, i.bytes)) = some (some (.slice none 0 0), 1, 24) := by kernel_rfl
theorem case_cells12 {W : World} {g : Nat} {T : TypeId} {o : OpD} {S P X GS GC : Option Addr} {c cp cx gc gd : Nat} {p x : List Ten} {t : Ten} (h : Blk W g T (case_arr o S P X GS GC c cp cx gc gd p x t)) :
  W.cell? ⟨g, 0, none⟩ = some (.int .i64 o.kind) ∧ W.cell? ⟨g, 1, none⟩ = some (.int .i64 o.k) ∧ W.cell? ⟨g, 2, none⟩ = some (.int .i64 o.width) ∧ W.cell? ⟨g, 3, none⟩ = some (.int .i64 o.step) ∧ W.cell? ⟨g, 4, none⟩ = some (.int .i64 o.side) ∧ W.cell? ⟨g, 5, none⟩ = some (.int .i64 o.frm) ∧ W.cell? ⟨g, 6, none⟩ = some (.int .i64 o.to) ∧ W.cell? ⟨g, 7, none⟩ = some (.slice S o.s.length c) ∧
  W.cell? ⟨g, 8, none⟩ = some (.slice P p.length cp) ∧ W.cell? ⟨g, 9, none⟩ = some (.slice X x.length cx) ∧ W.cell? ⟨g, 10, none⟩ = some (.slice GS t.s.length gc) ∧ W.cell? ⟨g, 11, none⟩ = some (.slice GC t.c.length gd) :=
 ⟨h.cell 0, h.cell 1, h.cell 2, h.cell 3, h.cell 4, h.cell 5, h.cell 6, h.cell 7, h.cell 8, h.cell 9, h.cell 10, h.cell 11⟩
theorem own_one {w : World} {B g : Nat} {e : TypeId} {xs : List Value} {size : Nat} (h : w.heap[g]? = some (.cells xs.toArray e (0, 0))) (hB : B ≤ g) (hn : xs.length = size) : w.ownsRow B e size (.slice (some ⟨g, 0, none⟩) 1 1) 1 xs :=
 ⟨by omega, .inr ⟨g, 1, xs.toArray, rfl, hB, h, by omega, by unfold maxLen; omega, by simp; omega, by rw [List.take_of_length_le] <;> simp <;> omega⟩⟩
def AnyBoolE (e : Ending) : Prop := ∃ b, e = .returned (.bool b)
set_option maxHeartbeats 16000000 in
set_option maxRecDepth 20000 in
theorem law10_small (o : OpD) (S P X GS GC : Option Addr) (c cp cx gc gd : Nat) (p x : List Ten) (g : Ten) (w : World) (hP : Tns w P p) (hX : Tns w X x) (lP : p.length ≤ 1048576) (lX : x.length ≤ 1048576) (hG : TenIn w GS GC gc gd g) :
  Calls Tryz.prog 8 #[.agg (case_arr o S P X GS GC c cp cx gc gd p x g)] w fun e w' => AnyBoolE e ∧ Below w.heap.size w w' := by
 obtain ⟨i0, hi, hz0, hz1, hz2⟩ := info_parts tenT_info
 have hk := Blk.new w 32 (case_arr o S P X GS GC c cp cx gc gd p x g)
 have h0 : Later w (w.alloc (.cells (case_arr o S P X GS GC c cp cx gc gd p x g) 32)) := (Later.refl w).alloc _
 have hs1 : (w.alloc (.cells (case_arr o S P X GS GC c cp cx gc gd p x g) 32)).heap.size = w.heap.size + 1 := by simp
 have Hk := Lib.hid hk
 have H0 := Lib.hid h0
 have HP := Lib.hid hP
 have HX := Lib.hid hX
 have Hs1 := Lib.hid hs1
 have HG := Lib.hid hG
 clear hk h0 hP hX hs1 hG
 go_enter Tryz.func8, Tryz.ntmps8
 go_wp2_with fail
 go_upto_region 2 with fail
 generalize w.alloc (.cells (case_arr o S P X GS GC c cp cx gc gd p x g) 32) = w1 at *
 obtain ⟨y0, y1, y2, y3, y4, y5, y6, y7, y8, y9, y10, y11⟩ := case_cells12 Hk.out
 clear y0 y1 y2 y3 y4 y5 y6 y7
 have hown0 : ((w1.drew).alloc (.cells #[.slice GS g.s.length gc, .slice GC g.c.length gd] 30)).ownsRow w1.heap.size 30 2 (.slice (some ⟨w1.heap.size, 0, none⟩) 1 1) 1 [.slice GS g.s.length gc, .slice GC g.c.length gd] := own_one (heap_alloc_new w1.drew _) (Nat.le_refl _) rfl
 have hb4 : Below w.heap.size w ((w1.drew).alloc (.cells #[.slice GS g.s.length gc, .slice GC g.c.length gd] 30)) := (H0.out.drew).alloc _
 have Hown0 := Lib.hid hown0
 have Hb4 := Lib.hid hb4
 clear hown0 hb4
 have KF := Lib.hid (show ∀ Xw, Later w1 Xw → Xw.cell? ⟨w.heap.size, 8, none⟩ = some (.slice P p.length cp) ∧ Xw.cell? ⟨w.heap.size, 9, none⟩ = some (.slice X x.length cx) ∧ Xw.cell? ⟨w.heap.size, 10, none⟩ = some (.slice GS g.s.length gc) ∧ Xw.cell? ⟨w.heap.size, 11, none⟩ = some (.slice GC g.c.length gd) from fun Xw h => ⟨h.cell y8, h.cell y9, h.cell y10, h.cell y11⟩)
 refine wp_region_noPanic ?_
 refine wp_region_held_drew (S := fun Xw => Xw.cell? ⟨w.heap.size, 8, none⟩ = some (.slice P p.length cp) ∧ Xw.cell? ⟨w.heap.size, 9, none⟩ = some (.slice X x.length cx) ∧ Xw.cell? ⟨w.heap.size, 10, none⟩ = some (.slice GS g.s.length gc) ∧ Xw.cell? ⟨w.heap.size, 11, none⟩ = some (.slice GC g.c.length gd)) (by kernel_rfl) (KF.out _ Later.au) (fun hHeld => ?_)
 refine tk 0 ?_
 refine tk 1 ?_
 refine tk 3 ?_
 refine tk 4 ?_
 refine tk 6 ?_
 refine tk 7 ?_
 refine tk 10 ?_
 refine rd 2 fun K hK => ?_
 simp only [ga, gs, gz]
 go_simp
 refine hK.out _ _ (KF.out _ Later.au) (fun hHeld => ?_)
 clear hK K
 try simp only [ga, gs, gz, Act.put, sa, sz, ss]
 refine rd 5 fun K hK => ?_
 refine step_append_tens (by rfl) _ _ 27 (by rfl) w1.heap.size 30 i0 Tryz.underlying27 hi hz0 hz1 hz2 w1.heap.size 1 1 _ [g] (by rfl) Hown0.out w (RowT.one HG.out) P cp p (by rfl) HP.out Hb4.out (by have := Hs1.out; omega) (by simp) (by omega) ?_
 intro g1 c1 w6 vs1 hown1 hrow1 hb6 hbb6
 have hl6 : Later w1 w6 := Below.trans (((Later.refl w1).alloc _).drew) hbb6
 have y8 := hl6.cell y8
 have y9 := hl6.cell y9
 have y10 := hl6.cell y10
 have y11 := hl6.cell y11
 have HO1 := Lib.hid hown1
 have HR1 := Lib.hid hrow1
 have HB6 := Lib.hid hb6
 have HS6 := Lib.hid hl6.size
 have HL6 := Lib.hid hl6
 clear hown1 hrow1 hb6 hbb6 hl6
 refine hK.out _ _ (by first | exact ⟨y8, y9, y10, y11⟩ | exact KF.out _ Later.au) (fun hHeld => ?_)
 clear hK K
 try simp only [ga, gs, gz, Act.put, sa, sz, ss]
 refine rd 8 fun K hK => ?_
 refine step_append_tens (by rfl) _ _ 27 (by rfl) w1.heap.size 30 i0 Tryz.underlying27 hi hz0 hz1 hz2 g1 _ c1 vs1 _ (by rfl) HO1.out w HR1.out X cx x (by rfl) HX.out HB6.out (by have := Hs1.out; omega) HS6.out (by omega) ?_
 intro g2 c2 w7 vs2 hown2 hrow2 hb7 hbb7
 have hl7 : Later w1 w7 := Below.trans HL6.out hbb7
 have y8 := (hbb7.cell (p := ⟨w.heap.size, 8, none⟩) (by have := Hs1.out; simp; omega)).trans y8
 have y9 := (hbb7.cell (p := ⟨w.heap.size, 9, none⟩) (by have := Hs1.out; simp; omega)).trans y9
 have y10 := (hbb7.cell (p := ⟨w.heap.size, 10, none⟩) (by have := Hs1.out; simp; omega)).trans y10
 have y11 := (hbb7.cell (p := ⟨w.heap.size, 11, none⟩) (by have := Hs1.out; simp; omega)).trans y11
 refine hK.out _ _ (by first | exact ⟨y8, y9, y10, y11⟩ | exact KF.out _ Later.au) (fun hHeld => ?_)
 clear hK K
 try simp only [ga, gs, gz, Act.put, sa, sz, ss]
 refine tk 9 ?_
 clear KF
 refine wpAnyH_done (by kernel_rfl) ?_ _
 refine NoPanic.normal ?_
 obtain ⟨A', c', e5, e6, hSh, -, -⟩ := hrow2.tns hown2 hb7
 injection e5 with e5 _ e5c
 subst e5 e5c
 have HS2 := Lib.hid hSh
 have HB7 := Lib.hid hb7
 have HK7 := Lib.hid (hl7.blk Hk.out)
 clear hown2 hrow2 hb7 hbb7 hl7 hSh y8 y9 y10 y11 HO1 HR1 HB6 HS6 HL6 Hown0 Hb4 hHeld
 have hln : 1 + p.length + x.length = ([g] ++ p ++ x).length := by simp; omega
 have hln2 : (1 : Int) + (p.length : Int) + (x.length : Int) = (([g] ++ p ++ x).length : Int) := by rw [← hln]; simp
 rw [hln, hln2]
 have hsm : ([g] ++ p ++ x).length ≤ 2097153 := by rw [← hln]; omega
 generalize [g] ++ p ++ x = l at *
 clear hln hln2
 go_wp2_with fail
 go_loopw [3, 16] (fun n i wx => ∃ k m : Nat, k ≤ l.length ∧ m ≤ 700 ∧ i = .int .i64 (k : Int) ∧ n = .int .i64 (m : Int) ∧ Later w7 wx) (fun _ i _ => l.length - (intOf i).toNat)
 case atStart => exact ⟨0, 0, Nat.zero_le _, Nat.zero_le _, rfl, rfl, Later.refl _⟩
 case round =>
  obtain ⟨k, m, hk, hm, rfl, rfl, hlw⟩ := hrel
  by_cases hlt : k < l.length
  ·obtain ⟨b, off, S', sc, C', dc, e7, -, c0, c1, hT⟩ := HS2.out k hlt
   injection e7 with e7
   injection e7 with e7 e8 _
   subst e7 e8
   rw [Nat.zero_add] at c0 c1
   have c0' := hlw.cell c0
   have c1' := hlw.cell c1
   have t1 := hT.l1
   have t2 := hT.l2
   generalize l[k] = t at *
   clear c0 c1 hT
   by_cases h7 : 700 < m + (1 + t.s.length + t.c.length)
   ·have d1 : (700 : Int) < (m : Int) + (1 + (t.s.length : Int) + (t.c.length : Int)) := by omega
    have q1 : IntKind.i64.wrap ((m : Int) + (1 + (t.s.length : Int) + (t.c.length : Int))) = (m : Int) + (1 + (t.s.length : Int) + (t.c.length : Int)) := IntWalk.i64_in _ (by omega)
    have q2 : IntKind.i64.wrap ((1 : Int) + (t.s.length : Int) + (t.c.length : Int)) = (1 : Int) + (t.s.length : Int) + (t.c.length : Int) := IntWalk.i64_in _ (by omega)
    have q3 : IntKind.i64.wrap ((1 : Int) + (t.s.length : Int)) = (1 : Int) + (t.s.length : Int) := IntWalk.i64_in _ (by omega)
    have Hlw := Lib.hid hlw
    clear hlw
    go_wp2_with fail
    go_ret
    exact ⟨⟨_, rfl⟩, HB7.out.trans ((Hlw.out.alloc _).mono HB7.out.size)⟩
   ·have d1 : ¬ (700 : Int) < (m : Int) + (1 + (t.s.length : Int) + (t.c.length : Int)) := by omega
    have q1 : IntKind.i64.wrap ((m : Int) + (1 + (t.s.length : Int) + (t.c.length : Int))) = (m : Int) + (1 + (t.s.length : Int) + (t.c.length : Int)) := IntWalk.i64_in _ (by omega)
    have q2 : IntKind.i64.wrap ((1 : Int) + (t.s.length : Int) + (t.c.length : Int)) = (1 : Int) + (t.s.length : Int) + (t.c.length : Int) := IntWalk.i64_in _ (by omega)
    have q3 : IntKind.i64.wrap ((1 : Int) + (t.s.length : Int)) = (1 : Int) + (t.s.length : Int) := IntWalk.i64_in _ (by omega)
    have Hlw := Lib.hid hlw
    clear hlw
    go_wp2_with fail
    go_roundw
    case rel => exact ⟨k + 1, m + (1 + t.s.length + t.c.length), by omega, by omega, by go_num, by simp, Hlw.out.alloc _⟩
    case measure => simp [intOf]; omega
  ·obtain rfl : k = l.length := by omega
   have hk7 := hlw.blk HK7.out
   obtain ⟨y0, y1, y2, y3, y4, y5, y6, y7, y8, y9, y10, y11⟩ := case_cells12 hk7
   clear y0 y1 y2 y3 y4 y5 y6 y10 y11
   by_cases z3 : o.s.length ≤ 20
   ·have d5 : decide ((o.s.length : Int) ≤ 20) = true := by simp; omega
    by_cases z1 : p.length ≤ 9
    ·have d6 : decide ((p.length : Int) ≤ 9) = true := by simp; omega
     have Hlw := Lib.hid hlw
     have Hk7 := Lib.hid hk7
     clear hlw hk7
     go_wp2_with fail
     go_ret
     exact ⟨⟨_, rfl⟩, HB7.out.trans (Hlw.out.mono HB7.out.size)⟩
    ·have d6 : decide ((p.length : Int) ≤ 9) = false := by simp; omega
     have Hlw := Lib.hid hlw
     have Hk7 := Lib.hid hk7
     clear hlw hk7
     go_wp2_with fail
     go_ret
     exact ⟨⟨_, rfl⟩, HB7.out.trans (Hlw.out.mono HB7.out.size)⟩
   ·have d5 : decide ((o.s.length : Int) ≤ 20) = false := by simp; omega
    have Hlw := Lib.hid hlw
    have Hk7 := Lib.hid hk7
    clear hlw hk7
    go_wp2_with fail
    go_ret
    exact ⟨⟨_, rfl⟩, HB7.out.trans (Hlw.out.mono HB7.out.size)⟩
set_option maxHeartbeats 8000000 in
set_option maxRecDepth 20000 in
theorem law10_counted (o : OpD) (S P X GS GC : Option Addr) (c cp cx gc gd : Nat) (p x : List Ten) (g : Ten) (w : World) (ho : o.s.length ≤ 1048576) :
  Calls Tryz.prog 9 #[.agg (case_arr o S P X GS GC c cp cx gc gd p x g)] w fun e w' => e = .returned (.int .i64 (Od.counts o p.length x.length)) ∧ Below w.heap.size w w' := by
 have hk := Blk.new w 32 (case_arr o S P X GS GC c cp cx gc gd p x g)
 have h0 : Later w (w.alloc (.cells (case_arr o S P X GS GC c cp cx gc gd p x g) 32)) := (Later.refl w).alloc _
 have Hk := Lib.hid hk
 have H0 := Lib.hid h0
 clear hk h0
 go_enter Tryz.func9, Tryz.ntmps9
 go_upto_region 1 with fail
 generalize w.alloc (.cells (case_arr o S P X GS GC c cp cx gc gd p x g) 32) = w1 at *
 obtain ⟨y0, y1, y2, y3, y4, y5, y6, y7, y8, y9, y10, y11⟩ := case_cells12 Hk.out
 go_wp2_with fail
 refine (law10_ref o S c _).mono ?_
 rintro e w2 ⟨rfl, hb2⟩
 have h12 : Later w1 w2 := hb2
 clear hb2
 have H12 := Lib.hid h12
 clear h12
 go_wp2_with fail
 refine (ref10_right o S c _ (by omega)).mono ?_
 rintro e w3 ⟨rfl, hb3⟩
 rw [Od.ref_right]
 have h13 := H12.out.call hb3
 have h03 := H0.out.trans h13
 clear hb3 y0 y1 y2 y3 y4 y5 y6 y7 y8 y9 y10 y11
 obtain ⟨y0, y1, y2, y3, y4, y5, y6, y7, y8, y9, y10, y11⟩ := case_cells12 (h13.blk Hk.out)
 clear y1 y2 y3 y4 y5 y6 y7 y10 y11
 cases hr : Od.right o
 ·have HV := Lib.hid (show Od.counts o p.length x.length = 21 by unfold Od.counts; rw [hr]; rfl)
  have H13 := Lib.hid h13
  have H03 := Lib.hid h03
  have Hr := Lib.hid hr
  clear h13 h03 hr
  go_wp2_with fail
  go_ret
  exact ⟨by (rw [HV.out] <;> rfl), H03.out⟩
 have e1 := refIns_right hr
 have e2 := refPar_right hr
 have hv : Od.counts o p.length x.length = if ((x.length : Int) < Od.least o ∨ Od.most o < (x.length : Int) ∨ (p.length : Int) ≠ Od.params o) then 20 else 0 := by unfold Od.counts; rw [if_pos hr]
 have H13 := Lib.hid h13
 have H03 := Lib.hid h03
 have Hr := Lib.hid hr
 have He1 := Lib.hid e1
 have He2 := Lib.hid e2
 have Hv := Lib.hid hv
 clear h13 h03 hr e1 e2 hv
 go_wp2_with fail
 refine (ref10_ins_any o.kind _).mono ?_
 rintro e w4 ⟨rfl, rfl⟩
 rw [He1.out]
 have hpar := fun (W : World) => ref10_params o.kind W
 rw [He2.out] at hpar
 generalize Od.least o = ls at *
 generalize Od.most o = ms at *
 generalize Od.params o = pr at *
 have Hpar := Lib.hid hpar
 clear hpar
 by_cases a1 : (p.length : Int) = pr
 rotate_left
 ·have HV := Lib.hid (Hv.out.trans (by rw [if_pos (by omega)]))
  have d1 : ((p.length : Int) != pr) = true := by rw [bne_iff_ne]; exact a1
  have d1' : ¬ (p.length : Int) = pr := a1
  go_wp2_with fail
  have KF := Lib.hid (show ∀ Xw, Later w3 Xw → Xw.cell? ⟨w.heap.size, 0, none⟩ = some (.int .i64 o.kind) ∧ Xw.cell? ⟨w.heap.size, 8, none⟩ = some (.slice P p.length cp) ∧ Xw.cell? ⟨w.heap.size, 9, none⟩ = some (.slice X x.length cx) from fun Xw h => ⟨h.cell y0, h.cell y8, h.cell y9⟩)
  refine wp_region_noPanic ?_
  refine wp_region_held_drew (S := fun Xw => Xw.cell? ⟨w.heap.size, 0, none⟩ = some (.int .i64 o.kind) ∧ Xw.cell? ⟨w.heap.size, 8, none⟩ = some (.slice P p.length cp) ∧ Xw.cell? ⟨w.heap.size, 9, none⟩ = some (.slice X x.length cx)) (by kernel_rfl) (KF.out _ Later.au) (fun hHeld => ?_)
  refine tk 0 ?_
  refine tk 1 ?_
  refine tk 2 ?_
  refine tk 3 ?_
  refine tk 4 ?_
  refine tk 5 ?_
  refine rd 6 fun K hK => ?_
  simp only [ga, gs, gz]
  go_simp
  go_at_call 38; (with_reducible refine (Hpar.out _).mono ?_); rintro e wf ⟨rfl, rfl⟩
  try go_wp2_with fail
  refine hK.out _ _ (KF.out _ Later.au) (fun hHeld => ?_)
  clear hK K
  try simp only [ga, gs, gz, Act.put, sa, sz, ss]
  refine tk 7 ?_
  refine tk 8 ?_
  refine tn 9 ?_
  refine tn 10 ?_
  refine tn 11 ?_
  refine tn 12 ?_
  refine tn 13 ?_
  refine tk 14 ?_
  refine tk 15 ?_
  refine tn 16 ?_
  refine tn 17 ?_
  refine tn 18 ?_
  refine tn 19 ?_
  refine tn 20 ?_
  refine tk 21 ?_
  clear KF
  refine wpAnyH_done (by kernel_rfl) ?_ _
  refine NoPanic.normal ?_
  go_wp2_with fail
  go_ret
  exact ⟨by (rw [HV.out] <;> rfl), H03.out.drew⟩
 have d1 : ((p.length : Int) != pr) = false := by simp [a1]
 by_cases a2 : (x.length : Int) < ls
 ·have HV := Lib.hid (Hv.out.trans (by rw [if_pos (by omega)]))
  have d2 : decide ((x.length : Int) < ls) = true := by simpa using a2
  go_wp2_with fail
  have KF := Lib.hid (show ∀ Xw, Later w3 Xw → Xw.cell? ⟨w.heap.size, 0, none⟩ = some (.int .i64 o.kind) ∧ Xw.cell? ⟨w.heap.size, 8, none⟩ = some (.slice P p.length cp) ∧ Xw.cell? ⟨w.heap.size, 9, none⟩ = some (.slice X x.length cx) from fun Xw h => ⟨h.cell y0, h.cell y8, h.cell y9⟩)
  refine wp_region_noPanic ?_
  refine wp_region_held_drew (S := fun Xw => Xw.cell? ⟨w.heap.size, 0, none⟩ = some (.int .i64 o.kind) ∧ Xw.cell? ⟨w.heap.size, 8, none⟩ = some (.slice P p.length cp) ∧ Xw.cell? ⟨w.heap.size, 9, none⟩ = some (.slice X x.length cx)) (by kernel_rfl) (KF.out _ Later.au) (fun hHeld => ?_)
  refine tk 0 ?_
  refine tk 1 ?_
  refine tk 2 ?_
  refine tk 3 ?_
  refine tk 4 ?_
  refine tk 5 ?_
  refine rd 6 fun K hK => ?_
  simp only [ga, gs, gz]
  go_simp
  go_at_call 38; (with_reducible refine (Hpar.out _).mono ?_); rintro e wf ⟨rfl, rfl⟩
  try go_wp2_with fail
  refine hK.out _ _ (KF.out _ Later.au) (fun hHeld => ?_)
  clear hK K
  try simp only [ga, gs, gz, Act.put, sa, sz, ss]
  refine tk 7 ?_
  refine tk 8 ?_
  refine tk 9 ?_
  refine tk 10 ?_
  refine tk 11 ?_
  refine tk 12 ?_
  refine tk 13 ?_
  refine tk 14 ?_
  refine tk 15 ?_
  refine tn 16 ?_
  refine tn 17 ?_
  refine tn 18 ?_
  refine tn 19 ?_
  refine tn 20 ?_
  refine tk 21 ?_
  clear KF
  refine wpAnyH_done (by kernel_rfl) ?_ _
  refine NoPanic.normal ?_
  go_wp2_with fail
  go_ret
  exact ⟨by (rw [HV.out] <;> rfl), H03.out.drew⟩
 have d2 : decide ((x.length : Int) < ls) = false := by simpa using a2
 by_cases a3 : ms < (x.length : Int)
 ·have HV := Lib.hid (Hv.out.trans (by rw [if_pos (by omega)]))
  have d3 : decide (ms < (x.length : Int)) = true := by simpa using a3
  go_wp2_with fail
  have KF := Lib.hid (show ∀ Xw, Later w3 Xw → Xw.cell? ⟨w.heap.size, 0, none⟩ = some (.int .i64 o.kind) ∧ Xw.cell? ⟨w.heap.size, 8, none⟩ = some (.slice P p.length cp) ∧ Xw.cell? ⟨w.heap.size, 9, none⟩ = some (.slice X x.length cx) from fun Xw h => ⟨h.cell y0, h.cell y8, h.cell y9⟩)
  refine wp_region_noPanic ?_
  refine wp_region_held_drew (S := fun Xw => Xw.cell? ⟨w.heap.size, 0, none⟩ = some (.int .i64 o.kind) ∧ Xw.cell? ⟨w.heap.size, 8, none⟩ = some (.slice P p.length cp) ∧ Xw.cell? ⟨w.heap.size, 9, none⟩ = some (.slice X x.length cx)) (by kernel_rfl) (KF.out _ Later.au) (fun hHeld => ?_)
  refine tk 0 ?_
  refine tk 1 ?_
  refine tk 2 ?_
  refine tk 3 ?_
  refine tk 4 ?_
  refine tk 5 ?_
  refine rd 6 fun K hK => ?_
  simp only [ga, gs, gz]
  go_simp
  go_at_call 38; (with_reducible refine (Hpar.out _).mono ?_); rintro e wf ⟨rfl, rfl⟩
  try go_wp2_with fail
  refine hK.out _ _ (KF.out _ Later.au) (fun hHeld => ?_)
  clear hK K
  try simp only [ga, gs, gz, Act.put, sa, sz, ss]
  refine tk 7 ?_
  refine tk 8 ?_
  refine tk 9 ?_
  refine tk 10 ?_
  refine tk 11 ?_
  refine tk 12 ?_
  refine tk 13 ?_
  refine tk 14 ?_
  refine tk 15 ?_
  refine tk 16 ?_
  refine tk 17 ?_
  refine tk 18 ?_
  refine tk 19 ?_
  refine tk 20 ?_
  refine tk 21 ?_
  clear KF
  refine wpAnyH_done (by kernel_rfl) ?_ _
  refine NoPanic.normal ?_
  go_wp2_with fail
  go_ret
  exact ⟨by (rw [HV.out] <;> rfl), H03.out.drew⟩
 have d3 : decide (ms < (x.length : Int)) = false := by simpa using a3
 have HV := Lib.hid (Hv.out.trans (by rw [if_neg (by omega)]))
 go_wp2_with fail
 have KF := Lib.hid (show ∀ Xw, Later w3 Xw → Xw.cell? ⟨w.heap.size, 0, none⟩ = some (.int .i64 o.kind) ∧ Xw.cell? ⟨w.heap.size, 8, none⟩ = some (.slice P p.length cp) ∧ Xw.cell? ⟨w.heap.size, 9, none⟩ = some (.slice X x.length cx) from fun Xw h => ⟨h.cell y0, h.cell y8, h.cell y9⟩)
 refine wp_region_noPanic ?_
 refine wp_region_held_drew (S := fun Xw => Xw.cell? ⟨w.heap.size, 0, none⟩ = some (.int .i64 o.kind) ∧ Xw.cell? ⟨w.heap.size, 8, none⟩ = some (.slice P p.length cp) ∧ Xw.cell? ⟨w.heap.size, 9, none⟩ = some (.slice X x.length cx)) (by kernel_rfl) (KF.out _ Later.au) (fun hHeld => ?_)
 refine tk 0 ?_
 refine tk 1 ?_
 refine tk 2 ?_
 refine tk 3 ?_
 refine tk 4 ?_
 refine tk 5 ?_
 refine rd 6 fun K hK => ?_
 simp only [ga, gs, gz]
 go_simp
 go_at_call 38; (with_reducible refine (Hpar.out _).mono ?_); rintro e wf ⟨rfl, rfl⟩
 try go_wp2_with fail
 refine hK.out _ _ (KF.out _ Later.au) (fun hHeld => ?_)
 clear hK K
 try simp only [ga, gs, gz, Act.put, sa, sz, ss]
 refine tk 7 ?_
 refine tk 8 ?_
 refine tk 9 ?_
 refine tk 10 ?_
 refine tk 11 ?_
 refine tk 12 ?_
 refine tk 13 ?_
 refine tk 14 ?_
 refine tk 15 ?_
 refine tk 16 ?_
 refine tk 17 ?_
 refine tk 18 ?_
 refine tk 19 ?_
 refine tk 20 ?_
 refine tk 21 ?_
 clear KF
 refine wpAnyH_done (by kernel_rfl) ?_ _
 refine NoPanic.normal ?_
 go_wp2_with fail
 go_ret
 exact ⟨by (rw [HV.out] <;> rfl), H03.out.drew⟩
end Go.Proofs.YtbnnpkcfifejmaaGreat
namespace Go.Proofs.YtbnnpkcfifejmaaGreat
open Go.RowKit
def relu (x : Int) : Int := if x < 0 then 0 else x
theorem cell_relu (k x y : Int) (w : World) :
  Calls Tryz.prog 144 #[.int .i64 1, .int .i64 k, .int .i64 x, .int .i64 y] w fun e w' => e = .returned (.int .i64 (relu x)) ∧ w = w' := by
 by_cases h : x < 0
 ·have hm := Lib.hid (show relu x = 0 by unfold relu; rw [if_pos h])
  have d1 : decide (x < 0) = true := by simpa using h
  have d2 : decide (0 < x) = false := by simp; omega
  have d3 : decide (x ≤ 0) = true := by simp; omega
  have d4 : decide (0 ≤ x) = false := by simp; omega
  go_enter Tryz.func144, Tryz.ntmps144
  go_wp2_with fail
  go_ret
  exact ⟨by (rw [hm.out] <;> simp <;> omega), rfl⟩
 ·have hm := Lib.hid (show relu x = x by unfold relu; rw [if_neg h])
  have d1 : decide (x < 0) = false := by simpa using h
  have d4 : decide (0 ≤ x) = true := by simp; omega
  go_enter Tryz.func144, Tryz.ntmps144
  go_wp2_with fail
  go_ret
  exact ⟨by (rw [hm.out] <;> simp <;> omega), rfl⟩
theorem second_one (A : Option Addr) (c : Nat) (i : Int) (w : World) :
  Calls Tryz.prog 68 #[.slice A 1 c, .int .i64 i] w fun e w' => e = .returned (.int .i64 0) ∧ w = w' := by
 go_enter Tryz.func68, Tryz.ntmps68
 go_wp2_with fail
 go_ret
 exact ⟨rfl, rfl⟩
set_option maxHeartbeats 4000000 in
theorem agree_relu (b c d : Nat) (S C : Option Addr) (f : Nat) (t : Ten) (w : World) (hr : Tn.right t = true) (hb : Blk w b 30 #[.slice S t.s.length c, .slice C t.c.length d]) (hT : TenR w S C t) :
  Calls Tryz.prog 66 #[.int .i64 1, .slice (some ⟨b, 0, none⟩) 1 f] w fun e w' => e = .returned (.int .i64 0) ∧ Below w.heap.size w w' := by
 obtain ⟨l1, l2, l3⟩ := Tn.right_len hr
 have Hr := Lib.hid hr
 have Hb := Lib.hid hb
 have HT := Lib.hid hT
 clear hr hb hT
 go_enter Tryz.func66, Tryz.ntmps66
 go_wp2_with fail
 refine (point_ins 1 _).mono ?_
 rintro e w1 ⟨rfl, rfl⟩
 have e1 : Od.ptIns 1 = 1 := rfl
 rw [e1]
 go_wp2_with fail
 go_loopw [18] (fun i wx => ∃ k : Nat, k ≤ 1 ∧ i = .int .i64 (k : Int) ∧ Later w wx) (fun i _ => 1 - (intOf i).toNat)
 case atStart => exact ⟨0, by omega, rfl, Later.refl _⟩
 case round =>
  obtain ⟨k, hk, rfl, hlw⟩ := hrel
  by_cases hlt : k < 1
  ·obtain rfl : k = 0 := by omega
   have hbw := hlw.blk Hb.out
   have y0 : wr.cell? ⟨b, 0, none⟩ = some (.slice S t.s.length c) := by rw [hbw.cell]; rfl
   have y1 : wr.cell? ⟨b, 1, none⟩ = some (.slice C t.c.length d) := by rw [hbw.cell]; rfl
   have h2 : Later wr (wr.alloc (.cells #[.slice S t.s.length c, .slice C t.c.length d] 30)) := (Later.refl wr).alloc _
   have hkx := Blk.new wr 30 #[.slice S t.s.length c, .slice C t.c.length d]
   have hbx := h2.blk hbw
   have hl2 := hlw.trans h2
   have Hlw := Lib.hid hlw
   have Hbw := Lib.hid hbw
   have H2 := Lib.hid h2
   have Hkx := Lib.hid hkx
   have Hbx := Lib.hid hbx
   have Hl2 := Lib.hid hl2
   clear hlw hbw h2 hkx hbx hl2
   go_wp2_with fail
   generalize wr.alloc (.cells #[.slice S t.s.length c, .slice C t.c.length d] 30) = w2 at *
   clear y0 y1
   have x0 : w2.cell? ⟨wr.heap.size, 0, none⟩ = some (.slice S t.s.length c) := by rw [Hkx.out.cell]; rfl
   have x1 : w2.cell? ⟨wr.heap.size, 1, none⟩ = some (.slice C t.c.length d) := by rw [Hkx.out.cell]; rfl
   have x2 : w2.cell? ⟨b, 0, none⟩ = some (.slice S t.s.length c) := by rw [Hbx.out.cell]; rfl
   have hc1 := fun (V : World) (h : Later w2 V) => tensor_right S C c d t V (by omega) (by omega) (HT.out.1.below (Hl2.out.trans h) (Nat.le_refl _))
   have hc2 := fun (V : World) (h : Later w2 V) => shape_equal S S c c t.s t.s V (by omega) (by omega) (HT.out.1.below (Hl2.out.trans h) (Nat.le_refl _)) (HT.out.1.below (Hl2.out.trans h) (Nat.le_refl _))
   rw [Hr.out] at hc1
   rw [show (t.s == t.s) = true by simp] at hc2
   have Hc1 := Lib.hid hc1
   have Hc2 := Lib.hid hc2
   clear hc1 hc2
   go_region_held3 (fun W => W.cell? ⟨wr.heap.size, 0, none⟩ = some (.slice S t.s.length c) ∧ W.cell? ⟨wr.heap.size, 1, none⟩ = some (.slice C t.c.length d) ∧ W.cell? ⟨b, 0, none⟩ = some (.slice S t.s.length c)) (first | (with_reducible exact ⟨x0, x1, x2⟩) | exact ⟨Later.cell (show Later w2 _ by repeat (first | (with_reducible exact Later.refl _) | (with_reducible apply Later.drew) | (with_reducible apply Later.drewN) | (with_reducible apply Later.alloc) | (with_reducible refine Later.call ?_ (by assumption)))) x0, Later.cell (show Later w2 _ by repeat (first | (with_reducible exact Later.refl _) | (with_reducible apply Later.drew) | (with_reducible apply Later.drewN) | (with_reducible apply Later.alloc) | (with_reducible refine Later.call ?_ (by assumption)))) x1, Later.cell (show Later w2 _ by repeat (first | (with_reducible exact Later.refl _) | (with_reducible apply Later.drew) | (with_reducible apply Later.drewN) | (with_reducible apply Later.alloc) | (with_reducible refine Later.call ?_ (by assumption)))) x2⟩)
    (first
    | (go_at_call 51; (with_reducible refine (Hc1.out _ (show Later w2 _ by repeat (first | (with_reducible exact Later.refl _) | (with_reducible apply Later.drew) | (with_reducible apply Later.drewN) | (with_reducible apply Later.alloc) | (with_reducible refine Later.call ?_ (by assumption))))).mono ?_); rintro e wa ⟨rfl, hba⟩)
    | (go_at_call 43; (with_reducible refine (Hc2.out _ (show Later w2 _ by repeat (first | (with_reducible exact Later.refl _) | (with_reducible apply Later.drew) | (with_reducible apply Later.drewN) | (with_reducible apply Later.alloc) | (with_reducible refine Later.call ?_ (by assumption))))).mono ?_); rintro e wd ⟨rfl, qd, rfl⟩))
   all_goals
    have hle := Hl2.out.trans (show Later w2 _ from (show Later w2 wa by repeat (first | (with_reducible exact Later.refl _) | (with_reducible apply Later.drew) | (with_reducible apply Later.drewN) | (with_reducible apply Later.alloc) | (with_reducible refine Later.call ?_ (by assumption)))).drewN qd)
    have Hle := Lib.hid hle
    clear hle
    go_wp2_with fail
    go_roundw
    case rel => exact ⟨1, by omega, rfl, Hle.out⟩
    case measure => simp [intOf]
  ·obtain rfl : k = 1 := by omega
   have Hlw := Lib.hid hlw
   clear hlw
   go_wp2_with fail
   go_ret
   exact ⟨rfl, Hlw.out⟩
def ReluP (t : Ten) (w : World) (e : Ending) (w' : World) : Prop := ∃ v, e = .returned (.tuple #[v, .int .i64 0]) ∧ TenN w.heap.size w' v ⟨t.s, t.c.map relu⟩ ∧ Below w.heap.size w w'
theorem relu_step (l : List Int) {k : Nat} (hk : k < l.length) : ((l.take k).map relu ++ l.drop k).set k (relu l[k]) = (l.take (k + 1)).map relu ++ l.drop (k + 1) := by
 have h1 : ((l.take k).map relu).length = k := by simp; omega
 rw [List.set_append_right _ _ (by omega), h1, Nat.sub_self, List.drop_eq_getElem_cons hk, List.set_cons_zero, List.take_succ_eq_append_getElem hk, List.map_append, List.append_assoc]
 rfl
set_option maxHeartbeats 8000000 in
theorem point_relu (k0 : Int) (b c d : Nat) (S C : Option Addr) (f : Nat) (t : Ten) (w : World) (hr : Tn.right t = true) (hb : Blk w b 30 #[.slice S t.s.length c, .slice C t.c.length d]) (hT : TenR w S C t) :
  Calls Tryz.prog 101 #[.int .i64 1, .int .i64 k0, .slice (some ⟨b, 0, none⟩) 1 f] w (ReluP t w) := by
 obtain ⟨l1, l2, l3⟩ := Tn.right_len hr
 have h01 : Later w (w.alloc (.cells #[.slice none 0 0, .slice none 0 0] 30)) := (Later.refl w).alloc _
 have hz := Blk.new w 30 #[.slice none 0 0, .slice none 0 0]
 have Hr := Lib.hid hr
 have Hb := Lib.hid hb
 have HT := Lib.hid hT
 have H01 := Lib.hid h01
 have Hz := Lib.hid hz
 clear hr hb hT h01 hz
 go_enter Tryz.func101, Tryz.ntmps101
 go_wp2_with fail
 generalize w.alloc (.cells #[.slice none 0 0, .slice none 0 0] 30) = w1 at *
 refine (agree_relu b c d S C f t w1 Hr.out (H01.out.blk Hb.out) ⟨HT.out.1.below H01.out (Nat.le_refl _), HT.out.2.below H01.out (Nat.le_refl _)⟩).mono ?_
 rintro e w2 ⟨rfl, hb2⟩
 have h02 := H01.out.call hb2
 have hz2 := (show Later w1 w2 from hb2).blk Hz.out
 have hbb2 := h02.blk Hb.out
 have y0 : w2.cell? ⟨b, 0, none⟩ = some (.slice S t.s.length c) := by rw [hbb2.cell]; rfl
 have y1 : w2.cell? ⟨b, 1, none⟩ = some (.slice C t.c.length d) := by rw [hbb2.cell]; rfl
 clear hb2 Hz H01
 have H02 := Lib.hid h02
 have Hz2 := Lib.hid hz2
 have Hbb2 := Lib.hid hbb2
 clear h02 hz2 hbb2
 go_wp2_with fail
 refine (tensor_copy S C c d t w2 (by omega) (by omega) ⟨HT.out.1.below H02.out (Nat.le_refl _), HT.out.2.below H02.out (Nat.le_refl _)⟩).mono ?_
 rintro e w3 ⟨v, rfl, ⟨g, h, rfl, hg, hh, hG, hH⟩, hb3⟩
 have h23 : Later w2 w3 := hb3
 have h3a : Later w3 (w3.alloc (.cells #[.slice (some ⟨g, 0, none⟩) t.s.length t.s.length, .slice (some ⟨h, 0, none⟩) t.c.length t.c.length] 30)) := (Later.refl w3).alloc _
 have ho := Blk.new w3 30 #[.slice (some ⟨g, 0, none⟩) t.s.length t.s.length, .slice (some ⟨h, 0, none⟩) t.c.length t.c.length]
 have h04 := (H02.out.trans h23).trans h3a
 have hz4 := (h23.trans h3a).blk Hz2.out
 have hbb4 := (h23.trans h3a).blk Hbb2.out
 have hG4 := h3a.blk hG
 have hH4 := h3a.blk hH
 have hs2 := H02.out.size
 have hs3 := h23.size
 have hhl := hH.lt
 have hgl := hG.lt
 have hzl := Hz2.out.lt
 have z0 := hbb4.cell 0
 have z1 := hbb4.cell 1
 simp at z0 z1
 clear y0 y1 hb3 Hz2 Hbb2 H02 hG hH
 have H23 := Lib.hid h23
 have H3a := Lib.hid h3a
 have Ho := Lib.hid ho
 have H04 := Lib.hid h04
 have Hz4 := Lib.hid hz4
 have Hbb4 := Lib.hid hbb4
 have HG4 := Lib.hid hG4
 have HH4 := Lib.hid hH4
 clear h23 h3a ho h04 hz4 hbb4 hG4 hH4
 have Z0 := Lib.hid z0
 have Z1 := Lib.hid z1
 clear z0 z1
 go_upto_region 5 with fail
 generalize w3.alloc (.cells #[.slice (some ⟨g, 0, none⟩) t.s.length t.s.length, .slice (some ⟨h, 0, none⟩) t.c.length t.c.length] 30) = w4 at *
 generalize hpe : w3.heap.size = p at *
 have z0 := Z0.out
 have z1 := Z1.out
 clear Z0 Z1 H3a H23
 have Hpe := Lib.hid hpe
 clear hpe
 go_wp2_with fail
 clear z0 z1
 have hI0 : Blk w4 h 22 (((t.c.take 0).map relu ++ t.c.drop 0).map (Value.int .i64)).toArray := by simpa using HH4.out
 have HI0 := Lib.hid hI0
 clear hI0
 go_loopw [28] (fun i wx => ∃ k : Nat, k ≤ t.c.length ∧ i = .int .i64 (k : Int) ∧ Blk wx h 22 (((t.c.take k).map relu ++ t.c.drop k).map (Value.int .i64)).toArray ∧ Blk wx p 30 #[.slice (some ⟨g, 0, none⟩) t.s.length t.s.length, .slice (some ⟨h, 0, none⟩) t.c.length t.c.length] ∧ Blk wx w.heap.size 30 #[.slice none 0 0, .slice none 0 0] ∧ Blk wx g 3 (t.s.map (Value.int .i64)).toArray ∧ Later w wx) (fun i _ => t.c.length - (intOf i).toNat)
 case atStart => exact ⟨0, Nat.zero_le _, rfl, HI0.out, Ho.out, Hz4.out, HG4.out, H04.out⟩
 case round =>
  obtain ⟨k, hk, rfl, hm, hox, hzx, hgx, hlw⟩ := hrel
  clear HI0
  by_cases hlt : k < t.c.length
  ·obtain ⟨b2, off2, rfl, -, hc2⟩ := (HT.out.2.below hlw (Nat.le_refl _)) k hlt
   rw [show t.c.getD k 0 = t.c[k] by rw [List.getD_eq_getElem?_getD, List.getElem?_eq_getElem hlt]; rfl] at hc2
   have hst := relu_step t.c hlt
   have hlen : ((t.c.take k).map relu ++ t.c.drop k).length = t.c.length := by simp; omega
   generalize t.c[k] = x at *
   have o1 : wr.cell? ⟨p, 1, none⟩ = some (.slice (some ⟨h, 0, none⟩) t.c.length t.c.length) := by rw [hox.cell]; rfl
   obtain ⟨u, hu⟩ : ∃ u, wr.cell? ⟨h, k, none⟩ = some u := ⟨_, by rw [hm.cell, List.getElem?_toArray, List.getElem?_eq_getElem (by simp; omega)]⟩
   have fu := hm.frozen k
   have hm2 : Blk (wr.setCell ⟨h, k, none⟩ (.int .i64 (relu x))) h 22 (((t.c.take (k + 1)).map relu ++ t.c.drop (k + 1)).map (Value.int .i64)).toArray := by
    have := hm.set_ k (.int .i64 (relu x))
    rw [← hst, List.map_set]
    simpa using this
   have hox2 := hox.far (p := ⟨h, k, none⟩) (by have := Hpe.out; simp; omega) (.int .i64 (relu x))
   have hzx2 := hzx.far (p := ⟨h, k, none⟩) (by simp; omega) (.int .i64 (relu x))
   have hgx2 : Blk (wr.setCell ⟨h, k, none⟩ (.int .i64 (relu x))) g 3 (t.s.map (Value.int .i64)).toArray := hgx.far (p := ⟨h, k, none⟩) (by
    intro e
    have e : g = h := e
    subst e
    have h1 : (Obj.cells (t.s.map (Value.int .i64)).toArray 3 (0, 0)) = _ := Option.some.inj (hgx.symm.trans hm)
    injection h1 with _ h2 _
    exact absurd h2 (by decide)) (.int .i64 (relu x))
   have hlw2 := hlw.set (p := ⟨h, k, none⟩) (by simp; omega) (.int .i64 (relu x))
   have k1 : (k : Int) < (t.c.length : Int) := by omega
   have k2 : (0 : Int) ≤ (k : Int) := by omega
   have Hm := Lib.hid hm
   have Hox := Lib.hid hox
   have Hzx := Lib.hid hzx
   have Hgx := Lib.hid hgx
   have Hlw := Lib.hid hlw
   have Hm2 := Lib.hid hm2
   have Hox2 := Lib.hid hox2
   have Hzx2 := Lib.hid hzx2
   have Hgx2 := Lib.hid hgx2
   have Hlw2 := Lib.hid hlw2
   have Hst := Lib.hid hst
   clear hm hox hzx hgx hlw hm2 hox2 hzx2 hgx2 hlw2 hst
   go_wp2_with fail
   go_region_law ((first
    | (go_simp; go_at_call 68; refine (second_one _ _ _ _).mono ?_; rintro e wa ⟨rfl, rfl⟩)
    | (go_simp; go_at_call 144; refine (cell_relu _ _ _ _).mono ?_; rintro e wb ⟨rfl, rfl⟩)))
   all_goals
    go_wp2_with fail
    go_roundw
    case rel => exact ⟨k + 1, by omega, by go_num, Hm2.out.drew, Hox2.out.drew, Hzx2.out.drew, Hgx2.out.drew, Hlw2.out.drew⟩
    case measure => simp [intOf]; omega
  ·obtain rfl : k = t.c.length := by omega
   rw [List.take_length, List.drop_length, List.append_nil] at hm
   have o0 : wr.cell? ⟨p, 0, none⟩ = some (.slice (some ⟨g, 0, none⟩) t.s.length t.s.length) := by rw [hox.cell]; rfl
   have o1 : wr.cell? ⟨p, 1, none⟩ = some (.slice (some ⟨h, 0, none⟩) t.c.length t.c.length) := by rw [hox.cell]; rfl
   have c0 := hzx.cell 0
   have c1 := hzx.cell 1
   have f0 := hzx.frozen 0
   have f1 := hzx.frozen 1
   simp at c0 c1
   have hz3 := (hzx.set_ 0 (.slice (some ⟨g, 0, none⟩) t.s.length t.s.length)).set_ 1 (.slice (some ⟨h, 0, none⟩) t.c.length t.c.length)
   have d0 := hz3.cell 0
   have d1 := hz3.cell 1
   simp at d0 d1
   have hgz : g ≠ w.heap.size := by omega
   have hhz : h ≠ w.heap.size := by omega
   have Hm := Lib.hid hm
   have Hox := Lib.hid hox
   have Hzx := Lib.hid hzx
   have Hgx := Lib.hid hgx
   have Hlw := Lib.hid hlw
   have Hz3 := Lib.hid hz3
   clear hm hox hzx hgx hlw hz3
   go_wp2_with fail
   refine bodyPost_ret (v := .tuple #[.agg #[.slice (some ⟨g, 0, none⟩) t.s.length t.s.length, .slice (some ⟨h, 0, none⟩) t.c.length t.c.length], .int .i64 0]) (by simp [results, Tryz.results101, go_sem, d0, d1]) rfl ?_
   refine ⟨_, rfl, ⟨g, h, by simp, by omega, by omega, (Hgx.out.far (p := ⟨w.heap.size, 0, none⟩) hgz _).far (p := ⟨w.heap.size, 1, none⟩) hgz _, (Hm.out.far (p := ⟨w.heap.size, 0, none⟩) hhz _).far (p := ⟨w.heap.size, 1, none⟩) hhz _⟩, (Hlw.out.set (p := ⟨w.heap.size, 0, none⟩) (Nat.le_refl _) _).set (p := ⟨w.heap.size, 1, none⟩) (Nat.le_refl _) _⟩
end Go.Proofs.YtbnnpkcfifejmaaGreat
namespace Go.Proofs.YtbnnpkcfifejmaaGreat
namespace Od
def costV (o : OpD) (p : List (List Int)) (s : List Int) : Int :=
 if o.kind = 8 then Safe.prod (p.getD 0 [])
 else if o.kind = 10 then Safe.prod s * (Safe.prod (p.getD 0 [])).tdiv ((p.getD 0 []).getD 0 0)
 else if o.kind = 11 ∨ o.kind = 12 then Safe.prod s * o.width
 else Safe.prod s
def cost (o : OpD) (p x : List (List Int)) : Int × Int := if (shape o p x).2 = 0 then (costV o p (shape o p x).1, 0) else (0, (shape o p x).2)
theorem shape_good {o : OpD} {p x : List (List Int)} (h : (shape o p x).2 = 0) : right o = true ∧ (p.length : Int) = params o ∧ least o ≤ (x.length : Int) ∧ (∀ s ∈ p, Sh.right s = true) ∧ (∀ s ∈ x, Sh.right s = true) ∧ (byKind o p x).2 = 0 ∧ shape o p x = byKind o p x := by
 obtain ⟨h1, h2, h3, h4, h5, h6, h7⟩ := shape_ok h
 exact ⟨h1, h4, h2, List.all_eq_true.1 h5, List.all_eq_true.1 h6, by rw [← h7]; exact h, h7⟩
theorem mul2 {a b : Int} (ha : 0 ≤ a) (ha2 : a ≤ 65536) (hb : 0 ≤ b) (hb2 : b ≤ 65536) : Safe.mul [a, b] = (a * b, 0) ∧ 0 ≤ a * b ∧ a * b ≤ 4294967296 := by
 have h0 : 0 ≤ a * b := Int.mul_nonneg ha hb
 have h1 : a * b ≤ 65536 * 65536 := Int.le_trans (Int.mul_le_mul_of_nonneg_right ha2 hb) (Int.mul_le_mul_of_nonneg_left hb2 (by omega))
 refine ⟨?_, h0, by omega⟩
 have hp : Safe.prod [a, b] = a * b := by simp [Safe.prod]
 unfold Safe.mul
 rw [if_pos (by simp [Safe.ok]; omega), hp]
 split
 ·rw [if_pos (by unfold Safe.top; omega)]
 ·rename_i hz
  simp at hz
  by_cases e : a = 0
  ·subst e; simp
  ·by_cases e2 : b = 0
   ·subst e2; simp
   ·exact absurd (hz e) e2
theorem window_width {side width step : Int} (h : (window side width step).2 = 0) : 1 ≤ width ∧ width ≤ 1024 := by
 unfold window at h
 split at h
 ·rename_i hc; exact (Sh.side_iff _).1 hc.2.1
 ·simp at h
theorem cost_parts {o : OpD} {p x : List (List Int)} (h : (shape o p x).2 = 0) :
  (o.kind = 8 → 0 < p.length) ∧ (o.kind = 10 → 0 < p.length ∧ 0 < (p.getD 0 []).length ∧ 1 ≤ (p.getD 0 []).getD 0 0 ∧ (p.getD 0 []).getD 0 0 ≤ 1024) ∧ (o.kind = 11 ∨ o.kind = 12 → 1 ≤ o.width ∧ o.width ≤ 1024) := by
 obtain ⟨hr, hp, hx, hpr, hxr, hb, _⟩ := shape_good h
 refine ⟨fun e => ?_, fun e => ?_, fun e => ?_⟩
 ·unfold params at hp; rw [if_pos hr, if_pos e] at hp; omega
 ·have hl : 0 < p.length := by unfold params at hp; rw [if_pos hr, if_neg (by omega), if_pos (by omega)] at hp; omega
  have e0 : p.getD 0 [] = p[0] := by simp [List.getD_eq_getElem?_getD, hl]
  have h0 := hpr p[0] (List.getElem_mem hl)
  obtain ⟨_, _, h3, h4, _, _⟩ := Sh.right_mul h0
  rw [e0]
  have e1 : p[0].getD 0 0 = p[0][0]'(by omega) := by rw [List.getD_eq_getElem?_getD, List.getElem?_eq_getElem (by omega)]; rfl
  rw [e1]
  have := h4 _ (List.getElem_mem (show 0 < p[0].length by omega))
  exact ⟨hl, by omega, this.1, this.2⟩
 ·have : (pool (x.getD 0 []) o.width o.step).2 = 0 := by
   have hb2 := hb
   unfold byKind at hb2
   rw [if_neg (by omega), if_neg (by omega), if_neg (by omega), if_pos e] at hb2
   exact hb2
  unfold pool at this
  split at this
  ·split at this
   ·rename_i h; exact window_width h
   ·simp at this
  ·simp at this
theorem prod_right_ {s : List Int} (h : Sh.right s = true) : 1 ≤ Safe.prod s ∧ Safe.prod s ≤ 65536 := by
 obtain ⟨_, _, _, _, h5, h6⟩ := Sh.right_mul h
 exact ⟨h5, h6⟩
theorem costV_bd {o : OpD} {p x : List (List Int)} (h : (shape o p x).2 = 0) : 0 ≤ costV o p (shape o p x).1 ∧ costV o p (shape o p x).1 ≤ 4294967296 := by
 obtain ⟨hr, hp, hx, hpr, hxr, hb, _⟩ := shape_good h
 obtain ⟨h8, h10, h11⟩ := cost_parts h
 have hs := prod_right_ (shape_right h)
 have hp0 : 0 < p.length → 1 ≤ Safe.prod (p.getD 0 []) ∧ Safe.prod (p.getD 0 []) ≤ 65536 := fun hl => by
  have e0 : p.getD 0 [] = p[0] := by simp [List.getD_eq_getElem?_getD, hl]
  rw [e0]; exact prod_right_ (hpr _ (List.getElem_mem hl))
 unfold costV
 split
 ·rename_i e; have := hp0 (h8 e); omega
 ·split
  ·rename_i e
   obtain ⟨a1, a2, a3, a4⟩ := h10 e
   have := hp0 a1
   have q1 : 0 ≤ (Safe.prod (p.getD 0 [])).tdiv ((p.getD 0 []).getD 0 0) := Int.tdiv_nonneg (by omega) (by omega)
   have q2 : (Safe.prod (p.getD 0 [])).tdiv ((p.getD 0 []).getD 0 0) ≤ Safe.prod (p.getD 0 []) := Int.tdiv_le_self _ (by omega)
   exact (mul2 (by omega) hs.2 q1 (by omega)).2
  ·split
   ·rename_i e
    have := h11 e
    exact (mul2 (by omega) hs.2 (by omega) (by omega)).2
   ·omega
end Od
end Go.Proofs.YtbnnpkcfifejmaaGreat
namespace Go.Proofs.YtbnnpkcfifejmaaGreat
open Go.RowKit
def NodeD.ok (v : NodeD) : Prop := v.op.wide ∧ v.op.s.length ≤ 1048576 ∧ v.ins.length ≤ 1048576 ∧ v.p.length ≤ 1048576 ∧ (∀ s ∈ v.p, s.length ≤ 1048576) ∧ ∀ z ∈ v.ins, -9223372036854775808 ≤ z ∧ z ≤ 9223372036854775807
def NetD.ok (n : NetD) : Prop := n.inn.length ≤ 1048576 ∧ n.nodes.length ≤ 1048576 ∧ ∀ v ∈ n.nodes, v.ok
def NodeAt (w : World) (b o : Nat) (v : NodeD) (S : Option Addr) (c : Nat) (I : Option Addr) (d : Nat) (Q : Option Addr) (q : Nat) : Prop :=
  (w.cell? ⟨b, o, none⟩ = some (.int .i64 v.op.kind) ∧ w.cell? ⟨b, o + 1, none⟩ = some (.int .i64 v.op.k) ∧ w.cell? ⟨b, o + 2, none⟩ = some (.int .i64 v.op.width) ∧
  w.cell? ⟨b, o + 3, none⟩ = some (.int .i64 v.op.step) ∧ w.cell? ⟨b, o + 4, none⟩ = some (.int .i64 v.op.side) ∧ w.cell? ⟨b, o + 5, none⟩ = some (.int .i64 v.op.frm) ∧
  w.cell? ⟨b, o + 6, none⟩ = some (.int .i64 v.op.to) ∧ w.cell? ⟨b, o + 7, none⟩ = some (.slice S v.op.s.length c) ∧
  w.cell? ⟨b, o + 8, none⟩ = some (.slice I v.ins.length d) ∧ w.cell? ⟨b, o + 9, none⟩ = some (.slice Q v.p.length q)) ∧
  Ints .i64 w S v.op.s ∧ Ints .i64 w I v.ins ∧ Shps w Q v.p
theorem NodeAt.below {w w' : World} {b o : Nat} {v : NodeD} {S : Option Addr} {c : Nat} {I : Option Addr} {d : Nat} {Q : Option Addr} {q : Nat} (h : NodeAt w b o v S c I d Q q) (hb : Below w.heap.size w w') : NodeAt w' b o v S c I d Q q := by
 obtain ⟨⟨y0, y1, y2, y3, y4, y5, y6, y7, y8, y9⟩, h1, h2, h3⟩ := h
 exact ⟨⟨cell_below hb y0, cell_below hb y1, cell_below hb y2, cell_below hb y3, cell_below hb y4, cell_below hb y5, cell_below hb y6, cell_below hb y7, cell_below hb y8, cell_below hb y9⟩, h1.below hb (Nat.le_refl _), h2.below hb (Nat.le_refl _), h3.below hb (Nat.le_refl _)⟩
theorem Nodes.at_ {w : World} {A : Option Addr} {ns : List NodeD} (h : Nodes w A ns) {j : Nat} (hj : j < ns.length) :
  ∃ b off S c I d Q q, A = some ⟨b, off, none⟩ ∧ NodeAt w b (off + j * 10) ns[j] S c I d Q q ∧ (ns[j].op.s.length ≤ c ∧ c ≤ 9223372036854775807) ∧ (ns[j].ins.length ≤ d ∧ d ≤ 9223372036854775807) ∧ (ns[j].p.length ≤ q ∧ q ≤ 9223372036854775807) := by
 obtain ⟨b, off, S, c, I, d, Q, q, e, _, y0, y1, y2, y3, y4, y5, y6, y7, y8, y9, ⟨h1, h1'⟩, ⟨h2, h2'⟩, h3, h3'⟩ := h j hj
 exact ⟨b, off, S, c, I, d, Q, q, e, ⟨⟨y0, y1, y2, y3, y4, y5, y6, y7, y8, y9⟩, h1, h2, h3⟩, h1', h2', h3'⟩
namespace Nt
def usedMid (ns : List NodeD) (n k : Nat) (l : List Int) : List Bool := (nums n).map fun id => isUsed (ns.take k) id || l.contains id
theorem usedMid_len (ns : List NodeD) (n k : Nat) (l : List Int) : (usedMid ns n k l).length = n + 1 := by simp [usedMid, nums]
theorem usedMid_zero (ns : List NodeD) (n : Nat) : usedMid ns n 0 [] = List.replicate (n + 1) false := by
 unfold usedMid
 rw [List.eq_replicate_iff]
 refine ⟨by simp [nums], fun b hb => ?_⟩
 obtain ⟨x, _, rfl⟩ := List.mem_map.1 hb
 simp [isUsed]
theorem usedMid_next (ns : List NodeD) (n : Nat) {k : Nat} (hk : k < ns.length) : usedMid ns n k ns[k].ins = usedMid ns n (k + 1) [] := by
 unfold usedMid
 apply List.map_congr_left
 intro id _
 rw [List.take_succ_eq_append_getElem hk]
 simp only [isUsed, List.any_append, List.any_cons, List.any_nil, List.contains_nil, Bool.or_false]
theorem usedMid_in (ns : List NodeD) (n k : Nat) (l : List Int) {id : Int} (h0 : 0 ≤ id) (h1 : id ≤ n) : usedMid ns n k (l ++ [id]) = (usedMid ns n k l).set id.toNat true := by
 apply List.ext_getElem?
 intro j
 rw [List.getElem?_set]
 unfold usedMid nums
 simp only [List.map_map, List.getElem?_map, List.length_map, List.length_range]
 by_cases hj : j < n + 1
 ·rw [List.getElem?_range hj]
  by_cases e : id.toNat = j
  ·subst e
   have : ((id.toNat : Nat) : Int) = id := by omega
   simp [hj, this]
  ·have e2 : (j : Int) ≠ id := by omega
   simp [e, e2]
 ·rw [List.getElem?_eq_none (by simp; omega)]
  simp
  intro q; omega
theorem usedMid_all (ns : List NodeD) : usedMid ns ns.length ns.length [] = (nums ns.length).map (isUsed ns) := by
 unfold usedMid
 apply List.map_congr_left
 intro id _
 simp
def unusedTo (ns : List NodeD) (k : Nat) : List Int := ((List.range k).map fun i : Nat => (i : Int)).filter fun id => !isUsed ns id
theorem unusedTo_succ (ns : List NodeD) (k : Nat) : unusedTo ns (k + 1) = if isUsed ns k then unusedTo ns k else unusedTo ns k ++ [(k : Int)] := by
 unfold unusedTo
 rw [List.range_succ, List.map_append, List.filter_append]
 cases h : isUsed ns k <;> simp [h]
theorem unusedTo_all (ns : List NodeD) : unusedTo ns (ns.length + 1) = unused ns := rfl
theorem unusedTo_len (ns : List NodeD) (k : Nat) : (unusedTo ns k).length ≤ k := by
 unfold unusedTo
 exact Nat.le_trans (List.length_filter_le _ _) (by simp)
end Nt
theorem bool_info : (Tryz.prog.info? 4).map (fun i => (i.zero, i.size, i.bytes)) = some (some (.bool false), 1, 1) := by kernel_rfl
theorem made_one (v : Value) (n : Nat) : (madeCells #[v] n).toList = List.replicate n v := by
 rw [List.eq_replicate_iff]
 refine ⟨by simp [madeCells], fun b hb => ?_⟩
 simp [madeCells] at hb
 obtain ⟨x, _, rfl⟩ := hb
 simp [Nat.mod_one]
set_option maxRecDepth 20000 in
set_option maxHeartbeats 8000000 in
theorem net_unused (A N : Option Addr) (c d : Nat) (n : NetD) (w : World) (hok : n.ok) (hR : NetR w A N n) (hd : n.nodes.length ≤ d) (hins : ∀ v ∈ n.nodes, ∀ i ∈ v.ins, 0 ≤ i ∧ i ≤ n.nodes.length) :
  Calls Tryz.prog 152 #[.agg #[.slice A n.inn.length c, .slice N n.nodes.length d]] w fun e w' => e = .returned (.tuple #[.int .i64 (Nt.loss n.nodes), .bool (Nt.lossOk n.nodes)]) ∧ Below w.heap.size w w' := by
 obtain ⟨i0, hi, hz0, hz1, hz2⟩ := info_parts bool_info
 have hnl := hok.2.1
 have hokn := hok.2.2
 have HR := Lib.hid hR
 have Hins := Lib.hid hins
 have Hokn := Lib.hid hokn
 clear hR hins hokn
 clear hok
 have e1 : IntKind.i64.wrap ((n.nodes.length : Int) + 1) = ((n.nodes.length + 1 : Nat) : Int) := by rw [IntWalk.i64_in _ (by omega)]; omega
 go_enter Tryz.func152, Tryz.ntmps152
 go_wp2_with (at_make; refine wpList_make_full _ rfl _ _ 227 rfl w.heap.size 4 i0 (.bool false) 1 Tryz.underlying227 hi hz0 hz1 _ _ _ _ (n.nodes.length + 1) rfl rfl (by first | rfl | simp | (go_simp; rfl)) (by first | rfl | simp | (go_simp; rfl)) ?b2 ?b3 ?b4 ?_)
 case b2 => rw [hz2]; omega
 case b3 => unfold maxLen; omega
 case b4 => simp
 intro w1 hown hgrow
 have hblk := own_cur hown
 rw [made_one] at hblk
 have hk1 : Blk w1 (w.heap.size + 1) 4 ((Nt.usedMid n.nodes n.nodes.length 0 []).map Value.bool).toArray := by
  rw [Nt.usedMid_zero, List.map_replicate]
  simpa [Blk] using hblk
 have hb1 : Below w.heap.size w w1 := ((Below.refl _ w).alloc (Nat.le_refl _) _).grown hgrow (by simp) (by simp)
 have hx1 : w1.cell? ⟨w.heap.size, 1, none⟩ = some (.slice N n.nodes.length d) := hgrow.cell (by simp) (by simp)
 have HK := Lib.hid hk1
 clear hblk hk1 hown hgrow
 go_wp2_with fail
 go_loopw [21] (fun i wr => ∃ k : Nat, k ≤ n.nodes.length ∧ i = .int .i64 k ∧ Blk wr (w.heap.size + 1) 4 ((Nt.usedMid n.nodes n.nodes.length k []).map Value.bool).toArray ∧ Below w.heap.size w wr) (fun i _ => n.nodes.length - (intOf i).toNat)
 case atStart => exact ⟨0, Nat.zero_le _, rfl, HK.out, hb1⟩
 case round =>
  obtain ⟨k, hk, rfl, hblk, hbw⟩ := hrel
  have Hblk := Lib.hid hblk
  clear hblk
  clear HK hb1 hx1
  by_cases hlt : k < n.nodes.length
  ·obtain ⟨b, off, S, sc, I, ic, Q, qc, rfl, hNA, -, hI, -⟩ := HR.out.2.at_ hlt
   have hnok := Hokn.out _ (List.getElem_mem hlt)
   have hin := Hins.out _ (List.getElem_mem hlt)
   have HN := Lib.hid (Nt.usedMid_next n.nodes n.nodes.length hlt)
   have hil := hnok.2.2.1
   generalize n.nodes[k] = v at *
   obtain ⟨⟨y0, y1, y2, y3, y4, y5, y6, y7, y8, y9⟩, -⟩ := hNA.below hbw
   have HNA := Lib.hid hNA
   have Hnok := Lib.hid hnok
   have Hin := Lib.hid hin
   clear hNA hnok hin
   have hb2 := hbw.alloc hbw.size (.cells #[.int .i64 v.op.kind, .int .i64 v.op.k, .int .i64 v.op.width, .int .i64 v.op.step, .int .i64 v.op.side, .int .i64 v.op.frm, .int .i64 v.op.to, .slice S v.op.s.length sc, .slice I v.ins.length ic, .slice Q v.p.length qc] 127)
   have HB2 := Lib.hid (Hblk.out.alloc (.cells #[.int .i64 v.op.kind, .int .i64 v.op.k, .int .i64 v.op.width, .int .i64 v.op.step, .int .i64 v.op.side, .int .i64 v.op.frm, .int .i64 v.op.to, .slice S v.op.s.length sc, .slice I v.ins.length ic, .slice Q v.p.length qc] 127))
   go_wp2_with fail
   clear y0 y1 y2 y3 y4 y5 y6 y7 y8 y9
   go_loopw [28] (fun i wx => ∃ m : Nat, m ≤ v.ins.length ∧ i = .int .i64 m ∧ Blk wx (w.heap.size + 1) 4 ((Nt.usedMid n.nodes n.nodes.length k (v.ins.take m)).map Value.bool).toArray ∧ Below w.heap.size w wx) (fun i _ => v.ins.length - (intOf i).toNat)
   case atStart => exact ⟨0, Nat.zero_le _, rfl, by rw [List.take_zero]; exact HB2.out, hb2⟩
   case round =>
    obtain ⟨m, hm, rfl, hblx, hbx⟩ := hrel
    clear HB2 hb2 Hblk hbw
    by_cases hlm : m < v.ins.length
    ·have hI2 := (HNA.out.below hbx).2.2.1
     obtain ⟨b1, off1, rfl, -, hc⟩ := hI2 m hlm
     rw [getD_at hlm] at hc
     have hr := Hin.out _ (List.getElem_mem hlm)
     obtain ⟨u, hu⟩ : ∃ u : Nat, v.ins[m] = u := ⟨v.ins[m].toNat, by omega⟩
     have HM := Lib.hid (show Nt.usedMid n.nodes n.nodes.length k (v.ins.take (m + 1)) = (Nt.usedMid n.nodes n.nodes.length k (v.ins.take m)).set u true by rw [List.take_succ_eq_append_getElem hlm, Nt.usedMid_in _ _ _ _ hr.1 hr.2, hu]; rfl)
     rw [hu] at hc hr
     have hul : u < n.nodes.length + 1 := by omega
     have hcg := hblx.cell u
     have hfg := hblx.frozen u
     have hcg2 : wr.cell? ⟨w.heap.size + 1, u, none⟩ = some (.bool ((Nt.usedMid n.nodes n.nodes.length k (v.ins.take m)).getD u false)) := by
      rw [hcg]
      have := Nt.usedMid_len n.nodes n.nodes.length k (v.ins.take m)
      rw [List.getD_eq_getElem?_getD, List.getElem?_eq_getElem (by omega)]
      simp [this, hul]
     have hbs := hblx.set_ u (.bool true)
     have HBS := Lib.hid (show Blk (wr.setCell ⟨w.heap.size + 1, u, none⟩ (.bool true)) (w.heap.size + 1) 4 (((Nt.usedMid n.nodes n.nodes.length k (v.ins.take m)).set u true).map Value.bool).toArray by simpa [List.map_set] using hbs)
     have hbx2 := hbx.setCell (p := ⟨w.heap.size + 1, u, none⟩) (by simp) (.bool true)
     clear hcg hbs hI2 hblx hu
     have u0 : (0 : Int) ≤ u := by omega
     have u1 : (u : Int) < ((n.nodes.length + 1 : Nat) : Int) := by omega
     go_wp2_with fail
     go_roundw
     case rel => exact ⟨m + 1, by omega, by go_num, by rw [HM.out]; exact HBS.out, hbx2⟩
     case measure => simp [intOf]; omega
    ·obtain rfl : m = v.ins.length := by omega
     rw [List.take_length] at hblx
     have Hblx := Lib.hid hblx
     clear hblx
     go_wp2_with fail
     go_roundw
     case rel => exact ⟨k + 1, by omega, by go_num, by rw [← HN.out]; exact Hblx.out, hbx⟩
     case measure => simp [intOf]; omega
  ·obtain rfl : k = n.nodes.length := by omega
   have hU := Nt.usedMid_all n.nodes
   have hBU := Hblk.out
   rw [hU] at hBU
   have HBU := Lib.hid hBU
   have HU := Lib.hid hU
   clear hBU hU
   clear Hblk
   go_wp2_with fail
   go_loopw [9, 10, 39] (fun l c i wx => wx = wr ∧ ∃ k : Nat, k ≤ n.nodes.length + 1 ∧ i = .int .i64 k ∧ l = .int .i64 ((Nt.unusedTo n.nodes k).getLastD 0) ∧ c = .int .i64 ((Nt.unusedTo n.nodes k).length : Nat)) (fun _ _ i _ => n.nodes.length + 1 - (intOf i).toNat)
   case atStart => exact ⟨rfl, 0, Nat.zero_le _, rfl, rfl, rfl⟩
   case round =>
    obtain ⟨rfl, k, hk, rfl, rfl, rfl⟩ := hrel
    have hul := Nt.unusedTo_len n.nodes k
    by_cases hlt : k < n.nodes.length + 1
    ·have hcf : ∀ b, Nt.isUsed n.nodes k = b → wr.cell? ⟨w.heap.size + 1, k, none⟩ = some (.bool b) := fun b hb => by
      rw [← hb, HBU.out.cell]
      simp [Nt.nums, hlt]
     have hs := Nt.unusedTo_succ n.nodes k
     have k1 : (k : Int) < ((n.nodes.length + 1 : Nat) : Int) := by omega
     have HS := Lib.hid hs
     clear hs
     obtain ⟨L0, hL0⟩ : ∃ L0, (Nt.unusedTo n.nodes k).getLastD 0 = L0 := ⟨_, rfl⟩
     obtain ⟨c0, hc0⟩ : ∃ c0, (Nt.unusedTo n.nodes k).length = c0 := ⟨_, rfl⟩
     rw [hc0] at hul
     rw [hL0, hc0]
     have HL0 := Lib.hid hL0
     have Hc0 := Lib.hid hc0
     clear hL0 hc0
     cases hu : Nt.isUsed n.nodes k
     ·have hc := hcf _ hu
      have HU := Lib.hid hu
      clear hu hcf
      go_wp2_with fail
      go_roundw
      case rel => exact ⟨trivial, k + 1, by omega, by go_num, by rw [HS.out, HU.out]; simp, by rw [HS.out, HU.out, if_neg (by simp), List.length_append, Hc0.out]; go_num⟩
      case measure => simp [intOf]; omega
     ·have hc := hcf _ hu
      have HU := Lib.hid hu
      clear hu hcf
      go_wp2_with fail
      go_roundw
      case rel => exact ⟨trivial, k + 1, by omega, by go_num, by rw [HS.out, HU.out, if_pos rfl, HL0.out], by rw [HS.out, HU.out, if_pos rfl, Hc0.out]⟩
      case measure => simp [intOf]; omega
    ·obtain rfl : k = n.nodes.length + 1 := by omega
     rw [Nt.unusedTo_all] at *
     have hl : (Nt.unused n.nodes).getLastD 0 = Nt.loss n.nodes := rfl
     rw [hl]
     have hlo : Nt.lossOk n.nodes = decide ((Nt.unused n.nodes).length = 1 ∧ Nt.loss n.nodes ≠ 0) := rfl
     obtain ⟨L, hL⟩ : ∃ L, Nt.loss n.nodes = L := ⟨_, rfl⟩
     obtain ⟨c', hc'⟩ : ∃ c', (Nt.unused n.nodes).length = c' := ⟨_, rfl⟩
     rw [hL, hc'] at hlo
     rw [hc'] at hul
     rw [hL, hc']
     have HLs := Lib.hid hL
     clear hL hl hc'
     by_cases h1 : c' = 1
     ·subst h1
      have k1 : ¬ (((n.nodes.length + 1 : Nat) : Int) < ((n.nodes.length + 1 : Nat) : Int)) := by omega
      have HL := Lib.hid hlo
      clear hlo
      go_wp2_with fail
      go_ret2
      exact ⟨by rw [HL.out, HLs.out]; by_cases h : L = 0 <;> simp [h], hbw⟩
     ·have c1 : ((c' : Int) == 1) = false := by simp; omega
      have HL := Lib.hid (show Nt.lossOk n.nodes = false by rw [hlo]; simp [h1])
      clear hlo h1
      go_wp2_with fail
      go_ret2
      exact ⟨by rw [HL.out, HLs.out]; rfl, hbw⟩
end Go.Proofs.YtbnnpkcfifejmaaGreat
namespace Go.Proofs.YtbnnpkcfifejmaaGreat
open Go.RowKit
theorem Sh.size_right {s : List Int} (h : Sh.right s = true) : Sh.size s = (Safe.prod s, 0) := by simp [Sh.size, h]
theorem Sh.prod_bd {s : List Int} (h : Sh.right s = true) : 1 ≤ Safe.prod s ∧ Safe.prod s ≤ 65536 := Od.prod_right_ h
theorem ints_two {w : World} {t : TypeId} (a b : Int) : Ints .i64 (w.alloc (.cells #[.int .i64 a, .int .i64 b] t)) (some ⟨w.heap.size, 0, none⟩) [a, b] := Ints.of_row fun j hj => by
 have hk := Blk.new w t #[.int .i64 a, .int .i64 b]
 have hj2 : j = 0 ∨ j = 1 := by simp at hj; omega
 rcases hj2 with rfl | rfl <;> (rw [hk.cell]; rfl)
set_option maxRecDepth 20000 in
set_option maxHeartbeats 8000000 in
theorem op_cost (o : OpD) (S P X : Option Addr) (c d f : Nat) (p x : List (List Int)) (w : World) (ho : o.s.length ≤ 17592186043904) (hI : Ints .i64 w S o.s) (hP : ShpIn w P d p) (hX : ShpIn w X f x) :
  Calls Tryz.prog 40 #[.agg #[.int .i64 o.kind, .int .i64 o.k, .int .i64 o.width, .int .i64 o.step, .int .i64 o.side, .int .i64 o.frm, .int .i64 o.to, .slice S o.s.length c], .slice P p.length d, .slice X x.length f] w fun e w' => e = .returned (.tuple #[.int .i64 (Od.cost o p x).1, .int .i64 (Od.cost o p x).2]) ∧ Below w.heap.size w w' := by
 have hk0 := Blk.new w 26 #[.int .i64 o.kind, .int .i64 o.k, .int .i64 o.width, .int .i64 o.step, .int .i64 o.side, .int .i64 o.frm, .int .i64 o.to, .slice S o.s.length c]
 have hl0 : Later w (w.alloc (.cells #[.int .i64 o.kind, .int .i64 o.k, .int .i64 o.width, .int .i64 o.step, .int .i64 o.side, .int .i64 o.frm, .int .i64 o.to, .slice S o.s.length c] 26)) := (Later.refl w).alloc _
 have HI := Lib.hid hI
 have HP := Lib.hid hP
 have HX := Lib.hid hX
 have Hk0 := Lib.hid hk0
 have Hl0 := Lib.hid hl0
 clear hI hP hX hk0 hl0
 go_enter Tryz.func40, Tryz.ntmps40
 go_wp2_with fail
 generalize w.alloc (.cells #[.int .i64 o.kind, .int .i64 o.k, .int .i64 o.width, .int .i64 o.step, .int .i64 o.side, .int .i64 o.frm, .int .i64 o.to, .slice S o.s.length c] 26) = w1 at *
 refine (op_shape o S P X c d f p x w1 ho (HI.out.below Hl0.out (Nat.le_refl _)) (HP.out.below Hl0.out (Nat.le_refl _)) (HX.out.below Hl0.out (Nat.le_refl _))).mono ?_
 rintro e w2 ⟨S2, d2, rfl, hI2, h21, h22, -, hb2⟩
 have hl2 := Hl0.out.call hb2
 have hk2 := (show Later w1 w2 from hb2).blk Hk0.out
 have hgood := fun h => @Od.cost_parts o p x h
 have hshr := fun h => @Od.shape_right o p x h
 have hpr := fun h => (@Od.shape_good o p x h).2.2.2.1
 have hcv : Od.cost o p x = if (Od.shape o p x).2 = 0 then (Od.costV o p (Od.shape o p x).1, 0) else (0, (Od.shape o p x).2) := rfl
 clear hb2
 generalize Od.shape o p x = r at *
 by_cases hr : r.2 = 0
 ·have hr2 := hshr hr
  obtain ⟨g8, g10, g11⟩ := hgood hr
  have hpr2 := hpr hr
  rw [if_pos hr] at hcv
  have hs := Sh.prod_bd hr2
  have hsz := Sh.size_right hr2
  have hlen := (Sh.right_mul hr2).2.1
  clear hgood hshr hpr
  have HI2 := Lib.hid hI2
  have Hl2 := Lib.hid hl2
  have Hk2 := Lib.hid hk2
  have Hr2 := Lib.hid hr2
  have Hg8 := Lib.hid g8
  have Hg10 := Lib.hid g10
  have Hg11 := Lib.hid g11
  have Hpr2 := Lib.hid hpr2
  have Hcv := Lib.hid hcv
  have Hsz := Lib.hid hsz
  clear hI2 hl2 hk2 hr2 g8 g10 g11 hpr2 hcv hsz
  have q0 : (r.2 != 0) = false := by simp [hr]
  clear hr
  go_wp2_with fail
  refine (shape_size S2 d2 r.1 _ (by omega) HI2.out).mono ?_
  rintro e w3 ⟨rfl, hb3⟩
  rw [Hsz.out]
  have hl3 := Hl2.out.call hb3
  have hk3 := (show Later w2 w3 from hb3).blk Hk2.out
  obtain ⟨y0, -, y2, -, -, -, -, -⟩ := op_cells hk3
  have hP3 := HP.out.below hl3 (Nat.le_refl _)
  clear hb3
  by_cases k8 : o.kind = 8
  ·have hv : Od.costV o p r.1 = Safe.prod (p.getD 0 []) := by unfold Od.costV; rw [if_pos k8]
   have hl := Hg8.out k8
   obtain ⟨b, off, S5, d5, rfl, y5, hI5, -, -, l5⟩ := hP3.at_ hl
   have e0 : p.getD 0 [] = p[0] := by simp [List.getD_eq_getElem?_getD, hl]
   have hsz5 := Sh.size_right (Hpr2.out p[0] (List.getElem_mem hl))
   rw [e0] at hv
   rw [hv] at Hcv
   rw [Nat.add_zero] at y5
   rw [k8] at y0
   generalize p[0] = t at *
   have Hl3 := Lib.hid hl3
   have Hk3 := Lib.hid hk3
   have HP3 := Lib.hid hP3
   have HI5 := Lib.hid hI5
   have Hsz5 := Lib.hid hsz5
   have Hv := Lib.hid hv
   clear hl3 hk3 hP3 hI5 hsz5 hv
   go_wp2_with fail
   refine (shape_size S5 d5 t _ (by omega) HI5.out).mono ?_
   rintro e w4 ⟨rfl, hb4⟩
   rw [Hsz5.out]
   have hl4 := Hl3.out.call hb4
   have Hl4 := Lib.hid hl4
   clear hl4
   go_wp2_with fail
   go_ret2
   exact ⟨by (rw [Hcv.out] <;> rfl), Hl4.out⟩
  ·by_cases k10 : o.kind = 10
   ·obtain ⟨hl, hl2, hm1, hm2⟩ := Hg10.out k10
    obtain ⟨b, off, S5, d5, rfl, y5, hI5, -, -, l5⟩ := hP3.at_ hl
    have e0 : p.getD 0 [] = p[0] := by simp [List.getD_eq_getElem?_getD, hl]
    have hr5 := Hpr2.out p[0] (List.getElem_mem hl)
    have hsz5 := Sh.size_right hr5
    have hbd5 := Sh.prod_bd hr5
    have hv : Od.costV o p r.1 = Safe.prod r.1 * (Safe.prod (p.getD 0 [])).tdiv ((p.getD 0 []).getD 0 0) := by unfold Od.costV; rw [if_neg k8, if_pos k10]
    rw [e0] at hv hl2 hm1 hm2
    rw [hv] at Hcv
    rw [Nat.add_zero] at y5
    rw [k10] at y0
    generalize p[0] = t at *
    have hq1 : 0 ≤ (Safe.prod t).tdiv (t.getD 0 0) := Int.tdiv_nonneg (by omega) (by omega)
    have hq2 : (Safe.prod t).tdiv (t.getD 0 0) ≤ Safe.prod t := Int.tdiv_le_self _ (by omega)
    have hq3 : (Safe.prod t).tdiv (t.getD 0 0) = Safe.prod t / t.getD 0 0 := Int.tdiv_eq_ediv_of_nonneg (by omega)
    have hmul := Od.mul2 (a := Safe.prod r.1) (b := (Safe.prod t).tdiv (t.getD 0 0)) (by omega) (by omega) hq1 (by omega)
    rw [hq3] at hq1 hq2 hmul hv
    have Hl3 := Lib.hid hl3
    have Hk3 := Lib.hid hk3
    have HP3 := Lib.hid hP3
    have HI5 := Lib.hid hI5
    have Hsz5 := Lib.hid hsz5
    have Hv := Lib.hid hv
    have Hmul := Lib.hid hmul
    have Hq3 := Lib.hid hq3
    clear hl3 hk3 hP3 hI5 hsz5 hv hmul hq3
    go_wp2_with fail
    refine (shape_size S5 d5 t _ (by omega) HI5.out).mono ?_
    rintro e w4 ⟨rfl, hb4⟩
    rw [Hsz5.out]
    have hl4 := Hl3.out.call hb4
    have y54 := (show Later w3 w4 from hb4).cell y5
    obtain ⟨b6, o6, rfl, -, y6⟩ := (HI5.out.below hb4 (Nat.le_refl _)) 0 hl2
    rw [Nat.add_zero] at y6
    clear y5 y0 y2 hb4
    generalize t.getD 0 0 = t0 at *
    generalize Safe.prod t = pt at *
    generalize Safe.prod r.1 = pr at *
    have Hl4 := Lib.hid hl4
    clear hl4
    have hl20 : (0 : Int) < (t.length : Int) := by omega
    go_wp2_with fail
    refine (safe_mul (some ⟨w4.heap.size, 0, none⟩) 2 [pr, pt / t0] _ (by simp) (ints_two _ _)).mono ?_
    rintro e w5 ⟨rfl, hb5⟩
    rw [Hmul.out.1]
    have hl5 := (Hl4.out.alloc (.cells #[.int .i64 pr, .int .i64 (pt / t0)] 3)).call hb5
    have Hl5 := Lib.hid hl5
    clear hl5
    go_wp2_with fail
    go_ret2
    exact ⟨by (rw [Hcv.out, Hq3.out] <;> rfl), Hl5.out⟩
   ·have n8 : (o.kind == 8) = false := by simpa using k8
    have n10 : (o.kind == 10) = false := by simpa using k10
    by_cases k11 : o.kind = 11 ∨ o.kind = 12
    ·obtain ⟨hm1, hm2⟩ := Hg11.out k11
     have hv : Od.costV o p r.1 = Safe.prod r.1 * o.width := by unfold Od.costV; rw [if_neg k8, if_neg k10, if_pos k11]
     rw [hv] at Hcv
     have hmul := Od.mul2 (a := Safe.prod r.1) (b := o.width) (by omega) (by omega) (by omega) (by omega)
     generalize Safe.prod r.1 = pr at *
     have Hl3 := Lib.hid hl3
     have Hk3 := Lib.hid hk3
     have HP3 := Lib.hid hP3
     have Hv := Lib.hid hv
     have Hmul := Lib.hid hmul
     clear hl3 hk3 hP3 hv hmul
     clear k8 k10
     rcases k11 with k11 | k11
     all_goals
      rw [k11] at y0 n8 n10
      go_wp2_with fail
      refine (safe_mul (some ⟨w3.heap.size, 0, none⟩) 2 [pr, o.width] _ (by simp) (ints_two _ _)).mono ?_
      rintro e w5 ⟨rfl, hb5⟩
      rw [Hmul.out.1]
      have hl5 := (Hl3.out.alloc (.cells #[.int .i64 pr, .int .i64 o.width] 3)).call hb5
      have Hl5 := Lib.hid hl5
      clear hl5
      go_wp2_with fail
      go_ret2
      exact ⟨by (rw [Hcv.out] <;> rfl), Hl5.out⟩
    ·have hv : Od.costV o p r.1 = Safe.prod r.1 := by unfold Od.costV; rw [if_neg k8, if_neg k10, if_neg k11]
     rw [hv] at Hcv
     have n11 : (o.kind == 11) = false := by simp; omega
     have n12 : (o.kind == 12) = false := by simp; omega
     have Hl3 := Lib.hid hl3
     have Hk3 := Lib.hid hk3
     have HP3 := Lib.hid hP3
     have Hv := Lib.hid hv
     clear hl3 hk3 hP3 hv
     clear k8 k10 k11
     go_wp2_with fail
     go_ret2
     exact ⟨by (rw [Hcv.out] <;> rfl), Hl3.out⟩
 ·have q0 : (r.2 != 0) = true := by simp [hr]
  rw [if_neg hr] at hcv
  have HI2 := Lib.hid hI2
  have Hl2 := Lib.hid hl2
  have Hk2 := Lib.hid hk2
  have Hcv := Lib.hid hcv
  clear hI2 hl2 hk2 hcv
  clear hgood hshr hpr hr
  go_wp2_with fail
  go_ret2
  exact ⟨by (rw [Hcv.out] <;> rfl), Hl2.out⟩
end Go.Proofs.YtbnnpkcfifejmaaGreat
namespace Go.Proofs.YtbnnpkcfifejmaaGreat
open Go.RowKit
theorem counts_one {o : OpD} (hr : Od.right o = true) (hk : o.kind = 1) : Od.counts o 0 1 = 0 := by
 simp [Od.counts, hr, Od.least, Od.most, Od.params, hk, Od.ptIns]
set_option maxHeartbeats 8000000 in
set_option maxRecDepth 20000 in
theorem op_go_relu (o : OpD) (S0 : Option Addr) (c0 : Nat) (b c d : Nat) (S C : Option Addr) (f : Nat) (t : Ten) (w : World) (ho : o.s.length ≤ 17592186043904) (hI : Ints .i64 w S0 o.s) (hro : Od.right o = true) (hk : o.kind = 1) (hr : Tn.right t = true) (hb : Blk w b 30 #[.slice S t.s.length c, .slice C t.c.length d]) (hT : TenR w S C t) :
  Calls Tryz.prog 42 #[.agg #[.int .i64 o.kind, .int .i64 o.k, .int .i64 o.width, .int .i64 o.step, .int .i64 o.side, .int .i64 o.frm, .int .i64 o.to, .slice S0 o.s.length c0], .slice none 0 0, .slice (some ⟨b, 0, none⟩) 1 f] w (ReluP t w) := by
 obtain ⟨l1, l2, l3⟩ := Tn.right_len hr
 have h01 : Later w ((w.alloc (.cells #[.int .i64 o.kind, .int .i64 o.k, .int .i64 o.width, .int .i64 o.step, .int .i64 o.side, .int .i64 o.frm, .int .i64 o.to, .slice S0 o.s.length c0] 26)).alloc (.cells #[.slice none 0 0, .slice none 0 0] 30)) := ((Later.refl w).alloc _).alloc _
 have hkb := (Blk.new w 26 #[.int .i64 o.kind, .int .i64 o.k, .int .i64 o.width, .int .i64 o.step, .int .i64 o.side, .int .i64 o.frm, .int .i64 o.to, .slice S0 o.s.length c0]).alloc (.cells #[.slice none 0 0, .slice none 0 0] 30)
 have hz := Blk.new (w.alloc (.cells #[.int .i64 o.kind, .int .i64 o.k, .int .i64 o.width, .int .i64 o.step, .int .i64 o.side, .int .i64 o.frm, .int .i64 o.to, .slice S0 o.s.length c0] 26)) 30 #[.slice none 0 0, .slice none 0 0]
 rw [World.size_alloc] at hz
 have hcn := counts_one hro hk
 have Hr := Lib.hid hr
 have Hb := Lib.hid hb
 have HT := Lib.hid hT
 have H01 := Lib.hid h01
 have Hz := Lib.hid hz
 have Hkb := Lib.hid hkb
 have HI := Lib.hid hI
 have Hro := Lib.hid hro
 have Hk := Lib.hid hk
 have Hcn := Lib.hid hcn
 clear hr hb hT h01 hz hkb hI hro hk hcn
 go_enter Tryz.func42, Tryz.ntmps42
 go_wp2_with fail
 generalize (w.alloc (.cells #[.int .i64 o.kind, .int .i64 o.k, .int .i64 o.width, .int .i64 o.step, .int .i64 o.side, .int .i64 o.frm, .int .i64 o.to, .slice S0 o.s.length c0] 26)).alloc (.cells #[.slice none 0 0, .slice none 0 0] 30) = w1 at *
 refine (op_counts o S0 c0 0 1 w1 ho (HI.out.below H01.out (Nat.le_refl _))).mono ?_
 rintro e w2 ⟨rfl, hb2⟩
 rw [Hcn.out]
 have h12 : Later w1 w2 := hb2
 obtain ⟨x0, x1, x2, x3, x4, x5, x6, x7⟩ := op_cells (h12.blk Hkb.out)
 rw [Hk.out] at x0
 have h02 := H01.out.trans h12
 have hz2 := h12.blk Hz.out
 clear hb2
 have H12 := Lib.hid h12
 have H02 := Lib.hid h02
 have Hz2 := Lib.hid hz2
 clear h12 h02 hz2
 go_wp2_with fail
 refine (point_relu o.k b c d S C f t w2 Hr.out (H02.out.blk Hb.out) ⟨HT.out.1.below H02.out (Nat.le_refl _), HT.out.2.below H02.out (Nat.le_refl _)⟩).mono ?_
 rintro e w3 ⟨v, rfl, ⟨g, h, rfl, hg, hh, hG, hH⟩, hb3⟩
 have h23 : Later w2 w3 := hb3
 have hz3 := h23.blk Hz2.out
 have c0' := hz3.cell 0
 have c1' := hz3.cell 1
 have f0 := hz3.frozen 0
 have f1 := hz3.frozen 1
 simp at c0' c1'
 have hz4 := (hz3.set_ 0 (.slice (some ⟨g, 0, none⟩) t.s.length t.s.length)).set_ 1 (.slice (some ⟨h, 0, none⟩) t.c.length t.c.length)
 have d0 := hz4.cell 0
 have d1 := hz4.cell 1
 simp at d0 d1
 have hs2 := H02.out.size
 have hzl := Hz2.out.lt
 have h03 := H02.out.trans h23
 clear x0 x1 x2 x3 x4 x5 x6 x7 hb3
 have H23 := Lib.hid h23
 have Hz3 := Lib.hid hz3
 have Hz4 := Lib.hid hz4
 have H03 := Lib.hid h03
 have HG := Lib.hid hG
 have HH := Lib.hid hH
 clear h23 hz3 hz4 h03 hG hH
 go_wp2_with fail
 refine bodyPost_ret (v := .tuple #[.agg #[.slice (some ⟨g, 0, none⟩) t.s.length t.s.length, .slice (some ⟨h, 0, none⟩) t.c.length t.c.length], .int .i64 0]) (by simp [results, Tryz.results42, go_sem, d0, d1]) rfl ?_
 have hgz : g ≠ w.heap.size + 1 := by omega
 have hhz : h ≠ w.heap.size + 1 := by omega
 refine ⟨_, rfl, ⟨g, h, by simp, by omega, by omega, ?_, ?_⟩, ?_⟩
 ·exact (HG.out.far (p := ⟨w.heap.size + 1, 0, none⟩) hgz _).far (p := ⟨w.heap.size + 1, 1, none⟩) hgz _
 ·exact (HH.out.far (p := ⟨w.heap.size + 1, 0, none⟩) hhz _).far (p := ⟨w.heap.size + 1, 1, none⟩) hhz _
 ·exact (H03.out.set (p := ⟨w.heap.size + 1, 0, none⟩) (Nat.le_succ _) _).set (p := ⟨w.heap.size + 1, 1, none⟩) (Nat.le_succ _) _
set_option maxHeartbeats 8000000 in
set_option maxRecDepth 20000 in
theorem op_go_bad (o : OpD) (S0 : Option Addr) (c0 : Nat) (P X : Option Addr) (lp cp lx cx : Nat) (w : World) (ho : o.s.length ≤ 17592186043904) (hI : Ints .i64 w S0 o.s) (hro : Od.right o = false) :
  Calls Tryz.prog 42 #[.agg #[.int .i64 o.kind, .int .i64 o.k, .int .i64 o.width, .int .i64 o.step, .int .i64 o.side, .int .i64 o.frm, .int .i64 o.to, .slice S0 o.s.length c0], .slice P lp cp, .slice X lx cx] w fun e w' => e = .returned (.tuple #[.agg #[.slice none 0 0, .slice none 0 0], .int .i64 21]) ∧ Below w.heap.size w w' := by
 have h01 : Later w ((w.alloc (.cells #[.int .i64 o.kind, .int .i64 o.k, .int .i64 o.width, .int .i64 o.step, .int .i64 o.side, .int .i64 o.frm, .int .i64 o.to, .slice S0 o.s.length c0] 26)).alloc (.cells #[.slice none 0 0, .slice none 0 0] 30)) := ((Later.refl w).alloc _).alloc _
 have hz := Blk.new (w.alloc (.cells #[.int .i64 o.kind, .int .i64 o.k, .int .i64 o.width, .int .i64 o.step, .int .i64 o.side, .int .i64 o.frm, .int .i64 o.to, .slice S0 o.s.length c0] 26)) 30 #[.slice none 0 0, .slice none 0 0]
 rw [World.size_alloc] at hz
 have hcn : Od.counts o lp lx = 21 := by simp [Od.counts, hro]
 have H01 := Lib.hid h01
 have Hz := Lib.hid hz
 have HI := Lib.hid hI
 have Hro := Lib.hid hro
 clear h01 hz hI hro
 go_enter Tryz.func42, Tryz.ntmps42
 go_wp2_with fail
 generalize (w.alloc (.cells #[.int .i64 o.kind, .int .i64 o.k, .int .i64 o.width, .int .i64 o.step, .int .i64 o.side, .int .i64 o.frm, .int .i64 o.to, .slice S0 o.s.length c0] 26)).alloc (.cells #[.slice none 0 0, .slice none 0 0] 30) = w1 at *
 refine (op_counts o S0 c0 lp lx w1 ho (HI.out.below H01.out (Nat.le_refl _))).mono ?_
 rintro e w2 ⟨rfl, hb2⟩
 rw [hcn]
 have h02 := H01.out.call hb2
 have hz2 := (show Later w1 w2 from hb2).blk Hz.out
 have c0' := hz2.cell 0
 have c1' := hz2.cell 1
 have f0 := hz2.frozen 0
 have f1 := hz2.frozen 1
 simp at c0' c1'
 have hz4 := (hz2.set_ 0 (.slice none 0 0)).set_ 1 (.slice none 0 0)
 have d0 := hz4.cell 0
 have d1 := hz4.cell 1
 simp at d0 d1
 clear hb2 hcn
 have H02 := Lib.hid h02
 have Hz2 := Lib.hid hz2
 have Hz4 := Lib.hid hz4
 clear h02 hz2 hz4
 go_wp2_with fail
 refine bodyPost_ret (v := .tuple #[.agg #[.slice none 0 0, .slice none 0 0], .int .i64 21]) (by simp [results, Tryz.results42, go_sem, d0, d1]) rfl ?_
 exact ⟨rfl, (H02.out.set (p := ⟨w.heap.size + 1, 0, none⟩) (Nat.le_succ _) _).set (p := ⟨w.heap.size + 1, 1, none⟩) (Nat.le_succ _) _⟩
end Go.Proofs.YtbnnpkcfifejmaaGreat
namespace Go.Proofs.YtbnnpkcfifejmaaGreat
open Go.RowKit
def ao8 : OpD := ⟨8, 0, 0, 0, 0, 0, 0, []⟩
def ao1 : OpD := ⟨1, 0, 0, 0, 0, 0, 0, []⟩
def ao1s : OpD := ⟨1, 0, 0, 0, 1, 0, 0, []⟩
def aot : Ten := ⟨[2], [-1, 2]⟩
theorem ao_shape : Od.shape ao8 [[2, 3], [2]] [[3]] = ([2], 0) := by decide +kernel
theorem ao_cost : Od.cost ao8 [[2, 3], [2]] [[3]] = (6, 0) := by decide +kernel
theorem ao_params : Od.params ao8 = 2 := by decide +kernel
theorem ao_right : Od.right ao1 = true := by decide +kernel
theorem ao_wrong : Od.right ao1s = false := by decide +kernel
theorem ao_ten : Tn.right aot = true := by decide +kernel
theorem Blk.intsO {w : World} {g : Nat} {t : TypeId} (l : List Int) (h : Blk w g t (l.map (Value.int .i64)).toArray) : Ints .i64 w (some ⟨g, 0, none⟩) l := Ints.of_row fun j hj => by
 rw [Nat.zero_add, h.cell]
 simp [hj]
theorem shp_start (w : World) : ShpIn (((((w.alloc (.cells #[.int .i64 2, .int .i64 3] 3)).alloc (.cells #[.int .i64 2] 3)).alloc (.cells #[.slice (some ⟨w.heap.size, 0, none⟩) 2 2, .slice (some ⟨w.heap.size + 1, 0, none⟩) 1 1] 24)).alloc (.cells #[.int .i64 3] 3)).alloc (.cells #[.slice (some ⟨w.heap.size + 1 + 1 + 1, 0, none⟩) 1 1] 24)) (some ⟨w.heap.size + 1 + 1, 0, none⟩) 2 [[2, 3], [2]] ∧ ShpIn (((((w.alloc (.cells #[.int .i64 2, .int .i64 3] 3)).alloc (.cells #[.int .i64 2] 3)).alloc (.cells #[.slice (some ⟨w.heap.size, 0, none⟩) 2 2, .slice (some ⟨w.heap.size + 1, 0, none⟩) 1 1] 24)).alloc (.cells #[.int .i64 3] 3)).alloc (.cells #[.slice (some ⟨w.heap.size + 1 + 1 + 1, 0, none⟩) 1 1] 24)) (some ⟨w.heap.size + 1 + 1 + 1 + 1, 0, none⟩) 1 [[3]] ∧ Later w (((((w.alloc (.cells #[.int .i64 2, .int .i64 3] 3)).alloc (.cells #[.int .i64 2] 3)).alloc (.cells #[.slice (some ⟨w.heap.size, 0, none⟩) 2 2, .slice (some ⟨w.heap.size + 1, 0, none⟩) 1 1] 24)).alloc (.cells #[.int .i64 3] 3)).alloc (.cells #[.slice (some ⟨w.heap.size + 1 + 1 + 1, 0, none⟩) 1 1] 24)) := by
 have k0 := ((((Blk.new w 3 #[.int .i64 2, .int .i64 3]).alloc (.cells #[.int .i64 2] 3)).alloc (.cells #[.slice (some ⟨w.heap.size, 0, none⟩) 2 2, .slice (some ⟨w.heap.size + 1, 0, none⟩) 1 1] 24)).alloc (.cells #[.int .i64 3] 3)).alloc (.cells #[.slice (some ⟨w.heap.size + 1 + 1 + 1, 0, none⟩) 1 1] 24)
 have k1 := (((Blk.new (w.alloc (.cells #[.int .i64 2, .int .i64 3] 3)) 3 #[.int .i64 2]).alloc (.cells #[.slice (some ⟨w.heap.size, 0, none⟩) 2 2, .slice (some ⟨w.heap.size + 1, 0, none⟩) 1 1] 24)).alloc (.cells #[.int .i64 3] 3)).alloc (.cells #[.slice (some ⟨w.heap.size + 1 + 1 + 1, 0, none⟩) 1 1] 24)
 have k2 := ((Blk.new ((w.alloc (.cells #[.int .i64 2, .int .i64 3] 3)).alloc (.cells #[.int .i64 2] 3)) 24 #[.slice (some ⟨w.heap.size, 0, none⟩) 2 2, .slice (some ⟨w.heap.size + 1, 0, none⟩) 1 1]).alloc (.cells #[.int .i64 3] 3)).alloc (.cells #[.slice (some ⟨w.heap.size + 1 + 1 + 1, 0, none⟩) 1 1] 24)
 have k3 := (Blk.new (((w.alloc (.cells #[.int .i64 2, .int .i64 3] 3)).alloc (.cells #[.int .i64 2] 3)).alloc (.cells #[.slice (some ⟨w.heap.size, 0, none⟩) 2 2, .slice (some ⟨w.heap.size + 1, 0, none⟩) 1 1] 24)) 3 #[.int .i64 3]).alloc (.cells #[.slice (some ⟨w.heap.size + 1 + 1 + 1, 0, none⟩) 1 1] 24)
 have k4 := Blk.new ((((w.alloc (.cells #[.int .i64 2, .int .i64 3] 3)).alloc (.cells #[.int .i64 2] 3)).alloc (.cells #[.slice (some ⟨w.heap.size, 0, none⟩) 2 2, .slice (some ⟨w.heap.size + 1, 0, none⟩) 1 1] 24)).alloc (.cells #[.int .i64 3] 3)) 24 #[.slice (some ⟨w.heap.size + 1 + 1 + 1, 0, none⟩) 1 1]
 simp only [World.size_alloc] at k1 k2 k3 k4
 refine ⟨⟨fun j hj => ?_, by simp, by omega, by intro s hs; simp at hs; rcases hs with rfl | rfl <;> simp⟩, ⟨fun j hj => ?_, by simp, by omega, by intro s hs; simp at hs; subst hs; simp⟩, (((((Later.refl w).alloc _).alloc _).alloc _).alloc _).alloc _⟩
 ·have hj2 : j = 0 ∨ j = 1 := by simp at hj; omega
  rcases hj2 with rfl | rfl
  ·exact ⟨_, 0, _, 2, rfl, k2.lt, k2.cell 0, k0.intsO [2, 3], by simp, by omega⟩
  ·exact ⟨_, 0, _, 1, rfl, k2.lt, k2.cell 1, k1.intsO [2], by simp, by omega⟩
 ·have hj2 : j = 0 := by simp at hj; omega
  subst hj2
  exact ⟨_, 0, _, 1, rfl, k4.lt, k4.cell 0, k3.intsO [3], by simp, by omega⟩
set_option maxHeartbeats 16000000 in
set_option maxRecDepth 100000 in
theorem awake10 (w : World) : Calls Tryz.prog 10 #[] w fun e w' => e = .returned (.bool true) ∧ Below w.heap.size w w' := by
 have hk0 := Blk.new w 26 #[.int .i64 8, .int .i64 0, .int .i64 0, .int .i64 0, .int .i64 0, .int .i64 0, .int .i64 0, .slice none 0 0]
 have h0 : Later w (w.alloc (.cells #[.int .i64 8, .int .i64 0, .int .i64 0, .int .i64 0, .int .i64 0, .int .i64 0, .int .i64 0, .slice none 0 0] 26)) := (Later.refl w).alloc _
 have Hk0 := Lib.hid hk0
 have H0 := Lib.hid h0
 clear hk0 h0
 go_enter Tryz.func10, Tryz.ntmps10
 go_upto_region 2 with fail
 generalize w.alloc (.cells #[.int .i64 8, .int .i64 0, .int .i64 0, .int .i64 0, .int .i64 0, .int .i64 0, .int .i64 0, .slice none 0 0] 26) = w0 at *
 obtain ⟨x0, x1, x2, x3, x4, x5, x6, x7⟩ := op_cells (o := ao8) (S := none) (c := 0) Hk0.out
 obtain ⟨hP, hX, h1⟩ := shp_start w0
 have HP := Lib.hid hP
 have HX := Lib.hid hX
 have H1 := Lib.hid h1
 clear hP hX h1
 go_wp2_with fail
 generalize (((((w0.alloc (.cells #[.int .i64 2, .int .i64 3] 3)).alloc (.cells #[.int .i64 2] 3)).alloc (.cells #[.slice (some ⟨w0.heap.size, 0, none⟩) 2 2, .slice (some ⟨w0.heap.size + 1, 0, none⟩) 1 1] 24)).alloc (.cells #[.int .i64 3] 3)).alloc (.cells #[.slice (some ⟨w0.heap.size + 1 + 1 + 1, 0, none⟩) 1 1] 24)) = w1 at *
 refine (op_shape ao8 none (some ⟨w0.heap.size + 1 + 1, 0, none⟩) (some ⟨w0.heap.size + 1 + 1 + 1 + 1, 0, none⟩) 0 2 1 [[2, 3], [2]] [[3]] w1 (by decide) Ints.nil HP.out HX.out).mono ?_
 rintro e w2 ⟨Sr, cr, rfl, hSI, hs1, hs2, -, hb2⟩
 rw [ao_shape] at hSI hs1
 rw [ao_shape]
 have h2 := H1.out.call hb2
 have hk2 := h2.blk Hk0.out
 have h02 := H0.out.trans h2
 clear hb2 x0 x1 x2 x3 x4 x5 x6 x7 HP HX H1
 obtain ⟨x0, x1, x2, x3, x4, x5, x6, x7⟩ := op_cells (o := ao8) (S := none) (c := 0) hk2
 obtain ⟨hP, hX, h1⟩ := shp_start w2
 have hSI2 := hSI.below h1 (Nat.le_refl _)
 have HP := Lib.hid hP
 have HX := Lib.hid hX
 have H1 := Lib.hid h1
 have HSI := Lib.hid hSI
 have H2 := Lib.hid h2
 have Hk2 := Lib.hid hk2
 have H02 := Lib.hid h02
 have HSI2 := Lib.hid hSI2
 clear hP hX h1 hSI h2 hk2 h02 hSI2
 go_wp2_with fail
 generalize (((((w2.alloc (.cells #[.int .i64 2, .int .i64 3] 3)).alloc (.cells #[.int .i64 2] 3)).alloc (.cells #[.slice (some ⟨w2.heap.size, 0, none⟩) 2 2, .slice (some ⟨w2.heap.size + 1, 0, none⟩) 1 1] 24)).alloc (.cells #[.int .i64 3] 3)).alloc (.cells #[.slice (some ⟨w2.heap.size + 1 + 1 + 1, 0, none⟩) 1 1] 24)) = w3 at *
 refine (op_cost ao8 none (some ⟨w2.heap.size + 1 + 1, 0, none⟩) (some ⟨w2.heap.size + 1 + 1 + 1 + 1, 0, none⟩) 0 2 1 [[2, 3], [2]] [[3]] w3 (by decide) Ints.nil HP.out HX.out).mono ?_
 rintro e w4 ⟨rfl, hb4⟩
 rw [ao_cost]
 have h24 := H1.out.call hb4
 have h04 := H02.out.trans h24
 have hk4 := h24.blk Hk2.out
 have hSI4 := HSI.out.below h24 (Nat.le_refl _)
 have h45 : Later w4 ((w4.alloc (.cells #[.int .i64 2] 3)).alloc (.cells #[.int .i64 (-1), .int .i64 2] 22)) := ((Later.refl w4).alloc _).alloc _
 have t0 := (Blk.new w4 3 #[.int .i64 2]).alloc (.cells #[.int .i64 (-1), .int .i64 2] 22)
 have t1 := Blk.new (w4.alloc (.cells #[.int .i64 2] 3)) 22 #[.int .i64 (-1), .int .i64 2]
 rw [World.size_alloc] at t1
 clear hb4 x0 x1 x2 x3 x4 x5 x6 x7 HP HX H1 HSI HSI2 Hk2 H2 H02
 have H24 := Lib.hid h24
 have H04 := Lib.hid h04
 have Hk4 := Lib.hid hk4
 have HSI4 := Lib.hid hSI4
 have H45 := Lib.hid h45
 have Ht0 := Lib.hid t0
 have Ht1 := Lib.hid t1
 clear h24 h04 hk4 hSI4 h45 t0 t1
 go_wp2_with fail
 generalize (w4.alloc (.cells #[.int .i64 2] 3)).alloc (.cells #[.int .i64 (-1), .int .i64 2] 22) = w5 at *
 refine (tensor_of (some ⟨w4.heap.size, 0, none⟩) (some ⟨w4.heap.size + 1, 0, none⟩) 1 2 aot w5 (by decide) (by decide) ⟨Ht0.out.intsO [2], Ht1.out.intsO [-1, 2]⟩).mono ?_
 rintro e w6 ⟨⟨hbad, -⟩ | ⟨-, v, rfl, ⟨g, h, rfl, hg, hh, hG, hH⟩⟩, hb6⟩
 ·rw [ao_ten] at hbad; cases hbad
 rw [show aot.s.length = 1 from rfl, show aot.c.length = 2 from rfl]
 have h46 := H45.out.call hb6
 have h06 := H04.out.trans h46
 have hk6 := h46.blk Hk4.out
 have hSI6 := HSI4.out.below h46 (Nat.le_refl _)
 have h67 : Later w6 (w6.alloc (.cells #[.slice (some ⟨g, 0, none⟩) 1 1, .slice (some ⟨h, 0, none⟩) 2 2] 30)) := (Later.refl w6).alloc _
 have hb7 := Blk.new w6 30 #[.slice (some ⟨g, 0, none⟩) 1 1, .slice (some ⟨h, 0, none⟩) 2 2]
 have hG7 := h67.blk hG
 have hH7 := h67.blk hH
 have hk7 := h67.blk hk6
 have h07 := h06.trans h67
 have hSI7 := hSI6.below h67 (Nat.le_refl _)
 clear hb6 hG hH hk6 h06 hSI6 h46 Ht0 Ht1 H45 H24 H04 Hk4 HSI4
 have H67 := Lib.hid h67
 have Hb7 := Lib.hid hb7
 have HG7 := Lib.hid hG7
 have HH7 := Lib.hid hH7
 have Hk7 := Lib.hid hk7
 have H07 := Lib.hid h07
 have HSI7 := Lib.hid hSI7
 clear h67 hb7 hG7 hH7 hk7 h07 hSI7
 go_upto_region 5 with fail
 generalize w6.alloc (.cells #[.slice (some ⟨g, 0, none⟩) 1 1, .slice (some ⟨h, 0, none⟩) 2 2] 30) = w7 at *
 generalize w6.heap.size = tb at *
 have b0 : w7.cell? ⟨tb, 0, none⟩ = some (.slice (some ⟨g, 0, none⟩) 1 1) := by rw [Hb7.out.cell]; rfl
 have b1 : w7.cell? ⟨tb, 1, none⟩ = some (.slice (some ⟨h, 0, none⟩) 2 2) := by rw [Hb7.out.cell]; rfl
 have h78 : Later w7 (w7.alloc (.cells #[.slice (some ⟨g, 0, none⟩) 1 1, .slice (some ⟨h, 0, none⟩) 2 2] 30)) := (Later.refl w7).alloc _
 have hn8 := Blk.new w7 30 #[.slice (some ⟨g, 0, none⟩) 1 1, .slice (some ⟨h, 0, none⟩) 2 2]
 clear H67
 have H78 := Lib.hid h78
 have Hn8 := Lib.hid hn8
 clear h78 hn8
 go_wp2_with fail
 generalize w7.alloc (.cells #[.slice (some ⟨g, 0, none⟩) 1 1, .slice (some ⟨h, 0, none⟩) 2 2] 30) = w8 at *
 refine (op_go_relu ao1 none 0 w7.heap.size 1 2 (some ⟨g, 0, none⟩) (some ⟨h, 0, none⟩) 1 aot w8 (by decide) Ints.nil ao_right rfl ao_ten Hn8.out ⟨(H78.out.blk HG7.out).intsO [2], (H78.out.blk HH7.out).intsO [-1, 2]⟩).mono ?_
 rintro e w9 ⟨v2, rfl, ⟨g2, h2, rfl, hg2, hh2, hG2, hH2⟩, hb9⟩
 simp only [show aot.s.length = 1 from rfl, show aot.c.length = 2 from rfl, List.length_map]
 have h79 := H78.out.call hb9
 have h9a : Later w9 (w9.alloc (.cells #[.slice (some ⟨g2, 0, none⟩) 1 1, .slice (some ⟨h2, 0, none⟩) 2 2] 30)) := (Later.refl w9).alloc _
 have hba := Blk.new w9 30 #[.slice (some ⟨g2, 0, none⟩) 1 1, .slice (some ⟨h2, 0, none⟩) 2 2]
 have hHa := h9a.blk hH2
 have h7a := h79.trans h9a
 have hka := h7a.blk Hk7.out
 have htba := h7a.blk Hb7.out
 have hSIa := HSI7.out.below h7a (Nat.le_refl _)
 have h0a := H07.out.trans h7a
 have hGa := h7a.blk HG7.out
 have hHha := h7a.blk HH7.out
 clear hb9 b0 b1 hG2 hH2 h79 H78 Hn8 Hb7 Hk7 HSI7 H07 HG7 HH7
 have H9a := Lib.hid h9a
 have Hba := Lib.hid hba
 have HHa := Lib.hid hHa
 have H7a := Lib.hid h7a
 have Hka := Lib.hid hka
 have Htba := Lib.hid htba
 have HSIa := Lib.hid hSIa
 have H0a := Lib.hid h0a
 have HGa := Lib.hid hGa
 have HHha := Lib.hid hHha
 clear h9a hba hHa h7a hka htba hSIa h0a hGa hHha
 go_upto_region 6 with fail
 generalize w9.alloc (.cells #[.slice (some ⟨g2, 0, none⟩) 1 1, .slice (some ⟨h2, 0, none⟩) 2 2] 30) = wa at *
 generalize w9.heap.size = yb at *
 have b0 : wa.cell? ⟨tb, 0, none⟩ = some (.slice (some ⟨g, 0, none⟩) 1 1) := by rw [Htba.out.cell]; rfl
 have b1 : wa.cell? ⟨tb, 1, none⟩ = some (.slice (some ⟨h, 0, none⟩) 2 2) := by rw [Htba.out.cell]; rfl
 have hab : Later wa (wa.alloc (.cells #[.slice (some ⟨g, 0, none⟩) 1 1, .slice (some ⟨h, 0, none⟩) 2 2] 30)) := (Later.refl wa).alloc _
 clear H9a H7a
 have Hab := Lib.hid hab
 clear hab
 go_wp2_with fail
 generalize wa.alloc (.cells #[.slice (some ⟨g, 0, none⟩) 1 1, .slice (some ⟨h, 0, none⟩) 2 2] 30) = wb at *
 refine (op_go_bad ao1s none 0 none (some ⟨wa.heap.size, 0, none⟩) 0 0 1 1 wb (by decide) Ints.nil ao_wrong).mono ?_
 rintro e wc ⟨rfl, hbc⟩
 have hac := Hab.out.call hbc
 have hcd : Later wc (wc.alloc (.cells #[.slice none 0 0, .slice none 0 0] 30)) := (Later.refl wc).alloc _
 have had := hac.trans hcd
 have h0d := H0a.out.trans had
 have hkd := had.blk Hka.out
 have hyd := had.blk Hba.out
 have hHd := had.blk HHa.out
 have hSId := HSIa.out.below had (Nat.le_refl _)
 clear hbc b0 b1 hac
 have Hcd := Lib.hid hcd
 have Had := Lib.hid had
 have H0d := Lib.hid h0d
 have Hkd := Lib.hid hkd
 have Hyd := Lib.hid hyd
 have HHd := Lib.hid hHd
 have HSId := Lib.hid hSId
 clear hcd had h0d hkd hyd hHd hSId
 go_upto_region 7 with fail
 generalize wc.alloc (.cells #[.slice none 0 0, .slice none 0 0] 30) = wd at *
 clear Hcd Had Hab
 have hde : Later wd (wd.alloc (.cells #[.int .i64 2] 3)) := (Later.refl wd).alloc _
 have hne := Blk.new wd 3 #[.int .i64 2]
 have hSIe := HSId.out.below hde (Nat.le_refl _)
 have h0e := H0d.out.trans hde
 have Hde := Lib.hid hde
 have Hne := Lib.hid hne
 have HSIe := Lib.hid hSIe
 have H0e := Lib.hid h0e
 clear hde hne hSIe h0e
 go_wp2_with fail
 generalize wd.alloc (.cells #[.int .i64 2] 3) = we at *
 refine (shape_equal Sr (some ⟨wd.heap.size, 0, none⟩) cr 1 [2] [2] we (by decide) (by decide) HSIe.out (Hne.out.intsO [2])).mono ?_
 rintro e wf ⟨rfl, q, rfl⟩
 have hdf := Hde.out.drewN q
 have hyf := hdf.blk Hyd.out
 have hHf := hdf.blk HHd.out
 have hkf := hdf.blk Hkd.out
 have h0f := H0e.out.drewN q
 have y1 : (we.drewN q).cell? ⟨yb, 1, none⟩ = some (.slice (some ⟨h2, 0, none⟩) 2 2) := by rw [hyf.cell]; rfl
 have y2 : (we.drewN q).cell? ⟨h2, 1, none⟩ = some (.int .i64 2) := by rw [hHf.cell]; rfl
 obtain ⟨x0, x1, x2, x3, x4, x5, x6, x7⟩ := op_cells (o := ao8) (S := none) (c := 0) hkf
 rw [show (([2] : List Int) == [2]) = true from rfl]
 have Hdf := Lib.hid hdf
 have Hyf := Lib.hid hyf
 have HHf := Lib.hid hHf
 have Hkf := Lib.hid hkf
 have H0f := Lib.hid h0f
 clear hdf hyf hHf hkf h0f
 generalize we.drewN q = wf at *
 go_wp2_with fail
 refine (op_params ao8 none 0 wf (by decide) Ints.nil).mono ?_
 rintro e wg ⟨rfl, hbg⟩
 rw [ao_params]
 go_wp2_with fail
 go_ret
 exact ⟨rfl, H0f.out.call hbg⟩
end Go.Proofs.YtbnnpkcfifejmaaGreat

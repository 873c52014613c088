/- Lemmas for the statements of this seat: contracts of functions and the plain laws. -/
import Derived.Test.YtbnnpkcfifejmaaGreatZ11
set_option linter.unusedVariables false
namespace Go.Proofs.YtbnnpkcfifejmaaGreat
open Go.RowKit
set_option maxHeartbeats 16000000 in
set_option maxRecDepth 20000 in
theorem dense_back (S C S' C' S2 C2 GS GC : Option Addr) (c d c' d' c2 d2 gc gd : Nat) (t b x g : Ten) (w : World) (ht : TenIn w S C c d t) (hb : TenIn w S' C' c' d' b) (hx : TenIn w S2 C2 c2 d2 x) (hg : TenIn w GS GC gc gd g) :
  Calls Tryz.prog 12 #[.agg #[.slice S t.s.length c, .slice C t.c.length d], .agg #[.slice S' b.s.length c', .slice C' b.c.length d'], .agg #[.slice S2 x.s.length c2, .slice C2 x.c.length d2], .agg #[.slice GS g.s.length gc, .slice GC g.c.length gd]] w (GoD (Ly.denseBack t b x g) w) := by
 obtain ⟨hk0, hk1, hk2, hk3, h01⟩ := four_boxes w 30 30 30 30 #[.slice S t.s.length c, .slice C t.c.length d] #[.slice S' b.s.length c', .slice C' b.c.length d'] #[.slice S2 x.s.length c2, .slice C2 x.c.length d2] #[.slice GS g.s.length gc, .slice GC g.c.length gd]
 have hz := Blk.new ((((w.alloc (.cells #[.slice S t.s.length c, .slice C t.c.length d] 30)).alloc (.cells #[.slice S' b.s.length c', .slice C' b.c.length d'] 30)).alloc (.cells #[.slice S2 x.s.length c2, .slice C2 x.c.length d2] 30)).alloc (.cells #[.slice GS g.s.length gc, .slice GC g.c.length gd] 30)) 42 #[.slice none 0 0, .slice none 0 0, .slice none 0 0, .slice none 0 0, .slice none 0 0, .slice none 0 0]
 replace hk0 := hk0.alloc (.cells #[.slice none 0 0, .slice none 0 0, .slice none 0 0, .slice none 0 0, .slice none 0 0, .slice none 0 0] 42)
 replace hk1 := hk1.alloc (.cells #[.slice none 0 0, .slice none 0 0, .slice none 0 0, .slice none 0 0, .slice none 0 0, .slice none 0 0] 42)
 replace hk2 := hk2.alloc (.cells #[.slice none 0 0, .slice none 0 0, .slice none 0 0, .slice none 0 0, .slice none 0 0, .slice none 0 0] 42)
 replace hk3 := hk3.alloc (.cells #[.slice none 0 0, .slice none 0 0, .slice none 0 0, .slice none 0 0, .slice none 0 0, .slice none 0 0] 42)
 replace h01 := h01.alloc (.cells #[.slice none 0 0, .slice none 0 0, .slice none 0 0, .slice none 0 0, .slice none 0 0, .slice none 0 0] 42)
 rw [World.size_alloc, World.size_alloc, World.size_alloc, World.size_alloc] at hz
 have Hk0 := Lib.hid hk0
 have Hk1 := Lib.hid hk1
 have Hk2 := Lib.hid hk2
 have Hk3 := Lib.hid hk3
 have Hz := Lib.hid hz
 have H01 := Lib.hid h01
 have Ht := Lib.hid ht
 have Hb := Lib.hid hb
 have Hx := Lib.hid hx
 have Hg := Lib.hid hg
 clear hk0 hk1 hk2 hk3 hz h01 ht hb hx hg
 go_enter Tryz.func12, Tryz.ntmps12
 go_wp2_with fail
 generalize ((((w.alloc (.cells #[.slice S t.s.length c, .slice C t.c.length d] 30)).alloc (.cells #[.slice S' b.s.length c', .slice C' b.c.length d'] 30)).alloc (.cells #[.slice S2 x.s.length c2, .slice C2 x.c.length d2] 30)).alloc (.cells #[.slice GS g.s.length gc, .slice GC g.c.length gd] 30)).alloc (.cells #[.slice none 0 0, .slice none 0 0, .slice none 0 0, .slice none 0 0, .slice none 0 0, .slice none 0 0] 42) = w1 at *
 refine (dense_agree S C S' C' S2 C2 c d c' d' c2 d2 t b x w1 (Ht.out.later H01.out) (Hb.out.later H01.out) (Hx.out.later H01.out)).mono ?_
 rintro e w2 ⟨rfl, hb2⟩
 have h12 : Later w1 w2 := hb2
 have h02 := H01.out.trans h12
 have hz2 := h12.blk Hz.out
 have hka := h12.blk Hk0.out
 have hkb := h12.blk Hk1.out
 have hkc := h12.blk Hk2.out
 have hkd := h12.blk Hk3.out
 clear hb2 Hz H01 Hk0 Hk1 Hk2 Hk3 h12
 cases hg0 : Ly.denseOk t b x
 ·have HE := Lib.hid (Ly.dback_bad (g := g) (by rw [hg0]; rfl : (Ly.denseOk t b x && Tn.right g && decide (g.s = b.s)) = false))
  clear hg0
  obtain ⟨c0, c1, c2, c3, c4, c5, f0, f1, f2, f3, f4, f5⟩ := six_facts hz2
  have H02 := Lib.hid h02
  have Hz2 := Lib.hid hz2
  have Hka := Lib.hid hka
  have Hkb := Lib.hid hkb
  have Hkc := Lib.hid hkc
  have Hkd := Lib.hid hkd
  clear h02 hz2 hka hkb hkc hkd
  go_wp2_with fail
  refine bodyPost_ret (v := .tuple #[.agg #[.slice none 0 0, .slice none 0 0, .slice none 0 0, .slice none 0 0, .slice none 0 0, .slice none 0 0], .int .i64 20]) (by simp [results, Tryz.results12, go_sem, c0, c1, c2, c3, c4, c5]) rfl ?_
  exact GoD.fail HE.out (by decide) (six_later (p := w.heap.size + 4) H02.out (by omega) _ _ _ _ _ _)
 obtain ⟨hrt, hl2, hrb, hrx, hbs, hxn⟩ := Ly.dense_yes hg0
 have d0 := hkd.cell 0
 have d1 := hkd.cell 1
 have b0 := hkb.cell 0
 simp at d0 d1 b0
 have lg1 := Hg.out.l1
 have lg2 := Hg.out.l2
 have lb1 := Hb.out.l1
 have hrg := tensor_right GS GC gc gd g w2 (by omega) (by omega) (Hg.out.later h02).r.1
 have heq := fun (V : World) (h : Later w2 V) => shape_equal GS S' gc c' g.s b.s V (by omega) (by omega) (Hg.out.later (h02.trans h)).r.1 (Hb.out.later (h02.trans h)).r.1
 have hbad := fun h => Ly.dback_bad (w := t) (b := b) (x := x) (g := g) h
 have H02 := Lib.hid h02
 have Hz2 := Lib.hid hz2
 have Hka := Lib.hid hka
 have Hkb := Lib.hid hkb
 have Hkc := Lib.hid hkc
 have Hkd := Lib.hid hkd
 have Hrg := Lib.hid hrg
 have Heq := Lib.hid heq
 have Hbad := Lib.hid hbad
 clear h02 hz2 hka hkb hkc hkd hrg heq hbad
 cases hr : Tn.right g
 ·have HE := Lib.hid (Hbad.out (by rw [hr, Bool.and_false, Bool.false_and]))
  rw [hr] at Hrg
  clear Hbad hr hg0 hrt hl2 hrb hrx hbs hxn
  go_wp2_with fail
  refine (Hrg.out).mono ?_
  rintro e w3 ⟨rfl, hb3⟩
  have h23 : Later w2 w3 := hb3
  have hz3 := h23.blk Hz2.out
  have h03 := H02.out.trans h23
  clear d0 d1 b0 hb3
  obtain ⟨c0, c1, c2, c3, c4, c5, f0, f1, f2, f3, f4, f5⟩ := six_facts hz3
  have H23 := Lib.hid h23
  have Hz3 := Lib.hid hz3
  have H03 := Lib.hid h03
  clear h23 hz3 h03
  go_wp2_with fail
  refine bodyPost_ret (v := .tuple #[.agg #[.slice none 0 0, .slice none 0 0, .slice none 0 0, .slice none 0 0, .slice none 0 0, .slice none 0 0], .int .i64 20]) (by simp [results, Tryz.results12, go_sem, c0, c1, c2, c3, c4, c5]) rfl ?_
  exact GoD.fail HE.out (by decide) (six_later (p := w.heap.size + 4) H03.out (by omega) _ _ _ _ _ _)
 rw [hr] at Hrg
 go_wp2_with fail
 refine (Hrg.out).mono ?_
 rintro e w3 ⟨rfl, hb3⟩
 have h23 : Later w2 w3 := hb3
 have d0' := h23.cell d0
 have b0' := h23.cell b0
 clear hb3 d0 d1 b0
 have heq3 := Heq.out _ h23
 cases hq : (g.s == b.s)
 ·have HE := Lib.hid (Hbad.out (by rw [show decide (g.s = b.s) = false by simpa using hq, Bool.and_false]))
  rw [hq] at heq3
  clear Hbad hr hg0 hrt hl2 hrb hrx hbs hxn hq
  have H23 := Lib.hid h23
  have Heq3 := Lib.hid heq3
  clear h23 heq3
  go_wp2_with fail
  refine (Heq3.out).mono ?_
  rintro e w4 ⟨rfl, q4, rfl⟩
  have hz3 := (H23.out.drewN q4).blk Hz2.out
  have h03 := (H02.out.trans H23.out).drewN q4
  clear d0' b0'
  obtain ⟨c0, c1, c2, c3, c4, c5, f0, f1, f2, f3, f4, f5⟩ := six_facts hz3
  have Hz3 := Lib.hid hz3
  have H03 := Lib.hid h03
  clear hz3 h03
  go_wp2_with fail
  refine bodyPost_ret (v := .tuple #[.agg #[.slice none 0 0, .slice none 0 0, .slice none 0 0, .slice none 0 0, .slice none 0 0, .slice none 0 0], .int .i64 20]) (by simp [results, Tryz.results12, go_sem, c0, c1, c2, c3, c4, c5]) rfl ?_
  exact GoD.fail HE.out (by decide) (six_later (p := w.heap.size + 4) H03.out (by omega) _ _ _ _ _ _)
 rw [hq] at heq3
 have hgs : g.s = b.s := by simpa using hq
 have HE := Lib.hid (Ly.dback_ok (by rw [hg0, hr]; simpa using hq : (Ly.denseOk t b x && Tn.right g && decide (g.s = b.s)) = true))
 obtain ⟨m, n, hm0, hn0, hm1, hn1, hm2, hn2, htc, hmn⟩ := mat_facts hrt hl2
 have hgl : g.c.length = m := by have := one_side hr (hgs.trans hbs); omega
 have hxl : x.c.length = n := by omega
 obtain ⟨r1, r2⟩ := Ly.right_ok hrt
 obtain ⟨r3, r4⟩ := Ly.right_ok hrx
 obtain ⟨r5, r6⟩ := Ly.right_ok hr
 clear Hbad hr hg0 hrt hrb hrx hbs hxn hq hgs hm0
 have H23 := Lib.hid h23
 have Heq3 := Lib.hid heq3
 clear h23 heq3
 go_wp2_with fail
 refine (Heq3.out).mono ?_
 rintro e w4 ⟨rfl, q4, rfl⟩
 have h24 := H23.out.drewN q4
 clear d0' b0' Heq3 Heq Hrg H23
 generalize w3.drewN q4 = w4 at *
 have h04 := H02.out.trans h24
 have hka4 := h24.blk Hka.out
 have hkc4 := h24.blk Hkc.out
 have hkd4 := h24.blk Hkd.out
 have hz4 := h24.blk Hz2.out
 clear h24 H02 Hka Hkb Hkc Hkd Hz2
 have a0 : w4.cell? ⟨w.heap.size, 0, none⟩ = some (.slice S t.s.length c) := hka4.cell 0
 have a1 : w4.cell? ⟨w.heap.size, 1, none⟩ = some (.slice C t.c.length d) := hka4.cell 1
 have x0 : w4.cell? ⟨w.heap.size + 2, 0, none⟩ = some (.slice S2 x.s.length c2) := hkc4.cell 0
 have x1 : w4.cell? ⟨w.heap.size + 2, 1, none⟩ = some (.slice C2 x.c.length d2) := hkc4.cell 1
 have d0 : w4.cell? ⟨w.heap.size + 3, 0, none⟩ = some (.slice GS g.s.length gc) := hkd4.cell 0
 have d1 : w4.cell? ⟨w.heap.size + 3, 1, none⟩ = some (.slice GC g.c.length gd) := hkd4.cell 1
 have hcw := fun (V : World) (h : Later w4 V) => tensor_copy S C c d t V (by omega) (by omega) (Ht.out.later (h04.trans h)).r
 have hcg := fun (V : World) (h : Later w4 V) => tensor_copy GS GC gc gd g V (by omega) (by omega) (Hg.out.later (h04.trans h)).r
 have hcx := fun (V : World) (h : Later w4 V) => tensor_copy S2 C2 c2 d2 x V (by omega) (by omega) (Hx.out.later (h04.trans h)).r
 have H04 := Lib.hid h04
 have Hka4 := Lib.hid hka4
 have Hkc4 := Lib.hid hkc4
 have Hkd4 := Lib.hid hkd4
 have Hz4 := Lib.hid hz4
 have Hcw := Lib.hid hcw
 have Hcg := Lib.hid hcg
 have Hcx := Lib.hid hcx
 have Htc := Lib.hid htc
 have Hgl := Lib.hid hgl
 have Hxl := Lib.hid hxl
 have Hmn := Lib.hid hmn
 have Hn0 := Lib.hid hn0
 have Hl2 := Lib.hid hl2
 clear h04 hka4 hkc4 hkd4 hz4 hcw hcg hcx htc hgl hxl hmn hn0 hl2
 go_upto_region 3 with fail
 go_cut [10] (DbCut w #[.slice S t.s.length c, .slice C t.c.length d] #[.slice S2 x.s.length c2, .slice C2 x.c.length d2] #[.slice GS g.s.length gc, .slice GC g.c.length gd] t g x)
 case first =>
  go_wp2_with fail
  have KF := Lib.hid (show ∀ Xw, Later w4 Xw → Xw.cell? ⟨w.heap.size, 0, none⟩ = some (.slice S t.s.length c) ∧ Xw.cell? ⟨w.heap.size, 1, none⟩ = some (.slice C t.c.length d) ∧ Xw.cell? ⟨w.heap.size + 2, 0, none⟩ = some (.slice S2 x.s.length c2) ∧ Xw.cell? ⟨w.heap.size + 2, 1, none⟩ = some (.slice C2 x.c.length d2) ∧ Xw.cell? ⟨w.heap.size + 3, 0, none⟩ = some (.slice GS g.s.length gc) ∧ Xw.cell? ⟨w.heap.size + 3, 1, none⟩ = some (.slice GC g.c.length gd) from fun Xw h => ⟨h.cell a0, h.cell a1, h.cell x0, h.cell x1, h.cell d0, h.cell d1⟩)
  refine wp_region_noPanic ?_
  refine wp_region_held_drew (S := fun Xw => Xw.cell? ⟨w.heap.size, 0, none⟩ = some (.slice S t.s.length c) ∧ Xw.cell? ⟨w.heap.size, 1, none⟩ = some (.slice C t.c.length d) ∧ Xw.cell? ⟨w.heap.size + 2, 0, none⟩ = some (.slice S2 x.s.length c2) ∧ Xw.cell? ⟨w.heap.size + 2, 1, none⟩ = some (.slice C2 x.c.length d2) ∧ Xw.cell? ⟨w.heap.size + 3, 0, none⟩ = some (.slice GS g.s.length gc) ∧ Xw.cell? ⟨w.heap.size + 3, 1, none⟩ = some (.slice GC g.c.length gd)) (by kernel_rfl) (KF.out _ Later.au) (fun hHeld => ?_)
  refine tk 0 ?_
  refine tk 2 ?_
  refine tk 4 ?_
  refine wpAnyH_ready (rs := [1, 7]) (by kernel_rfl) (by simp) ?_
  refine AllReadyH.cons (o := _) rfl (fun K hK => ?_) (AllReadyH.cons (o := _) rfl (fun K hK => ?_) (AllReadyH.nil))
  ·simp only [ga, gs, gz]
   go_simp
   go_at_call 52; (with_reducible refine (Hcw.out _ (Later.au : Later w4 _)).mono ?_); rintro e wa ⟨v, rfl, ⟨g0, h0, rfl, q1, q2, hG, hH⟩, hbwa⟩
   have k0 : w4.heap.size ≤ g0 ∧ w4.heap.size ≤ h0 := by (constructor <;> first | assumption | (simp at q1 q2; omega))
   have HG0 := Lib.hid hG
   have HH0 := Lib.hid hH
   clear q1 q2 hG hH
   try go_wp2_with fail
   refine hK.out _ _ (KF.out _ Later.au) (fun hHeld => ?_)
   clear hK K
   try simp only [ga, gs, gz, Act.put, sa, sz, ss]
   refine wpAnyH_ready (rs := [3, 7]) (by kernel_rfl) (by simp) ?_
   refine AllReadyH.cons (o := _) rfl (fun K hK => ?_) (AllReadyH.cons (o := _) rfl (fun K hK => ?_) (AllReadyH.nil))
   ·simp only [ga, gs, gz]
    go_simp
    go_at_call 52; (with_reducible refine (Hcg.out _ (Later.au : Later w4 _)).mono ?_); rintro e wb ⟨v, rfl, ⟨g1, h1, rfl, q1, q2, hG, hH⟩, hbwb⟩
    have k1 : wa.heap.size ≤ g1 ∧ wa.heap.size ≤ h1 := by (constructor <;> first | assumption | (simp at q1 q2; omega))
    have HG1 := Lib.hid hG
    have HH1 := Lib.hid hH
    clear q1 q2 hG hH
    try go_wp2_with fail
    refine hK.out _ _ (KF.out _ Later.au) (fun hHeld => ?_)
    clear hK K
    try simp only [ga, gs, gz, Act.put, sa, sz, ss]
    refine wpAnyH_ready (rs := [5, 7]) (by kernel_rfl) (by simp) ?_
    refine AllReadyH.cons (o := _) rfl (fun K hK => ?_) (AllReadyH.cons (o := _) rfl (fun K hK => ?_) (AllReadyH.nil))
    ·simp only [ga, gs, gz]
     go_simp
     go_at_call 52; (with_reducible refine (Hcx.out _ (Later.au : Later w4 _)).mono ?_); rintro e wc ⟨v, rfl, ⟨g2, h2, rfl, q1, q2, hG, hH⟩, hbwc⟩
     have k2 : wb.heap.size ≤ g2 ∧ wb.heap.size ≤ h2 := by (constructor <;> first | assumption | (simp at q1 q2; omega))
     have HG2 := Lib.hid hG
     have HH2 := Lib.hid hH
     clear q1 q2 hG hH
     try go_wp2_with fail
     refine hK.out _ _ (KF.out _ Later.au) (fun hHeld => ?_)
     clear hK K
     try simp only [ga, gs, gz, Act.put, sa, sz, ss]
     refine tk 6 ?_
     refine rd 7 fun K hK => ?_
     simp only [ga, gs, gz]
     go_simp
     refine hK.out _ _ (KF.out _ Later.au) (fun hHeld => ?_)
     clear hK K
     try simp only [ga, gs, gz, Act.put, sa, sz, ss]
     refine rd 8 fun K hK => ?_
     simp only [ga, gs, gz]
     go_simp
     refine hK.out _ _ ?_ (fun hHeld => ?_)
     ·(try dsimp only); (refine ⟨?_, ?_, ?_, ?_, ?_, ?_⟩ <;> (repeat (refine cell_setfar ?_ (by first | omega | (simp; done) | (simp; omega)))) <;> (refine Later.cell (Later.au : Later w4 _) ?_) <;> assumption)
     clear hK K
     try simp only [ga, gs, gz, Act.put, sa, sz, ss]
     clear KF
     refine wpAnyH_done (by kernel_rfl) ?_ _
     refine NoPanic.normal ?_
     go_wp2_with fail
     have l1 : Later w4 wa := (Later.au : Later w4 wa)
     have l2 : Later wa wb := (Later.au : Later wa wb)
     have l3 : Later wb wc := (Later.au : Later wb wc)
     have l4 := l1.size
     have l5 := l2.size
     have l6 := l3.size
     go_meet
     exact ⟨wc.heap.size, g0, h0, g1, h1, g2, h2, rfl, db_mk H04.out Hka4.out Hkc4.out Hkd4.out Hz4.out HG0.out HH0.out HG1.out HH1.out (((Later.refl wc).alloc _).blk HG2.out) (((Later.refl wc).alloc _).blk HH2.out) (Blk.new wc _ _) l1 l2 (l3.alloc _) k0 k1 k2 (by omega)⟩
    ·simp only [ga, gs, gz]
     go_simp
     refine hK.out _ _ (KF.out _ Later.au) (fun hHeld => ?_)
     clear hK K
     try simp only [ga, gs, gz, Act.put, sa, sz, ss]
     refine rd 5 fun K hK => ?_
     simp only [ga, gs, gz]
     go_simp
     go_at_call 52; (with_reducible refine (Hcx.out _ (Later.au : Later w4 _)).mono ?_); rintro e wc ⟨v, rfl, ⟨g2, h2, rfl, q1, q2, hG, hH⟩, hbwc⟩
     have k2 : wb.heap.size ≤ g2 ∧ wb.heap.size ≤ h2 := by (constructor <;> first | assumption | (simp at q1 q2; omega))
     have HG2 := Lib.hid hG
     have HH2 := Lib.hid hH
     clear q1 q2 hG hH
     have hbz := (show Later (wb.alloc (.cells #[.slice none 0 0, .slice none 0 0, .slice none 0 0, .slice none 0 0, .slice none 0 0, .slice none 0 0] 42)) wc from hbwc).blk (Blk.new wb _ _)
     obtain ⟨z0, z1, z2, z3, z4, z5, y0, y1, y2, y3, y4, y5⟩ := six_facts hbz
     have Hbz := Lib.hid hbz
     have lA : Later w4 wa := (Later.au : Later w4 wa)
     have lB : Later wa wb := (Later.au : Later wa wb)
     have sA := lA.size
     have sB := lB.size
     have sz := Hz4.out.lt
     clear hbz lA lB
     try go_wp2_with fail
     refine hK.out _ _ (KF.out _ Later.au) (fun hHeld => ?_)
     clear hK K
     try simp only [ga, gs, gz, Act.put, sa, sz, ss]
     refine tk 6 ?_
     refine rd 8 fun K hK => ?_
     simp only [ga, gs, gz]
     go_simp
     refine hK.out _ _ ?_ (fun hHeld => ?_)
     ·(try dsimp only); (refine ⟨?_, ?_, ?_, ?_, ?_, ?_⟩ <;> (repeat (refine cell_setfar ?_ (by first | omega | (simp; done) | (simp; omega)))) <;> (refine Later.cell (Later.au : Later w4 _) ?_) <;> assumption)
     clear hK K
     try simp only [ga, gs, gz, Act.put, sa, sz, ss]
     clear KF
     refine wpAnyH_done (by kernel_rfl) ?_ _
     refine NoPanic.normal ?_
     go_wp2_with fail
     have l1 : Later w4 wa := (Later.au : Later w4 wa)
     have l2 : Later wa wb := (Later.au : Later wa wb)
     have l3 : Later wb wc := (Later.au : Later wb wc)
     have l4 := l1.size
     have l5 := l2.size
     have l6 := l3.size
     go_meet
     exact ⟨wb.heap.size, g0, h0, g1, h1, g2, h2, rfl, (db_mk H04.out Hka4.out Hkc4.out Hkd4.out Hz4.out HG0.out HH0.out HG1.out HH1.out HG2.out HH2.out Hbz.out l1 l2 l3 k0 k1 k2 (by omega)).store⟩
   ·simp only [ga, gs, gz]
    go_simp
    refine hK.out _ _ (KF.out _ Later.au) (fun hHeld => ?_)
    clear hK K
    try simp only [ga, gs, gz, Act.put, sa, sz, ss]
    refine rd 3 fun K hK => ?_
    simp only [ga, gs, gz]
    go_simp
    go_at_call 52; (with_reducible refine (Hcg.out _ (Later.au : Later w4 _)).mono ?_); rintro e wb ⟨v, rfl, ⟨g1, h1, rfl, q1, q2, hG, hH⟩, hbwb⟩
    have k1 : wa.heap.size ≤ g1 ∧ wa.heap.size ≤ h1 := by (constructor <;> first | assumption | (simp at q1 q2; omega))
    have HG1 := Lib.hid hG
    have HH1 := Lib.hid hH
    clear q1 q2 hG hH
    try go_wp2_with fail
    refine hK.out _ _ (KF.out _ Later.au) (fun hHeld => ?_)
    clear hK K
    try simp only [ga, gs, gz, Act.put, sa, sz, ss]
    refine rd 5 fun K hK => ?_
    simp only [ga, gs, gz]
    go_simp
    go_at_call 52; (with_reducible refine (Hcx.out _ (Later.au : Later w4 _)).mono ?_); rintro e wc ⟨v, rfl, ⟨g2, h2, rfl, q1, q2, hG, hH⟩, hbwc⟩
    have k2 : wb.heap.size ≤ g2 ∧ wb.heap.size ≤ h2 := by (constructor <;> first | assumption | (simp at q1 q2; omega))
    have HG2 := Lib.hid hG
    have HH2 := Lib.hid hH
    clear q1 q2 hG hH
    have hbz := (show Later wb wc from hbwc).blk ((show Later _ wb from hbwb).blk (Blk.new wa 42 #[.slice none 0 0, .slice none 0 0, .slice none 0 0, .slice none 0 0, .slice none 0 0, .slice none 0 0]))
    obtain ⟨z0, z1, z2, z3, z4, z5, y0, y1, y2, y3, y4, y5⟩ := six_facts hbz
    have Hbz := Lib.hid hbz
    have lA : Later w4 wa := (Later.au : Later w4 wa)
    have lB : Later wa wb := (Later.au : Later wa wb)
    have sA := lA.size
    have sB := lB.size
    have sz := Hz4.out.lt
    clear hbz lA lB
    try go_wp2_with fail
    refine hK.out _ _ (KF.out _ Later.au) (fun hHeld => ?_)
    clear hK K
    try simp only [ga, gs, gz, Act.put, sa, sz, ss]
    refine tk 6 ?_
    refine rd 8 fun K hK => ?_
    simp only [ga, gs, gz]
    go_simp
    refine hK.out _ _ ?_ (fun hHeld => ?_)
    ·(try dsimp only); (refine ⟨?_, ?_, ?_, ?_, ?_, ?_⟩ <;> (repeat (refine cell_setfar ?_ (by first | omega | (simp; done) | (simp; omega)))) <;> (refine Later.cell (Later.au : Later w4 _) ?_) <;> assumption)
    clear hK K
    try simp only [ga, gs, gz, Act.put, sa, sz, ss]
    clear KF
    refine wpAnyH_done (by kernel_rfl) ?_ _
    refine NoPanic.normal ?_
    go_wp2_with fail
    have l1 : Later w4 wa := (Later.au : Later w4 wa)
    have l2 : Later wa wb := (Later.au : Later wa wb)
    have l3 : Later wb wc := (Later.au : Later wb wc)
    have l4 := l1.size
    have l5 := l2.size
    have l6 := l3.size
    go_meet
    exact ⟨wa.heap.size, g0, h0, g1, h1, g2, h2, rfl, (db_mk H04.out Hka4.out Hkc4.out Hkd4.out Hz4.out HG0.out HH0.out HG1.out HH1.out HG2.out HH2.out Hbz.out l1 l2 l3 k0 k1 k2 (by omega)).store⟩
  ·simp only [ga, gs, gz]
   go_simp
   refine hK.out _ _ (KF.out _ Later.au) (fun hHeld => ?_)
   clear hK K
   try simp only [ga, gs, gz, Act.put, sa, sz, ss]
   refine rd 1 fun K hK => ?_
   simp only [ga, gs, gz]
   go_simp
   go_at_call 52; (with_reducible refine (Hcw.out _ (Later.au : Later w4 _)).mono ?_); rintro e wa ⟨v, rfl, ⟨g0, h0, rfl, q1, q2, hG, hH⟩, hbwa⟩
   have k0 : w4.heap.size ≤ g0 ∧ w4.heap.size ≤ h0 := by (constructor <;> first | assumption | (simp at q1 q2; omega))
   have HG0 := Lib.hid hG
   have HH0 := Lib.hid hH
   clear q1 q2 hG hH
   try go_wp2_with fail
   refine hK.out _ _ (KF.out _ Later.au) (fun hHeld => ?_)
   clear hK K
   try simp only [ga, gs, gz, Act.put, sa, sz, ss]
   refine rd 3 fun K hK => ?_
   simp only [ga, gs, gz]
   go_simp
   go_at_call 52; (with_reducible refine (Hcg.out _ (Later.au : Later w4 _)).mono ?_); rintro e wb ⟨v, rfl, ⟨g1, h1, rfl, q1, q2, hG, hH⟩, hbwb⟩
   have k1 : wa.heap.size ≤ g1 ∧ wa.heap.size ≤ h1 := by (constructor <;> first | assumption | (simp at q1 q2; omega))
   have HG1 := Lib.hid hG
   have HH1 := Lib.hid hH
   clear q1 q2 hG hH
   try go_wp2_with fail
   refine hK.out _ _ (KF.out _ Later.au) (fun hHeld => ?_)
   clear hK K
   try simp only [ga, gs, gz, Act.put, sa, sz, ss]
   refine rd 5 fun K hK => ?_
   simp only [ga, gs, gz]
   go_simp
   go_at_call 52; (with_reducible refine (Hcx.out _ (Later.au : Later w4 _)).mono ?_); rintro e wc ⟨v, rfl, ⟨g2, h2, rfl, q1, q2, hG, hH⟩, hbwc⟩
   have k2 : wb.heap.size ≤ g2 ∧ wb.heap.size ≤ h2 := by (constructor <;> first | assumption | (simp at q1 q2; omega))
   have HG2 := Lib.hid hG
   have HH2 := Lib.hid hH
   clear q1 q2 hG hH
   have hbz := (show Later wb wc from hbwc).blk ((show Later wa wb from hbwb).blk ((show Later _ wa from hbwa).blk ((Blk.new w4 42 #[.slice none 0 0, .slice none 0 0, .slice none 0 0, .slice none 0 0, .slice none 0 0, .slice none 0 0]).drew)))
   obtain ⟨z0, z1, z2, z3, z4, z5, y0, y1, y2, y3, y4, y5⟩ := six_facts hbz
   have Hbz := Lib.hid hbz
   have lA : Later w4 wa := (Later.au : Later w4 wa)
   have lB : Later wa wb := (Later.au : Later wa wb)
   have sA := lA.size
   have sB := lB.size
   have sz := Hz4.out.lt
   clear hbz lA lB
   try go_wp2_with fail
   refine hK.out _ _ (KF.out _ Later.au) (fun hHeld => ?_)
   clear hK K
   try simp only [ga, gs, gz, Act.put, sa, sz, ss]
   refine tk 6 ?_
   refine rd 8 fun K hK => ?_
   simp only [ga, gs, gz]
   go_simp
   refine hK.out _ _ ?_ (fun hHeld => ?_)
   ·(try dsimp only); (refine ⟨?_, ?_, ?_, ?_, ?_, ?_⟩ <;> (repeat (refine cell_setfar ?_ (by first | omega | (simp; done) | (simp; omega)))) <;> (refine Later.cell (Later.au : Later w4 _) ?_) <;> assumption)
   clear hK K
   try simp only [ga, gs, gz, Act.put, sa, sz, ss]
   clear KF
   refine wpAnyH_done (by kernel_rfl) ?_ _
   refine NoPanic.normal ?_
   go_wp2_with fail
   have l1 : Later w4 wa := (Later.au : Later w4 wa)
   have l2 : Later wa wb := (Later.au : Later wa wb)
   have l3 : Later wb wc := (Later.au : Later wb wc)
   have l4 := l1.size
   have l5 := l2.size
   have l6 := l3.size
   go_meet
   exact ⟨w4.heap.size, g0, h0, g1, h1, g2, h2, rfl, (db_mk H04.out Hka4.out Hkc4.out Hkd4.out Hz4.out HG0.out HH0.out HG1.out HH1.out HG2.out HH2.out Hbz.out l1 l2 l3 k0 k1 k2 (by omega)).store⟩
 case rest =>
  obtain ⟨tb, g0, h0, g1, h1, g2, h2, rfl, hI⟩ := hcut
  have e5 := hI.ke.cell 5
  simp at e5
  have hxpos : 0 < x.c.length := by have := Hxl.out; omega
  clear a0 a1 x0 x1 d0 d1 Hka4 Hkc4 Hkd4 Hz4 Hcw Hcg Hcx
  have HI := Lib.hid hI
  clear hI
  go_wp2_with (refine wpList_clear rfl (.tmp 45) 28 22 rfl Tryz.underlying28 Tryz.zeroValue22 h2 22 x.c x.c.length rfl HI.out.H2 hxpos ?_)
  intro w5 hz5 hE5
  have hI5 : DbI w tb g0 h0 g1 h1 g2 h2 #[.slice S t.s.length c, .slice C t.c.length d] #[.slice S2 x.s.length c2, .slice C2 x.c.length d2] #[.slice GS g.s.length gc, .slice GC g.c.length gd] #[.slice (some ⟨g0, 0, none⟩) t.s.length t.s.length, .slice (some ⟨h0, 0, none⟩) t.c.length t.c.length, .slice (some ⟨g1, 0, none⟩) g.s.length g.s.length, .slice (some ⟨h1, 0, none⟩) g.c.length g.c.length, .slice (some ⟨g2, 0, none⟩) x.s.length x.s.length, .slice (some ⟨h2, 0, none⟩) x.c.length x.c.length] t.s g.s x.s g.c t.c (Ly.denseX t.c g.c x.c 0) w5 := HI.out.elseX hE5 hz5
  clear HI hz5 hE5 e5
  obtain ⟨DW, hDW⟩ : ∃ DW, Ly.denseW g.c x.c = DW := ⟨_, rfl⟩
  have hDl : DW.length = t.c.length := by rw [← hDW, Ly.denseW_len, Hgl.out, Hxl.out, Htc.out]
  have hDi : ∀ z ∈ DW, Fx.In z := by rw [← hDW]; exact Ly.denseW_in _ _
  have hDa : ∀ k j, k < m → j < n → Ly.at_ DW (k * n + j) = Fx.mul (Ly.at_ g.c k) (Ly.at_ x.c j) := fun k j hk hj => by
   have := Ly.denseW_at g.c x.c (i := k) (j := j) (by have := Hgl.out; omega) (by have := Hxl.out; omega)
   rwa [hDW, Hxl.out] at this
  rw [hDW] at HE
  have d1 : w5.cell? ⟨w.heap.size + 3, 1, none⟩ = some (.slice GC g.c.length gd) := by rw [hI5.kg.cell]; rfl
  clear hDW
  have HI5 := Lib.hid hI5
  have HDl := Lib.hid hDl
  have HDi := Lib.hid hDi
  have HDa := Lib.hid hDa
  clear hI5 hDl hDi hDa
  go_wp2_with fail
  clear d1
  go_loopw [49] (fun i wx => ∃ k : Nat, k ≤ m ∧ i = .int .i64 (k : Int) ∧ DbI w tb g0 h0 g1 h1 g2 h2 #[.slice S t.s.length c, .slice C t.c.length d] #[.slice S2 x.s.length c2, .slice C2 x.c.length d2] #[.slice GS g.s.length gc, .slice GC g.c.length gd] #[.slice (some ⟨g0, 0, none⟩) t.s.length t.s.length, .slice (some ⟨h0, 0, none⟩) t.c.length t.c.length, .slice (some ⟨g1, 0, none⟩) g.s.length g.s.length, .slice (some ⟨h1, 0, none⟩) g.c.length g.c.length, .slice (some ⟨g2, 0, none⟩) x.s.length x.s.length, .slice (some ⟨h2, 0, none⟩) x.c.length x.c.length] t.s g.s x.s g.c (DW.take (k * n) ++ t.c.drop (k * n)) (Ly.denseX t.c g.c x.c k) wx) (fun i _ => m - (intOf i).toNat)
  case atStart => exact ⟨0, Nat.zero_le _, rfl, by simpa using HI5.out⟩
  case round =>
   obtain ⟨k, hk, rfl, hJ⟩ := hrel
   have hmn := Hmn.out
   clear HI5
   by_cases hlt : k < m
   ·have hkn : k * n + n ≤ m * n := by
     have : (k + 1) * n ≤ m * n := Nat.mul_le_mul_right _ hlt
     rwa [Nat.succ_mul] at this
    obtain ⟨bg, og, hGC, -, hc2⟩ := (Hg.out.later hJ.later).cell (k := k) (by have := Hgl.out; omega)
    obtain ⟨bt, ot, hC, -, -⟩ := Ht.out.cell (k := 0) (by have := Htc.out; have : 1 * 1 ≤ m * n := Nat.mul_le_mul hm1 hn1; omega)
    obtain ⟨bx, ox, hC2, -, -⟩ := Hx.out.cell (k := 0) (by have := Hxl.out; omega)
    subst hGC hC hC2
    have hml : (DW.take (k * n) ++ t.c.drop (k * n)).length = t.c.length := by rw [Ly.mid_len DW t.c (k * n) (by rw [HDl.out, Htc.out]; omega) HDl.out, HDl.out]
    have hmi : ∀ z ∈ DW.take (k * n) ++ t.c.drop (k * n), Fx.In z := Ly.mid_in HDi.out Ht.out.num
    have hc1 := fun (V : World) (hV : Later wr V) => dense_line S bt ot c d t m n k V (Ht.out.later (hJ.later.trans hV)) (by have := Hl2.out; omega) Hn0.out Htc.out hlt hn1 Hmn.out
    have hc3 := fun (V : World) (hV : Later wr V) => (show Calls Tryz.prog 53 #[.agg #[.slice (some ⟨g0, 0, none⟩) t.s.length t.s.length, .slice (some ⟨h0, 0, none⟩) t.c.length t.c.length], .int .i64 k] V fun e w' => e = .returned (.slice (some ⟨h0, k * n, none⟩) n n) ∧ Below V.heap.size V w' from by
     have := dense_line (some ⟨g0, 0, none⟩) h0 0 t.s.length (DW.take (k * n) ++ t.c.drop (k * n)).length ⟨t.s, DW.take (k * n) ++ t.c.drop (k * n)⟩ m n k V ((hJ.to hV).wt (by omega) (by omega) hmi) (by have := Hl2.out; show 2 ≤ t.s.length; omega) Hn0.out (hml.trans Htc.out) hlt hn1 Hmn.out
     simp only [hml, Nat.zero_add] at this
     exact this)
    have a0 : wr.cell? ⟨w.heap.size, 0, none⟩ = some (.slice S t.s.length c) := by rw [hJ.kw.cell]; rfl
    have a1 : wr.cell? ⟨w.heap.size, 1, none⟩ = some (.slice (some ⟨bt, ot, none⟩) t.c.length d) := by rw [hJ.kw.cell]; rfl
    have e0 : wr.cell? ⟨tb, 0, none⟩ = some (.slice (some ⟨g0, 0, none⟩) t.s.length t.s.length) := by rw [hJ.ke.cell]; rfl
    have e1 : wr.cell? ⟨tb, 1, none⟩ = some (.slice (some ⟨h0, 0, none⟩) t.c.length t.c.length) := by rw [hJ.ke.cell]; rfl
    have kk1 : (k : Int) < (g.c.length : Int) := by have := Hgl.out; omega
    clear hml
    have HJ := Lib.hid hJ
    have Hc1 := Lib.hid hc1
    have Hc3 := Lib.hid hc3
    have Hmi := Lib.hid hmi
    clear hJ hc1 hc3 hmi
    go_wp2_with fail
    have KF := Lib.hid (show ∀ Xw, Later wr Xw → Xw.cell? ⟨w.heap.size, 0, none⟩ = some (.slice S t.s.length c) ∧ Xw.cell? ⟨w.heap.size, 1, none⟩ = some (.slice (some ⟨bt, ot, none⟩) t.c.length d) ∧ Xw.cell? ⟨tb, 0, none⟩ = some (.slice (some ⟨g0, 0, none⟩) t.s.length t.s.length) ∧ Xw.cell? ⟨tb, 1, none⟩ = some (.slice (some ⟨h0, 0, none⟩) t.c.length t.c.length) from fun Xw h => ⟨h.cell a0, h.cell a1, h.cell e0, h.cell e1⟩)
    refine wp_region_noPanic ?_
    refine wp_region_held_drew (S := fun Xw => Xw.cell? ⟨w.heap.size, 0, none⟩ = some (.slice S t.s.length c) ∧ Xw.cell? ⟨w.heap.size, 1, none⟩ = some (.slice (some ⟨bt, ot, none⟩) t.c.length d) ∧ Xw.cell? ⟨tb, 0, none⟩ = some (.slice (some ⟨g0, 0, none⟩) t.s.length t.s.length) ∧ Xw.cell? ⟨tb, 1, none⟩ = some (.slice (some ⟨h0, 0, none⟩) t.c.length t.c.length)) (by kernel_rfl) (KF.out _ Later.au) (fun hHeld => ?_)
    refine tk 0 ?_
    refine tk 1 ?_
    refine tk 3 ?_
    refine tk 4 ?_
    refine tk 5 ?_
    refine rd 2 fun K hK => ?_
    simp only [ga, gs, gz]
    go_simp
    go_at_call 53; (with_reducible refine (Hc1.out _ (Later.au : Later wr _)).mono ?_); rintro e wa ⟨rfl, hba⟩
    try go_wp2_with fail
    refine hK.out _ _ (KF.out _ Later.au) (fun hHeld => ?_)
    clear hK K
    try simp only [ga, gs, gz, Act.put, sa, sz, ss]
    refine rd 6 fun K hK => ?_
    simp only [ga, gs, gz]
    go_simp
    go_at_call 53; (with_reducible refine (Hc3.out _ (Later.au : Later wr _)).mono ?_); rintro e wb ⟨rfl, hbb⟩
    try go_wp2_with fail
    refine hK.out _ _ (KF.out _ Later.au) (fun hHeld => ?_)
    clear hK K
    try simp only [ga, gs, gz, Act.put, sa, sz, ss]
    refine tk 7 ?_
    refine tk 8 ?_
    clear KF
    refine wpAnyH_done (by kernel_rfl) ?_ _
    refine NoPanic.normal ?_
    have hwb : Later wr wb := (Later.au : Later wr wb)
    have hJb := HJ.out.to hwb
    have x1 : wb.cell? ⟨w.heap.size + 2, 1, none⟩ = some (.slice (some ⟨bx, ox, none⟩) x.c.length d2) := by rw [hJb.kx.cell]; rfl
    have hkx : (k + 1) * n = k * n + n := Nat.succ_mul k n
    obtain ⟨p, hp⟩ : ∃ p, p = k * n := ⟨_, rfl⟩
    have hpk : p + n ≤ t.c.length := by have := Htc.out; omega
    rw [← hp] at hJb hkx ⊢
    have hDp : ∀ j, j < n → Ly.at_ DW (p + j) = Fx.mul (Ly.at_ g.c k) (Ly.at_ x.c j) := fun j hj => by rw [hp]; exact HDa.out k j hlt hj
    have hXp : ∀ j, j < n → Ly.at_ (Ly.denseX t.c g.c x.c (k + 1)) j = Fx.add (Ly.at_ (Ly.denseX t.c g.c x.c k) j) (Fx.mul (Ly.at_ t.c (p + j)) (Ly.at_ g.c k)) := fun j hj => by
     have := Ly.denseX_at t.c g.c x.c (i := k) (j := j) (by have := Hxl.out; omega)
     rw [this, Hxl.out, hp]
    have hXl0 : (Ly.denseX t.c g.c x.c k).length = n := by rw [Ly.denseX_len]; exact Hxl.out
    have hXl1 : (Ly.denseX t.c g.c x.c (k + 1)).length = n := by rw [Ly.denseX_len]; exact Hxl.out
    have hXi0 := Ly.denseX_in t.c g.c x.c k
    have hgin := Ly.at_in Hg.out.num k
    generalize hX0 : Ly.denseX t.c g.c x.c k = X0 at *
    generalize hX1 : Ly.denseX t.c g.c x.c (k + 1) = X1 at *
    generalize Ly.at_ g.c k = gk at *
    have hI0 : DbI w tb g0 h0 g1 h1 g2 h2 #[.slice S t.s.length c, .slice (some ⟨bt, ot, none⟩) t.c.length d] #[.slice S2 x.s.length c2, .slice (some ⟨bx, ox, none⟩) x.c.length d2] #[.slice GS g.s.length gc, .slice (some ⟨bg, og, none⟩) g.c.length gd] #[.slice (some ⟨g0, 0, none⟩) t.s.length t.s.length, .slice (some ⟨h0, 0, none⟩) t.c.length t.c.length, .slice (some ⟨g1, 0, none⟩) g.s.length g.s.length, .slice (some ⟨h1, 0, none⟩) g.c.length g.c.length, .slice (some ⟨g2, 0, none⟩) x.s.length x.s.length, .slice (some ⟨h2, 0, none⟩) x.c.length x.c.length] t.s g.s x.s g.c (DW.take (p + 0) ++ t.c.drop (p + 0)) (X1.take 0 ++ X0.drop 0) wb := by simpa using hJb
    clear a0 a1 e0 e1 hp hba hbb hHeld HJ Hc1 Hc3 Hmi hwb hJb hc2 hkn hX0
    have HI0 := Lib.hid hI0
    have Hkx := Lib.hid hkx
    have Hpk := Lib.hid hpk
    have HDp := Lib.hid hDp
    have HXp := Lib.hid hXp
    have HXl0 := Lib.hid hXl0
    have HXl1 := Lib.hid hXl1
    have HXi0 := Lib.hid hXi0
    have Hgin := Lib.hid hgin
    have HX1 := Lib.hid hX1
    clear hI0 hkx hpk hDp hXp hXl0 hXl1 hXi0 hgin hX1
    go_wp2_with fail
    clear x1
    go_loopw [64] (fun i wx => ∃ j : Nat, j ≤ n ∧ i = .int .i64 (j : Int) ∧ DbI w tb g0 h0 g1 h1 g2 h2 #[.slice S t.s.length c, .slice (some ⟨bt, ot, none⟩) t.c.length d] #[.slice S2 x.s.length c2, .slice (some ⟨bx, ox, none⟩) x.c.length d2] #[.slice GS g.s.length gc, .slice (some ⟨bg, og, none⟩) g.c.length gd] #[.slice (some ⟨g0, 0, none⟩) t.s.length t.s.length, .slice (some ⟨h0, 0, none⟩) t.c.length t.c.length, .slice (some ⟨g1, 0, none⟩) g.s.length g.s.length, .slice (some ⟨h1, 0, none⟩) g.c.length g.c.length, .slice (some ⟨g2, 0, none⟩) x.s.length x.s.length, .slice (some ⟨h2, 0, none⟩) x.c.length x.c.length] t.s g.s x.s g.c (DW.take (p + j) ++ t.c.drop (p + j)) (X1.take j ++ X0.drop j) wx) (fun i _ => n - (intOf i).toNat)
    case atStart => exact ⟨0, Nat.zero_le _, rfl, HI0.out⟩
    case round =>
     obtain ⟨j, hj, rfl, hQ⟩ := hrel
     clear HI0
     by_cases hjt : j < n
     ·have hpj := Hpk.out
      obtain ⟨b', o', e', -, xj⟩ := (Hx.out.later hQ.later).cell (k := j) (by have := Hxl.out; omega)
      injection e' with e'; injection e' with e1 e2; subst e1 e2
      obtain ⟨b', o', e', -, tj⟩ := (Ht.out.later hQ.later).cell (k := p + j) (by omega)
      injection e' with e'; injection e' with e1 e2; subst e1 e2
      have hml : (DW.take (p + j) ++ t.c.drop (p + j)).length = t.c.length := by rw [Ly.mid_len DW t.c (p + j) (by rw [HDl.out]; omega) HDl.out, HDl.out]
      have hput := Ly.mid_put' DW t.c (k := p + j) (by rw [HDl.out]; omega) HDl.out
      rw [HDp.out j hjt] at hput
      have hxat := Ly.mid_at2 X1 X0 (k := j) (by rw [HXl1.out]; exact hjt) (HXl1.out.trans HXl0.out.symm)
      have hxml : (X1.take j ++ X0.drop j).length = n := by rw [Ly.mid_len X1 X0 j (by rw [HXl1.out]; omega) (HXl1.out.trans HXl0.out.symm), HXl1.out]
      have hxput := Ly.mid_put' X1 X0 (k := j) (by rw [HXl1.out]; exact hjt) (HXl1.out.trans HXl0.out.symm)
      rw [HXp.out j hjt] at hxput
      obtain ⟨wu, hwu⟩ : ∃ u, wr.cell? ⟨h0, p + j, none⟩ = some u := ⟨_, hQ.H0.row_get (by rw [hml]; omega)⟩
      have hwf := hQ.H0.frozen (p + j)
      have hxc : wr.cell? ⟨h2, j, none⟩ = some (.int .i64 (Ly.at_ X0 j)) := by
       have := hQ.H2.row_get (k := j) (by rw [hxml]; exact hjt)
       rw [this, ← hxat, Ly.at_get (by rw [hxml]; exact hjt)]
      have hxin := Ly.at_in Hx.out.num j
      have htin := Ly.at_in Ht.out.num (p + j)
      have h0in := Ly.at_in HXi0.out j
      have hpj1 : p + (j + 1) = p + j + 1 := rfl
      rw [← hpj1] at hput
      obtain ⟨W1, hW1⟩ : ∃ W1, W1 = DW.take (p + (j + 1)) ++ t.c.drop (p + (j + 1)) := ⟨_, rfl⟩
      obtain ⟨Y1, hY1⟩ : ∃ Y1, Y1 = X1.take (j + 1) ++ X0.drop (j + 1) := ⟨_, rfl⟩
      rw [← hW1] at hput
      rw [← hY1] at hxput
      generalize DW.take (p + j) ++ t.c.drop (p + j) = W0 at *
      generalize X1.take j ++ X0.drop j = Y0 at *
      generalize Ly.at_ X0 j = xo at *
      generalize Ly.at_ x.c j = xv at *
      generalize Ly.at_ t.c (p + j) = tv at *
      have tj' : wr.cell? ⟨bt, ot + p + j, none⟩ = some (.int .i64 tv) := by rw [Nat.add_assoc]; exact tj
      have e5 : wr.cell? ⟨tb, 5, none⟩ = some (.slice (some ⟨h2, 0, none⟩) x.c.length x.c.length) := by rw [hQ.ke.cell]; rfl
      have hQ1 := hQ.putW (p + j) (Fx.mul gk xv)
      rw [hput] at hQ1
      have hne1 : h2 ≠ h0 := by have := hQ.lo; omega
      have hne2 : bt ≠ h0 := fun e => by
       have h5 := Ht.out.cell (k := 0) (by omega)
       obtain ⟨b', o', e', hl, -⟩ := h5
       injection e' with e'; injection e' with e1 e2; subst e1
       have := hQ.lo
       omega
      have hne3 : tb ≠ h0 := blk_ne hQ.ke hQ.H0 (by decide)
      have hne4 : tb ≠ h2 := blk_ne hQ.ke hQ.H2 (by decide)
      have hne5 : bt ≠ h2 := fun e => by
       have h5 := Ht.out.cell (k := 0) (by omega)
       obtain ⟨b', o', e', hl, -⟩ := h5
       injection e' with e'; injection e' with e1 e2; subst e1
       have := hQ.lo
       omega
      have jj1 : (j : Int) < (x.c.length : Int) := by have := Hxl.out; omega
      have jj2 : (j : Int) < (n : Int) := by omega
      have hm1 := fun (V : World) => fix_mul gk xv V Hgin.out hxin
      have hm2 := fun (V : World) => fix_mul tv gk V htin Hgin.out
      have ha := fun (V : World) => fix_add xo (Fx.mul tv gk) V h0in (Fx.mul_in _ _)
      clear tj hput hxat hxml hml hxin htin h0in hpj1
      have HQ := Lib.hid hQ
      have HQ1 := Lib.hid hQ1
      have Hxput := Lib.hid hxput
      have Hm1 := Lib.hid hm1
      have Hm2 := Lib.hid hm2
      have Ha := Lib.hid ha
      have HW1 := Lib.hid hW1
      have HY1 := Lib.hid hY1
      clear hQ hQ1 hxput hm1 hm2 ha hW1 hY1
      go_wp2_with fail
      refine (Hm1.out _).mono ?_
      rintro e w' ⟨rfl, rfl⟩
      go_wp2_with fail
      have hwq : wr.setCell ⟨h0, p + j, none⟩ (.int .i64 (Fx.mul gk xv)) = wr.setCell ⟨h0, p + j, none⟩ (.int .i64 (Fx.mul gk xv)) := rfl
      have tq : (wr.setCell ⟨h0, p + j, none⟩ (.int .i64 (Fx.mul gk xv))).cell? ⟨bt, ot + p + j, none⟩ = some (.int .i64 tv) := cell_setfar tj' hne2
      have xq : (wr.setCell ⟨h0, p + j, none⟩ (.int .i64 (Fx.mul gk xv))).cell? ⟨h2, j, none⟩ = some (.int .i64 xo) := cell_setfar hxc hne1
      have eq5 : (wr.setCell ⟨h0, p + j, none⟩ (.int .i64 (Fx.mul gk xv))).cell? ⟨tb, 5, none⟩ = some (.slice (some ⟨h2, 0, none⟩) x.c.length x.c.length) := cell_setfar e5 hne3
      clear hwq tj' hxc e5 wu hwu hwf xj
      generalize wr.setCell ⟨h0, p + j, none⟩ (.int .i64 (Fx.mul gk xv)) = wq at *
      have xf := HQ1.out.H2.frozen j
      have hQ2 := HQ1.out.putX j (Fx.add xo (Fx.mul tv gk))
      rw [Hxput.out, HW1.out, HY1.out] at hQ2
      have HQ2 := Lib.hid hQ2
      clear hQ2
      have KF := Lib.hid (show ∀ Xw, Later wq Xw → Xw.cell? ⟨bt, ot + p + j, none⟩ = some (.int .i64 tv) ∧ Xw.cell? ⟨tb, 5, none⟩ = some (.slice (some ⟨h2, 0, none⟩) x.c.length x.c.length) from fun Xw h => ⟨h.cell tq, h.cell eq5⟩)
      refine wp_region_noPanic ?_
      refine wp_region_held_drew (S := fun Xw => Xw.cell? ⟨bt, ot + p + j, none⟩ = some (.int .i64 tv) ∧ Xw.cell? ⟨tb, 5, none⟩ = some (.slice (some ⟨h2, 0, none⟩) x.c.length x.c.length)) (by kernel_rfl) (KF.out _ Later.au) (fun hHeld => ?_)
      refine tk 0 ?_
      refine tk 1 ?_
      refine tk 2 ?_
      refine tk 3 ?_
      refine tk 4 ?_
      refine tk 5 ?_
      refine tk 6 ?_
      refine tk 7 ?_
      refine tk 8 ?_
      refine tk 10 ?_
      refine tk 11 ?_
      refine tk 12 ?_
      refine tk 13 ?_
      refine tk 14 ?_
      refine wpAnyH_ready (rs := [9, 15]) (by kernel_rfl) (by simp) ?_
      refine AllReadyH.cons (o := _) rfl (fun K hK => ?_) (AllReadyH.cons (o := _) rfl (fun K hK => ?_) (AllReadyH.nil))
      ·simp only [ga, gs, gz]
       go_simp
       refine hK.out _ _ (KF.out _ Later.au) (fun hHeld => ?_)
       clear hK K
       try simp only [ga, gs, gz, Act.put, sa, sz, ss]
       refine rd 15 fun K hK => ?_
       simp only [ga, gs, gz]
       go_simp
       go_at_call 54; (with_reducible refine (Hm2.out _).mono ?_); rintro e wb ⟨rfl, rfl⟩
       try go_wp2_with fail
       refine hK.out _ _ (KF.out _ Later.au) (fun hHeld => ?_)
       clear hK K
       try simp only [ga, gs, gz, Act.put, sa, sz, ss]
       refine rd 16 fun K hK => ?_
       simp only [ga, gs, gz]
       go_simp
       go_at_call 55; (with_reducible refine (Ha.out _).mono ?_); rintro e wc ⟨rfl, rfl⟩
       try go_wp2_with fail
       refine hK.out _ _ (KF.out _ Later.au) (fun hHeld => ?_)
       clear hK K
       try simp only [ga, gs, gz, Act.put, sa, sz, ss]
       refine tk 17 ?_
       refine rd 18 fun K hK => ?_
       simp only [ga, gs, gz]
       go_simp
       refine hK.out _ _ ?_ (fun hHeld => ?_)
       ·(try dsimp only); (refine ⟨?_, ?_⟩ <;> (repeat (refine cell_setfar ?_ (by first | omega | (simp; done) | (simp; omega)))) <;> (refine Later.cell (Later.au : Later wq _) ?_) <;> assumption)
       clear hK K
       try simp only [ga, gs, gz, Act.put, sa, sz, ss]
       clear KF
       refine wpAnyH_done (by kernel_rfl) ?_ _
       refine NoPanic.normal ?_
       clear hHeld tq xq eq5 xf
       go_wp2_with fail
       go_roundw
       case rel => exact ⟨j + 1, by omega, by go_num, HQ2.out.to Later.au⟩
       case measure => simp [intOf]; omega
      ·simp only [ga, gs, gz]
       go_simp
       go_at_call 54; (with_reducible refine (Hm2.out _).mono ?_); rintro e wb ⟨rfl, rfl⟩
       try go_wp2_with fail
       refine hK.out _ _ (KF.out _ Later.au) (fun hHeld => ?_)
       clear hK K
       try simp only [ga, gs, gz, Act.put, sa, sz, ss]
       refine rd 9 fun K hK => ?_
       simp only [ga, gs, gz]
       go_simp
       refine hK.out _ _ (KF.out _ Later.au) (fun hHeld => ?_)
       clear hK K
       try simp only [ga, gs, gz, Act.put, sa, sz, ss]
       refine rd 16 fun K hK => ?_
       simp only [ga, gs, gz]
       go_simp
       go_at_call 55; (with_reducible refine (Ha.out _).mono ?_); rintro e wc ⟨rfl, rfl⟩
       try go_wp2_with fail
       refine hK.out _ _ (KF.out _ Later.au) (fun hHeld => ?_)
       clear hK K
       try simp only [ga, gs, gz, Act.put, sa, sz, ss]
       refine tk 17 ?_
       refine rd 18 fun K hK => ?_
       simp only [ga, gs, gz]
       go_simp
       refine hK.out _ _ ?_ (fun hHeld => ?_)
       ·(try dsimp only); (refine ⟨?_, ?_⟩ <;> (repeat (refine cell_setfar ?_ (by first | omega | (simp; done) | (simp; omega)))) <;> (refine Later.cell (Later.au : Later wq _) ?_) <;> assumption)
       clear hK K
       try simp only [ga, gs, gz, Act.put, sa, sz, ss]
       clear KF
       refine wpAnyH_done (by kernel_rfl) ?_ _
       refine NoPanic.normal ?_
       clear hHeld tq xq eq5 xf
       go_wp2_with fail
       go_roundw
       case rel => exact ⟨j + 1, by omega, by go_num, HQ2.out.to Later.au⟩
       case measure => simp [intOf]; omega
     ·obtain rfl : j = n := by omega
      have hxe := Ly.mid_end X1 X0 j HXl1.out.symm (HXl1.out.trans HXl0.out.symm)
      rw [hxe, ← Hkx.out, ← HX1.out] at hQ
      have kk3 : ¬ (j : Int) < (x.c.length : Int) := by have := Hxl.out; omega
      clear hxe
      have HQ := Lib.hid hQ
      clear hQ
      go_wp2_with fail
      go_roundw
      case rel => exact ⟨k + 1, by omega, by go_num, HQ.out⟩
      case measure => simp [intOf]; omega
   ·obtain rfl : k = m := by omega
    have hme := Ly.mid_end DW t.c (k * n) (by rw [HDl.out, Htc.out]) HDl.out
    rw [hme] at hJ
    have hXl := Ly.denseX_len t.c g.c x.c k
    have hXi := Ly.denseX_in t.c g.c x.c k
    have hE2 := HE.out
    rw [Hgl.out] at hE2
    generalize Ly.denseX t.c g.c x.c k = XX at *
    obtain ⟨e0, e1, e2, e3, e4, e5, -⟩ := six_facts hJ.ke
    obtain ⟨c0, c1, c2, c3, c4, c5, f0, f1, f2, f3, f4, f5⟩ := six_facts hJ.kz
    obtain ⟨d0, d1, d2, d3, d4, d5, -⟩ := six_facts (six_blk (u0 := .slice (some ⟨g0, 0, none⟩) t.s.length t.s.length) (u1 := .slice (some ⟨h0, 0, none⟩) t.c.length t.c.length) (u2 := .slice (some ⟨g1, 0, none⟩) g.s.length g.s.length) (u3 := .slice (some ⟨h1, 0, none⟩) g.c.length g.c.length) (u4 := .slice (some ⟨g2, 0, none⟩) x.s.length x.s.length) (u5 := .slice (some ⟨h2, 0, none⟩) x.c.length x.c.length) hJ.kz)
    unfold six at d0 d1 d2 d3 d4 d5
    have kk2 : ¬ (k : Int) < (g.c.length : Int) := by have := Hgl.out; omega
    clear hme
    have HJ := Lib.hid hJ
    have HXl := Lib.hid hXl
    have HXi := Lib.hid hXi
    have HE2 := Lib.hid hE2
    clear hJ hXl hXi hE2
    go_wp2_with fail
    refine bodyPost_ret (v := .tuple #[.agg #[.slice (some ⟨g0, 0, none⟩) t.s.length t.s.length, .slice (some ⟨h0, 0, none⟩) t.c.length t.c.length, .slice (some ⟨g1, 0, none⟩) g.s.length g.s.length, .slice (some ⟨h1, 0, none⟩) g.c.length g.c.length, .slice (some ⟨g2, 0, none⟩) x.s.length x.s.length, .slice (some ⟨h2, 0, none⟩) x.c.length x.c.length], .int .i64 0]) (by simp [results, Tryz.results12, go_sem, d0, d1, d2, d3, d4, d5]) rfl ?_
    exact HJ.out.done HE2.out HDl.out rfl HXl.out ⟨by omega, by omega, by omega, by rw [HDl.out]; omega, by omega, by rw [HXl.out]; omega⟩ HDi.out Hg.out.num HXi.out _ _ _ _ _ _
end Go.Proofs.YtbnnpkcfifejmaaGreat
namespace Go.Proofs.YtbnnpkcfifejmaaGreat
open Go.RowKit
def four (u0 u1 u2 u3 : Value) (tb : Nat) (w : World) : World := (((w.setCell ⟨tb, 0, none⟩ u0).setCell ⟨tb, 1, none⟩ u1).setCell ⟨tb, 2, none⟩ u2).setCell ⟨tb, 3, none⟩ u3
theorem four_else (u0 u1 u2 u3 : Value) (tb : Nat) (w : World) : Else tb w (four u0 u1 u2 u3 tb w) := ((((Else.refl tb w).setCell 0 u0).setCell 1 u1).setCell 2 u2).setCell 3 u3
theorem four_blk {u0 u1 u2 u3 v0 v1 v2 v3 : Value} {tb : Nat} {T : TypeId} {w : World} (h : Blk w tb T #[v0, v1, v2, v3]) : Blk (four u0 u1 u2 u3 tb w) tb T #[u0, u1, u2, u3] := by
 have := (((h.set_ 0 u0).set_ 1 u1).set_ 2 u2).set_ 3 u3
 simpa [four] using this
theorem four_facts {w : World} {p : Nat} {T : TypeId} {v0 v1 v2 v3 : Value} (h : Blk w p T #[v0, v1, v2, v3]) : w.cell? ⟨p, 0, none⟩ = some v0 ∧ w.cell? ⟨p, 1, none⟩ = some v1 ∧ w.cell? ⟨p, 2, none⟩ = some v2 ∧ w.cell? ⟨p, 3, none⟩ = some v3 ∧
  w.frozen? ⟨p, 0, none⟩ = false ∧ w.frozen? ⟨p, 1, none⟩ = false ∧ w.frozen? ⟨p, 2, none⟩ = false ∧ w.frozen? ⟨p, 3, none⟩ = false :=
 ⟨h.cell 0, h.cell 1, h.cell 2, h.cell 3, h.frozen 0, h.frozen 1, h.frozen 2, h.frozen 3⟩
theorem four_later {w W : World} {p : Nat} (h : Later w W) (hp : w.heap.size ≤ p) (u0 u1 u2 u3 : Value) : Later w (four u0 u1 u2 u3 p W) := (four_else u0 u1 u2 u3 p W).below h hp
theorem GoC.fail {n : Int} {r : (Ten × Ten) × Int} {w w' : World} (hr : r = ((Ly.none_, Ly.none_), n)) (hn : n ≠ 0) (hb : Below w.heap.size w w') : GoC r w (.returned (.tuple #[.agg #[.slice none 0 0, .slice none 0 0, .slice none 0 0, .slice none 0 0], .int .i64 n])) w' := by
 subst hr; exact ⟨.inl ⟨hn, rfl⟩, hb⟩
namespace Ly
theorem convW_push (g x : List Int) (ts : List Touch) (t : Touch) (n : Nat) : convW g x (ts ++ [t]) n = addAt (convW g x ts n) t.w (Fx.mul (at_ g t.o) (at_ x t.x)) := by unfold convW; rw [List.foldl_append]; rfl
theorem convX_push (g w : List Int) (ts : List Touch) (t : Touch) (n : Nat) : convX g w (ts ++ [t]) n = addAt (convX g w ts n) t.x (Fx.mul (at_ g t.o) (at_ w t.w)) := by unfold convX; rw [List.foldl_append]; rfl
theorem convW_facts' (g x : List Int) (n : Nat) : ∀ ts : List Touch, (convW g x ts.reverse n).length = n ∧ ∀ z ∈ convW g x ts.reverse n, Fx.In z
 | [] => ⟨by simp [convW, zeros], fun z hz => by simp [convW, zeros] at hz; rw [hz.2]; exact Fx.in_zero⟩
 | t :: r => by
  obtain ⟨h1, h2⟩ := convW_facts' g x n r
  rw [List.reverse_cons, convW_push]
  exact ⟨by rw [addAt_len, h1], addAt_in h2 (Fx.mul_in _ _)⟩
theorem convW_facts (g x : List Int) (n : Nat) (ts : List Touch) : (convW g x ts n).length = n ∧ ∀ z ∈ convW g x ts n, Fx.In z := by have := convW_facts' g x n ts.reverse; rwa [List.reverse_reverse] at this
theorem convX_facts' (g w : List Int) (n : Nat) : ∀ ts : List Touch, (convX g w ts.reverse n).length = n ∧ ∀ z ∈ convX g w ts.reverse n, Fx.In z
 | [] => ⟨by simp [convX, zeros], fun z hz => by simp [convX, zeros] at hz; rw [hz.2]; exact Fx.in_zero⟩
 | t :: r => by
  obtain ⟨h1, h2⟩ := convX_facts' g w n r
  rw [List.reverse_cons, convX_push]
  exact ⟨by rw [addAt_len, h1], addAt_in h2 (Fx.mul_in _ _)⟩
theorem convX_facts (g w : List Int) (n : Nat) (ts : List Touch) : (convX g w ts n).length = n ∧ ∀ z ∈ convX g w ts n, Fx.In z := by have := convX_facts' g w n ts.reverse; rwa [List.reverse_reverse] at this
end Ly
structure CbI (w : World) (tb ga gb g0 h0 g2 h2 : Nat) (bw bx bg be va vb : Array Value) (sw sx W X : List Int) (wx : World) : Prop where
 kw : Blk wx w.heap.size 30 bw
 kx : Blk wx (w.heap.size + 1) 30 bx
 kg : Blk wx (w.heap.size + 2) 30 bg
 kz : Blk wx (w.heap.size + 3) 46 #[.slice none 0 0, .slice none 0 0, .slice none 0 0, .slice none 0 0]
 ke : Blk wx tb 46 be
 ka : Blk wx ga 28 va
 kb : Blk wx gb 28 vb
 G0 : Blk wx g0 3 (sw.map (Value.int .i64)).toArray
 H0 : Blk wx h0 22 (W.map (Value.int .i64)).toArray
 G2 : Blk wx g2 3 (sx.map (Value.int .i64)).toArray
 H2 : Blk wx h2 22 (X.map (Value.int .i64)).toArray
 lo : w.heap.size ≤ g0 ∧ w.heap.size ≤ g2 ∧ w.heap.size + 3 < tb ∧ w.heap.size ≤ h0 ∧ h0 < h2
 later : Later w wx
theorem CbI.of {w wx : World} {tb ga gb g0 h0 g2 h2 : Nat} {bw bx bg be va vb : Array Value} {sw sx W X : List Int} {wy : World} {N : Nat} (H : CbI w tb ga gb g0 h0 g2 h2 bw bx bg be va vb sw sx W X wx) (hk : ∀ k, k < N → wy.heap[k]? = wx.heap[k]?) {W7 X7 : List Int} {w7 : World} (H7 : CbI w tb ga gb g0 h0 g2 h2 bw bx bg be va vb sw sx W7 X7 w7) (hN : w7.heap.size ≤ N) (hl : Later w wy) : CbI w tb ga gb g0 h0 g2 h2 bw bx bg be va vb sw sx W X wy :=
 ⟨(hk _ (Nat.lt_of_lt_of_le H7.kw.lt hN)).trans H.kw, (hk _ (Nat.lt_of_lt_of_le H7.kx.lt hN)).trans H.kx, (hk _ (Nat.lt_of_lt_of_le H7.kg.lt hN)).trans H.kg, (hk _ (Nat.lt_of_lt_of_le H7.kz.lt hN)).trans H.kz, (hk _ (Nat.lt_of_lt_of_le H7.ke.lt hN)).trans H.ke, (hk _ (Nat.lt_of_lt_of_le H7.ka.lt hN)).trans H.ka, (hk _ (Nat.lt_of_lt_of_le H7.kb.lt hN)).trans H.kb, (hk _ (Nat.lt_of_lt_of_le H7.G0.lt hN)).trans H.G0, (hk _ (Nat.lt_of_lt_of_le H7.H0.lt hN)).trans H.H0, (hk _ (Nat.lt_of_lt_of_le H7.G2.lt hN)).trans H.G2, (hk _ (Nat.lt_of_lt_of_le H7.H2.lt hN)).trans H.H2, H.lo, hl⟩
theorem CbI.to {w wx : World} {tb ga gb g0 h0 g2 h2 : Nat} {bw bx bg be va vb : Array Value} {sw sx W X : List Int} {wy : World} (H : CbI w tb ga gb g0 h0 g2 h2 bw bx bg be va vb sw sx W X wx) (hl : Later wx wy) : CbI w tb ga gb g0 h0 g2 h2 bw bx bg be va vb sw sx W X wy := H.of (N := wx.heap.size) (fun k hk => hl.block k hk) H (Nat.le_refl _) (H.later.trans hl)
theorem CbI.elseW {w wx : World} {tb ga gb g0 h0 g2 h2 : Nat} {bw bx bg be va vb : Array Value} {sw sx W X : List Int} {wy : World} {W' : List Int} (H : CbI w tb ga gb g0 h0 g2 h2 bw bx bg be va vb sw sx W X wx) (hE : Else h0 wx wy) (hb : Blk wy h0 22 (W'.map (Value.int .i64)).toArray) : CbI w tb ga gb g0 h0 g2 h2 bw bx bg be va vb sw sx W' X wy := by
 obtain ⟨l0, l2, l3, l4, l5⟩ := H.lo
 exact ⟨hE.blk (blk_ne H.kw H.H0 (by decide)) H.kw, hE.blk (blk_ne H.kx H.H0 (by decide)) H.kx, hE.blk (blk_ne H.kg H.H0 (by decide)) H.kg, hE.blk (blk_ne H.kz H.H0 (by decide)) H.kz, hE.blk (blk_ne H.ke H.H0 (by decide)) H.ke, hE.blk (blk_ne H.ka H.H0 (by decide)) H.ka, hE.blk (blk_ne H.kb H.H0 (by decide)) H.kb, hE.blk (blk_ne H.G0 H.H0 (by decide)) H.G0, hb, hE.blk (blk_ne H.G2 H.H0 (by decide)) H.G2, hE.blk (by omega) H.H2, H.lo, hE.below H.later (by omega)⟩
theorem CbI.elseX {w wx : World} {tb ga gb g0 h0 g2 h2 : Nat} {bw bx bg be va vb : Array Value} {sw sx W X : List Int} {wy : World} {X' : List Int} (H : CbI w tb ga gb g0 h0 g2 h2 bw bx bg be va vb sw sx W X wx) (hE : Else h2 wx wy) (hb : Blk wy h2 22 (X'.map (Value.int .i64)).toArray) : CbI w tb ga gb g0 h0 g2 h2 bw bx bg be va vb sw sx W X' wy := by
 obtain ⟨l0, l2, l3, l4, l5⟩ := H.lo
 exact ⟨hE.blk (blk_ne H.kw H.H2 (by decide)) H.kw, hE.blk (blk_ne H.kx H.H2 (by decide)) H.kx, hE.blk (blk_ne H.kg H.H2 (by decide)) H.kg, hE.blk (blk_ne H.kz H.H2 (by decide)) H.kz, hE.blk (blk_ne H.ke H.H2 (by decide)) H.ke, hE.blk (blk_ne H.ka H.H2 (by decide)) H.ka, hE.blk (blk_ne H.kb H.H2 (by decide)) H.kb, hE.blk (blk_ne H.G0 H.H2 (by decide)) H.G0, hE.blk (by omega) H.H0, hE.blk (blk_ne H.G2 H.H2 (by decide)) H.G2, hb, H.lo, hE.below H.later (by omega)⟩
theorem CbI.putW {w wx : World} {tb ga gb g0 h0 g2 h2 : Nat} {bw bx bg be va vb : Array Value} {sw sx W X : List Int} (H : CbI w tb ga gb g0 h0 g2 h2 bw bx bg be va vb sw sx W X wx) (k : Nat) (z : Int) : CbI w tb ga gb g0 h0 g2 h2 bw bx bg be va vb sw sx (W.set k z) X (wx.setCell ⟨h0, k, none⟩ (.int .i64 z)) :=
 H.elseW ((Else.refl _ _).setCell k _) (by have := H.H0.set_ k (.int .i64 z); rw [List.map_set]; simpa using this)
theorem CbI.putX {w wx : World} {tb ga gb g0 h0 g2 h2 : Nat} {bw bx bg be va vb : Array Value} {sw sx W X : List Int} (H : CbI w tb ga gb g0 h0 g2 h2 bw bx bg be va vb sw sx W X wx) (k : Nat) (z : Int) : CbI w tb ga gb g0 h0 g2 h2 bw bx bg be va vb sw sx W (X.set k z) (wx.setCell ⟨h2, k, none⟩ (.int .i64 z)) :=
 H.elseX ((Else.refl _ _).setCell k _) (by have := H.H2.set_ k (.int .i64 z); rw [List.map_set]; simpa using this)
def CbCut (w : World) (t x : Ten) (w4 : World) (a : Value) (wx : World) : Prop :=
 ∃ tb g0 h0 g2 h2, a = .pointer (some ⟨tb, 0, none⟩) ∧ Blk wx tb 46 #[.slice (some ⟨g0, 0, none⟩) t.s.length t.s.length, .slice (some ⟨h0, 0, none⟩) t.c.length t.c.length, .slice (some ⟨g2, 0, none⟩) x.s.length x.s.length, .slice (some ⟨h2, 0, none⟩) x.c.length x.c.length] ∧
  Blk wx g0 3 (t.s.map (Value.int .i64)).toArray ∧ Blk wx h0 22 (t.c.map (Value.int .i64)).toArray ∧ Blk wx g2 3 (x.s.map (Value.int .i64)).toArray ∧ Blk wx h2 22 (x.c.map (Value.int .i64)).toArray ∧
  w4.heap.size ≤ g0 ∧ w4.heap.size ≤ g2 ∧ w4.heap.size ≤ tb ∧ w4.heap.size ≤ h0 ∧ h0 < h2 ∧ Later w4 wx
theorem cb_mk {w w4 wa wc : World} {tb g0 h0 g2 h2 : Nat} {t x : Ten} (l1 : Later w4 wa) (l2 : Later wa wc) (G0 : Blk wa g0 3 (t.s.map (Value.int .i64)).toArray) (H0 : Blk wa h0 22 (t.c.map (Value.int .i64)).toArray) (G2 : Blk wc g2 3 (x.s.map (Value.int .i64)).toArray) (H2 : Blk wc h2 22 (x.c.map (Value.int .i64)).toArray)
  (ke : Blk wc tb 46 #[.slice (some ⟨g0, 0, none⟩) t.s.length t.s.length, .slice (some ⟨h0, 0, none⟩) t.c.length t.c.length, .slice (some ⟨g2, 0, none⟩) x.s.length x.s.length, .slice (some ⟨h2, 0, none⟩) x.c.length x.c.length])
  (q0 : w4.heap.size ≤ g0 ∧ w4.heap.size ≤ h0) (q2 : wa.heap.size ≤ g2 ∧ wa.heap.size ≤ h2) (q3 : w4.heap.size ≤ tb) : CbCut w t x w4 (.pointer (some ⟨tb, 0, none⟩)) wc := by
 have s1 := l1.size
 have e0 := H0.lt
 exact ⟨tb, g0, h0, g2, h2, rfl, ke, l2.blk G0, l2.blk H0, G2, H2, by omega, by omega, q3, by omega, by omega, l1.trans l2⟩
theorem cb_st {w w4 wa wc : World} {tb g0 h0 g2 h2 : Nat} {v0 v1 v2 v3 : Value} {t x : Ten} (l1 : Later w4 wa) (l2 : Later wa wc) (G0 : Blk wa g0 3 (t.s.map (Value.int .i64)).toArray) (H0 : Blk wa h0 22 (t.c.map (Value.int .i64)).toArray) (G2 : Blk wc g2 3 (x.s.map (Value.int .i64)).toArray) (H2 : Blk wc h2 22 (x.c.map (Value.int .i64)).toArray)
  (ke : Blk wc tb 46 #[v0, v1, v2, v3]) (q0 : w4.heap.size ≤ g0 ∧ w4.heap.size ≤ h0) (q2 : wa.heap.size ≤ g2 ∧ wa.heap.size ≤ h2) (q3 : w4.heap.size ≤ tb) :
  CbCut w t x w4 (.pointer (some ⟨tb, 0, none⟩)) (four (.slice (some ⟨g0, 0, none⟩) t.s.length t.s.length) (.slice (some ⟨h0, 0, none⟩) t.c.length t.c.length) (.slice (some ⟨g2, 0, none⟩) x.s.length x.s.length) (.slice (some ⟨h2, 0, none⟩) x.c.length x.c.length) tb wc) := by
 have hE := four_else (.slice (some ⟨g0, 0, none⟩) t.s.length t.s.length) (.slice (some ⟨h0, 0, none⟩) t.c.length t.c.length) (.slice (some ⟨g2, 0, none⟩) x.s.length x.s.length) (.slice (some ⟨h2, 0, none⟩) x.c.length x.c.length) tb wc
 have s1 := l1.size
 have e0 := H0.lt
 have G0' := l2.blk G0
 have H0' := l2.blk H0
 exact ⟨tb, g0, h0, g2, h2, rfl, four_blk ke, hE.blk (blk_ne G0' ke (by decide)) G0', hE.blk (blk_ne H0' ke (by decide)) H0', hE.blk (blk_ne G2 ke (by decide)) G2, hE.blk (blk_ne H2 ke (by decide)) H2, by omega, by omega, q3, by omega, by omega, hE.below (l1.trans l2) (by omega)⟩
def CbCut2 (h0 n0 h2 n2 : Nat) (w9 : World) (a b : Value) (wx : World) : Prop :=
 ∃ ga gb, a = .pointer (some ⟨ga, 0, none⟩) ∧ b = .pointer (some ⟨gb, 0, none⟩) ∧ Blk wx ga 28 #[.slice (some ⟨h0, 0, none⟩) n0 n0] ∧ Blk wx gb 28 #[.slice (some ⟨h2, 0, none⟩) n2 n2] ∧ Later w9 wx
end Go.Proofs.YtbnnpkcfifejmaaGreat
namespace Go.Proofs.YtbnnpkcfifejmaaGreat
open Go.RowKit
set_option maxHeartbeats 16000000 in
set_option maxRecDepth 20000 in
theorem conv_back (S C S' C' GS GC : Option Addr) (c d c' d' gc gd : Nat) (t x g : Ten) (step : Int) (w : World) (ht : TenIn w S C c d t) (hx : TenIn w S' C' c' d' x) (hg : TenIn w GS GC gc gd g) :
  Calls Tryz.prog 13 #[.agg #[.slice S t.s.length c, .slice C t.c.length d], .agg #[.slice S' x.s.length c', .slice C' x.c.length d'], .agg #[.slice GS g.s.length gc, .slice GC g.c.length gd], .int .i64 step] w (GoC (Ly.convBack t x g step) w) := by
 obtain ⟨hk0, hk1, hk2, hz, h01⟩ := four_boxes w 30 30 30 46 #[.slice S t.s.length c, .slice C t.c.length d] #[.slice S' x.s.length c', .slice C' x.c.length d'] #[.slice GS g.s.length gc, .slice GC g.c.length gd] #[.slice none 0 0, .slice none 0 0, .slice none 0 0, .slice none 0 0]
 have l1 := ht.l1
 have l5 := hx.s1
 have l6 := hx.s2
 have l2 := ht.l2
 have l3 := hx.l1
 have l4 := hx.l2
 have l7 := hg.l1
 have l8 := hg.l2
 have Hk0 := Lib.hid hk0
 have Hk1 := Lib.hid hk1
 have Hk2 := Lib.hid hk2
 have Hz := Lib.hid hz
 have H01 := Lib.hid h01
 have Ht := Lib.hid ht
 have Hx := Lib.hid hx
 have Hg := Lib.hid hg
 clear hk0 hk1 hk2 hz h01 ht hx hg
 refine callsIn_wide.1 (callsIn_of_wp_marks (n := 9) Tryz.func13 rfl trivial (wpIn_wide.2 ?_))
 simp only [Tryz.ntmps13, List.size_toArray, List.length_cons, List.length_nil, Nat.reduceAdd, Nat.reduceSub, Array.replicate_succ, Array.replicate_zero, List.push_toArray, List.append_toArray, List.nil_append, List.cons_append]
 go_upto_region 1 with fail
 generalize ((((w.alloc (.cells #[.slice S t.s.length c, .slice C t.c.length d] 30)).alloc (.cells #[.slice S' x.s.length c', .slice C' x.c.length d'] 30)).alloc (.cells #[.slice GS g.s.length gc, .slice GC g.c.length gd] 30)).alloc (.cells #[.slice none 0 0, .slice none 0 0, .slice none 0 0, .slice none 0 0] 46)) = w1 at *
 have a0 := Hk0.out.cell 0
 have a1 := Hk0.out.cell 1
 have b0 := Hk1.out.cell 0
 have b1 := Hk1.out.cell 1
 simp at a0 a1 b0 b1
 go_wp2_with fail
 refine (tensor_right S C c d t w1 (by omega) (by omega) (Ht.out.later H01.out).r.1).mono ?_
 rintro e w2 ⟨rfl, hb2⟩
 have h12 : Later w1 w2 := hb2
 have h02 := H01.out.trans h12
 have hz2 := h12.blk Hz.out
 have hka := h12.blk Hk0.out
 have hkb := h12.blk Hk1.out
 have hkc := h12.blk Hk2.out
 clear hb2 Hz H01 Hk0 Hk1 Hk2 h12 a0 a1 b0 b1
 cases hr : Tn.right t
 ·have HE := Lib.hid (show Ly.convBack t x g step = ((Ly.none_, Ly.none_), 20) by simp [Ly.convBack, Ly.convErr, hr])
  clear hr
  obtain ⟨c0, c1, c2, c3, f0, f1, f2, f3⟩ := four_facts hz2
  have H02 := Lib.hid h02
  have Hz2 := Lib.hid hz2
  have Hka := Lib.hid hka
  have Hkb := Lib.hid hkb
  have Hkc := Lib.hid hkc
  clear h02 hz2 hka hkb hkc
  go_wp2_with fail
  refine bodyPostM_ret (v := .tuple #[.agg #[.slice none 0 0, .slice none 0 0, .slice none 0 0, .slice none 0 0], .int .i64 20]) (by simp [results, Tryz.results13, go_sem, c0, c1, c2, c3]) rfl ?_
  exact GoC.fail HE.out (by decide) (four_later (p := w.heap.size + 3) H02.out (by omega) _ _ _ _)
 have b0 := hkb.cell 0
 have b1 := hkb.cell 1
 simp at b0 b1
 have H02 := Lib.hid h02
 have Hz2 := Lib.hid hz2
 have Hka := Lib.hid hka
 have Hkb := Lib.hid hkb
 have Hkc := Lib.hid hkc
 clear h02 hz2 hka hkb hkc
 go_wp2_with fail
 refine (tensor_right S' C' c' d' x w2 (by omega) (by omega) (Hx.out.later H02.out).r.1).mono ?_
 rintro e w3 ⟨rfl, hb3⟩
 have h23 : Later w2 w3 := hb3
 have h03 := H02.out.trans h23
 have hz3 := h23.blk Hz2.out
 have hka3 := h23.blk Hka.out
 have hkb3 := h23.blk Hkb.out
 have hkc3 := h23.blk Hkc.out
 clear hb3 Hz2 H02 Hka Hkb Hkc h23 b0 b1
 cases hq : Tn.right x
 ·have HE := Lib.hid (show Ly.convBack t x g step = ((Ly.none_, Ly.none_), 20) by simp [Ly.convBack, Ly.convErr, hr, hq])
  clear hr hq
  obtain ⟨c0, c1, c2, c3, f0, f1, f2, f3⟩ := four_facts hz3
  have H03 := Lib.hid h03
  have Hz3 := Lib.hid hz3
  have Hka3 := Lib.hid hka3
  have Hkb3 := Lib.hid hkb3
  have Hkc3 := Lib.hid hkc3
  clear h03 hz3 hka3 hkb3 hkc3
  go_wp2_with fail
  refine bodyPostM_ret (v := .tuple #[.agg #[.slice none 0 0, .slice none 0 0, .slice none 0 0, .slice none 0 0], .int .i64 20]) (by simp [results, Tryz.results13, go_sem, c0, c1, c2, c3]) rfl ?_
  exact GoC.fail HE.out (by decide) (four_later (p := w.heap.size + 3) H03.out (by omega) _ _ _ _)
 have a0 := hka3.cell 0
 have b0 := hkb3.cell 0
 simp at a0 b0
 have H03 := Lib.hid h03
 have Hz3 := Lib.hid hz3
 have Hka3 := Lib.hid hka3
 have Hkb3 := Lib.hid hkb3
 have Hkc3 := Lib.hid hkc3
 clear h03 hz3 hka3 hkb3 hkc3
 go_wp2_with fail
 refine (conv_shape S S' c c' t.s x.s step w3 (by omega) (by omega) (by omega) (by omega) (Ht.out.later H03.out).r.1 (Hx.out.later H03.out).r.1).mono ?_
 rintro e w4 ⟨A, ac, rfl, hI, hc1, hc2, hf, hb⟩
 have h34 : Later w3 w4 := hb
 have h04 := H03.out.trans h34
 have hz4 := h34.blk Hz3.out
 have hka4 := h34.blk Hka3.out
 have hkb4 := h34.blk Hkb3.out
 have hkc4 := h34.blk Hkc3.out
 clear hb Hz3 H03 Hka3 Hkb3 Hkc3 h34 a0 b0 hf
 have hce : Ly.convErr t x step = (Od.conv t.s x.s step).2 := by simp [Ly.convErr, hr, hq]
 by_cases hne : (Od.conv t.s x.s step).2 ≠ 0
 ·have HE := Lib.hid (show Ly.convBack t x g step = ((Ly.none_, Ly.none_), (Od.conv t.s x.s step).2) by simp [Ly.convBack, hce, hne])
  have d2 : ((Od.conv t.s x.s step).2 != 0) = true := by simpa using hne
  have Hne := Lib.hid hne
  clear hr hq hce hne
  generalize (Od.conv t.s x.s step).2 = er at *
  generalize (Od.conv t.s x.s step).1 = os at *
  obtain ⟨c0, c1, c2, c3, f0, f1, f2, f3⟩ := four_facts hz4
  have H04 := Lib.hid h04
  have Hz4 := Lib.hid hz4
  have Hka4 := Lib.hid hka4
  have Hkb4 := Lib.hid hkb4
  have Hkc4 := Lib.hid hkc4
  have HI := Lib.hid hI
  clear h04 hz4 hka4 hkb4 hkc4 hI
  go_wp2_with fail
  refine bodyPostM_ret (v := .tuple #[.agg #[.slice none 0 0, .slice none 0 0, .slice none 0 0, .slice none 0 0], .int .i64 er]) (by simp [results, Tryz.results13, go_sem, c0, c1, c2, c3]) rfl ?_
  exact GoC.fail HE.out Hne.out (four_later (p := w.heap.size + 3) H04.out (by omega) _ _ _ _)
 have hok : (Od.conv t.s x.s step).2 = 0 := by omega
 have hbad : (Tn.right g && (g.s == (Od.conv t.s x.s step).1)) = false → Ly.convBack t x g step = ((Ly.none_, Ly.none_), 20) := fun h => by
  unfold Ly.convBack
  rw [if_pos (by rw [hce, hok]), if_neg]
  intro hh
  rw [Bool.and_eq_true, decide_eq_true_eq] at hh
  rw [hh.1, hh.2] at h
  simp at h
 have hgood : Tn.right g = true → g.s = (Od.conv t.s x.s step).1 → Ly.convBack t x g step = ((⟨t.s, Ly.convW g.c x.c (Ly.convT t x step) t.c.length⟩, ⟨x.s, Ly.convX g.c t.c (Ly.convT t x step) x.c.length⟩), 0) := fun h hs => by
  unfold Ly.convBack
  rw [if_pos (by rw [hce, hok]), if_pos (by rw [h, hs]; simp)]
 clear hne hce
 obtain ⟨hst, hfit, hcase⟩ := Ly.conv_fit hok
 rw [hok]
 have hol : (Od.conv t.s x.s step).1.length ≤ 4 := by
  rcases hcase with ⟨_, _, _, _, _, _, _, e⟩ | ⟨_, _, _, _, _, _, _, _, _, _, e⟩ <;> rw [e] <;> simp
 have hcallT := conv_touch S S' c c' t.s x.s step
 have HF := Lib.hid hfit
 have HK := Lib.hid hok
 have HQT := Lib.hid hr
 have HQX := Lib.hid hq
 obtain ⟨out, hout⟩ : ∃ out, (Od.conv t.s x.s step).1 = out := ⟨_, rfl⟩
 rw [hout] at hI hc1 hol hbad hgood ⊢
 have g0 := hkc4.cell 0
 have g1 := hkc4.cell 1
 simp at g0 g1
 have hrg := tensor_right GS GC gc gd g w4 (by omega) (by omega) (Hg.out.later h04).r.1
 have heq := fun (V : World) (h : Later w4 V) => shape_equal GS A gc ac g.s out V (by omega) (by omega) (Hg.out.later (h04.trans h)).r.1 (hI.below h (Nat.le_refl _))
 have HT := Lib.hid hcallT
 have Hout := Lib.hid hout
 clear hfit hok hcase hcallT hr hq hout
 have H04 := Lib.hid h04
 have Hz4 := Lib.hid hz4
 have Hka4 := Lib.hid hka4
 have Hkb4 := Lib.hid hkb4
 have Hkc4 := Lib.hid hkc4
 have HI := Lib.hid hI
 have Hbad := Lib.hid hbad
 have Hgood := Lib.hid hgood
 have Hrg := Lib.hid hrg
 have Heq := Lib.hid heq
 clear h04 hz4 hka4 hkb4 hkc4 hI hbad hgood hrg heq
 cases hr : Tn.right g
 ·have HE := Lib.hid (Hbad.out (by rw [hr]; rfl))
  rw [hr] at Hrg
  clear Hbad Hgood hr
  go_wp2_with fail
  refine (Hrg.out).mono ?_
  rintro e w5 ⟨rfl, hb5⟩
  have h45 : Later w4 w5 := hb5
  have hz5 := h45.blk Hz4.out
  have h05 := H04.out.trans h45
  clear g0 g1 hb5
  obtain ⟨c0, c1, c2, c3, f0, f1, f2, f3⟩ := four_facts hz5
  have H45 := Lib.hid h45
  have Hz5 := Lib.hid hz5
  have H05 := Lib.hid h05
  clear h45 hz5 h05
  go_wp2_with fail
  refine bodyPostM_ret (v := .tuple #[.agg #[.slice none 0 0, .slice none 0 0, .slice none 0 0, .slice none 0 0], .int .i64 20]) (by simp [results, Tryz.results13, go_sem, c0, c1, c2, c3]) rfl ?_
  exact GoC.fail HE.out (by decide) (four_later (p := w.heap.size + 3) H05.out (by omega) _ _ _ _)
 rw [hr] at Hrg
 go_wp2_with fail
 refine (Hrg.out).mono ?_
 rintro e w5 ⟨rfl, hb5⟩
 have h45 : Later w4 w5 := hb5
 have g0' := h45.cell g0
 clear hb5 g0 g1
 have heq5 := Heq.out _ h45
 cases hq : (g.s == out)
 ·have HE := Lib.hid (Hbad.out (by rw [hr, hq]; rfl))
  rw [hq] at heq5
  clear Hbad Hgood hr hq
  have H45 := Lib.hid h45
  have Heq5 := Lib.hid heq5
  clear h45 heq5
  go_wp2_with fail
  refine (Heq5.out).mono ?_
  rintro e w6 ⟨rfl, q6, rfl⟩
  have hz6 := (H45.out.drewN q6).blk Hz4.out
  have h06 := (H04.out.trans H45.out).drewN q6
  clear g0'
  obtain ⟨c0, c1, c2, c3, f0, f1, f2, f3⟩ := four_facts hz6
  have Hz6 := Lib.hid hz6
  have H06 := Lib.hid h06
  clear hz6 h06
  go_wp2_with fail
  refine bodyPostM_ret (v := .tuple #[.agg #[.slice none 0 0, .slice none 0 0, .slice none 0 0, .slice none 0 0], .int .i64 20]) (by simp [results, Tryz.results13, go_sem, c0, c1, c2, c3]) rfl ?_
  exact GoC.fail HE.out (by decide) (four_later (p := w.heap.size + 3) H06.out (by omega) _ _ _ _)
 rw [hq] at heq5
 have hgs : g.s = out := by simpa using hq
 have HE := Lib.hid (Hgood.out hr hgs)
 have hgl : (g.c.length : Int) = Safe.prod out := by have := hr; simp only [Tn.right, Bool.and_eq_true, decide_eq_true_eq] at this; rw [← hgs]; exact this.2
 obtain ⟨r1, r2⟩ := Ly.right_ok HQT.out
 obtain ⟨r3, r4⟩ := Ly.right_ok HQX.out
 have htp : 0 < t.c.length := by
  have := HQT.out
  simp only [Tn.right, Bool.and_eq_true, decide_eq_true_eq] at this
  have h2 := (Sh.right_mul this.1).2.2.2.2.1
  omega
 have hxp : 0 < x.c.length := by
  have := HQX.out
  simp only [Tn.right, Bool.and_eq_true, decide_eq_true_eq] at this
  have h2 := (Sh.right_mul this.1).2.2.2.2.1
  omega
 clear Hbad Hgood hq hr hgs
 have H45 := Lib.hid h45
 have Heq5 := Lib.hid heq5
 have Hgl := Lib.hid hgl
 clear h45 heq5 hgl
 go_wp2_with fail
 refine (Heq5.out).mono ?_
 rintro e w6 ⟨rfl, q6, rfl⟩
 have h46 := H45.out.drewN q6
 clear g0' Heq5 Heq Hrg H45
 generalize w5.drewN q6 = w6 at *
 have h06 := H04.out.trans h46
 have hka6 := h46.blk Hka4.out
 have hkb6 := h46.blk Hkb4.out
 have hkc6 := h46.blk Hkc4.out
 have hz6 := h46.blk Hz4.out
 clear h46 H04 Hka4 Hkb4 Hkc4 Hz4 HI
 have a0 : w6.cell? ⟨w.heap.size, 0, none⟩ = some (.slice S t.s.length c) := hka6.cell 0
 have a1 : w6.cell? ⟨w.heap.size, 1, none⟩ = some (.slice C t.c.length d) := hka6.cell 1
 have b0 : w6.cell? ⟨w.heap.size + 1, 0, none⟩ = some (.slice S' x.s.length c') := hkb6.cell 0
 have b1 : w6.cell? ⟨w.heap.size + 1, 1, none⟩ = some (.slice C' x.c.length d') := hkb6.cell 1
 have hcw := fun (V : World) (h : Later w6 V) => tensor_copy S C c d t V (by omega) (by omega) (Ht.out.later (h06.trans h)).r
 have hcx := fun (V : World) (h : Later w6 V) => tensor_copy S' C' c' d' x V (by omega) (by omega) (Hx.out.later (h06.trans h)).r
 have hz6l := hz6.lt
 have H06 := Lib.hid h06
 have Hka6 := Lib.hid hka6
 have Hkb6 := Lib.hid hkb6
 have Hkc6 := Lib.hid hkc6
 have Hz6 := Lib.hid hz6
 have Hcw := Lib.hid hcw
 have Hcx := Lib.hid hcx
 clear h06 hka6 hkb6 hkc6 hz6 hcw hcx
 go_upto_region 8 with fail
 go_cut [12] from 50 to 117 (CbCut w t x w6)
 case first =>
  go_wp2_with fail
  have KF := Lib.hid (show ∀ Xw, Later w6 Xw → Xw.cell? ⟨w.heap.size, 0, none⟩ = some (.slice S t.s.length c) ∧ Xw.cell? ⟨w.heap.size, 1, none⟩ = some (.slice C t.c.length d) ∧ Xw.cell? ⟨w.heap.size + 1, 0, none⟩ = some (.slice S' x.s.length c') ∧ Xw.cell? ⟨w.heap.size + 1, 1, none⟩ = some (.slice C' x.c.length d') from fun Xw h => ⟨h.cell a0, h.cell a1, h.cell b0, h.cell b1⟩)
  refine wp_region_noPanic ?_
  refine wp_region_held_drew (S := fun Xw => Xw.cell? ⟨w.heap.size, 0, none⟩ = some (.slice S t.s.length c) ∧ Xw.cell? ⟨w.heap.size, 1, none⟩ = some (.slice C t.c.length d) ∧ Xw.cell? ⟨w.heap.size + 1, 0, none⟩ = some (.slice S' x.s.length c') ∧ Xw.cell? ⟨w.heap.size + 1, 1, none⟩ = some (.slice C' x.c.length d')) (by kernel_rfl) (KF.out _ Later.au) (fun hHeld => ?_)
  refine tk 0 ?_
  refine tk 2 ?_
  refine wpAnyH_ready (rs := [1, 5]) (by kernel_rfl) (by simp) ?_
  refine AllReadyH.cons (o := _) rfl (fun K hK => ?_) (AllReadyH.cons (o := _) rfl (fun K hK => ?_) (AllReadyH.nil))
  ·simp only [ga, gs, gz]
   go_simp
   go_at_call 52; (with_reducible refine (Hcw.out _ (Later.au : Later w6 _)).mono ?_); rintro e wa ⟨v, rfl, ⟨g0, h0, rfl, q1, q2, hG, hH⟩, hbwa⟩
   have k0 : w6.heap.size ≤ g0 ∧ w6.heap.size ≤ h0 := by (constructor <;> first | assumption | (simp at q1 q2; omega))
   have HG0 := Lib.hid hG
   have HH0 := Lib.hid hH
   clear q1 q2 hG hH
   try go_wp2_with fail
   refine hK.out _ _ (KF.out _ Later.au) (fun hHeld => ?_)
   clear hK K
   try simp only [ga, gs, gz, Act.put, sa, sz, ss]
   refine wpAnyH_ready (rs := [3, 5]) (by kernel_rfl) (by simp) ?_
   refine AllReadyH.cons (o := _) rfl (fun K hK => ?_) (AllReadyH.cons (o := _) rfl (fun K hK => ?_) (AllReadyH.nil))
   ·simp only [ga, gs, gz]
    go_simp
    go_at_call 52; (with_reducible refine (Hcx.out _ (Later.au : Later w6 _)).mono ?_); rintro e wc ⟨v, rfl, ⟨g2, h2, rfl, q1, q2, hG, hH⟩, hbwc⟩
    have k2 : wa.heap.size ≤ g2 ∧ wa.heap.size ≤ h2 := by (constructor <;> first | assumption | (simp at q1 q2; omega))
    have HG2 := Lib.hid hG
    have HH2 := Lib.hid hH
    clear q1 q2 hG hH
    try go_wp2_with fail
    refine hK.out _ _ (KF.out _ Later.au) (fun hHeld => ?_)
    clear hK K
    try simp only [ga, gs, gz, Act.put, sa, sz, ss]
    refine tk 4 ?_
    refine rd 5 fun K hK => ?_
    simp only [ga, gs, gz]
    go_simp
    refine hK.out _ _ (KF.out _ Later.au) (fun hHeld => ?_)
    clear hK K
    try simp only [ga, gs, gz, Act.put, sa, sz, ss]
    refine rd 6 fun K hK => ?_
    simp only [ga, gs, gz]
    go_simp
    refine hK.out _ _ ?_ (fun hHeld => ?_)
    ·(try dsimp only); (refine ⟨?_, ?_, ?_, ?_⟩ <;> (repeat (refine cell_setfar ?_ (by first | omega | (simp; done) | (simp; omega)))) <;> (refine Later.cell (Later.au : Later w6 _) ?_) <;> assumption)
    clear hK K
    try simp only [ga, gs, gz, Act.put, sa, sz, ss]
    clear KF
    refine wpAnyH_done (by kernel_rfl) ?_ _
    refine NoPanic.normal ?_
    go_wp2_with fail
    have l1 : Later w6 wa := (Later.au : Later w6 wa)
    have l2 : Later wa wc := (Later.au : Later wa wc)
    have l3 := l1.size
    have l4 := l2.size
    go_meet
    exact cb_mk l1 (l2.alloc _) HG0.out HH0.out (((Later.refl wc).alloc _).blk HG2.out) (((Later.refl wc).alloc _).blk HH2.out) (Blk.new wc _ _) k0 k2 (by omega)
   ·simp only [ga, gs, gz]
    go_simp
    refine hK.out _ _ (KF.out _ Later.au) (fun hHeld => ?_)
    clear hK K
    try simp only [ga, gs, gz, Act.put, sa, sz, ss]
    refine rd 3 fun K hK => ?_
    simp only [ga, gs, gz]
    go_simp
    go_at_call 52; (with_reducible refine (Hcx.out _ (Later.au : Later w6 _)).mono ?_); rintro e wc ⟨v, rfl, ⟨g2, h2, rfl, q1, q2, hG, hH⟩, hbwc⟩
    have k2 : wa.heap.size ≤ g2 ∧ wa.heap.size ≤ h2 := by (constructor <;> first | assumption | (simp at q1 q2; omega))
    have HG2 := Lib.hid hG
    have HH2 := Lib.hid hH
    clear q1 q2 hG hH
    have hbz := (show Later (wa.alloc (.cells #[.slice none 0 0, .slice none 0 0, .slice none 0 0, .slice none 0 0] 46)) wc from hbwc).blk (Blk.new wa _ _)
    obtain ⟨z0, z1, z2, z3, y0, y1, y2, y3⟩ := four_facts hbz
    have Hbz := Lib.hid hbz
    have lA : Later w6 wa := (Later.au : Later w6 wa)
    have sA := lA.size
    clear hbz lA
    try go_wp2_with fail
    refine hK.out _ _ (KF.out _ Later.au) (fun hHeld => ?_)
    clear hK K
    try simp only [ga, gs, gz, Act.put, sa, sz, ss]
    refine tk 4 ?_
    refine rd 6 fun K hK => ?_
    simp only [ga, gs, gz]
    go_simp
    refine hK.out _ _ ?_ (fun hHeld => ?_)
    ·(try dsimp only); (refine ⟨?_, ?_, ?_, ?_⟩ <;> (repeat (refine cell_setfar ?_ (by first | omega | (simp; done) | (simp; omega)))) <;> (refine Later.cell (Later.au : Later w6 _) ?_) <;> assumption)
    clear hK K
    try simp only [ga, gs, gz, Act.put, sa, sz, ss]
    clear KF
    refine wpAnyH_done (by kernel_rfl) ?_ _
    refine NoPanic.normal ?_
    go_wp2_with fail
    have l1 : Later w6 wa := (Later.au : Later w6 wa)
    have l2 : Later wa wc := (Later.au : Later wa wc)
    have l3 := l1.size
    have l4 := l2.size
    go_meet
    exact cb_st l1 l2 HG0.out HH0.out HG2.out HH2.out Hbz.out k0 k2 (by omega)
  ·simp only [ga, gs, gz]
   go_simp
   refine hK.out _ _ (KF.out _ Later.au) (fun hHeld => ?_)
   clear hK K
   try simp only [ga, gs, gz, Act.put, sa, sz, ss]
   refine rd 1 fun K hK => ?_
   simp only [ga, gs, gz]
   go_simp
   go_at_call 52; (with_reducible refine (Hcw.out _ (Later.au : Later w6 _)).mono ?_); rintro e wa ⟨v, rfl, ⟨g0, h0, rfl, q1, q2, hG, hH⟩, hbwa⟩
   have k0 : w6.heap.size ≤ g0 ∧ w6.heap.size ≤ h0 := by (constructor <;> first | assumption | (simp at q1 q2; omega))
   have HG0 := Lib.hid hG
   have HH0 := Lib.hid hH
   clear q1 q2 hG hH
   try go_wp2_with fail
   refine hK.out _ _ (KF.out _ Later.au) (fun hHeld => ?_)
   clear hK K
   try simp only [ga, gs, gz, Act.put, sa, sz, ss]
   refine rd 3 fun K hK => ?_
   simp only [ga, gs, gz]
   go_simp
   go_at_call 52; (with_reducible refine (Hcx.out _ (Later.au : Later w6 _)).mono ?_); rintro e wc ⟨v, rfl, ⟨g2, h2, rfl, q1, q2, hG, hH⟩, hbwc⟩
   have k2 : wa.heap.size ≤ g2 ∧ wa.heap.size ≤ h2 := by (constructor <;> first | assumption | (simp at q1 q2; omega))
   have HG2 := Lib.hid hG
   have HH2 := Lib.hid hH
   clear q1 q2 hG hH
   have hbz := (show Later wa wc from hbwc).blk ((show Later _ wa from hbwa).blk ((Blk.new w6 46 #[.slice none 0 0, .slice none 0 0, .slice none 0 0, .slice none 0 0]).drew))
   obtain ⟨z0, z1, z2, z3, y0, y1, y2, y3⟩ := four_facts hbz
   have Hbz := Lib.hid hbz
   have lA : Later w6 wa := (Later.au : Later w6 wa)
   have sA := lA.size
   clear hbz lA
   try go_wp2_with fail
   refine hK.out _ _ (KF.out _ Later.au) (fun hHeld => ?_)
   clear hK K
   try simp only [ga, gs, gz, Act.put, sa, sz, ss]
   refine tk 4 ?_
   refine rd 6 fun K hK => ?_
   simp only [ga, gs, gz]
   go_simp
   refine hK.out _ _ ?_ (fun hHeld => ?_)
   ·(try dsimp only); (refine ⟨?_, ?_, ?_, ?_⟩ <;> (repeat (refine cell_setfar ?_ (by first | omega | (simp; done) | (simp; omega)))) <;> (refine Later.cell (Later.au : Later w6 _) ?_) <;> assumption)
   clear hK K
   try simp only [ga, gs, gz, Act.put, sa, sz, ss]
   clear KF
   refine wpAnyH_done (by kernel_rfl) ?_ _
   refine NoPanic.normal ?_
   go_wp2_with fail
   have l1 : Later w6 wa := (Later.au : Later w6 wa)
   have l2 : Later wa wc := (Later.au : Later wa wc)
   have l3 := l1.size
   have l4 := l2.size
   go_meet
   exact cb_st l1 l2 HG0.out HH0.out HG2.out HH2.out Hbz.out k0 k2 (by omega)
 case rest =>
  obtain ⟨tb, g0, h0, g2, h2, rfl, hbe, hG0, hH0, hG2, hH2, lg0, lg2, ltb, lh0, lh2, h67⟩ := hcut
  have hl := H06.out.trans h67
  have hka := h67.blk Hka6.out
  have hkb := h67.blk Hkb6.out
  have hkc := h67.blk Hkc6.out
  have hz := h67.blk Hz6.out
  obtain ⟨e0, e1, e2, e3, -⟩ := four_facts hbe
  have h02 : h2 ≠ h0 := by omega
  have hwh : w.heap.size ≤ h0 := by omega
  clear a0 a1 b0 b1 Hka6 Hkb6 Hkc6 Hz6 Hcw Hcx h67 H06
  have Hl := Lib.hid hl
  have Hka := Lib.hid hka
  have Hkb := Lib.hid hkb
  have Hkc := Lib.hid hkc
  have Hz := Lib.hid hz
  have Hbe := Lib.hid hbe
  have HG0 := Lib.hid hG0
  have HH0 := Lib.hid hH0
  have HG2 := Lib.hid hG2
  have HH2 := Lib.hid hH2
  clear hl hka hkb hkc hz hbe hG0 hH0 hG2 hH2
  go_wp2_with (refine wpList_clear rfl (.tmp 57) 28 22 rfl Tryz.underlying28 Tryz.zeroValue22 h0 22 t.c t.c.length rfl HH0.out htp ?_)
  intro w8 hW8 hE8
  have hbe8 := hE8.blk (blk_ne Hbe.out HH0.out (by decide)) Hbe.out
  have hG08 := hE8.blk (blk_ne HG0.out HH0.out (by decide)) HG0.out
  have hG28 := hE8.blk (blk_ne HG2.out HH0.out (by decide)) HG2.out
  have hH28 := hE8.blk h02 HH2.out
  have hka8 := hE8.blk (blk_ne Hka.out HH0.out (by decide)) Hka.out
  have hkb8 := hE8.blk (blk_ne Hkb.out HH0.out (by decide)) Hkb.out
  have hkc8 := hE8.blk (blk_ne Hkc.out HH0.out (by decide)) Hkc.out
  have hz8 := hE8.blk (blk_ne Hz.out HH0.out (by decide)) Hz.out
  have hl8 : Later w w8 := hE8.below Hl.out hwh
  clear e0 e1 e2 e3 hE8 Hbe HG0 HH0 HG2 HH2 Hka Hkb Hkc Hz Hl
  obtain ⟨e0, e1, e2, e3, -⟩ := four_facts hbe8
  have Hbe8 := Lib.hid hbe8
  have HG08 := Lib.hid hG08
  have HG28 := Lib.hid hG28
  have HH28 := Lib.hid hH28
  have Hka8 := Lib.hid hka8
  have Hkb8 := Lib.hid hkb8
  have Hkc8 := Lib.hid hkc8
  have Hz8 := Lib.hid hz8
  have Hl8 := Lib.hid hl8
  have HW8 := Lib.hid hW8
  clear hbe8 hG08 hG28 hH28 hka8 hkb8 hkc8 hz8 hl8 hW8
  go_wp2_with (refine wpList_clear rfl (.tmp 60) 28 22 rfl Tryz.underlying28 Tryz.zeroValue22 h2 22 x.c x.c.length rfl HH28.out hxp ?_)
  intro w9 hX9 hE9
  have hbe9 := hE9.blk (blk_ne Hbe8.out HH28.out (by decide)) Hbe8.out
  have hG09 := hE9.blk (blk_ne HG08.out HH28.out (by decide)) HG08.out
  have hG29 := hE9.blk (blk_ne HG28.out HH28.out (by decide)) HG28.out
  have hW9 := hE9.blk (Ne.symm h02) HW8.out
  have hka9 := hE9.blk (blk_ne Hka8.out HH28.out (by decide)) Hka8.out
  have hkb9 := hE9.blk (blk_ne Hkb8.out HH28.out (by decide)) Hkb8.out
  have hkc9 := hE9.blk (blk_ne Hkc8.out HH28.out (by decide)) Hkc8.out
  have hz9 := hE9.blk (blk_ne Hz8.out HH28.out (by decide)) Hz8.out
  have hl9 : Later w w9 := hE9.below Hl8.out (by omega)
  clear e0 e1 e2 e3 hE9 Hbe8 HG08 HG28 HH28 HW8 Hka8 Hkb8 Hkc8 Hz8 Hl8
  obtain ⟨e0, e1, e2, e3, -⟩ := four_facts hbe9
  have Hbe9 := Lib.hid hbe9
  have HG09 := Lib.hid hG09
  have HG29 := Lib.hid hG29
  have HX9 := Lib.hid hX9
  have Hka9 := Lib.hid hka9
  have Hkb9 := Lib.hid hkb9
  have Hkc9 := Lib.hid hkc9
  have Hz9 := Lib.hid hz9
  have Hl9 := Lib.hid hl9
  have HW9 := Lib.hid hW9
  clear hbe9 hG09 hG29 hX9 hka9 hkb9 hkc9 hz9 hl9 hW9
  go_upto_region 11 with fail
  go_cut [13, 14] from 61 to 117 (CbCut2 h0 t.c.length h2 x.c.length w9)
  case first =>
   go_wp2_with fail
   have KF := Lib.hid (show ∀ Xw, Later w9 Xw → Xw.cell? ⟨tb, 1, none⟩ = some (.slice (some ⟨h0, 0, none⟩) t.c.length t.c.length) ∧ Xw.cell? ⟨tb, 3, none⟩ = some (.slice (some ⟨h2, 0, none⟩) x.c.length x.c.length) from fun Xw h => ⟨h.cell e1, h.cell e3⟩)
   refine wp_region_noPanic ?_
   refine wp_region_held_drew (S := fun Xw => Xw.cell? ⟨tb, 1, none⟩ = some (.slice (some ⟨h0, 0, none⟩) t.c.length t.c.length) ∧ Xw.cell? ⟨tb, 3, none⟩ = some (.slice (some ⟨h2, 0, none⟩) x.c.length x.c.length)) (by kernel_rfl) (KF.out _ Later.au) (fun hHeld => ?_)
   refine tk 0 ?_
   refine tk 1 ?_
   refine tk 2 ?_
   refine tk 3 ?_
   refine tk 4 ?_
   refine tk 5 ?_
   refine wpAnyH_ready (rs := [6, 7]) (by kernel_rfl) (by simp) ?_
   refine AllReadyH.cons (o := _) rfl (fun K hK => ?_) (AllReadyH.cons (o := _) rfl (fun K hK => ?_) (AllReadyH.nil))
   ·simp only [ga, gs, gz]
    go_simp
    refine hK.out _ _ (KF.out _ Later.au) (fun hHeld => ?_)
    clear hK K
    try simp only [ga, gs, gz, Act.put, sa, sz, ss]
    refine rd 7 fun K hK => ?_
    simp only [ga, gs, gz]
    go_simp
    refine hK.out _ _ (KF.out _ Later.au) (fun hHeld => ?_)
    clear hK K
    try simp only [ga, gs, gz, Act.put, sa, sz, ss]
    refine rd 8 fun K hK => ?_
    simp only [ga, gs, gz]
    go_simp
    refine hK.out _ _ ?_ (fun hHeld => ?_)
    ·(try dsimp only); (refine ⟨?_, ?_⟩ <;> (repeat (refine cell_setfar ?_ (by first | omega | (simp; done) | (simp; omega)))) <;> (refine Later.cell (Later.au : Later w9 _) ?_) <;> assumption)
    clear hK K
    try simp only [ga, gs, gz, Act.put, sa, sz, ss]
    refine rd 9 fun K hK => ?_
    simp only [ga, gs, gz]
    go_simp
    refine hK.out _ _ ?_ (fun hHeld => ?_)
    ·(try dsimp only); (refine ⟨?_, ?_⟩ <;> (repeat (refine cell_setfar ?_ (by first | omega | (simp; done) | (simp; omega)))) <;> (refine Later.cell (Later.au : Later w9 _) ?_) <;> assumption)
    clear hK K
    try simp only [ga, gs, gz, Act.put, sa, sz, ss]
    clear KF
    refine wpAnyH_done (by kernel_rfl) ?_ _
    refine NoPanic.normal ?_
    clear hHeld
    go_wp2_with fail
    have p1 := Blk.new (w9.alloc (.cells #[.slice (some ⟨h0, 0, none⟩) t.c.length t.c.length] 28)) 28 #[.slice (some ⟨h2, 0, none⟩) x.c.length x.c.length]
    rw [World.size_alloc] at p1
    go_meet
    exact ⟨_, _, rfl, rfl, ((Blk.new w9 _ _).alloc _).drew, p1.drew, (((Later.refl w9).alloc _).alloc _).drew⟩
   ·simp only [ga, gs, gz]
    go_simp
    refine hK.out _ _ (KF.out _ Later.au) (fun hHeld => ?_)
    clear hK K
    try simp only [ga, gs, gz, Act.put, sa, sz, ss]
    refine rd 6 fun K hK => ?_
    simp only [ga, gs, gz]
    go_simp
    refine hK.out _ _ (KF.out _ Later.au) (fun hHeld => ?_)
    clear hK K
    try simp only [ga, gs, gz, Act.put, sa, sz, ss]
    refine rd 8 fun K hK => ?_
    simp only [ga, gs, gz]
    go_simp
    refine hK.out _ _ ?_ (fun hHeld => ?_)
    ·(try dsimp only); (refine ⟨?_, ?_⟩ <;> (repeat (refine cell_setfar ?_ (by first | omega | (simp; done) | (simp; omega)))) <;> (refine Later.cell (Later.au : Later w9 _) ?_) <;> assumption)
    clear hK K
    try simp only [ga, gs, gz, Act.put, sa, sz, ss]
    refine rd 9 fun K hK => ?_
    simp only [ga, gs, gz]
    go_simp
    refine hK.out _ _ ?_ (fun hHeld => ?_)
    ·(try dsimp only); (refine ⟨?_, ?_⟩ <;> (repeat (refine cell_setfar ?_ (by first | omega | (simp; done) | (simp; omega)))) <;> (refine Later.cell (Later.au : Later w9 _) ?_) <;> assumption)
    clear hK K
    try simp only [ga, gs, gz, Act.put, sa, sz, ss]
    clear KF
    refine wpAnyH_done (by kernel_rfl) ?_ _
    refine NoPanic.normal ?_
    clear hHeld
    go_wp2_with fail
    have p1 := Blk.new (w9.alloc (.cells #[.slice (some ⟨h2, 0, none⟩) x.c.length x.c.length] 28)) 28 #[.slice (some ⟨h0, 0, none⟩) t.c.length t.c.length]
    rw [World.size_alloc] at p1
    go_meet
    exact ⟨_, _, rfl, rfl, p1.drew, ((Blk.new w9 _ _).alloc _).drew, (((Later.refl w9).alloc _).alloc _).drew⟩
  case rest =>
   obtain ⟨pa, pb, rfl, rfl, hka2, hkb2, h910⟩ := hcut
   have h9 := h910
   have h0a := Hl9.out.trans h9
   have a0 := (h9.blk Hka9.out).cell 0
   have b0 := (h9.blk Hkb9.out).cell 0
   simp at a0 b0
   have hI10 : CbI w tb pa pb g0 h0 g2 h2 #[.slice S t.s.length c, .slice C t.c.length d] #[.slice S' x.s.length c', .slice C' x.c.length d'] #[.slice GS g.s.length gc, .slice GC g.c.length gd] #[.slice (some ⟨g0, 0, none⟩) t.s.length t.s.length, .slice (some ⟨h0, 0, none⟩) t.c.length t.c.length, .slice (some ⟨g2, 0, none⟩) x.s.length x.s.length, .slice (some ⟨h2, 0, none⟩) x.c.length x.c.length] #[.slice (some ⟨h0, 0, none⟩) t.c.length t.c.length] #[.slice (some ⟨h2, 0, none⟩) x.c.length x.c.length] t.s x.s (Ly.convW g.c x.c [] t.c.length) (Ly.convX g.c t.c [] x.c.length) _ := CbI.mk (h9.blk Hka9.out) (h9.blk Hkb9.out) (h9.blk Hkc9.out) (h9.blk Hz9.out) (h9.blk Hbe9.out) hka2 hkb2 (h9.blk HG09.out) (h9.blk HW9.out) (h9.blk HG29.out) (h9.blk HX9.out) ⟨by omega, by omega, by omega, by omega, lh2⟩ h0a
   clear h910 hka2 hkb2 h9 e0 e1 e2 e3 Hka9 Hkb9 Hkc9 Hz9 Hbe9 HG09 HW9 HG29 HX9 Hl9
   have HI10 := Lib.hid hI10
   have H0a := Lib.hid h0a
   clear hI10 h0a
   go_upto_region 12 with fail
   go_wp2_with fail
   refine (HT.out _ Ht.out.s1 l5 l6 (Ht.out.later H0a.out).r.1 (Hx.out.later H0a.out).r.1 HK.out).mono ?_
   rintro e w11 ⟨rfl, hb11⟩
   have hI11 := HI10.out.to hb11
   clear HI10 a0 b0 hb11 H0a
   have HI11 := Lib.hid hI11
   clear hI11
   go_wp2_with fail
   have hs := HF.out.small
   have hps := HF.out.pos
   have hpl := HF.out.places
   have hT : Ly.convT t x step = (Ly.frame t.s x.s out step).all := by unfold Ly.convT; rw [Hout.out]
   rw [Hout.out] at hs hps hpl ⊢
   generalize hfr : Ly.frame t.s x.s out step = fr at *
   refine wpIn_wide.1 (wpIn_range_first (n := 9) (9 - 1 - 1 - 1) rfl (by omega) (gf := 115) (lf := #[fr.V]) rfl trivial (enters_of Tryz.func115 (by kernel_rfl) rfl) Ly.Touch.V rfl fr.all
    (fun pre W => CbI w tb pa pb g0 h0 g2 h2 #[.slice S t.s.length c, .slice C t.c.length d] #[.slice S' x.s.length c', .slice C' x.c.length d'] #[.slice GS g.s.length gc, .slice GC g.c.length gd] #[.slice (some ⟨g0, 0, none⟩) t.s.length t.s.length, .slice (some ⟨h0, 0, none⟩) t.c.length t.c.length, .slice (some ⟨g2, 0, none⟩) x.s.length x.s.length, .slice (some ⟨h2, 0, none⟩) x.c.length x.c.length] #[.slice (some ⟨h0, 0, none⟩) t.c.length t.c.length] #[.slice (some ⟨h2, 0, none⟩) x.c.length x.c.length] t.s x.s (Ly.convW g.c x.c pre t.c.length) (Ly.convX g.c t.c pre x.c.length) W) ?hI ?h0 ?hseq ?hbody ?hdone)
   case hI =>
    rintro pre A2 B2 hb H
    exact H.of (N := w11.heap.size) (fun k hk => hb.block k hk) HI11.out (Nat.le_refl _) (Below.trans H.later (hb.mono HI11.out.later.size))
   case h0 => exact HI11.out
   case hseq =>
    intro l J W hsz hbw hJ hY h0'
    exact frame_each Fence.wide (9 - 1) l trivial trivial rfl (by omega) fr hs hps W.heap.size J hJ hY W (Nat.le_refl _) h0'
   case hbody =>
    rintro pre z rest A2 hx H hA
    obtain ⟨po, pw, px⟩ := hpl z (by rw [hx]; simp)
    obtain ⟨n7, n8, n9⟩ := Ly.conv_lens HQT.out HQX.out HK.out
    rw [Hout.out, hfr] at n7 n8
    rw [Hout.out, hfr] at n9
    rw [← n9] at po
    rw [← n7] at pw
    rw [← n8] at px
    have hglN : g.c.length = (Safe.prod out).toNat := by have := Hgl.out; omega
    rw [← hglN] at po
    clear n7 n8 n9 hglN hx
    obtain ⟨wl, wi⟩ := Ly.convW_facts g.c x.c t.c.length pre
    obtain ⟨xl, xi⟩ := Ly.convX_facts g.c t.c x.c.length pre
    rw [Ly.convW_push, Ly.convX_push]
    generalize Ly.convW g.c x.c pre t.c.length = W0 at *
    generalize Ly.convX g.c t.c pre x.c.length = X0 at *
    obtain ⟨bt, ot, rfl, lbt, -⟩ := Ht.out.cell pw
    obtain ⟨bx, ox, rfl, lbx, -⟩ := Hx.out.cell px
    obtain ⟨bg, og, rfl, lbg, -⟩ := Hg.out.cell po
    have htI := Ly.at_in Ht.out.num z.w
    have hxI := Ly.at_in Hx.out.num z.x
    have hgI := Ly.at_in Hg.out.num z.o
    have hwI := Ly.at_in wi z.w
    have hXI := Ly.at_in xi z.x
    have hwa : W0.set z.w (Fx.add (Ly.at_ W0 z.w) (Fx.mul (Ly.at_ g.c z.o) (Ly.at_ x.c z.x))) = Ly.addAt W0 z.w (Fx.mul (Ly.at_ g.c z.o) (Ly.at_ x.c z.x)) := rfl
    have hxa : X0.set z.x (Fx.add (Ly.at_ X0 z.x) (Fx.mul (Ly.at_ g.c z.o) (Ly.at_ t.c z.w))) = Ly.addAt X0 z.x (Fx.mul (Ly.at_ g.c z.o) (Ly.at_ t.c z.w)) := rfl
    rw [← hwa, ← hxa]
    have hlA := (Later.refl A2).alloc (.cells #[.int .i64 z.o, .int .i64 z.w, .int .i64 z.x] 114)
    have hat := Blk.new A2 114 #[.int .i64 z.o, .int .i64 z.w, .int .i64 z.x]
    have h11s := HI11.out.later.size
    have hHA := H.to hlA
    rw [show Ly.Touch.V z = Value.agg #[.int .i64 z.o, .int .i64 z.w, .int .i64 z.x] from rfl]
    clear hwa hxa
    have HlA := Lib.hid hlA
    have Hat := Lib.hid hat
    have HHA := Lib.hid hHA
    have HH := Lib.hid H
    have Hwi := Lib.hid wi
    have Hxi := Lib.hid xi
    have Hwl := Lib.hid wl
    have Hxl := Lib.hid xl
    clear hlA hat hHA H wi xi wl xl
    gi_wp2_with (rw [Oper.semAt_eq _ _ _ (fun c h => by cases h)]; go_simp; try go_bits)
    refine ⟨Above.alloc _ _ _, fun A3 hs3 hk3 hb3 => ?_⟩
    rw [World.size_alloc] at hs3
    have hl3 : Later w A3 := Below.trans (show Below w.heap.size w _ from HHA.out.later) (hb3.mono h11s)
    have hC := HHA.out.of (N := w11.heap.size) (fun k hk => hk3 k (by omega)) HI11.out (Nat.le_refl _) hl3
    have g8 : Blk A3 A2.heap.size 114 #[.int .i64 z.o, .int .i64 z.w, .int .i64 z.x] := (hk3 A2.heap.size (by omega)).trans Hat.out
    have u0 := g8.cell 0
    have u1 := g8.cell 1
    have u2 := g8.cell 2
    have ug : A3.cell? ⟨w.heap.size + 2, 1, none⟩ = some (.slice (some ⟨bg, og, none⟩) g.c.length gd) := hC.kg.cell 1
    have ux : A3.cell? ⟨w.heap.size + 1, 1, none⟩ = some (.slice (some ⟨bx, ox, none⟩) x.c.length d') := hC.kx.cell 1
    have ua : A3.cell? ⟨pa, 0, none⟩ = some (.slice (some ⟨h0, 0, none⟩) t.c.length t.c.length) := hC.ka.cell 0
    simp at u0 u1 u2
    obtain ⟨b', o', e', -, vg⟩ := (Hg.out.later hl3).cell po
    injection e' with e'; injection e' with e1 e2; subst e1 e2
    obtain ⟨b', o', e', -, vx⟩ := (Hx.out.later hl3).cell px
    injection e' with e'; injection e' with e1 e2; subst e1 e2
    have vw : A3.cell? ⟨h0, z.w, none⟩ = some (.int .i64 (Ly.at_ W0 z.w)) := by
     have := hC.H0.row_get (k := z.w) (by have := Hwl.out; omega)
     rw [this, Ly.at_get (by have := Hwl.out; omega)]
    have vf := hC.H0.frozen z.w
    have hP1 := hC.putW z.w (Fx.add (Ly.at_ W0 z.w) (Fx.mul (Ly.at_ g.c z.o) (Ly.at_ x.c z.x)))
    obtain ⟨b', o', e', -, vt⟩ := (Ht.out.later hP1.later).cell pw
    injection e' with e'; injection e' with e1 e2; subst e1 e2
    have vX : (A3.setCell ⟨h0, z.w, none⟩ (.int .i64 (Fx.add (Ly.at_ W0 z.w) (Fx.mul (Ly.at_ g.c z.o) (Ly.at_ x.c z.x))))).cell? ⟨h2, z.x, none⟩ = some (.int .i64 (Ly.at_ X0 z.x)) := by
     have := hP1.H2.row_get (k := z.x) (by have := Hxl.out; omega)
     rw [this, Ly.at_get (by have := Hxl.out; omega)]
    have vXf := hP1.H2.frozen z.x
    have ut : (A3.setCell ⟨h0, z.w, none⟩ (.int .i64 (Fx.add (Ly.at_ W0 z.w) (Fx.mul (Ly.at_ g.c z.o) (Ly.at_ x.c z.x))))).cell? ⟨w.heap.size, 1, none⟩ = some (.slice (some ⟨bt, ot, none⟩) t.c.length d) := hP1.kw.cell 1
    have ub : (A3.setCell ⟨h0, z.w, none⟩ (.int .i64 (Fx.add (Ly.at_ W0 z.w) (Fx.mul (Ly.at_ g.c z.o) (Ly.at_ x.c z.x))))).cell? ⟨pb, 0, none⟩ = some (.slice (some ⟨h2, 0, none⟩) x.c.length x.c.length) := hP1.kb.cell 0
    have hhl := HI11.out.H0.lt
    have hh2l := HI11.out.H2.lt
    have hAne : A2.heap.size ≠ h0 := by omega
    have u1' := cell_setfar (p := ⟨h0, z.w, none⟩) (q := ⟨A2.heap.size, 1, none⟩) (u := .int .i64 (Fx.add (Ly.at_ W0 z.w) (Fx.mul (Ly.at_ g.c z.o) (Ly.at_ x.c z.x)))) u1 hAne
    have u2' := cell_setfar (p := ⟨h0, z.w, none⟩) (q := ⟨A2.heap.size, 2, none⟩) (u := .int .i64 (Fx.add (Ly.at_ W0 z.w) (Fx.mul (Ly.at_ g.c z.o) (Ly.at_ x.c z.x)))) u2 hAne
    have hP2 := hP1.putX z.x (Fx.add (Ly.at_ X0 z.x) (Fx.mul (Ly.at_ g.c z.o) (Ly.at_ t.c z.w)))
    have m1 := fun (V : World) => fix_mul (Ly.at_ g.c z.o) (Ly.at_ x.c z.x) V hgI hxI
    have m2 := fun (V : World) => fix_mul (Ly.at_ g.c z.o) (Ly.at_ t.c z.w) V hgI htI
    have a1 := fun (V : World) => fix_add (Ly.at_ W0 z.w) (Fx.mul (Ly.at_ g.c z.o) (Ly.at_ x.c z.x)) V hwI (Fx.mul_in _ _)
    have a2 := fun (V : World) => fix_add (Ly.at_ X0 z.x) (Fx.mul (Ly.at_ g.c z.o) (Ly.at_ t.c z.w)) V hXI (Fx.mul_in _ _)
    have lo := hC.lo
    have hsz2 := HI11.out.kg.lt
    have n1 : w.heap.size + 2 ≠ h0 := blk_ne hC.kg hC.H0 (by decide)
    have n2 : w.heap.size + 1 ≠ h0 := blk_ne hC.kx hC.H0 (by decide)
    have n3 : pa ≠ h0 := blk_ne hC.ka hC.H0 (by decide)
    have n4 : bx ≠ h0 := by omega
    have n5 : bt ≠ h2 := by omega
    have n6 : w.heap.size ≠ h2 := blk_ne hC.kw hC.H2 (by decide)
    have n7 : pb ≠ h2 := blk_ne hC.kb hC.H2 (by decide)
    have n8 : A2.heap.size ≠ h2 := by omega
    generalize Ly.at_ g.c z.o = gv at *
    generalize Ly.at_ x.c z.x = xv at *
    generalize Ly.at_ t.c z.w = tv at *
    generalize Ly.at_ W0 z.w = wv at *
    generalize Ly.at_ X0 z.x = Xv at *
    obtain ⟨zo, zw, zx⟩ := z
    simp only at *
    have k1 : (zw : Int) < (t.c.length : Int) := by omega
    have k2 : (zx : Int) < (x.c.length : Int) := by omega
    have k3 : (zo : Int) < (g.c.length : Int) := by omega
    have HPL := Lib.hid hpl
    have HTT := Lib.hid hT
    clear hpl hT hs hps hk3 hb3 g8 hgI hxI htI hwI hXI hl3 HlA Hat HHA HH
    have HC := Lib.hid hC
    have HP1 := Lib.hid hP1
    have HP2 := Lib.hid hP2
    have Hm1 := Lib.hid m1
    have Hm2 := Lib.hid m2
    have Ha1 := Lib.hid a1
    have Ha2 := Lib.hid a2
    clear hC hP1 hP2 m1 m2 a1 a2
    gi_wp2_with (rw [Oper.semAt_eq _ _ _ (fun c h => by cases h)]; go_simp; try go_bits)
    clear vg u0 ug
    have KF := Lib.hid (show ∀ Xw, Later A3 Xw → Xw.cell? ⟨A2.heap.size, 1, none⟩ = some (.int .i64 zw) ∧ Xw.cell? ⟨A2.heap.size, 2, none⟩ = some (.int .i64 zx) ∧ Xw.cell? ⟨w.heap.size + 1, 1, none⟩ = some (.slice (some ⟨bx, ox, none⟩) x.c.length d') ∧ Xw.cell? ⟨pa, 0, none⟩ = some (.slice (some ⟨h0, 0, none⟩) t.c.length t.c.length) ∧ Xw.cell? ⟨bx, ox + zx, none⟩ = some (.int .i64 xv) from fun Xw h => ⟨h.cell u1, h.cell u2, h.cell ux, h.cell ua, h.cell vx⟩)
    refine wpIn_round_held_drew (S := fun Xw => Xw.cell? ⟨A2.heap.size, 1, none⟩ = some (.int .i64 zw) ∧ Xw.cell? ⟨A2.heap.size, 2, none⟩ = some (.int .i64 zx) ∧ Xw.cell? ⟨w.heap.size + 1, 1, none⟩ = some (.slice (some ⟨bx, ox, none⟩) x.c.length d') ∧ Xw.cell? ⟨pa, 0, none⟩ = some (.slice (some ⟨h0, 0, none⟩) t.c.length t.c.length) ∧ Xw.cell? ⟨bx, ox + zx, none⟩ = some (.int .i64 xv)) (by kernel_rfl) (by kernel_rfl) (KF.out _ Later.au) (fun hHeld => ?_)
    refine tk 0 ?_
    refine tk 1 ?_
    refine tk 2 ?_
    refine tk 3 ?_
    refine tk 4 ?_
    refine tk 5 ?_
    refine tk 6 ?_
    refine tk 8 ?_
    refine tk 9 ?_
    refine tk 10 ?_
    refine tk 11 ?_
    refine tk 12 ?_
    refine tk 13 ?_
    refine tk 14 ?_
    refine wpAnyH_ready (rs := [7, 15]) (by kernel_rfl) (by simp) ?_
    refine AllReadyH.cons (o := _) rfl (fun K hK => ?_) (AllReadyH.cons (o := _) rfl (fun K hK => ?_) (AllReadyH.nil))
    ·simp only [ga, gs, gz]
     go_simp
     refine hK.out _ _ (KF.out _ Later.au) (fun hHeld => ?_)
     clear hK K
     try simp only [ga, gs, gz, Act.put, sa, sz, ss]
     refine rd 15 fun K hK => ?_
     simp only [ga, gs, gz]
     go_simp
     go_at_call 54; (with_reducible refine (Hm1.out _).mono ?_); rintro e wb ⟨rfl, rfl⟩
     try go_wp2_with fail
     refine hK.out _ _ (KF.out _ Later.au) (fun hHeld => ?_)
     clear hK K
     try simp only [ga, gs, gz, Act.put, sa, sz, ss]
     refine rd 16 fun K hK => ?_
     simp only [ga, gs, gz]
     go_simp
     go_at_call 55; (with_reducible refine (Ha1.out _).mono ?_); rintro e wb2 ⟨rfl, rfl⟩
     try go_wp2_with fail
     refine hK.out _ _ (KF.out _ Later.au) (fun hHeld => ?_)
     clear hK K
     try simp only [ga, gs, gz, Act.put, sa, sz, ss]
     refine tk 17 ?_
     refine rd 18 fun K hK => ?_
     simp only [ga, gs, gz]
     go_simp
     refine hK.out _ _ ?_ (fun hHeld => ?_)
     ·(try dsimp only); (refine ⟨?_, ?_, ?_, ?_, ?_⟩ <;> (repeat (refine cell_setfar ?_ (by first | omega | (simp; done) | (simp; omega)))) <;> (refine Later.cell (Later.au : Later A3 _) ?_) <;> assumption)
     clear hK K
     try simp only [ga, gs, gz, Act.put, sa, sz, ss]
     clear KF
     refine wpAnyH_done (by kernel_rfl) ?_ _
     refine NoPanic.normal ?_
     refine OnlyNormal.mk ?_
     clear hHeld u1 u2 ux ua vx vw vf
     gi_wp2_with fail
     have hab : Above w11.heap.size A3 (A3.setCell ⟨h0, zw, none⟩ (.int .i64 (Fx.add wv (Fx.mul gv xv)))) := Above.setCell (p := ⟨h0, zw, none⟩) hhl _
     have Hab := Lib.hid hab
     clear hab
     generalize A3.setCell ⟨h0, zw, none⟩ (.int .i64 (Fx.add wv (Fx.mul gv xv))) = B1 at *
     have KF := Lib.hid (show ∀ Xw, Later B1 Xw → Xw.cell? ⟨A2.heap.size, 1, none⟩ = some (.int .i64 zw) ∧ Xw.cell? ⟨A2.heap.size, 2, none⟩ = some (.int .i64 zx) ∧ Xw.cell? ⟨w.heap.size, 1, none⟩ = some (.slice (some ⟨bt, ot, none⟩) t.c.length d) ∧ Xw.cell? ⟨pb, 0, none⟩ = some (.slice (some ⟨h2, 0, none⟩) x.c.length x.c.length) ∧ Xw.cell? ⟨bt, ot + zw, none⟩ = some (.int .i64 tv) from fun Xw h => ⟨h.cell u1', h.cell u2', h.cell ut, h.cell ub, h.cell vt⟩)
     refine wpIn_round_held_drew (S := fun Xw => Xw.cell? ⟨A2.heap.size, 1, none⟩ = some (.int .i64 zw) ∧ Xw.cell? ⟨A2.heap.size, 2, none⟩ = some (.int .i64 zx) ∧ Xw.cell? ⟨w.heap.size, 1, none⟩ = some (.slice (some ⟨bt, ot, none⟩) t.c.length d) ∧ Xw.cell? ⟨pb, 0, none⟩ = some (.slice (some ⟨h2, 0, none⟩) x.c.length x.c.length) ∧ Xw.cell? ⟨bt, ot + zw, none⟩ = some (.int .i64 tv)) (by kernel_rfl) (by kernel_rfl) (KF.out _ Later.au) (fun hHeld => ?_)
     refine tk 0 ?_
     refine tk 1 ?_
     refine tk 2 ?_
     refine tk 3 ?_
     refine tk 4 ?_
     refine tk 5 ?_
     refine tk 6 ?_
     refine tk 8 ?_
     refine tk 9 ?_
     refine tk 10 ?_
     refine tk 11 ?_
     refine tk 12 ?_
     refine tk 13 ?_
     refine tk 14 ?_
     refine wpAnyH_ready (rs := [7, 15]) (by kernel_rfl) (by simp) ?_
     refine AllReadyH.cons (o := _) rfl (fun K hK => ?_) (AllReadyH.cons (o := _) rfl (fun K hK => ?_) (AllReadyH.nil))
     ·simp only [ga, gs, gz]
      go_simp
      refine hK.out _ _ (KF.out _ Later.au) (fun hHeld => ?_)
      clear hK K
      try simp only [ga, gs, gz, Act.put, sa, sz, ss]
      refine rd 15 fun K hK => ?_
      simp only [ga, gs, gz]
      go_simp
      go_at_call 54; (with_reducible refine (Hm2.out _).mono ?_); rintro e wb3 ⟨rfl, rfl⟩
      try go_wp2_with fail
      refine hK.out _ _ (KF.out _ Later.au) (fun hHeld => ?_)
      clear hK K
      try simp only [ga, gs, gz, Act.put, sa, sz, ss]
      refine rd 16 fun K hK => ?_
      simp only [ga, gs, gz]
      go_simp
      go_at_call 55; (with_reducible refine (Ha2.out _).mono ?_); rintro e wb4 ⟨rfl, rfl⟩
      try go_wp2_with fail
      refine hK.out _ _ (KF.out _ Later.au) (fun hHeld => ?_)
      clear hK K
      try simp only [ga, gs, gz, Act.put, sa, sz, ss]
      refine tk 17 ?_
      refine rd 18 fun K hK => ?_
      simp only [ga, gs, gz]
      go_simp
      refine hK.out _ _ ?_ (fun hHeld => ?_)
      ·(try dsimp only); (refine ⟨?_, ?_, ?_, ?_, ?_⟩ <;> (repeat (refine cell_setfar ?_ (by first | omega | (simp; done) | (simp; omega)))) <;> (refine Later.cell (Later.au : Later B1 _) ?_) <;> assumption)
      clear hK K
      try simp only [ga, gs, gz, Act.put, sa, sz, ss]
      clear KF
      refine wpAnyH_done (by kernel_rfl) ?_ _
      refine NoPanic.normal ?_
      refine OnlyNormal.mk ?_
      clear hHeld u1' u2' ut ub vt vX vXf
      gi_wp2_with fail
      exact ⟨Above.trans Hab.out (Above.setCell (p := ⟨h2, zx, none⟩) hh2l _), HP2.out.to Later.au⟩
     ·simp only [ga, gs, gz]
      go_simp
      go_at_call 54; (with_reducible refine (Hm2.out _).mono ?_); rintro e wb3 ⟨rfl, rfl⟩
      try go_wp2_with fail
      refine hK.out _ _ (KF.out _ Later.au) (fun hHeld => ?_)
      clear hK K
      try simp only [ga, gs, gz, Act.put, sa, sz, ss]
      refine rd 7 fun K hK => ?_
      simp only [ga, gs, gz]
      go_simp
      refine hK.out _ _ (KF.out _ Later.au) (fun hHeld => ?_)
      clear hK K
      try simp only [ga, gs, gz, Act.put, sa, sz, ss]
      refine rd 16 fun K hK => ?_
      simp only [ga, gs, gz]
      go_simp
      go_at_call 55; (with_reducible refine (Ha2.out _).mono ?_); rintro e wb4 ⟨rfl, rfl⟩
      try go_wp2_with fail
      refine hK.out _ _ (KF.out _ Later.au) (fun hHeld => ?_)
      clear hK K
      try simp only [ga, gs, gz, Act.put, sa, sz, ss]
      refine tk 17 ?_
      refine rd 18 fun K hK => ?_
      simp only [ga, gs, gz]
      go_simp
      refine hK.out _ _ ?_ (fun hHeld => ?_)
      ·(try dsimp only); (refine ⟨?_, ?_, ?_, ?_, ?_⟩ <;> (repeat (refine cell_setfar ?_ (by first | omega | (simp; done) | (simp; omega)))) <;> (refine Later.cell (Later.au : Later B1 _) ?_) <;> assumption)
      clear hK K
      try simp only [ga, gs, gz, Act.put, sa, sz, ss]
      clear KF
      refine wpAnyH_done (by kernel_rfl) ?_ _
      refine NoPanic.normal ?_
      refine OnlyNormal.mk ?_
      clear hHeld u1' u2' ut ub vt vX vXf
      gi_wp2_with fail
      exact ⟨Above.trans Hab.out (Above.setCell (p := ⟨h2, zx, none⟩) hh2l _), HP2.out.to Later.au⟩
    ·simp only [ga, gs, gz]
     go_simp
     go_at_call 54; (with_reducible refine (Hm1.out _).mono ?_); rintro e wb ⟨rfl, rfl⟩
     try go_wp2_with fail
     refine hK.out _ _ (KF.out _ Later.au) (fun hHeld => ?_)
     clear hK K
     try simp only [ga, gs, gz, Act.put, sa, sz, ss]
     refine rd 7 fun K hK => ?_
     simp only [ga, gs, gz]
     go_simp
     refine hK.out _ _ (KF.out _ Later.au) (fun hHeld => ?_)
     clear hK K
     try simp only [ga, gs, gz, Act.put, sa, sz, ss]
     refine rd 16 fun K hK => ?_
     simp only [ga, gs, gz]
     go_simp
     go_at_call 55; (with_reducible refine (Ha1.out _).mono ?_); rintro e wb2 ⟨rfl, rfl⟩
     try go_wp2_with fail
     refine hK.out _ _ (KF.out _ Later.au) (fun hHeld => ?_)
     clear hK K
     try simp only [ga, gs, gz, Act.put, sa, sz, ss]
     refine tk 17 ?_
     refine rd 18 fun K hK => ?_
     simp only [ga, gs, gz]
     go_simp
     refine hK.out _ _ ?_ (fun hHeld => ?_)
     ·(try dsimp only); (refine ⟨?_, ?_, ?_, ?_, ?_⟩ <;> (repeat (refine cell_setfar ?_ (by first | omega | (simp; done) | (simp; omega)))) <;> (refine Later.cell (Later.au : Later A3 _) ?_) <;> assumption)
     clear hK K
     try simp only [ga, gs, gz, Act.put, sa, sz, ss]
     clear KF
     refine wpAnyH_done (by kernel_rfl) ?_ _
     refine NoPanic.normal ?_
     refine OnlyNormal.mk ?_
     clear hHeld u1 u2 ux ua vx vw vf
     gi_wp2_with fail
     have hab : Above w11.heap.size A3 (A3.setCell ⟨h0, zw, none⟩ (.int .i64 (Fx.add wv (Fx.mul gv xv)))) := Above.setCell (p := ⟨h0, zw, none⟩) hhl _
     have Hab := Lib.hid hab
     clear hab
     generalize A3.setCell ⟨h0, zw, none⟩ (.int .i64 (Fx.add wv (Fx.mul gv xv))) = B1 at *
     have KF := Lib.hid (show ∀ Xw, Later B1 Xw → Xw.cell? ⟨A2.heap.size, 1, none⟩ = some (.int .i64 zw) ∧ Xw.cell? ⟨A2.heap.size, 2, none⟩ = some (.int .i64 zx) ∧ Xw.cell? ⟨w.heap.size, 1, none⟩ = some (.slice (some ⟨bt, ot, none⟩) t.c.length d) ∧ Xw.cell? ⟨pb, 0, none⟩ = some (.slice (some ⟨h2, 0, none⟩) x.c.length x.c.length) ∧ Xw.cell? ⟨bt, ot + zw, none⟩ = some (.int .i64 tv) from fun Xw h => ⟨h.cell u1', h.cell u2', h.cell ut, h.cell ub, h.cell vt⟩)
     refine wpIn_round_held_drew (S := fun Xw => Xw.cell? ⟨A2.heap.size, 1, none⟩ = some (.int .i64 zw) ∧ Xw.cell? ⟨A2.heap.size, 2, none⟩ = some (.int .i64 zx) ∧ Xw.cell? ⟨w.heap.size, 1, none⟩ = some (.slice (some ⟨bt, ot, none⟩) t.c.length d) ∧ Xw.cell? ⟨pb, 0, none⟩ = some (.slice (some ⟨h2, 0, none⟩) x.c.length x.c.length) ∧ Xw.cell? ⟨bt, ot + zw, none⟩ = some (.int .i64 tv)) (by kernel_rfl) (by kernel_rfl) (KF.out _ Later.au) (fun hHeld => ?_)
     refine tk 0 ?_
     refine tk 1 ?_
     refine tk 2 ?_
     refine tk 3 ?_
     refine tk 4 ?_
     refine tk 5 ?_
     refine tk 6 ?_
     refine tk 8 ?_
     refine tk 9 ?_
     refine tk 10 ?_
     refine tk 11 ?_
     refine tk 12 ?_
     refine tk 13 ?_
     refine tk 14 ?_
     refine wpAnyH_ready (rs := [7, 15]) (by kernel_rfl) (by simp) ?_
     refine AllReadyH.cons (o := _) rfl (fun K hK => ?_) (AllReadyH.cons (o := _) rfl (fun K hK => ?_) (AllReadyH.nil))
     ·simp only [ga, gs, gz]
      go_simp
      refine hK.out _ _ (KF.out _ Later.au) (fun hHeld => ?_)
      clear hK K
      try simp only [ga, gs, gz, Act.put, sa, sz, ss]
      refine rd 15 fun K hK => ?_
      simp only [ga, gs, gz]
      go_simp
      go_at_call 54; (with_reducible refine (Hm2.out _).mono ?_); rintro e wb3 ⟨rfl, rfl⟩
      try go_wp2_with fail
      refine hK.out _ _ (KF.out _ Later.au) (fun hHeld => ?_)
      clear hK K
      try simp only [ga, gs, gz, Act.put, sa, sz, ss]
      refine rd 16 fun K hK => ?_
      simp only [ga, gs, gz]
      go_simp
      go_at_call 55; (with_reducible refine (Ha2.out _).mono ?_); rintro e wb4 ⟨rfl, rfl⟩
      try go_wp2_with fail
      refine hK.out _ _ (KF.out _ Later.au) (fun hHeld => ?_)
      clear hK K
      try simp only [ga, gs, gz, Act.put, sa, sz, ss]
      refine tk 17 ?_
      refine rd 18 fun K hK => ?_
      simp only [ga, gs, gz]
      go_simp
      refine hK.out _ _ ?_ (fun hHeld => ?_)
      ·(try dsimp only); (refine ⟨?_, ?_, ?_, ?_, ?_⟩ <;> (repeat (refine cell_setfar ?_ (by first | omega | (simp; done) | (simp; omega)))) <;> (refine Later.cell (Later.au : Later B1 _) ?_) <;> assumption)
      clear hK K
      try simp only [ga, gs, gz, Act.put, sa, sz, ss]
      clear KF
      refine wpAnyH_done (by kernel_rfl) ?_ _
      refine NoPanic.normal ?_
      refine OnlyNormal.mk ?_
      clear hHeld u1' u2' ut ub vt vX vXf
      gi_wp2_with fail
      exact ⟨Above.trans Hab.out (Above.setCell (p := ⟨h2, zx, none⟩) hh2l _), HP2.out.to Later.au⟩
     ·simp only [ga, gs, gz]
      go_simp
      go_at_call 54; (with_reducible refine (Hm2.out _).mono ?_); rintro e wb3 ⟨rfl, rfl⟩
      try go_wp2_with fail
      refine hK.out _ _ (KF.out _ Later.au) (fun hHeld => ?_)
      clear hK K
      try simp only [ga, gs, gz, Act.put, sa, sz, ss]
      refine rd 7 fun K hK => ?_
      simp only [ga, gs, gz]
      go_simp
      refine hK.out _ _ (KF.out _ Later.au) (fun hHeld => ?_)
      clear hK K
      try simp only [ga, gs, gz, Act.put, sa, sz, ss]
      refine rd 16 fun K hK => ?_
      simp only [ga, gs, gz]
      go_simp
      go_at_call 55; (with_reducible refine (Ha2.out _).mono ?_); rintro e wb4 ⟨rfl, rfl⟩
      try go_wp2_with fail
      refine hK.out _ _ (KF.out _ Later.au) (fun hHeld => ?_)
      clear hK K
      try simp only [ga, gs, gz, Act.put, sa, sz, ss]
      refine tk 17 ?_
      refine rd 18 fun K hK => ?_
      simp only [ga, gs, gz]
      go_simp
      refine hK.out _ _ ?_ (fun hHeld => ?_)
      ·(try dsimp only); (refine ⟨?_, ?_, ?_, ?_, ?_⟩ <;> (repeat (refine cell_setfar ?_ (by first | omega | (simp; done) | (simp; omega)))) <;> (refine Later.cell (Later.au : Later B1 _) ?_) <;> assumption)
      clear hK K
      try simp only [ga, gs, gz, Act.put, sa, sz, ss]
      clear KF
      refine wpAnyH_done (by kernel_rfl) ?_ _
      refine NoPanic.normal ?_
      refine OnlyNormal.mk ?_
      clear hHeld u1' u2' ut ub vt vX vXf
      gi_wp2_with fail
      exact ⟨Above.trans Hab.out (Above.setCell (p := ⟨h2, zx, none⟩) hh2l _), HP2.out.to Later.au⟩
   case hdone =>
    rintro D W H hD hK
    obtain ⟨wl, wi⟩ := Ly.convW_facts g.c x.c t.c.length fr.all
    obtain ⟨xl, xi⟩ := Ly.convX_facts g.c t.c x.c.length fr.all
    have hHE := HE.out
    rw [hT] at hHE
    generalize Ly.convW g.c x.c fr.all t.c.length = W0 at *
    generalize Ly.convX g.c t.c fr.all x.c.length = X0 at *
    obtain ⟨o0, o1, o2, o3, -⟩ := four_facts H.ke
    obtain ⟨c0, c1, c2, c3, f0, f1, f2, f3⟩ := four_facts H.kz
    have hz4 := four_blk (u0 := (.slice (some ⟨g0, 0, none⟩) t.s.length t.s.length)) (u1 := (.slice (some ⟨h0, 0, none⟩) t.c.length t.c.length)) (u2 := (.slice (some ⟨g2, 0, none⟩) x.s.length x.s.length)) (u3 := (.slice (some ⟨h2, 0, none⟩) x.c.length x.c.length)) H.kz
    obtain ⟨d0, d1, d2, d3, -⟩ := four_facts hz4
    have hE4 := four_else (.slice (some ⟨g0, 0, none⟩) t.s.length t.s.length) (.slice (some ⟨h0, 0, none⟩) t.c.length t.c.length) (.slice (some ⟨g2, 0, none⟩) x.s.length x.s.length) (.slice (some ⟨h2, 0, none⟩) x.c.length x.c.length) (w.heap.size + 3) W
    have hzl := HI11.out.kz.lt
    have m1 : w.heap.size + 3 ≠ D := by omega
    have hK2 := (hE4.1 D (Ne.symm m1)).trans hK
    have lo := H.lo
    have y0 : g0 ≠ D := by have := HI11.out.G0.lt; omega
    have y1 : h0 ≠ D := by have := HI11.out.H0.lt; omega
    have y2 : g2 ≠ D := by have := HI11.out.G2.lt; omega
    have y3 : h2 ≠ D := by have := HI11.out.H2.lt; omega
    have j0 := hE4.blk (blk_ne H.G0 H.kz (by decide)) H.G0
    have j1 := hE4.blk (blk_ne H.H0 H.kz (by decide)) H.H0
    have j2 := hE4.blk (blk_ne H.G2 H.kz (by decide)) H.G2
    have j3 := hE4.blk (blk_ne H.H2 H.kz (by decide)) H.H2
    have j4 : Later w (four (.slice (some ⟨g0, 0, none⟩) t.s.length t.s.length) (.slice (some ⟨h0, 0, none⟩) t.c.length t.c.length) (.slice (some ⟨g2, 0, none⟩) x.s.length x.s.length) (.slice (some ⟨h2, 0, none⟩) x.c.length x.c.length) (w.heap.size + 3) W) := hE4.below H.later (by omega)
    have hDw : w.heap.size ≤ D := by omega
    unfold four at d0 d1 d2 d3 hK2 j0 j1 j2 j3 j4
    clear hE4 hz4 hs hps hpl hT
    have HH := Lib.hid H
    have HK := Lib.hid hK
    have HK2 := Lib.hid hK2
    have Hwi := Lib.hid wi
    have Hxi := Lib.hid xi
    have Hwl := Lib.hid wl
    have Hxl := Lib.hid xl
    have Hj0 := Lib.hid j0
    have Hj1 := Lib.hid j1
    have Hj2 := Lib.hid j2
    have Hj3 := Lib.hid j3
    have Hj4 := Lib.hid j4
    have HHE := Lib.hid hHE
    have Hd0 := Lib.hid d0
    have Hd1 := Lib.hid d1
    have Hd2 := Lib.hid d2
    have Hd3 := Lib.hid d3
    clear H hK hK2 wi xi wl xl j0 j1 j2 j3 j4 hHE d0 d1 d2 d3
    go_wp2_with fail
    refine ⟨by simp, .inl ⟨_, _, rfl, run_takeDeferred HK2.out, ?_⟩⟩
    have e0 := (World.cell?_of_block (World.putObj_heap_other (o := .deferred none) (w := (((W.setCell ⟨w.heap.size + 3, 0, none⟩ (.slice (some ⟨g0, 0, none⟩) t.s.length t.s.length)).setCell ⟨w.heap.size + 3, 1, none⟩ (.slice (some ⟨h0, 0, none⟩) t.c.length t.c.length)).setCell ⟨w.heap.size + 3, 2, none⟩ (.slice (some ⟨g2, 0, none⟩) x.s.length x.s.length)).setCell ⟨w.heap.size + 3, 3, none⟩ (.slice (some ⟨h2, 0, none⟩) x.c.length x.c.length)) m1)).trans Hd0.out
    have e1 := (World.cell?_of_block (World.putObj_heap_other (o := .deferred none) (w := (((W.setCell ⟨w.heap.size + 3, 0, none⟩ (.slice (some ⟨g0, 0, none⟩) t.s.length t.s.length)).setCell ⟨w.heap.size + 3, 1, none⟩ (.slice (some ⟨h0, 0, none⟩) t.c.length t.c.length)).setCell ⟨w.heap.size + 3, 2, none⟩ (.slice (some ⟨g2, 0, none⟩) x.s.length x.s.length)).setCell ⟨w.heap.size + 3, 3, none⟩ (.slice (some ⟨h2, 0, none⟩) x.c.length x.c.length)) m1)).trans Hd1.out
    have e2 := (World.cell?_of_block (World.putObj_heap_other (o := .deferred none) (w := (((W.setCell ⟨w.heap.size + 3, 0, none⟩ (.slice (some ⟨g0, 0, none⟩) t.s.length t.s.length)).setCell ⟨w.heap.size + 3, 1, none⟩ (.slice (some ⟨h0, 0, none⟩) t.c.length t.c.length)).setCell ⟨w.heap.size + 3, 2, none⟩ (.slice (some ⟨g2, 0, none⟩) x.s.length x.s.length)).setCell ⟨w.heap.size + 3, 3, none⟩ (.slice (some ⟨h2, 0, none⟩) x.c.length x.c.length)) m1)).trans Hd2.out
    have e3 := (World.cell?_of_block (World.putObj_heap_other (o := .deferred none) (w := (((W.setCell ⟨w.heap.size + 3, 0, none⟩ (.slice (some ⟨g0, 0, none⟩) t.s.length t.s.length)).setCell ⟨w.heap.size + 3, 1, none⟩ (.slice (some ⟨h0, 0, none⟩) t.c.length t.c.length)).setCell ⟨w.heap.size + 3, 2, none⟩ (.slice (some ⟨g2, 0, none⟩) x.s.length x.s.length)).setCell ⟨w.heap.size + 3, 3, none⟩ (.slice (some ⟨h2, 0, none⟩) x.c.length x.c.length)) m1)).trans Hd3.out
    have b0 : Blk (((((W.setCell ⟨w.heap.size + 3, 0, none⟩ (.slice (some ⟨g0, 0, none⟩) t.s.length t.s.length)).setCell ⟨w.heap.size + 3, 1, none⟩ (.slice (some ⟨h0, 0, none⟩) t.c.length t.c.length)).setCell ⟨w.heap.size + 3, 2, none⟩ (.slice (some ⟨g2, 0, none⟩) x.s.length x.s.length)).setCell ⟨w.heap.size + 3, 3, none⟩ (.slice (some ⟨h2, 0, none⟩) x.c.length x.c.length)).putObj D (.deferred none)) g0 3 (t.s.map (Value.int .i64)).toArray := (World.putObj_heap_other y0).trans Hj0.out
    have b1 : Blk (((((W.setCell ⟨w.heap.size + 3, 0, none⟩ (.slice (some ⟨g0, 0, none⟩) t.s.length t.s.length)).setCell ⟨w.heap.size + 3, 1, none⟩ (.slice (some ⟨h0, 0, none⟩) t.c.length t.c.length)).setCell ⟨w.heap.size + 3, 2, none⟩ (.slice (some ⟨g2, 0, none⟩) x.s.length x.s.length)).setCell ⟨w.heap.size + 3, 3, none⟩ (.slice (some ⟨h2, 0, none⟩) x.c.length x.c.length)).putObj D (.deferred none)) h0 22 (W0.map (Value.int .i64)).toArray := (World.putObj_heap_other y1).trans Hj1.out
    have b2 : Blk (((((W.setCell ⟨w.heap.size + 3, 0, none⟩ (.slice (some ⟨g0, 0, none⟩) t.s.length t.s.length)).setCell ⟨w.heap.size + 3, 1, none⟩ (.slice (some ⟨h0, 0, none⟩) t.c.length t.c.length)).setCell ⟨w.heap.size + 3, 2, none⟩ (.slice (some ⟨g2, 0, none⟩) x.s.length x.s.length)).setCell ⟨w.heap.size + 3, 3, none⟩ (.slice (some ⟨h2, 0, none⟩) x.c.length x.c.length)).putObj D (.deferred none)) g2 3 (x.s.map (Value.int .i64)).toArray := (World.putObj_heap_other y2).trans Hj2.out
    have b3 : Blk (((((W.setCell ⟨w.heap.size + 3, 0, none⟩ (.slice (some ⟨g0, 0, none⟩) t.s.length t.s.length)).setCell ⟨w.heap.size + 3, 1, none⟩ (.slice (some ⟨h0, 0, none⟩) t.c.length t.c.length)).setCell ⟨w.heap.size + 3, 2, none⟩ (.slice (some ⟨g2, 0, none⟩) x.s.length x.s.length)).setCell ⟨w.heap.size + 3, 3, none⟩ (.slice (some ⟨h2, 0, none⟩) x.c.length x.c.length)).putObj D (.deferred none)) h2 22 (X0.map (Value.int .i64)).toArray := (World.putObj_heap_other y3).trans Hj3.out
    have b4 : Later w (((((W.setCell ⟨w.heap.size + 3, 0, none⟩ (.slice (some ⟨g0, 0, none⟩) t.s.length t.s.length)).setCell ⟨w.heap.size + 3, 1, none⟩ (.slice (some ⟨h0, 0, none⟩) t.c.length t.c.length)).setCell ⟨w.heap.size + 3, 2, none⟩ (.slice (some ⟨g2, 0, none⟩) x.s.length x.s.length)).setCell ⟨w.heap.size + 3, 3, none⟩ (.slice (some ⟨h2, 0, none⟩) x.c.length x.c.length)).putObj D (.deferred none)) := Below.trans Hj4.out (below_put _ _ hDw)
    simp only [Nat.add_assoc, Nat.reduceAdd]
    generalize ((((W.setCell ⟨w.heap.size + 3, 0, none⟩ (.slice (some ⟨g0, 0, none⟩) t.s.length t.s.length)).setCell ⟨w.heap.size + 3, 1, none⟩ (.slice (some ⟨h0, 0, none⟩) t.c.length t.c.length)).setCell ⟨w.heap.size + 3, 2, none⟩ (.slice (some ⟨g2, 0, none⟩) x.s.length x.s.length)).setCell ⟨w.heap.size + 3, 3, none⟩ (.slice (some ⟨h2, 0, none⟩) x.c.length x.c.length)).putObj D (.deferred none) = W4 at *
    refine ⟨.tuple #[.agg #[.slice (some ⟨g0, 0, none⟩) t.s.length t.s.length, .slice (some ⟨h0, 0, none⟩) t.c.length t.c.length, .slice (some ⟨g2, 0, none⟩) x.s.length x.s.length, .slice (some ⟨h2, 0, none⟩) x.c.length x.c.length], .int .i64 0], by simp [results, Tryz.results13, go_sem, e0, e1, e2, e3], ?_⟩
    rw [HHE.out]
    refine ⟨.inr ⟨rfl, _, _, _, _, _, _, _, _, by simp only [Hwl.out, Hxl.out]; rfl, ?_, ?_⟩, b4⟩
    ·exact teno_of (s := t.s) (c := W0) b0 b1 lo.1 lo.2.2.2.1 l1 (by have := Hwl.out; omega) Hwi.out Hwl.out
    ·exact teno_of (s := x.s) (c := X0) b2 b3 lo.2.1 (by omega) l3 (by have := Hxl.out; omega) Hxi.out Hxl.out
end Go.Proofs.YtbnnpkcfifejmaaGreat
namespace Go.Proofs.YtbnnpkcfifejmaaGreat
open Go.RowKit
namespace Ly
theorem denseBack_none {w b x g : Ten} (h : (denseBack w b x g).2 ≠ 0) : (denseBack w b x g).1 = (none_, none_, none_) := by
 unfold denseBack at h ⊢
 split at h
 ·exact absurd rfl h
 ·rename_i h1
  rw [if_neg h1]
theorem convBack_none {w x g : Ten} {st : Int} (h : (convBack w x g st).2 ≠ 0) : (convBack w x g st).1 = (none_, none_) := by
 unfold convBack at h ⊢
 split at h
 ·rename_i h1
  rw [if_pos h1]
  split at h
  ·exact absurd rfl h
  ·rename_i h2
   rw [if_neg h2]
 ·rename_i h1
  rw [if_neg h1]
end Ly
def GoDU (r : (Ten × Ten × Ten) × Int) (w : World) (e : Ending) (w' : World) : Prop :=
 ∃ S0 c0 C0 d0 S1 c1 C1 d1 S2 c2 C2 d2, e = .returned (.tuple #[.agg #[.slice S0 r.1.1.s.length c0, .slice C0 r.1.1.c.length d0, .slice S1 r.1.2.1.s.length c1, .slice C1 r.1.2.1.c.length d1, .slice S2 r.1.2.2.s.length c2, .slice C2 r.1.2.2.c.length d2], .int .i64 r.2]) ∧
  (r.2 = 0 → TenO w.heap.size w' (.agg #[.slice S0 r.1.1.s.length c0, .slice C0 r.1.1.c.length d0]) r.1.1 ∧ TenO w.heap.size w' (.agg #[.slice S1 r.1.2.1.s.length c1, .slice C1 r.1.2.1.c.length d1]) r.1.2.1 ∧ TenO w.heap.size w' (.agg #[.slice S2 r.1.2.2.s.length c2, .slice C2 r.1.2.2.c.length d2]) r.1.2.2) ∧ Below w.heap.size w w'
theorem GoD.u {r : (Ten × Ten × Ten) × Int} {w w' : World} {e : Ending} (h : GoD r w e w') (hn : r.2 ≠ 0 → r.1 = (Ly.none_, Ly.none_, Ly.none_)) : GoDU r w e w' := by
 obtain ⟨⟨h1, rfl⟩ | ⟨h1, S0, c0, C0, d0, S1, c1, C1, d1, S2, c2, C2, d2, rfl, t0, t1, t2⟩, h2⟩ := h
 ·refine ⟨none, 0, none, 0, none, 0, none, 0, none, 0, none, 0, ?_, fun h => absurd h h1, h2⟩
  rw [hn h1]; rfl
 ·exact ⟨S0, c0, C0, d0, S1, c1, C1, d1, S2, c2, C2, d2, by rw [h1], fun _ => ⟨t0, t1, t2⟩, h2⟩
def GoCU (r : (Ten × Ten) × Int) (w : World) (e : Ending) (w' : World) : Prop :=
 ∃ S0 c0 C0 d0 S2 c2 C2 d2, e = .returned (.tuple #[.agg #[.slice S0 r.1.1.s.length c0, .slice C0 r.1.1.c.length d0, .slice S2 r.1.2.s.length c2, .slice C2 r.1.2.c.length d2], .int .i64 r.2]) ∧
  (r.2 = 0 → TenO w.heap.size w' (.agg #[.slice S0 r.1.1.s.length c0, .slice C0 r.1.1.c.length d0]) r.1.1 ∧ TenO w.heap.size w' (.agg #[.slice S2 r.1.2.s.length c2, .slice C2 r.1.2.c.length d2]) r.1.2) ∧ Below w.heap.size w w'
theorem GoC.u {r : (Ten × Ten) × Int} {w w' : World} {e : Ending} (h : GoC r w e w') (hn : r.2 ≠ 0 → r.1 = (Ly.none_, Ly.none_)) : GoCU r w e w' := by
 obtain ⟨⟨h1, rfl⟩ | ⟨h1, S0, c0, C0, d0, S2, c2, C2, d2, rfl, t0, t2⟩, h2⟩ := h
 ·refine ⟨none, 0, none, 0, none, 0, none, 0, ?_, fun h => absurd h h1, h2⟩
  rw [hn h1]; rfl
 ·exact ⟨S0, c0, C0, d0, S2, c2, C2, d2, by rw [h1], fun _ => ⟨t0, t2⟩, h2⟩
end Go.Proofs.YtbnnpkcfifejmaaGreat

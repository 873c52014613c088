/- Lemmas for the statements of this seat: contracts of functions and the plain laws. -/
import Derived.Test.YtbnnpkcfifejmaaGreatRows
import Derived.Test.YtbnnpkcfifejmaaGreatZ12
set_option linter.unusedVariables false
namespace Go.Proofs.YtbnnpkcfifejmaaGreat
open Go.RowKit
theorem TnsO.two {B p : Nat} {w : World} {S0 C0 S1 C1 : Option Addr} {c0 d0 c1 d1 : Nat} {t u : Ten} {T : TypeId} (hb : Blk w p T #[.slice S0 t.s.length c0, .slice C0 t.c.length d0, .slice S1 u.s.length c1, .slice C1 u.c.length d1]) (hB : B ≤ p)
  (ht : TenO B w (.agg #[.slice S0 t.s.length c0, .slice C0 t.c.length d0]) t) (hu : TenO B w (.agg #[.slice S1 u.s.length c1, .slice C1 u.c.length d1]) u) : TnsO B w (some ⟨p, 0, none⟩) [t, u] := by
 refine ⟨fun a e => ?_, fun j hj => ?_⟩
 ·injection e with e; subst e; exact ⟨p, rfl, hB, hb.lt, fun k => hb.frozen k⟩
 ·match j, hj with
  | 0, _ => exact ⟨p, S0, c0, C0, d0, rfl, hb.cell 0, hb.cell 1, ht⟩
  | 1, _ => exact ⟨p, S1, c1, C1, d1, rfl, hb.cell 2, hb.cell 3, hu⟩
  | n + 2, h => simp at h; omega
theorem six_noint {w : World} {p : Nat} {T : TypeId} (h : Blk w p T #[.slice none 0 0, .slice none 0 0, .slice none 0 0, .slice none 0 0, .slice none 0 0, .slice none 0 0]) : ∀ k z, w.cell? ⟨p, k, none⟩ ≠ some (.int .i64 z) := noint h (fun k z => by
 match k with
 | 0 => simp
 | 1 => simp
 | 2 => simp
 | 3 => simp
 | 4 => simp
 | 5 => simp
 | n + 6 => simp)
namespace Ly
theorem layBack8 {o : OpD} {p x : List Ten} {g : Ten} (h : o.kind = 8) : layBack o p x g = if (Ly.denseBack (Ly.got p 0) (Ly.got p 1) (Ly.got x 0) g).2 = 0 then (⟨[(Ly.denseBack (Ly.got p 0) (Ly.got p 1) (Ly.got x 0) g).1.1, (Ly.denseBack (Ly.got p 0) (Ly.got p 1) (Ly.got x 0) g).1.2.1], [(Ly.denseBack (Ly.got p 0) (Ly.got p 1) (Ly.got x 0) g).1.2.2]⟩, 0) else (bnone, (Ly.denseBack (Ly.got p 0) (Ly.got p 1) (Ly.got x 0) g).2) := by
 unfold layBack
 rw [if_pos h]
end Ly
def OpCut8 (w w2 : World) (R : (Ten × Ten × Ten) × Int) (a b : Value) (wx : World) : Prop :=
 ∃ tb U0 e0 V0 f0 U1 e1 V1 f1 U2 e2 V2 f2, a = .pointer (some ⟨tb, 0, none⟩) ∧ b = .int .i64 R.2 ∧ w2.heap.size ≤ tb ∧ Blk wx tb 42 #[.slice U0 R.1.1.s.length e0, .slice V0 R.1.1.c.length f0, .slice U1 R.1.2.1.s.length e1, .slice V1 R.1.2.1.c.length f1, .slice U2 R.1.2.2.s.length e2, .slice V2 R.1.2.2.c.length f2] ∧ (R.2 = 0 → TenO w.heap.size wx (.agg #[.slice U0 R.1.1.s.length e0, .slice V0 R.1.1.c.length f0]) R.1.1 ∧ TenO w.heap.size wx (.agg #[.slice U1 R.1.2.1.s.length e1, .slice V1 R.1.2.1.c.length f1]) R.1.2.1 ∧ TenO w.heap.size wx (.agg #[.slice U2 R.1.2.2.s.length e2, .slice V2 R.1.2.2.c.length f2]) R.1.2.2) ∧ Later w2 wx
set_option maxHeartbeats 16000000 in
set_option maxRecDepth 20000 in
theorem op_back8 (o : OpD) (S P X GS GC : Option Addr) (c cp cx gc gd : Nat) (p x : List Ten) (g : Ten) (w : World) (hk : o.kind = 8) (ho : o.s.length ≤ 1048576) (hI : Ints .i64 w S o.s) (hP : Tns w P p) (hX : Tns w X x) (hG : TenIn w GS GC gc gd g) (hc : Od.counts o p.length x.length = 0) :
  Calls Tryz.prog 11 #[.agg #[.int .i64 o.kind, .int .i64 o.k, .int .i64 o.width, .int .i64 o.step, .int .i64 o.side, .int .i64 o.frm, .int .i64 o.to, .slice S o.s.length c], .slice P p.length cp, .slice X x.length cx, .agg #[.slice GS g.s.length gc, .slice GC g.c.length gd]] w (GoB (Ly.layBack o p x g) w) := by
 have h01 : Later w (((w.alloc (.cells #[.int .i64 o.kind, .int .i64 o.k, .int .i64 o.width, .int .i64 o.step, .int .i64 o.side, .int .i64 o.frm, .int .i64 o.to, .slice S o.s.length c] 26)).alloc (.cells #[.slice GS g.s.length gc, .slice GC g.c.length gd] 30)).alloc (.cells #[.slice none 0 0, .slice none 0 0] 38)) := (((Later.refl w).alloc _).alloc _).alloc _
 have hko1 := ((Blk.new w 26 #[.int .i64 o.kind, .int .i64 o.k, .int .i64 o.width, .int .i64 o.step, .int .i64 o.side, .int .i64 o.frm, .int .i64 o.to, .slice S o.s.length c]).alloc (.cells #[.slice GS g.s.length gc, .slice GC g.c.length gd] 30)).alloc (.cells #[.slice none 0 0, .slice none 0 0] 38)
 have hkg1 := (Blk.new (w.alloc (.cells #[.int .i64 o.kind, .int .i64 o.k, .int .i64 o.width, .int .i64 o.step, .int .i64 o.side, .int .i64 o.frm, .int .i64 o.to, .slice S o.s.length c] 26)) 30 #[.slice GS g.s.length gc, .slice GC g.c.length gd]).alloc (.cells #[.slice none 0 0, .slice none 0 0] 38)
 have hz1 := Blk.new ((w.alloc (.cells #[.int .i64 o.kind, .int .i64 o.k, .int .i64 o.width, .int .i64 o.step, .int .i64 o.side, .int .i64 o.frm, .int .i64 o.to, .slice S o.s.length c] 26)).alloc (.cells #[.slice GS g.s.length gc, .slice GC g.c.length gd] 30)) 38 #[.slice none 0 0, .slice none 0 0]
 simp only [World.size_alloc] at hkg1 hz1
 have hun := Ly.counts_ok hc
 unfold Od.least Od.most Od.params at hun
 have hpl : p.length = 2 := by have := hun.1; have h3 := hun.2.2.2; rw [if_pos this] at h3; simp [hk] at h3; omega
 have hxl : x.length = 1 := by have := hun.1; have h1 := hun.2.1; have h2 := hun.2.2.1; rw [if_pos this] at h1 h2; simp [hk] at h1 h2; omega
 have HE := Lib.hid (Ly.layBack8 (p := p) (x := x) (g := g) hk)
 have HC := Lib.hid hc
 have Hpl := Lib.hid hpl
 have Hxl := Lib.hid hxl
 have Hk := Lib.hid hk
 clear hun hc hpl hxl hk
 have HI := Lib.hid hI
 have HP := Lib.hid hP
 have HX := Lib.hid hX
 have HG := Lib.hid hG
 have H01 := Lib.hid h01
 have Hko1 := Lib.hid hko1
 have Hkg1 := Lib.hid hkg1
 have Hz1 := Lib.hid hz1
 clear hI hP hX hG h01 hko1 hkg1 hz1
 go_enter Tryz.func11, Tryz.ntmps11
 go_wp2_with fail
 generalize ((w.alloc (.cells #[.int .i64 o.kind, .int .i64 o.k, .int .i64 o.width, .int .i64 o.step, .int .i64 o.side, .int .i64 o.frm, .int .i64 o.to, .slice S o.s.length c] 26)).alloc (.cells #[.slice GS g.s.length gc, .slice GC g.c.length gd] 30)).alloc (.cells #[.slice none 0 0, .slice none 0 0] 38) = w1 at *
 refine (op_counts o S c p.length x.length w1 (by omega) (HI.out.below H01.out (Nat.le_refl _))).mono ?_
 rintro e w2 ⟨rfl, hb2⟩
 rw [HC.out]
 have h12 : Later w1 w2 := hb2
 have hH := H01.out.trans h12
 have hz := h12.blk Hz1.out
 have hko := h12.blk Hko1.out
 have hkg := h12.blk Hkg1.out
 clear hb2 h12 H01 Hz1 Hko1 Hkg1
 have HH := Lib.hid hH
 have Hz := Lib.hid hz
 have Hko := Lib.hid hko
 have Hkg := Lib.hid hkg
 clear hH hz hko hkg
 obtain ⟨bp, po, S0, c0, C0, d0, rfl, lbp, p00, p01, hT0⟩ := HP.out.at_ (j := 0) (by have := Hpl.out; omega)
 obtain ⟨bp2, po2, S1, c1, C1, d1, ep, -, p10, p11, hT1⟩ := HP.out.at_ (j := 1) (by have := Hpl.out; omega)
 injection ep with ep; injection ep with ep1 ep2; subst ep1 ep2
 obtain ⟨bx, xo, S2, c2, C2, d2, rfl, lbx, x00, x01, hT2⟩ := HX.out.at_ (j := 0) (by have := Hxl.out; omega)
 have hcall := fun (W : World) (h : Later w2 W) => (dense_back S0 C0 S1 C1 S2 C2 GS GC c0 d0 c1 d1 c2 d2 gc gd (Ly.got p 0) (Ly.got p 1) (Ly.got x 0) g W (hT0.later (HH.out.trans h)) (hT1.later (HH.out.trans h)) (hT2.later (HH.out.trans h)) (HG.out.later (HH.out.trans h))).mono (fun e w' q => q.u Ly.denseBack_none)
 have hE := HE.out
 obtain ⟨R, hR⟩ : ∃ R, Ly.denseBack (Ly.got p 0) (Ly.got p 1) (Ly.got x 0) g = R := ⟨_, rfl⟩
 rw [hR] at hE
 have hcall2 : ∀ W, Later w2 W → Calls Tryz.prog 12 _ W (GoDU R W) := hR ▸ hcall
 have q1 : w2.cell? ⟨bp, po, none⟩ = some (.slice S0 (Ly.got p 0).s.length c0) := HH.out.cell (by simpa using p00)
 have q2 : w2.cell? ⟨bp, po + 1, none⟩ = some (.slice C0 (Ly.got p 0).c.length d0) := HH.out.cell (by simpa using p01)
 have q3 : w2.cell? ⟨bp, po + 2, none⟩ = some (.slice S1 (Ly.got p 1).s.length c1) := HH.out.cell (by simpa using p10)
 have q4 : w2.cell? ⟨bp, po + 2 + 1, none⟩ = some (.slice C1 (Ly.got p 1).c.length d1) := HH.out.cell (by simpa using p11)
 have q5 : w2.cell? ⟨bx, xo, none⟩ = some (.slice S2 (Ly.got x 0).s.length c2) := HH.out.cell (by simpa using x00)
 have q6 : w2.cell? ⟨bx, xo + 1, none⟩ = some (.slice C2 (Ly.got x 0).c.length d2) := HH.out.cell (by simpa using x01)
 have q7 : w2.cell? ⟨w.heap.size + 1, 0, none⟩ = some (.slice GS g.s.length gc) := by rw [Hkg.out.cell]; rfl
 have q8 : w2.cell? ⟨w.heap.size + 1, 1, none⟩ = some (.slice GC g.c.length gd) := by rw [Hkg.out.cell]; rfl
 have x0 : w2.cell? ⟨w.heap.size, 0, none⟩ = some (.int .i64 8) := by rw [Hko.out.cell, ← Hk.out]; rfl
 have hs0 := HH.out.size
 have hs2 := Hz.out.lt
 rw [Hxl.out, Hpl.out]
 clear hR hcall p00 p01 hT0 p10 p11 hT1 x00 x01 hT2 HE
 have Hcall2 := Lib.hid hcall2
 have HE := Lib.hid hE
 clear hcall2 hE
 go_upto_region 6 with fail
 clear x0
 go_cut [11, 12] (OpCut8 w w2 R)
 case first =>
  go_wp2_with fail
  have KF := Lib.hid (show ∀ Xw, Later w2 Xw → Xw.cell? ⟨bp, po, none⟩ = some (.slice S0 (Ly.got p 0).s.length c0) ∧ Xw.cell? ⟨bp, po + 1, none⟩ = some (.slice C0 (Ly.got p 0).c.length d0) ∧ Xw.cell? ⟨bp, po + 2, none⟩ = some (.slice S1 (Ly.got p 1).s.length c1) ∧ Xw.cell? ⟨bp, po + 2 + 1, none⟩ = some (.slice C1 (Ly.got p 1).c.length d1) ∧ Xw.cell? ⟨bx, xo, none⟩ = some (.slice S2 (Ly.got x 0).s.length c2) ∧ Xw.cell? ⟨bx, xo + 1, none⟩ = some (.slice C2 (Ly.got x 0).c.length d2) ∧ Xw.cell? ⟨w.heap.size + 1, 0, none⟩ = some (.slice GS g.s.length gc) ∧ Xw.cell? ⟨w.heap.size + 1, 1, none⟩ = some (.slice GC g.c.length gd) from fun Xw h => ⟨h.cell q1, h.cell q2, h.cell q3, h.cell q4, h.cell q5, h.cell q6, h.cell q7, h.cell q8⟩)
  refine wp_region_noPanic ?_
  refine wp_region_held_drew (S := fun Xw => Xw.cell? ⟨bp, po, none⟩ = some (.slice S0 (Ly.got p 0).s.length c0) ∧ Xw.cell? ⟨bp, po + 1, none⟩ = some (.slice C0 (Ly.got p 0).c.length d0) ∧ Xw.cell? ⟨bp, po + 2, none⟩ = some (.slice S1 (Ly.got p 1).s.length c1) ∧ Xw.cell? ⟨bp, po + 2 + 1, none⟩ = some (.slice C1 (Ly.got p 1).c.length d1) ∧ Xw.cell? ⟨bx, xo, none⟩ = some (.slice S2 (Ly.got x 0).s.length c2) ∧ Xw.cell? ⟨bx, xo + 1, none⟩ = some (.slice C2 (Ly.got x 0).c.length d2) ∧ Xw.cell? ⟨w.heap.size + 1, 0, none⟩ = some (.slice GS g.s.length gc) ∧ Xw.cell? ⟨w.heap.size + 1, 1, none⟩ = some (.slice GC g.c.length gd)) (by kernel_rfl) (KF.out _ Later.au) (fun hHeld => ?_)
  refine tk 0 ?_
  refine tk 1 ?_
  refine tk 2 ?_
  refine tk 3 ?_
  refine tk 4 ?_
  refine tk 5 ?_
  refine tk 6 ?_
  refine tk 7 ?_
  refine tk 8 ?_
  refine tk 9 ?_
  refine wpAnyH_ready (rs := [10, 14]) (by kernel_rfl) (by simp) ?_
  refine AllReadyH.cons (o := _) rfl (fun K hK => ?_) (AllReadyH.cons (o := _) rfl (fun K hK => ?_) (AllReadyH.nil))
  ·simp only [ga, gs, gz]
   go_simp
   go_at_call 12
   (with_reducible refine (Hcall2.out _ (Later.au : Later w2 _)).mono ?_)
   rintro e wf ⟨U0, e0, V0, f0, U1, e1, V1, f1, U2, e2, V2, f2, rfl, hof, hbf⟩
   have Hof := Lib.hid hof
   clear hof
   try go_wp2_with fail
   refine hK.out _ _ (KF.out _ Later.au) (fun hHeld => ?_)
   clear hK K
   try simp only [ga, gs, gz, Act.put, sa, sz, ss]
   refine tk 11 ?_
   refine tk 12 ?_
   refine tk 13 ?_
   refine rd 14 fun K hK => ?_
   simp only [ga, gs, gz]
   go_simp
   refine hK.out _ _ (KF.out _ Later.au) (fun hHeld => ?_)
   clear hK K
   try simp only [ga, gs, gz, Act.put, sa, sz, ss]
   refine rd 15 fun K hK => ?_
   simp only [ga, gs, gz]
   go_simp
   refine hK.out _ _ ?_ (fun hHeld => ?_)
   ·(try dsimp only); (refine ⟨?_, ?_, ?_, ?_, ?_, ?_, ?_, ?_⟩ <;> (repeat (refine cell_setfar ?_ (by first | omega | (simp; done) | (simp; omega)))) <;> (refine Later.cell (Later.au : Later w2 _) ?_) <;> assumption)
   clear hK K
   try simp only [ga, gs, gz, Act.put, sa, sz, ss]
   refine tk 16 ?_
   clear KF
   refine wpAnyH_done (by kernel_rfl) ?_ _
   refine NoPanic.normal ?_
   go_wp2_with fail
   have hlg : Later w2 wf := (Later.au : Later w2 wf)
   have hls := hlg.size
   go_meet
   exact ⟨wf.heap.size, U0, e0, V0, f0, U1, e1, V1, f1, U2, e2, V2, f2, rfl, rfl, hls, Blk.new wf _ _, fun h => ⟨((Hof.out h).1.base (by first | omega | (simp; omega))).later ((Later.refl wf).alloc _), ((Hof.out h).2.1.base (by first | omega | (simp; omega))).later ((Later.refl wf).alloc _), ((Hof.out h).2.2.base (by first | omega | (simp; omega))).later ((Later.refl wf).alloc _)⟩, hlg.alloc _⟩
  ·simp only [ga, gs, gz]
   go_simp
   refine hK.out _ _ (KF.out _ Later.au) (fun hHeld => ?_)
   clear hK K
   try simp only [ga, gs, gz, Act.put, sa, sz, ss]
   refine rd 10 fun K hK => ?_
   simp only [ga, gs, gz]
   go_simp
   go_at_call 12
   (with_reducible refine (Hcall2.out _ (Later.au : Later w2 _)).mono ?_)
   rintro e wf ⟨U0, e0, V0, f0, U1, e1, V1, f1, U2, e2, V2, f2, rfl, hof, hbf⟩
   have Hof := Lib.hid hof
   clear hof
   have hbz := (show Later _ wf from hbf).blk ((Blk.new w2 42 #[.slice none 0 0, .slice none 0 0, .slice none 0 0, .slice none 0 0, .slice none 0 0, .slice none 0 0]).drew)
   obtain ⟨z0, z1, z2, z3, z4, z5, y0, y1, y2, y3, y4, y5⟩ := six_facts hbz
   have Hbz := Lib.hid hbz
   clear hbz
   try go_wp2_with fail
   refine hK.out _ _ (KF.out _ Later.au) (fun hHeld => ?_)
   clear hK K
   try simp only [ga, gs, gz, Act.put, sa, sz, ss]
   refine tk 11 ?_
   refine tk 12 ?_
   refine tk 13 ?_
   refine rd 15 fun K hK => ?_
   simp only [ga, gs, gz]
   go_simp
   refine hK.out _ _ ?_ (fun hHeld => ?_)
   ·(try dsimp only); (refine ⟨?_, ?_, ?_, ?_, ?_, ?_, ?_, ?_⟩ <;> (repeat (refine cell_setfar ?_ (by first | omega | (simp; done) | (simp; omega)))) <;> (refine Later.cell (Later.au : Later w2 _) ?_) <;> assumption)
   clear hK K
   try simp only [ga, gs, gz, Act.put, sa, sz, ss]
   refine tk 16 ?_
   clear KF
   refine wpAnyH_done (by kernel_rfl) ?_ _
   refine NoPanic.normal ?_
   go_wp2_with fail
   have hlg : Later w2 wf := (Later.au : Later w2 wf)
   go_meet
   exact ⟨w2.heap.size, U0, e0, V0, f0, U1, e1, V1, f1, U2, e2, V2, f2, rfl, rfl, Nat.le_refl _, six_blk Hbz.out, fun h => ⟨((Hof.out h).1.base (by first | omega | (simp; omega))).else_ (six_else _ _ _ _ _ _ _ _) (six_noint Hbz.out) (fun j => (six_blk Hbz.out).frozen j), ((Hof.out h).2.1.base (by first | omega | (simp; omega))).else_ (six_else _ _ _ _ _ _ _ _) (six_noint Hbz.out) (fun j => (six_blk Hbz.out).frozen j), ((Hof.out h).2.2.base (by first | omega | (simp; omega))).else_ (six_else _ _ _ _ _ _ _ _) (six_noint Hbz.out) (fun j => (six_blk Hbz.out).frozen j)⟩, six_later hlg (Nat.le_refl _) _ _ _ _ _ _⟩
 case rest =>
  obtain ⟨tb, U0, e0, V0, f0, U1, e1, V1, f1, U2, e2, V2, f2, rfl, rfl, htb, hbe, hof, hlc⟩ := hcut
  have h0c := HH.out.trans hlc
  have hzc := hlc.blk Hz.out
  clear q1 q2 q3 q4 q5 q6 q7 q8 Hcall2
  by_cases hR0 : R.2 = 0
  case neg =>
   have hE2 := HE.out
   rw [if_neg hR0] at hE2
   have HR0 := Lib.hid hR0
   have d9 : (R.2 != 0) = true := by simpa using hR0
   clear hR0
   generalize R.2 = ge at *
   have c0' := hzc.cell 0
   have c1' := hzc.cell 1
   have f0' := hzc.frozen 0
   have f1' := hzc.frozen 1
   simp at c0' c1'
   have H0c := Lib.hid h0c
   have Hzc := Lib.hid hzc
   have HE2 := Lib.hid hE2
   have Hbe := Lib.hid hbe
   have Hof := Lib.hid hof
   have Hlc := Lib.hid hlc
   clear h0c hzc hE2 hbe hof hlc
   go_wp2_with fail
   refine bodyPost_ret (v := .tuple #[.agg #[.slice none 0 0, .slice none 0 0], .int .i64 ge]) (by simp [results, Tryz.results11, go_sem, c0', c1']) rfl ?_
   exact GoB.fail HE2.out HR0.out ((H0c.out.set (p := ⟨w.heap.size + 2, 0, none⟩) (by simp) _).set (p := ⟨w.heap.size + 2, 1, none⟩) (by simp) _)
  have hE2 := HE.out
  rw [if_pos hR0] at hE2
  obtain ⟨t0, t1, t2⟩ := hof hR0
  have d9 : (R.2 != 0) = false := by simpa using hR0
  have d8 : (R.2 == 0) = true := by simpa using hR0
  clear hR0 hof
  generalize R.2 = re at *
  obtain ⟨g0, g1, g2, g3, g4, g5, -⟩ := six_facts hbe
  obtain ⟨m0, m1, m2, m3, m4, m5, -⟩ := six_facts (hbe.alloc (.cells #[.slice U0 R.1.1.s.length e0, .slice V0 R.1.1.c.length f0, .slice U1 R.1.2.1.s.length e1, .slice V1 R.1.2.1.c.length f1] 30))
  have hzA := (hzc.alloc (.cells #[.slice U0 R.1.1.s.length e0, .slice V0 R.1.1.c.length f0, .slice U1 R.1.2.1.s.length e1, .slice V1 R.1.2.1.c.length f1] 30)).alloc (.cells #[.slice U2 R.1.2.2.s.length e2, .slice V2 R.1.2.2.c.length f2] 30)
  have c0' := hzA.cell 0
  have c1' := hzA.cell 1
  have f0' := hzA.frozen 0
  have f1' := hzA.frozen 1
  have hz8 := (hzA.set_ 0 (.slice (some ⟨wc.heap.size, 0, none⟩) 2 2)).set_ 1 (.slice (some ⟨wc.heap.size + 1, 0, none⟩) 1 1)
  have e0' := hz8.cell 0
  have e1' := hz8.cell 1
  simp at c0' c1' e0' e1'
  have hzl := hzc.lt
  have x1 : wc.heap.size ≠ w.heap.size + 2 := by omega
  have x2 : wc.heap.size + 1 ≠ w.heap.size + 2 := by omega
  have hb1 := (((Blk.new wc 30 #[.slice U0 R.1.1.s.length e0, .slice V0 R.1.1.c.length f0, .slice U1 R.1.2.1.s.length e1, .slice V1 R.1.2.1.c.length f1]).alloc (.cells #[.slice U2 R.1.2.2.s.length e2, .slice V2 R.1.2.2.c.length f2] 30)).far (p := ⟨w.heap.size + 2, 0, none⟩) x1 (.slice (some ⟨wc.heap.size, 0, none⟩) 2 2)).far (p := ⟨w.heap.size + 2, 1, none⟩) x1 (.slice (some ⟨wc.heap.size + 1, 0, none⟩) 1 1)
  have hb2a : Blk ((wc.alloc (.cells #[.slice U0 R.1.1.s.length e0, .slice V0 R.1.1.c.length f0, .slice U1 R.1.2.1.s.length e1, .slice V1 R.1.2.1.c.length f1] 30)).alloc (.cells #[.slice U2 R.1.2.2.s.length e2, .slice V2 R.1.2.2.c.length f2] 30)) (wc.heap.size + 1) 30 #[.slice U2 R.1.2.2.s.length e2, .slice V2 R.1.2.2.c.length f2] := by
   have := Blk.new (wc.alloc (.cells #[.slice U0 R.1.1.s.length e0, .slice V0 R.1.1.c.length f0, .slice U1 R.1.2.1.s.length e1, .slice V1 R.1.2.1.c.length f1] 30)) 30 #[.slice U2 R.1.2.2.s.length e2, .slice V2 R.1.2.2.c.length f2]
   rwa [World.size_alloc] at this
  have hb2 := (hb2a.far (p := ⟨w.heap.size + 2, 0, none⟩) x2 (.slice (some ⟨wc.heap.size, 0, none⟩) 2 2)).far (p := ⟨w.heap.size + 2, 1, none⟩) x2 (.slice (some ⟨wc.heap.size + 1, 0, none⟩) 1 1)
  have hl9 : Later wc ((wc.alloc (.cells #[.slice U0 R.1.1.s.length e0, .slice V0 R.1.1.c.length f0, .slice U1 R.1.2.1.s.length e1, .slice V1 R.1.2.1.c.length f1] 30)).alloc (.cells #[.slice U2 R.1.2.2.s.length e2, .slice V2 R.1.2.2.c.length f2] 30)) := ((Later.refl _).alloc _).alloc _
  have T0 := Lib.hid ((t0.later hl9).box (u := .slice (some ⟨wc.heap.size, 0, none⟩) 2 2) (u2 := .slice (some ⟨wc.heap.size + 1, 0, none⟩) 1 1) hzA)
  have T1 := Lib.hid ((t1.later hl9).box (u := .slice (some ⟨wc.heap.size, 0, none⟩) 2 2) (u2 := .slice (some ⟨wc.heap.size + 1, 0, none⟩) 1 1) hzA)
  have T2 := Lib.hid ((t2.later hl9).box (u := .slice (some ⟨wc.heap.size, 0, none⟩) 2 2) (u2 := .slice (some ⟨wc.heap.size + 1, 0, none⟩) 1 1) hzA)
  have hbel := ((h0c.trans hl9).set (p := ⟨w.heap.size + 2, 0, none⟩) (by simp) (.slice (some ⟨wc.heap.size, 0, none⟩) 2 2)).set (p := ⟨w.heap.size + 2, 1, none⟩) (by simp) (.slice (some ⟨wc.heap.size + 1, 0, none⟩) 1 1)
  clear t0 t1 t2 hl9 hb2a x1 x2
  have H0c := Lib.hid h0c
  have Hzc := Lib.hid hzc
  have HE2 := Lib.hid hE2
  have Hbe := Lib.hid hbe
  have Hlc := Lib.hid hlc
  have Hz8 := Lib.hid hz8
  have Hb1 := Lib.hid hb1
  have Hb2 := Lib.hid hb2
  have Hbel := Lib.hid hbel
  have HzA := Lib.hid hzA
  clear h0c hzc hE2 hbe hlc hz8 hb1 hb2 hbel hzA
  go_wp2_with fail
  refine bodyPost_ret (v := .tuple #[.agg #[.slice (some ⟨wc.heap.size, 0, none⟩) 2 2, .slice (some ⟨wc.heap.size + 1, 0, none⟩) 1 1], .int .i64 0]) (by simp [results, Tryz.results11, go_sem, e0', e1']) rfl ?_
  rw [HE2.out]
  exact ⟨.inr ⟨rfl, _, _, rfl, TnsO.two Hb1.out (by omega) T0.out T1.out, TnsO.one Hb2.out (by omega) T2.out⟩, Hbel.out⟩
end Go.Proofs.YtbnnpkcfifejmaaGreat
namespace Go.Proofs.YtbnnpkcfifejmaaGreat
open Go.RowKit
theorem four_noint {w : World} {p : Nat} {T : TypeId} (h : Blk w p T #[.slice none 0 0, .slice none 0 0, .slice none 0 0, .slice none 0 0]) : ∀ k z, w.cell? ⟨p, k, none⟩ ≠ some (.int .i64 z) := noint h (fun k z => by
 match k with
 | 0 => simp
 | 1 => simp
 | 2 => simp
 | 3 => simp
 | n + 4 => simp)
namespace Ly
theorem layBack10 {o : OpD} {p x : List Ten} {g : Ten} (h : o.kind = 10) : layBack o p x g = if (Ly.convBack (Ly.got p 0) (Ly.got x 0) g o.step).2 = 0 then (⟨[(Ly.convBack (Ly.got p 0) (Ly.got x 0) g o.step).1.1], [(Ly.convBack (Ly.got p 0) (Ly.got x 0) g o.step).1.2]⟩, 0) else (bnone, (Ly.convBack (Ly.got p 0) (Ly.got x 0) g o.step).2) := by
 unfold layBack
 rw [if_neg (by omega), if_neg (by omega), if_pos h]
end Ly
def OpCut10 (w w2 : World) (R : (Ten × Ten) × Int) (a b : Value) (wx : World) : Prop :=
 ∃ tb U0 e0 V0 f0 U2 e2 V2 f2, a = .pointer (some ⟨tb, 0, none⟩) ∧ b = .int .i64 R.2 ∧ w2.heap.size ≤ tb ∧ Blk wx tb 46 #[.slice U0 R.1.1.s.length e0, .slice V0 R.1.1.c.length f0, .slice U2 R.1.2.s.length e2, .slice V2 R.1.2.c.length f2] ∧ (R.2 = 0 → TenO w.heap.size wx (.agg #[.slice U0 R.1.1.s.length e0, .slice V0 R.1.1.c.length f0]) R.1.1 ∧ TenO w.heap.size wx (.agg #[.slice U2 R.1.2.s.length e2, .slice V2 R.1.2.c.length f2]) R.1.2) ∧ Later w2 wx
set_option maxHeartbeats 16000000 in
set_option maxRecDepth 20000 in
theorem op_back10 (o : OpD) (S P X GS GC : Option Addr) (c cp cx gc gd : Nat) (p x : List Ten) (g : Ten) (w : World) (hk : o.kind = 10) (ho : o.s.length ≤ 1048576) (hI : Ints .i64 w S o.s) (hP : Tns w P p) (hX : Tns w X x) (hG : TenIn w GS GC gc gd g) (hc : Od.counts o p.length x.length = 0) :
  Calls Tryz.prog 11 #[.agg #[.int .i64 o.kind, .int .i64 o.k, .int .i64 o.width, .int .i64 o.step, .int .i64 o.side, .int .i64 o.frm, .int .i64 o.to, .slice S o.s.length c], .slice P p.length cp, .slice X x.length cx, .agg #[.slice GS g.s.length gc, .slice GC g.c.length gd]] w (GoB (Ly.layBack o p x g) w) := by
 have h01 : Later w (((w.alloc (.cells #[.int .i64 o.kind, .int .i64 o.k, .int .i64 o.width, .int .i64 o.step, .int .i64 o.side, .int .i64 o.frm, .int .i64 o.to, .slice S o.s.length c] 26)).alloc (.cells #[.slice GS g.s.length gc, .slice GC g.c.length gd] 30)).alloc (.cells #[.slice none 0 0, .slice none 0 0] 38)) := (((Later.refl w).alloc _).alloc _).alloc _
 have hko1 := ((Blk.new w 26 #[.int .i64 o.kind, .int .i64 o.k, .int .i64 o.width, .int .i64 o.step, .int .i64 o.side, .int .i64 o.frm, .int .i64 o.to, .slice S o.s.length c]).alloc (.cells #[.slice GS g.s.length gc, .slice GC g.c.length gd] 30)).alloc (.cells #[.slice none 0 0, .slice none 0 0] 38)
 have hkg1 := (Blk.new (w.alloc (.cells #[.int .i64 o.kind, .int .i64 o.k, .int .i64 o.width, .int .i64 o.step, .int .i64 o.side, .int .i64 o.frm, .int .i64 o.to, .slice S o.s.length c] 26)) 30 #[.slice GS g.s.length gc, .slice GC g.c.length gd]).alloc (.cells #[.slice none 0 0, .slice none 0 0] 38)
 have hz1 := Blk.new ((w.alloc (.cells #[.int .i64 o.kind, .int .i64 o.k, .int .i64 o.width, .int .i64 o.step, .int .i64 o.side, .int .i64 o.frm, .int .i64 o.to, .slice S o.s.length c] 26)).alloc (.cells #[.slice GS g.s.length gc, .slice GC g.c.length gd] 30)) 38 #[.slice none 0 0, .slice none 0 0]
 simp only [World.size_alloc] at hkg1 hz1
 have hun := Ly.counts_ok hc
 unfold Od.least Od.most Od.params at hun
 have hpl : p.length = 1 := by have := hun.1; have h3 := hun.2.2.2; rw [if_pos this] at h3; simp [hk] at h3; omega
 have hxl : x.length = 1 := by have := hun.1; have h1 := hun.2.1; have h2 := hun.2.2.1; rw [if_pos this] at h1 h2; simp [hk] at h1 h2; omega
 have HE := Lib.hid (Ly.layBack10 (p := p) (x := x) (g := g) hk)
 have HC := Lib.hid hc
 have Hpl := Lib.hid hpl
 have Hxl := Lib.hid hxl
 have Hk := Lib.hid hk
 clear hun hc hpl hxl hk
 have HI := Lib.hid hI
 have HP := Lib.hid hP
 have HX := Lib.hid hX
 have HG := Lib.hid hG
 have H01 := Lib.hid h01
 have Hko1 := Lib.hid hko1
 have Hkg1 := Lib.hid hkg1
 have Hz1 := Lib.hid hz1
 clear hI hP hX hG h01 hko1 hkg1 hz1
 go_enter Tryz.func11, Tryz.ntmps11
 go_wp2_with fail
 generalize ((w.alloc (.cells #[.int .i64 o.kind, .int .i64 o.k, .int .i64 o.width, .int .i64 o.step, .int .i64 o.side, .int .i64 o.frm, .int .i64 o.to, .slice S o.s.length c] 26)).alloc (.cells #[.slice GS g.s.length gc, .slice GC g.c.length gd] 30)).alloc (.cells #[.slice none 0 0, .slice none 0 0] 38) = w1 at *
 refine (op_counts o S c p.length x.length w1 (by omega) (HI.out.below H01.out (Nat.le_refl _))).mono ?_
 rintro e w2 ⟨rfl, hb2⟩
 rw [HC.out]
 have h12 : Later w1 w2 := hb2
 have hH := H01.out.trans h12
 have hz := h12.blk Hz1.out
 have hko := h12.blk Hko1.out
 have hkg := h12.blk Hkg1.out
 clear hb2 h12 H01 Hz1 Hko1 Hkg1
 have HH := Lib.hid hH
 have Hz := Lib.hid hz
 have Hko := Lib.hid hko
 have Hkg := Lib.hid hkg
 clear hH hz hko hkg
 obtain ⟨bp, po, S0, c0, C0, d0, rfl, lbp, p00, p01, hT0⟩ := HP.out.at_ (j := 0) (by have := Hpl.out; omega)
 obtain ⟨bx, xo, S2, c2, C2, d2, rfl, lbx, x00, x01, hT2⟩ := HX.out.at_ (j := 0) (by have := Hxl.out; omega)
 have hcall := fun (W : World) (h : Later w2 W) => (conv_back S0 C0 S2 C2 GS GC c0 d0 c2 d2 gc gd (Ly.got p 0) (Ly.got x 0) g o.step W (hT0.later (HH.out.trans h)) (hT2.later (HH.out.trans h)) (HG.out.later (HH.out.trans h))).mono (fun e w' q => q.u Ly.convBack_none)
 have hE := HE.out
 obtain ⟨R, hR⟩ : ∃ R, Ly.convBack (Ly.got p 0) (Ly.got x 0) g o.step = R := ⟨_, rfl⟩
 rw [hR] at hE
 have hcall2 : ∀ W, Later w2 W → Calls Tryz.prog 13 _ W (GoCU R W) := hR ▸ hcall
 have q1 : w2.cell? ⟨bp, po, none⟩ = some (.slice S0 (Ly.got p 0).s.length c0) := HH.out.cell (by simpa using p00)
 have q2 : w2.cell? ⟨bp, po + 1, none⟩ = some (.slice C0 (Ly.got p 0).c.length d0) := HH.out.cell (by simpa using p01)
 have q3 : w2.cell? ⟨bx, xo, none⟩ = some (.slice S2 (Ly.got x 0).s.length c2) := HH.out.cell (by simpa using x00)
 have q4 : w2.cell? ⟨bx, xo + 1, none⟩ = some (.slice C2 (Ly.got x 0).c.length d2) := HH.out.cell (by simpa using x01)
 have q5 : w2.cell? ⟨w.heap.size + 1, 0, none⟩ = some (.slice GS g.s.length gc) := by rw [Hkg.out.cell]; rfl
 have q6 : w2.cell? ⟨w.heap.size + 1, 1, none⟩ = some (.slice GC g.c.length gd) := by rw [Hkg.out.cell]; rfl
 have q7 : w2.cell? ⟨w.heap.size, 3, none⟩ = some (.int .i64 o.step) := by rw [Hko.out.cell]; rfl
 have x0 : w2.cell? ⟨w.heap.size, 0, none⟩ = some (.int .i64 10) := by rw [Hko.out.cell, ← Hk.out]; rfl
 have hs0 := HH.out.size
 have hs2 := Hz.out.lt
 rw [Hxl.out, Hpl.out]
 clear hR hcall p00 p01 hT0 x00 x01 hT2 HE
 have Hcall2 := Lib.hid hcall2
 have HE := Lib.hid hE
 clear hcall2 hE
 go_upto_region 13 with fail
 clear x0
 go_cut [13, 14] (OpCut10 w w2 R)
 case first =>
  go_wp2_with fail
  have KF := Lib.hid (show ∀ Xw, Later w2 Xw → Xw.cell? ⟨bp, po, none⟩ = some (.slice S0 (Ly.got p 0).s.length c0) ∧ Xw.cell? ⟨bp, po + 1, none⟩ = some (.slice C0 (Ly.got p 0).c.length d0) ∧ Xw.cell? ⟨bx, xo, none⟩ = some (.slice S2 (Ly.got x 0).s.length c2) ∧ Xw.cell? ⟨bx, xo + 1, none⟩ = some (.slice C2 (Ly.got x 0).c.length d2) ∧ Xw.cell? ⟨w.heap.size + 1, 0, none⟩ = some (.slice GS g.s.length gc) ∧ Xw.cell? ⟨w.heap.size + 1, 1, none⟩ = some (.slice GC g.c.length gd) ∧ Xw.cell? ⟨w.heap.size, 3, none⟩ = some (.int .i64 o.step) from fun Xw h => ⟨h.cell q1, h.cell q2, h.cell q3, h.cell q4, h.cell q5, h.cell q6, h.cell q7⟩)
  refine wp_region_noPanic ?_
  refine wp_region_held_drew (S := fun Xw => Xw.cell? ⟨bp, po, none⟩ = some (.slice S0 (Ly.got p 0).s.length c0) ∧ Xw.cell? ⟨bp, po + 1, none⟩ = some (.slice C0 (Ly.got p 0).c.length d0) ∧ Xw.cell? ⟨bx, xo, none⟩ = some (.slice S2 (Ly.got x 0).s.length c2) ∧ Xw.cell? ⟨bx, xo + 1, none⟩ = some (.slice C2 (Ly.got x 0).c.length d2) ∧ Xw.cell? ⟨w.heap.size + 1, 0, none⟩ = some (.slice GS g.s.length gc) ∧ Xw.cell? ⟨w.heap.size + 1, 1, none⟩ = some (.slice GC g.c.length gd) ∧ Xw.cell? ⟨w.heap.size, 3, none⟩ = some (.int .i64 o.step)) (by kernel_rfl) (KF.out _ Later.au) (fun hHeld => ?_)
  refine tk 0 ?_
  refine tk 1 ?_
  refine tk 2 ?_
  refine tk 3 ?_
  refine tk 4 ?_
  refine tk 5 ?_
  refine tk 6 ?_
  refine tk 7 ?_
  refine tk 8 ?_
  refine wpAnyH_ready (rs := [9, 13]) (by kernel_rfl) (by simp) ?_
  refine AllReadyH.cons (o := _) rfl (fun K hK => ?_) (AllReadyH.cons (o := _) rfl (fun K hK => ?_) (AllReadyH.nil))
  ·simp only [ga, gs, gz]
   go_simp
   go_at_call 13
   (with_reducible refine (Hcall2.out _ (Later.au : Later w2 _)).mono ?_)
   rintro e wf ⟨U0, e0, V0, f0, U2, e2, V2, f2, rfl, hof, hbf⟩
   have Hof := Lib.hid hof
   clear hof
   try go_wp2_with fail
   refine hK.out _ _ (KF.out _ Later.au) (fun hHeld => ?_)
   clear hK K
   try simp only [ga, gs, gz, Act.put, sa, sz, ss]
   refine tk 10 ?_
   refine tk 11 ?_
   refine tk 12 ?_
   refine rd 13 fun K hK => ?_
   simp only [ga, gs, gz]
   go_simp
   refine hK.out _ _ (KF.out _ Later.au) (fun hHeld => ?_)
   clear hK K
   try simp only [ga, gs, gz, Act.put, sa, sz, ss]
   refine rd 14 fun K hK => ?_
   simp only [ga, gs, gz]
   go_simp
   refine hK.out _ _ ?_ (fun hHeld => ?_)
   ·(try dsimp only); (refine ⟨?_, ?_, ?_, ?_, ?_, ?_, ?_⟩ <;> (repeat (refine cell_setfar ?_ (by first | omega | (simp; done) | (simp; omega)))) <;> (refine Later.cell (Later.au : Later w2 _) ?_) <;> assumption)
   clear hK K
   try simp only [ga, gs, gz, Act.put, sa, sz, ss]
   refine tk 15 ?_
   clear KF
   refine wpAnyH_done (by kernel_rfl) ?_ _
   refine NoPanic.normal ?_
   go_wp2_with fail
   have hlg : Later w2 wf := (Later.au : Later w2 wf)
   have hls := hlg.size
   go_meet
   exact ⟨wf.heap.size, U0, e0, V0, f0, U2, e2, V2, f2, rfl, rfl, hls, Blk.new wf _ _, fun h => ⟨((Hof.out h).1.base (by first | omega | (simp; omega))).later ((Later.refl wf).alloc _), ((Hof.out h).2.base (by first | omega | (simp; omega))).later ((Later.refl wf).alloc _)⟩, hlg.alloc _⟩
  ·simp only [ga, gs, gz]
   go_simp
   refine hK.out _ _ (KF.out _ Later.au) (fun hHeld => ?_)
   clear hK K
   try simp only [ga, gs, gz, Act.put, sa, sz, ss]
   refine rd 9 fun K hK => ?_
   simp only [ga, gs, gz]
   go_simp
   go_at_call 13
   (with_reducible refine (Hcall2.out _ (Later.au : Later w2 _)).mono ?_)
   rintro e wf ⟨U0, e0, V0, f0, U2, e2, V2, f2, rfl, hof, hbf⟩
   have Hof := Lib.hid hof
   clear hof
   have hbz := (show Later _ wf from hbf).blk ((Blk.new w2 46 #[.slice none 0 0, .slice none 0 0, .slice none 0 0, .slice none 0 0]).drew)
   obtain ⟨z0, z1, z2, z3, y0, y1, y2, y3⟩ := four_facts hbz
   have Hbz := Lib.hid hbz
   clear hbz
   try go_wp2_with fail
   refine hK.out _ _ (KF.out _ Later.au) (fun hHeld => ?_)
   clear hK K
   try simp only [ga, gs, gz, Act.put, sa, sz, ss]
   refine tk 10 ?_
   refine tk 11 ?_
   refine tk 12 ?_
   refine rd 14 fun K hK => ?_
   simp only [ga, gs, gz]
   go_simp
   refine hK.out _ _ ?_ (fun hHeld => ?_)
   ·(try dsimp only); (refine ⟨?_, ?_, ?_, ?_, ?_, ?_, ?_⟩ <;> (repeat (refine cell_setfar ?_ (by first | omega | (simp; done) | (simp; omega)))) <;> (refine Later.cell (Later.au : Later w2 _) ?_) <;> assumption)
   clear hK K
   try simp only [ga, gs, gz, Act.put, sa, sz, ss]
   refine tk 15 ?_
   clear KF
   refine wpAnyH_done (by kernel_rfl) ?_ _
   refine NoPanic.normal ?_
   go_wp2_with fail
   have hlg : Later w2 wf := (Later.au : Later w2 wf)
   go_meet
   exact ⟨w2.heap.size, U0, e0, V0, f0, U2, e2, V2, f2, rfl, rfl, Nat.le_refl _, four_blk Hbz.out, fun h => ⟨((Hof.out h).1.base (by first | omega | (simp; omega))).else_ (four_else _ _ _ _ _ _) (four_noint Hbz.out) (fun j => (four_blk Hbz.out).frozen j), ((Hof.out h).2.base (by first | omega | (simp; omega))).else_ (four_else _ _ _ _ _ _) (four_noint Hbz.out) (fun j => (four_blk Hbz.out).frozen j)⟩, four_later hlg (Nat.le_refl _) _ _ _ _⟩
 case rest =>
  obtain ⟨tb, U0, e0, V0, f0, U2, e2, V2, f2, rfl, rfl, htb, hbe, hof, hlc⟩ := hcut
  have h0c := HH.out.trans hlc
  have hzc := hlc.blk Hz.out
  clear q1 q2 q3 q4 q5 q6 q7 Hcall2
  by_cases hR0 : R.2 = 0
  case neg =>
   have hE2 := HE.out
   rw [if_neg hR0] at hE2
   have HR0 := Lib.hid hR0
   have d9 : (R.2 != 0) = true := by simpa using hR0
   clear hR0
   generalize R.2 = ge at *
   have c0' := hzc.cell 0
   have c1' := hzc.cell 1
   have f0' := hzc.frozen 0
   have f1' := hzc.frozen 1
   simp at c0' c1'
   have H0c := Lib.hid h0c
   have Hzc := Lib.hid hzc
   have HE2 := Lib.hid hE2
   have Hbe := Lib.hid hbe
   have Hof := Lib.hid hof
   have Hlc := Lib.hid hlc
   clear h0c hzc hE2 hbe hof hlc
   go_wp2_with fail
   refine bodyPost_ret (v := .tuple #[.agg #[.slice none 0 0, .slice none 0 0], .int .i64 ge]) (by simp [results, Tryz.results11, go_sem, c0', c1']) rfl ?_
   exact GoB.fail HE2.out HR0.out ((H0c.out.set (p := ⟨w.heap.size + 2, 0, none⟩) (by simp) _).set (p := ⟨w.heap.size + 2, 1, none⟩) (by simp) _)
  have hE2 := HE.out
  rw [if_pos hR0] at hE2
  obtain ⟨t0, t2⟩ := hof hR0
  have d9 : (R.2 != 0) = false := by simpa using hR0
  have d8 : (R.2 == 0) = true := by simpa using hR0
  clear hR0 hof
  generalize R.2 = re at *
  obtain ⟨g0, g1, g2, g3, -⟩ := four_facts hbe
  obtain ⟨m0, m1, m2, m3, -⟩ := four_facts (hbe.alloc (.cells #[.slice U0 R.1.1.s.length e0, .slice V0 R.1.1.c.length f0] 30))
  have hzA := (hzc.alloc (.cells #[.slice U0 R.1.1.s.length e0, .slice V0 R.1.1.c.length f0] 30)).alloc (.cells #[.slice U2 R.1.2.s.length e2, .slice V2 R.1.2.c.length f2] 30)
  have c0' := hzA.cell 0
  have c1' := hzA.cell 1
  have f0' := hzA.frozen 0
  have f1' := hzA.frozen 1
  have hz8 := (hzA.set_ 0 (.slice (some ⟨wc.heap.size, 0, none⟩) 1 1)).set_ 1 (.slice (some ⟨wc.heap.size + 1, 0, none⟩) 1 1)
  have e0' := hz8.cell 0
  have e1' := hz8.cell 1
  simp at c0' c1' e0' e1'
  have hzl := hzc.lt
  have x1 : wc.heap.size ≠ w.heap.size + 2 := by omega
  have x2 : wc.heap.size + 1 ≠ w.heap.size + 2 := by omega
  have hb1 := (((Blk.new wc 30 #[.slice U0 R.1.1.s.length e0, .slice V0 R.1.1.c.length f0]).alloc (.cells #[.slice U2 R.1.2.s.length e2, .slice V2 R.1.2.c.length f2] 30)).far (p := ⟨w.heap.size + 2, 0, none⟩) x1 (.slice (some ⟨wc.heap.size, 0, none⟩) 1 1)).far (p := ⟨w.heap.size + 2, 1, none⟩) x1 (.slice (some ⟨wc.heap.size + 1, 0, none⟩) 1 1)
  have hb2a : Blk ((wc.alloc (.cells #[.slice U0 R.1.1.s.length e0, .slice V0 R.1.1.c.length f0] 30)).alloc (.cells #[.slice U2 R.1.2.s.length e2, .slice V2 R.1.2.c.length f2] 30)) (wc.heap.size + 1) 30 #[.slice U2 R.1.2.s.length e2, .slice V2 R.1.2.c.length f2] := by
   have := Blk.new (wc.alloc (.cells #[.slice U0 R.1.1.s.length e0, .slice V0 R.1.1.c.length f0] 30)) 30 #[.slice U2 R.1.2.s.length e2, .slice V2 R.1.2.c.length f2]
   rwa [World.size_alloc] at this
  have hb2 := (hb2a.far (p := ⟨w.heap.size + 2, 0, none⟩) x2 (.slice (some ⟨wc.heap.size, 0, none⟩) 1 1)).far (p := ⟨w.heap.size + 2, 1, none⟩) x2 (.slice (some ⟨wc.heap.size + 1, 0, none⟩) 1 1)
  have hl9 : Later wc ((wc.alloc (.cells #[.slice U0 R.1.1.s.length e0, .slice V0 R.1.1.c.length f0] 30)).alloc (.cells #[.slice U2 R.1.2.s.length e2, .slice V2 R.1.2.c.length f2] 30)) := ((Later.refl _).alloc _).alloc _
  have T0 := Lib.hid ((t0.later hl9).box (u := .slice (some ⟨wc.heap.size, 0, none⟩) 1 1) (u2 := .slice (some ⟨wc.heap.size + 1, 0, none⟩) 1 1) hzA)
  have T2 := Lib.hid ((t2.later hl9).box (u := .slice (some ⟨wc.heap.size, 0, none⟩) 1 1) (u2 := .slice (some ⟨wc.heap.size + 1, 0, none⟩) 1 1) hzA)
  have hbel := ((h0c.trans hl9).set (p := ⟨w.heap.size + 2, 0, none⟩) (by simp) (.slice (some ⟨wc.heap.size, 0, none⟩) 1 1)).set (p := ⟨w.heap.size + 2, 1, none⟩) (by simp) (.slice (some ⟨wc.heap.size + 1, 0, none⟩) 1 1)
  clear t0 t2 hl9 hb2a x1 x2
  have H0c := Lib.hid h0c
  have Hzc := Lib.hid hzc
  have HE2 := Lib.hid hE2
  have Hbe := Lib.hid hbe
  have Hlc := Lib.hid hlc
  have Hz8 := Lib.hid hz8
  have Hb1 := Lib.hid hb1
  have Hb2 := Lib.hid hb2
  have Hbel := Lib.hid hbel
  have HzA := Lib.hid hzA
  clear h0c hzc hE2 hbe hlc hz8 hb1 hb2 hbel hzA
  go_wp2_with fail
  refine bodyPost_ret (v := .tuple #[.agg #[.slice (some ⟨wc.heap.size, 0, none⟩) 1 1, .slice (some ⟨wc.heap.size + 1, 0, none⟩) 1 1], .int .i64 0]) (by simp [results, Tryz.results11, go_sem, e0', e1']) rfl ?_
  rw [HE2.out]
  exact ⟨.inr ⟨rfl, _, _, rfl, TnsO.one Hb1.out (by omega) T0.out, TnsO.one Hb2.out (by omega) T2.out⟩, Hbel.out⟩
end Go.Proofs.YtbnnpkcfifejmaaGreat
namespace Go.Proofs.YtbnnpkcfifejmaaGreat
open Go.RowKit
theorem op_back (o : OpD) (S P X GS GC : Option Addr) (c cp cx gc gd : Nat) (p x : List Ten) (g : Ten) (w : World) (ho : o.s.length ≤ 1048576) (hI : Ints .i64 w S o.s) (hk0 : Fx.In o.k) (hP : Tns w P p) (hX : Tns w X x) (lX : x.length ≤ 1048576) (kX : x.length ≤ cx) (mX : cx ≤ 9223372036854775807) (hG : TenIn w GS GC gc gd g) (hc : Od.counts o p.length x.length = 0) :
  Calls Tryz.prog 11 #[.agg #[.int .i64 o.kind, .int .i64 o.k, .int .i64 o.width, .int .i64 o.step, .int .i64 o.side, .int .i64 o.frm, .int .i64 o.to, .slice S o.s.length c], .slice P p.length cp, .slice X x.length cx, .agg #[.slice GS g.s.length gc, .slice GC g.c.length gd]] w (GoB (Ly.back o p x g) w) := by
 have hkr := Od.right_kind (Ly.counts_ok hc).1
 have hcases : o.kind ≤ 7 ∨ o.kind = 8 ∨ o.kind = 9 ∨ o.kind = 10 ∨ o.kind = 11 ∨ o.kind = 12 ∨ o.kind = 13 ∨ o.kind = 14 ∨ o.kind = 15 := by omega
 rcases hcases with hk | hk | hk | hk | hk | hk | hk | hk | hk
 ·exact op_back7 o S P X GS GC c cp cx gc gd p x g w hk ho hI hk0 hX lX hG
 ·rw [Ly.back_lay hc]; exact op_back8 o S P X GS GC c cp cx gc gd p x g w hk ho hI hP hX hG hc
 ·rw [Ly.back_lay hc]; exact op_back9 o S P X GS GC c cp cx gc gd p x g w hk ho hI hP hX hG hc
 ·rw [Ly.back_lay hc]; exact op_back10 o S P X GS GC c cp cx gc gd p x g w hk ho hI hP hX hG hc
 ·rw [Ly.back_lay hc]; exact op_back11 o S P X GS GC c cp cx gc gd p x g w hk ho hI hP hX hG hc
 ·rw [Ly.back_lay hc]; exact op_back12 o S P X GS GC c cp cx gc gd p x g w hk ho hI hP hX hG hc
 ·exact op_back13 o S P X GS GC c cp cx gc gd p x g w hk ho hI hX lX kX mX hG
 ·rw [Ly.back_lay hc]; exact op_back14 o S P X GS GC c cp cx gc gd p x g w hk ho hI hP hX hG hc
 ·rw [Ly.back_lay hc]; exact op_back15 o S P X GS GC c cp cx gc gd p x g w hk ho hI hP hX hG hc
end Go.Proofs.YtbnnpkcfifejmaaGreat
namespace Go.Proofs.YtbnnpkcfifejmaaGreat
open Go.RowKit
set_option maxHeartbeats 8000000 in
set_option maxRecDepth 20000 in
theorem law10_list (A B : Option Addr) (a b : Nat) (ts : List Ten) (w : World) (hA : Tns w A ts) (hB : Tns w B ts) (hl : ts.length ≤ 1048576) :
  Calls Tryz.prog 19 #[.slice A ts.length a, .slice B ts.length b] w fun e w' => e = .returned (.bool true) ∧ Below w.heap.size w w' := by
 have d1 : ((ts.length : Int) != (ts.length : Int)) = false := by simp
 have HA := Lib.hid hA
 have HB := Lib.hid hB
 clear hA hB
 go_enter Tryz.func19, Tryz.ntmps19
 go_wp2_with fail
 clear d1
 go_loopw [13] (fun i wx => ∃ k : Nat, k ≤ ts.length ∧ i = .int .i64 (k : Int) ∧ Later w wx) (fun i _ => ts.length - (intOf i).toNat)
 case atStart => exact ⟨0, Nat.zero_le _, rfl, Later.refl _⟩
 case round =>
  obtain ⟨k, hk, rfl, hlw⟩ := hrel
  by_cases hlt : k < ts.length
  ·obtain ⟨ba, oa, S, c, C, d, rfl, -, y0, y1, ht⟩ := (HA.out.later hlw).at_ hlt
   obtain ⟨bb, ob, S', c', C', d', rfl, -, z0, z1, ht'⟩ := (HB.out.later hlw).at_ hlt
   have hq := fun (V : World) (h : Later wr V) => tensor_equal S C S' C' c d c' d' (Ly.got ts k) (Ly.got ts k) V (by have := ht.l1; omega) (by have := ht.l2; omega) (by have := ht.l1; omega) (by have := ht.l2; omega) (ht.later h).r (ht'.later h).r
   rw [show Tn.eq (Ly.got ts k) (Ly.got ts k) = true from (Tn.eq_iff _ _).2 rfl] at hq
   generalize Ly.got ts k = t at *
   have kk : (k : Int) < (ts.length : Int) := by omega
   clear ht ht'
   have Hlw := Lib.hid hlw
   have Hq := Lib.hid hq
   clear hlw hq
   go_wp2_with fail
   have KF := Lib.hid (show ∀ Xw, Later wr Xw → Xw.cell? ⟨ba, oa + k * 2, none⟩ = some (.slice S t.s.length c) ∧ Xw.cell? ⟨ba, oa + k * 2 + 1, none⟩ = some (.slice C t.c.length d) ∧ Xw.cell? ⟨bb, ob + k * 2, none⟩ = some (.slice S' t.s.length c') ∧ Xw.cell? ⟨bb, ob + k * 2 + 1, none⟩ = some (.slice C' t.c.length d') from fun Xw h => ⟨h.cell y0, h.cell y1, h.cell z0, h.cell z1⟩)
   refine wp_region_noPanic ?_
   refine wp_region_held_drew (S := fun Xw => Xw.cell? ⟨ba, oa + k * 2, none⟩ = some (.slice S t.s.length c) ∧ Xw.cell? ⟨ba, oa + k * 2 + 1, none⟩ = some (.slice C t.c.length d) ∧ Xw.cell? ⟨bb, ob + k * 2, none⟩ = some (.slice S' t.s.length c') ∧ Xw.cell? ⟨bb, ob + k * 2 + 1, none⟩ = some (.slice C' t.c.length d')) (by kernel_rfl) (KF.out _ Later.au) (fun hHeld => ?_)
   refine tk 0 ?_
   refine tk 1 ?_
   refine tk 2 ?_
   refine tk 3 ?_
   refine tk 4 ?_
   refine tk 5 ?_
   refine tk 6 ?_
   refine tk 7 ?_
   refine rd 8 fun K hK => ?_
   simp only [ga, gs, gz]
   go_simp
   go_at_call 33; (with_reducible refine (Hq.out _ (Later.au : Later wr _)).mono ?_); rintro e wq ⟨rfl, hbq⟩
   try go_wp2_with fail
   refine hK.out _ _ (KF.out _ Later.au) (fun hHeld => ?_)
   clear hK K
   try simp only [ga, gs, gz, Act.put, sa, sz, ss]
   refine tk 9 ?_
   clear KF
   refine wpAnyH_done (by kernel_rfl) ?_ _
   refine NoPanic.normal ?_
   have hlq : Later wr wq := (Later.au : Later wr wq)
   have h0q := Hlw.out.trans hlq
   clear hHeld y0 y1 z0 z1 hbq
   have Hlq := Lib.hid hlq
   have H0q := Lib.hid h0q
   clear hlq h0q
   go_wp2_with fail
   go_roundw
   case rel => exact ⟨k + 1, by omega, by go_num, H0q.out⟩
   case measure => simp [intOf]; omega
  ·obtain rfl : k = ts.length := by omega
   have Hlw := Lib.hid hlw
   clear hlw
   go_wp2_with fail
   go_ret
   exact ⟨rfl, Hlw.out⟩
set_option maxHeartbeats 8000000 in
set_option maxRecDepth 20000 in
theorem law10_cells (S C S' C' : Option Addr) (c d c' d' : Nat) (t u : Ten) (w : World) (ht : TenIn w S C c d t) (hu : TenIn w S' C' c' d' u) (he : t.c = u.c) :
  Calls Tryz.prog 17 #[.agg #[.slice S t.s.length c, .slice C t.c.length d], .agg #[.slice S' u.s.length c', .slice C' u.c.length d']] w fun e w' => e = .returned (.bool true) ∧ Below w.heap.size w w' := by
 obtain ⟨hk0, hk1, h01⟩ := two_boxes w 30 30 #[.slice S t.s.length c, .slice C t.c.length d] #[.slice S' u.s.length c', .slice C' u.c.length d']
 rw [← he] at hk0 hk1 h01 ⊢
 have hc1 : ∀ k, k < t.c.length → ∀ V, Later w V → ∃ b o, C' = some ⟨b, o, none⟩ ∧ V.cell? ⟨b, o + k, none⟩ = some (.int .i64 (Ly.at_ t.c k)) := fun k hk V hV => by
  obtain ⟨b, o, e, -, h⟩ := (hu.later hV).cell (k := k) (by rw [← he]; exact hk)
  exact ⟨b, o, e, by rw [h, he]⟩
 have l2 := ht.l2
 clear he hu
 have d1 : ((t.c.length : Int) != (t.c.length : Int)) = false := by simp
 have Hk0 := Lib.hid hk0
 have Hk1 := Lib.hid hk1
 have H01 := Lib.hid h01
 have Ht := Lib.hid ht
 have Hc1 := Lib.hid hc1
 clear hk0 hk1 h01 ht hc1
 go_enter Tryz.func17, Tryz.ntmps17
 go_upto_region 1 with fail
 generalize (w.alloc (.cells #[.slice S t.s.length c, .slice C t.c.length d] 30)).alloc (.cells #[.slice S' u.s.length c', .slice C' t.c.length d'] 30) = w1 at *
 have x1 : w1.cell? ⟨w.heap.size, 1, none⟩ = some (.slice C t.c.length d) := Hk0.out.cell 1
 have y1 : w1.cell? ⟨w.heap.size + 1, 1, none⟩ = some (.slice C' t.c.length d') := Hk1.out.cell 1
 go_wp2_with fail
 clear d1 x1 y1
 go_loopw [16] (fun i wx => ∃ k : Nat, k ≤ t.c.length ∧ i = .int .i64 (k : Int) ∧ Later w1 wx) (fun i _ => t.c.length - (intOf i).toNat)
 case atStart => exact ⟨0, Nat.zero_le _, rfl, Later.refl _⟩
 case round =>
  obtain ⟨k, hk, rfl, hlw⟩ := hrel
  by_cases hlt : k < t.c.length
  ·obtain ⟨ba, oa, rfl, -, v0⟩ := (Ht.out.later (H01.out.trans hlw)).cell hlt
   obtain ⟨bb, ob, rfl, v1⟩ := Hc1.out k hlt wr (H01.out.trans hlw)
   have x1 : wr.cell? ⟨w.heap.size, 1, none⟩ = some (.slice (some ⟨ba, oa, none⟩) t.c.length d) := hlw.cell (Hk0.out.cell 1)
   have y1 : wr.cell? ⟨w.heap.size + 1, 1, none⟩ = some (.slice (some ⟨bb, ob, none⟩) t.c.length d') := hlw.cell (Hk1.out.cell 1)
   have kk : (k : Int) < (t.c.length : Int) := by omega
   generalize Ly.at_ t.c k = z at *
   have Hlw := Lib.hid hlw
   clear hlw
   go_wp2_with fail
   go_quiet (fail)
   go_wp2_with fail
   go_roundw
   case rel => exact ⟨k + 1, by omega, by go_num, Hlw.out.drewN _⟩
   case measure => simp [intOf]; omega
  ·obtain rfl : k = t.c.length := by omega
   have h0w := H01.out.trans hlw
   have Hlw := Lib.hid hlw
   have H0w := Lib.hid h0w
   clear hlw h0w
   go_wp2_with fail
   go_ret
   exact ⟨rfl, H0w.out⟩
end Go.Proofs.YtbnnpkcfifejmaaGreat
namespace Go.Proofs.YtbnnpkcfifejmaaGreat
open Go.ChangeShapes Go.WideShapes Go.Deep Go.RowKit
section
variable {H : Type} {enc : TypeId × Value → H} {P : Program} {W : World} {base : Nat} {spare : Nat → Bool} {held : Bool}
theorem bulk_one (d : DataW H) : 1 ≤ Rows.uptoBulk d := by
 cases d with
 | lit l => cases l <;> simp [Rows.uptoBulk]
 | nil => simp [Rows.uptoBulk]
 | ptr d => simp [Rows.uptoBulk]
 | slice elems spare => simp [Rows.uptoBulk]
 | agg parts => simp [Rows.uptoBulk]
 | iface t d => simp [Rows.uptoBulk]
 | map entries => simp [Rows.uptoBulk]
 | held h => simp [Rows.uptoBulk]
theorem bulk_part {d : DataW H} {l : List (DataW H)} (h : d ∈ l) : Rows.uptoBulk d ≤ Rows.uptoBulkAll l := by
 induction l with
 | nil => cases h
 | cons x r ih =>
  simp only [Rows.uptoBulkAll]
  cases List.mem_cons.1 h with
  | inl e => subst e; omega
  | inr e => have := ih e; omega
theorem bulk_len (l : List (DataW H)) : l.length ≤ Rows.uptoBulkAll l := by
 induction l with
 | nil => simp [Rows.uptoBulkAll]
 | cons x r ih => have := bulk_one x; simp only [Rows.uptoBulkAll, List.length_cons]; omega
theorem slice_bulk {t e : TypeId} {fuel : Nat} {v : Value} {x : DataW H × List MemPlace} (ht : P.underlying t = some (.slice e)) (h : DataW.trod enc P W base spare held fuel t [v] = some x) (hz : Rows.uptoBulk x.1 ≤ 1048576) :
  v = .slice none 0 0 ∨ ∃ a len cap, v = .slice (some a) len cap ∧ len ≤ cap ∧ cap ≤ maxLen ∧ len ≤ 1048576 ∧
   ∀ i, i < len → ∃ cs' m y, W.cells? base (a.add (i * P.cellsOf e)) (P.cellsOf e) = some cs' ∧ DataW.trod enc P W base spare held m e cs' = some y ∧ Rows.uptoBulk y.1 ≤ 1048576 := by
 rcases open_slice ht h with ⟨hcs, _⟩ | ⟨a, len, cap, m, n, D, Pl, hcs, _, hl, hm, hmm, hx, hi⟩
 ·simp at hcs; exact .inl hcs
 ·simp at hcs; subst hcs
  right
  have hlm : len ≤ m := by rw [hmm]; split <;> omega
  rw [hx] at hz
  simp only [Rows.uptoBulk] at hz
  refine ⟨a, len, cap, rfl, hl, hm, ?_, fun i hil => ?_⟩
  ·have := bulk_len ((List.range len).map D)
   simp at this
   omega
  ·obtain ⟨cs', h1, h2⟩ := hi i (by omega)
   refine ⟨cs', n, _, h1, h2, ?_⟩
   have := bulk_part (d := D i) (l := (List.range len).map D) (List.mem_map.2 ⟨i, by simpa using hil, rfl⟩)
   show Rows.uptoBulk (D i) ≤ _
   omega
end
theorem int_one' : Tryz.prog.cellsOf 3 = 1 := by kernel_rfl
theorem shp_one : Tryz.prog.cellsOf 24 = 1 := by kernel_rfl
theorem node_cells : Tryz.prog.cellsOf 127 = 10 := by kernel_rfl
theorem nums_open {H : Type} {enc : TypeId × Value → H} {W : World} {base : Nat} {spare : Nat → Bool} {held : Bool} {t : TypeId} {fuel : Nat} {v : Value} {x : DataW H × List MemPlace} (ht : Tryz.prog.underlying t = some (.slice 3))
  (h : DataW.trod enc Tryz.prog W base spare held fuel t [v] = some x) (hz : Rows.uptoBulk x.1 ≤ 1048576) :
  ∃ A c zs, v = .slice A zs.length c ∧ Ints .i64 W A zs ∧ zs.length ≤ c ∧ c ≤ 9223372036854775807 ∧ zs.length ≤ 1048576 ∧ ∀ z ∈ zs, -9223372036854775808 ≤ z ∧ z ≤ 9223372036854775807 := by
 obtain ⟨A, c, zs, rfl, hl, hc, hI, hw⟩ := ints_open ht Tryz.underlying3 int_one' h
 refine ⟨A, c, zs, rfl, hI, hc, ?_, ?_, fun z hz => wf_bd (hw z hz)⟩
 ·rcases slice_bulk ht h hz with e | ⟨a, len, cap, e, _, hm, _⟩
  ·injection e with _ _ e; omega
  ·injection e with _ _ e; unfold maxLen at hm; omega
 ·rcases slice_bulk ht h hz with e | ⟨a, len, cap, e, _, _, hb, _⟩
  ·injection e with _ e _; rw [e]; exact Nat.zero_le _
  ·have e2 : zs.length = len := by simp at e; exact e.2.1
   rw [e2]
   exact hb
theorem one_list {l : List Value} (h : l.length = 1) : ∃ v, l = [v] := by
 match l, h with
 | [v], _ => exact ⟨v, rfl⟩
theorem choose_list {α : Type} [Inhabited α] {n : Nat} {Q : Nat → α → Prop} (h : ∀ i, i < n → ∃ a, Q i a) : ∃ l : List α, l.length = n ∧ ∀ i (hi : i < l.length), Q i l[i] := by
 obtain ⟨f, hf⟩ := @choose_lt α _ _ _ h
 exact ⟨(List.range n).map f, by simp, fun i hi => by simp at hi; simpa using hf i hi⟩
theorem addr_lit {W : World} {a : Addr} {v : Value} (h : W.cell? a = some v) : ∃ b off, a = ⟨b, off, none⟩ := by
 obtain ⟨b, off, spot⟩ := a
 have hs : spot = none := by simpa using World.cell?_spot h
 subst hs
 exact ⟨b, off, rfl⟩
theorem shps_open {H : Type} {enc : TypeId × Value → H} {W : World} {base : Nat} {spare : Nat → Bool} {held : Bool} {fuel : Nat} {v : Value} {x : DataW H × List MemPlace}
  (h : DataW.trod enc Tryz.prog W base spare held fuel 94 [v] = some x) (hz : Rows.uptoBulk x.1 ≤ 1048576) :
  ∃ A c ss, v = .slice A ss.length c ∧ Shps W A ss ∧ ss.length ≤ c ∧ c ≤ 9223372036854775807 ∧ ss.length ≤ 1048576 ∧ ∀ s ∈ ss, s.length ≤ 1048576 ∧ ∀ z ∈ s, -9223372036854775808 ≤ z ∧ z ≤ 9223372036854775807 := by
 rcases slice_bulk Tryz.underlying94 h hz with rfl | ⟨a, len, cap, rfl, hl, hm, hb, hi⟩
 ·exact ⟨none, 0, [], rfl, Shps.nil, by simp, by omega, by simp, by simp⟩
 ·rw [shp_one] at hi
  have key : ∀ i, i < len → ∃ q : (List Int) × (Option Addr) × Nat, W.cell? (a.add i) = some (.slice q.2.1 q.1.length q.2.2) ∧ Ints .i64 W q.2.1 q.1 ∧ q.1.length ≤ q.2.2 ∧ q.2.2 ≤ 9223372036854775807 ∧ q.1.length ≤ 1048576 ∧ ∀ z ∈ q.1, -9223372036854775808 ≤ z ∧ z ≤ 9223372036854775807 := fun i hil => by
   obtain ⟨cs', m, y, hc, ht, hw⟩ := hi i hil
   obtain ⟨_, hlen, hat⟩ := World.cells?_some hc
   obtain ⟨v, rfl⟩ := one_list hlen
   obtain ⟨A, c, zs, rfl, h1, h2⟩ := nums_open Tryz.underlying24 ht hw
   refine ⟨(zs, A, c), ?_, h1, h2⟩
   have := hat 0 (by omega)
   rw [Nat.mul_one] at this
   simpa [Addr.add] using this
  obtain ⟨L, hL, hq⟩ := choose_list key
  refine ⟨some a, cap, L.map (·.1), by simp [hL], fun j hj => ?_, by simpa [hL] using hl, by unfold maxLen at hm; omega, by simp [hL]; exact hb, fun s hs => ?_⟩
  ·rw [List.length_map] at hj
   obtain ⟨h1, h2, h3, h4, _⟩ := hq j hj
   obtain ⟨h0, _⟩ := hq 0 (by omega)
   obtain ⟨b, off, rfl⟩ := addr_lit (show W.cell? a = _ by simpa [Addr.add] using h0)
   rw [add_plain'] at h1
   rw [List.getElem_map]
   exact ⟨b, off, _, _, rfl, World.block_lt_of_cell? _ _ h1, h1, h2, h3, h4⟩
  ·obtain ⟨q, hqm, rfl⟩ := List.mem_map.1 hs
   obtain ⟨i, hi, rfl⟩ := List.getElem_of_mem hqm
   exact (hq i hi).2.2.2.2
def OpD.inR (o : OpD) : Prop := o.wide ∧ ∀ z ∈ o.s, -9223372036854775808 ≤ z ∧ z ≤ 9223372036854775807
def NodeD.fits (v : NodeD) : Prop := v.op.wide ∧ v.op.s.length ≤ 1048576 ∧ v.ins.length ≤ 1048576 ∧ v.p.length ≤ 1048576 ∧ (∀ s ∈ v.p, s.length ≤ 1048576) ∧
 (∀ z ∈ v.op.s, -9223372036854775808 ≤ z ∧ z ≤ 9223372036854775807) ∧ (∀ z ∈ v.ins, -9223372036854775808 ≤ z ∧ z ≤ 9223372036854775807) ∧ ∀ s ∈ v.p, ∀ z ∈ s, -9223372036854775808 ≤ z ∧ z ≤ 9223372036854775807
def NetD.fits (n : NetD) : Prop := n.inn.length ≤ 1048576 ∧ n.nodes.length ≤ 1048576 ∧ (∀ z ∈ n.inn, -9223372036854775808 ≤ z ∧ z ≤ 9223372036854775807) ∧ ∀ v ∈ n.nodes, v.fits
theorem node_under : Tryz.prog.underlying 127 = some (.struct (Tryz.prog.fieldsOf 127)) := by kernel_rfl
theorem node_three : (Tryz.prog.fieldsOf 127).size = 3 := by kernel_rfl
theorem node_types : (Tryz.prog.fieldsOf 127).toList.map (·.type) = [26, 23, 94] := by kernel_rfl
theorem node_f0 : ((Tryz.prog.fieldsOf 127)[0]?).map (fun f => (f.type, f.offset, Tryz.prog.cellsOf f.type)) = some (26, 0, 8) := by kernel_rfl
theorem node_f1 : ((Tryz.prog.fieldsOf 127)[1]?).map (fun f => (f.type, f.offset, Tryz.prog.cellsOf f.type)) = some (23, 8, 1) := by kernel_rfl
theorem node_f2 : ((Tryz.prog.fieldsOf 127)[2]?).map (fun f => (f.type, f.offset, Tryz.prog.cellsOf f.type)) = some (94, 9, 1) := by kernel_rfl
theorem op_under : Tryz.prog.underlying 26 = some (.struct (Tryz.prog.fieldsOf 26)) := by kernel_rfl
theorem op_eight : (Tryz.prog.fieldsOf 26).size = 8 := by kernel_rfl
theorem op_types : (Tryz.prog.fieldsOf 26).toList.map (·.type) = [3, 22, 3, 3, 3, 3, 3, 24] := by kernel_rfl
theorem op_f0 : ((Tryz.prog.fieldsOf 26)[0]?).map (fun f => (f.type, f.offset, Tryz.prog.cellsOf f.type)) = some (3, 0, 1) := by kernel_rfl
theorem op_f1 : ((Tryz.prog.fieldsOf 26)[1]?).map (fun f => (f.type, f.offset, Tryz.prog.cellsOf f.type)) = some (22, 1, 1) := by kernel_rfl
theorem op_f2 : ((Tryz.prog.fieldsOf 26)[2]?).map (fun f => (f.type, f.offset, Tryz.prog.cellsOf f.type)) = some (3, 2, 1) := by kernel_rfl
theorem op_f3 : ((Tryz.prog.fieldsOf 26)[3]?).map (fun f => (f.type, f.offset, Tryz.prog.cellsOf f.type)) = some (3, 3, 1) := by kernel_rfl
theorem op_f4 : ((Tryz.prog.fieldsOf 26)[4]?).map (fun f => (f.type, f.offset, Tryz.prog.cellsOf f.type)) = some (3, 4, 1) := by kernel_rfl
theorem op_f5 : ((Tryz.prog.fieldsOf 26)[5]?).map (fun f => (f.type, f.offset, Tryz.prog.cellsOf f.type)) = some (3, 5, 1) := by kernel_rfl
theorem op_f6 : ((Tryz.prog.fieldsOf 26)[6]?).map (fun f => (f.type, f.offset, Tryz.prog.cellsOf f.type)) = some (3, 6, 1) := by kernel_rfl
theorem op_f7 : ((Tryz.prog.fieldsOf 26)[7]?).map (fun f => (f.type, f.offset, Tryz.prog.cellsOf f.type)) = some (24, 7, 1) := by kernel_rfl
theorem list3 {α : Type} {l : List α} (h : l.length = 3) : ∃ a b c, l = [a, b, c] := by
 match l, h with
 | [a, b, c], _ => exact ⟨a, b, c, rfl⟩
theorem list8 {α : Type} {l : List α} (h : l.length = 8) : ∃ a b c d e f g i, l = [a, b, c, d, e, f, g, i] := by
 match l, h with
 | [a, b, c, d, e, f, g, i], _ => exact ⟨a, b, c, d, e, f, g, i, rfl⟩
theorem list10 {α : Type} {l : List α} (h : l.length = 10) : ∃ a b c d e f g i j k, l = [a, b, c, d, e, f, g, i, j, k] := by
 match l, h with
 | [a, b, c, d, e, f, g, i, j, k], _ => exact ⟨a, b, c, d, e, f, g, i, j, k, rfl⟩
set_option maxRecDepth 100000 in
theorem op_open {H : Type} {enc : TypeId × Value → H} {W : World} {base : Nat} {spare : Nat → Bool} {held : Bool} {fuel : Nat} {v0 v1 v2 v3 v4 v5 v6 v7 : Value} {x : DataW H × List MemPlace}
  (h : DataW.trod enc Tryz.prog W base spare held fuel 26 [v0, v1, v2, v3, v4, v5, v6, v7] = some x) (hz : Rows.uptoBulk x.1 ≤ 1048576) :
  ∃ (o : OpD) (S : Option Addr) (c : Nat), v0 = .int .i64 o.kind ∧ v1 = .int .i64 o.k ∧ v2 = .int .i64 o.width ∧ v3 = .int .i64 o.step ∧ v4 = .int .i64 o.side ∧ v5 = .int .i64 o.frm ∧ v6 = .int .i64 o.to ∧ v7 = .slice S o.s.length c ∧
   Ints .i64 W S o.s ∧ o.s.length ≤ c ∧ c ≤ 9223372036854775807 ∧ o.s.length ≤ 1048576 ∧ o.wide ∧ ∀ z ∈ o.s, -9223372036854775808 ≤ z ∧ z ≤ 9223372036854775807 := by
 obtain ⟨ys, n, _, hx, _, hlen, hg⟩ := DataW.trod_struct op_under h
 rw [op_eight] at hlen
 obtain ⟨y0, y1, y2, y3, y4, y5, y6, y7, rfl⟩ := list8 hlen
 rw [hx] at hz
 obtain ⟨f0, e0, t0⟩ := Option.map_eq_some_iff.1 op_f0
 simp only [Prod.mk.injEq] at t0
 have h0 := hg 0 f0 e0
 rw [t0.2.2, t0.2.1, t0.1] at h0
 simp at h0
 obtain ⟨f1, e1, t1⟩ := Option.map_eq_some_iff.1 op_f1
 simp only [Prod.mk.injEq] at t1
 have h1 := hg 1 f1 e1
 rw [t1.2.2, t1.2.1, t1.1] at h1
 simp at h1
 obtain ⟨f2, e2, t2⟩ := Option.map_eq_some_iff.1 op_f2
 simp only [Prod.mk.injEq] at t2
 have h2 := hg 2 f2 e2
 rw [t2.2.2, t2.2.1, t2.1] at h2
 simp at h2
 obtain ⟨f3, e3, t3⟩ := Option.map_eq_some_iff.1 op_f3
 simp only [Prod.mk.injEq] at t3
 have h3 := hg 3 f3 e3
 rw [t3.2.2, t3.2.1, t3.1] at h3
 simp at h3
 obtain ⟨f4, e4, t4⟩ := Option.map_eq_some_iff.1 op_f4
 simp only [Prod.mk.injEq] at t4
 have h4 := hg 4 f4 e4
 rw [t4.2.2, t4.2.1, t4.1] at h4
 simp at h4
 obtain ⟨f5, e5, t5⟩ := Option.map_eq_some_iff.1 op_f5
 simp only [Prod.mk.injEq] at t5
 have h5 := hg 5 f5 e5
 rw [t5.2.2, t5.2.1, t5.1] at h5
 simp at h5
 obtain ⟨f6, e6, t6⟩ := Option.map_eq_some_iff.1 op_f6
 simp only [Prod.mk.injEq] at t6
 have h6 := hg 6 f6 e6
 rw [t6.2.2, t6.2.1, t6.1] at h6
 simp at h6
 obtain ⟨f7, e7, t7⟩ := Option.map_eq_some_iff.1 op_f7
 simp only [Prod.mk.injEq] at t7
 have h7 := hg 7 f7 e7
 rw [t7.2.2, t7.2.1, t7.1] at h7
 simp at h7
 have hz7 : Rows.uptoBulk y7.1 ≤ 1048576 := by simp [Rows.uptoBulk, Rows.uptoBulkAll] at hz; omega
 obtain ⟨x0, q0, _, w0⟩ := DataW.trod_int Tryz.underlying3 h0
 simp at q0
 subst q0
 obtain ⟨x1, q1, _, w1⟩ := DataW.trod_int Tryz.underlying22 h1
 simp at q1
 subst q1
 obtain ⟨x2, q2, _, w2⟩ := DataW.trod_int Tryz.underlying3 h2
 simp at q2
 subst q2
 obtain ⟨x3, q3, _, w3⟩ := DataW.trod_int Tryz.underlying3 h3
 simp at q3
 subst q3
 obtain ⟨x4, q4, _, w4⟩ := DataW.trod_int Tryz.underlying3 h4
 simp at q4
 subst q4
 obtain ⟨x5, q5, _, w5⟩ := DataW.trod_int Tryz.underlying3 h5
 simp at q5
 subst q5
 obtain ⟨x6, q6, _, w6⟩ := DataW.trod_int Tryz.underlying3 h6
 simp at q6
 subst q6
 obtain ⟨S, c, zs, rfl, hI, h1, h2, h3, h4⟩ := nums_open Tryz.underlying24 h7 hz7
 refine ⟨⟨x0, x1, x2, x3, x4, x5, x6, zs⟩, S, c, rfl, rfl, rfl, rfl, rfl, rfl, rfl, rfl, hI, h1, h2, h3, fun z hz => ?_, h4⟩
 simp at hz
 rcases hz with rfl | rfl | rfl | rfl | rfl | rfl | rfl
 ·exact wf_bd w0
 ·exact wf_bd w1
 ·exact wf_bd w2
 ·exact wf_bd w3
 ·exact wf_bd w4
 ·exact wf_bd w5
 ·exact wf_bd w6
structure NodeQ where
 v : NodeD
 S : Option Addr
 c : Nat
 I : Option Addr
 d : Nat
 Q : Option Addr
 q : Nat
instance : Inhabited NodeQ := ⟨⟨Nt.none_, none, 0, none, 0, none, 0⟩⟩
def NodeQ.cells (x : NodeQ) : List Value := [.int .i64 x.v.op.kind, .int .i64 x.v.op.k, .int .i64 x.v.op.width, .int .i64 x.v.op.step, .int .i64 x.v.op.side, .int .i64 x.v.op.frm, .int .i64 x.v.op.to, .slice x.S x.v.op.s.length x.c, .slice x.I x.v.ins.length x.d, .slice x.Q x.v.p.length x.q]
def NodeQ.R (x : NodeQ) (W : World) : Prop := (Ints .i64 W x.S x.v.op.s ∧ x.v.op.s.length ≤ x.c ∧ x.c ≤ 9223372036854775807) ∧ (Ints .i64 W x.I x.v.ins ∧ x.v.ins.length ≤ x.d ∧ x.d ≤ 9223372036854775807) ∧ (Shps W x.Q x.v.p ∧ x.v.p.length ≤ x.q ∧ x.q ≤ 9223372036854775807)
set_option maxRecDepth 100000 in
theorem node_open {H : Type} {enc : TypeId × Value → H} {W : World} {base : Nat} {spare : Nat → Bool} {held : Bool} {fuel : Nat} {cs : List Value} {x : DataW H × List MemPlace} (hcs : cs.length = 10)
  (h : DataW.trod enc Tryz.prog W base spare held fuel 127 cs = some x) (hz : Rows.uptoBulk x.1 ≤ 1048576) :
  ∃ q : NodeQ, cs = q.cells ∧ q.R W ∧ q.v.fits := by
 obtain ⟨v0, v1, v2, v3, v4, v5, v6, v7, v8, v9, rfl⟩ := list10 hcs
 obtain ⟨ys, n, _, hx, _, hlen, hg⟩ := DataW.trod_struct node_under h
 rw [node_three] at hlen
 obtain ⟨y0, y1, y2, rfl⟩ := list3 hlen
 rw [hx] at hz
 obtain ⟨f0, e0, t0⟩ := Option.map_eq_some_iff.1 node_f0
 simp only [Prod.mk.injEq] at t0
 have h0 := hg 0 f0 e0
 rw [t0.2.2, t0.2.1, t0.1] at h0
 simp at h0
 obtain ⟨f1, e1, t1⟩ := Option.map_eq_some_iff.1 node_f1
 simp only [Prod.mk.injEq] at t1
 have h1 := hg 1 f1 e1
 rw [t1.2.2, t1.2.1, t1.1] at h1
 simp at h1
 obtain ⟨f2, e2, t2⟩ := Option.map_eq_some_iff.1 node_f2
 simp only [Prod.mk.injEq] at t2
 have h2 := hg 2 f2 e2
 rw [t2.2.2, t2.2.1, t2.1] at h2
 simp at h2
 have hz0 : Rows.uptoBulk y0.1 ≤ 1048576 := by simp [Rows.uptoBulk, Rows.uptoBulkAll] at hz; omega
 have hz1 : Rows.uptoBulk y1.1 ≤ 1048576 := by simp [Rows.uptoBulk, Rows.uptoBulkAll] at hz; omega
 have hz2 : Rows.uptoBulk y2.1 ≤ 1048576 := by simp [Rows.uptoBulk, Rows.uptoBulkAll] at hz; omega
 obtain ⟨o, S, c, rfl, rfl, rfl, rfl, rfl, rfl, rfl, rfl, a1, a2, a3, a4, a5, a6⟩ := op_open h0 hz0
 obtain ⟨I, d, is, rfl, b1, b2, b3, b4, b5⟩ := nums_open Tryz.underlying23 h1 hz1
 obtain ⟨Q, q, ps, rfl, c1, c2, c3, c4, c5⟩ := shps_open h2 hz2
 exact ⟨⟨⟨o, is, ps⟩, S, c, I, d, Q, q⟩, rfl, ⟨⟨a1, a2, a3⟩, ⟨b1, b2, b3⟩, c1, c2, c3⟩, a5, a4, b4, c4, fun s hs => (c5 s hs).1, a6, b5, fun s hs => (c5 s hs).2⟩
theorem nodes_open {H : Type} {enc : TypeId × Value → H} {W : World} {base : Nat} {spare : Nat → Bool} {held : Bool} {fuel : Nat} {v : Value} {x : DataW H × List MemPlace}
  (h : DataW.trod enc Tryz.prog W base spare held fuel 57 [v] = some x) (hz : Rows.uptoBulk x.1 ≤ 1048576) :
  ∃ A c ns, v = .slice A ns.length c ∧ Nodes W A ns ∧ ns.length ≤ c ∧ c ≤ 9223372036854775807 ∧ ns.length ≤ 1048576 ∧ ∀ v ∈ ns, v.fits := by
 rcases slice_bulk Tryz.underlying57 h hz with rfl | ⟨a, len, cap, rfl, hl, hm, hb, hi⟩
 ·exact ⟨none, 0, [], rfl, fun j hj => absurd hj (by simp), by simp, by omega, by simp, by simp⟩
 ·rw [node_cells] at hi
  have key : ∀ i, i < len → ∃ q : NodeQ, (∀ j, j < 10 → W.cell? ((a.add (i * 10)).add j) = q.cells[j]?) ∧ q.R W ∧ q.v.fits := fun i hil => by
   obtain ⟨cs', m, y, hc, ht, hw⟩ := hi i hil
   obtain ⟨_, hlen, hat⟩ := World.cells?_some hc
   obtain ⟨q, rfl, h1, h2⟩ := node_open hlen ht hw
   exact ⟨q, hat, h1, h2⟩
  obtain ⟨L, hL, hq⟩ := choose_list key
  refine ⟨some a, cap, L.map (·.v), by simp [hL], fun j hj => ?_, by simpa [hL] using hl, by unfold maxLen at hm; omega, by simp [hL]; exact hb, fun s hs => ?_⟩
  ·rw [List.length_map] at hj
   obtain ⟨h1, ⟨r1, r2, r3⟩, _⟩ := hq j hj
   obtain ⟨h0, _⟩ := hq 0 (by omega)
   have h00 := h0 0 (by omega)
   obtain ⟨b, off, rfl⟩ := addr_lit (v := .int .i64 L[0].v.op.kind) (show W.cell? a = _ by simpa [Addr.add, NodeQ.cells] using h00)
   simp only [add_plain'] at h1
   rw [List.getElem_map]
   refine ⟨b, off, _, _, _, _, _, _, rfl, World.block_lt_of_cell? _ _ (h1 0 (by omega)), h1 0 (by omega), h1 1 (by omega), h1 2 (by omega), h1 3 (by omega), h1 4 (by omega), h1 5 (by omega), h1 6 (by omega), h1 7 (by omega), h1 8 (by omega), h1 9 (by omega), r1, r2, r3⟩
  ·obtain ⟨q, hqm, rfl⟩ := List.mem_map.1 hs
   obtain ⟨i, hi, rfl⟩ := List.getElem_of_mem hqm
   exact (hq i hi).2.2
theorem net_cells : Tryz.prog.cellsOf 59 = 2 := by kernel_rfl
theorem net_under : Tryz.prog.underlying 59 = some (.struct (Tryz.prog.fieldsOf 59)) := by kernel_rfl
theorem net_two : (Tryz.prog.fieldsOf 59).size = 2 := by kernel_rfl
theorem net_types : (Tryz.prog.fieldsOf 59).toList.map (·.type) = [24, 57] := by kernel_rfl
theorem net_f0 : ((Tryz.prog.fieldsOf 59)[0]?).map (fun f => (f.type, f.offset, Tryz.prog.cellsOf f.type)) = some (24, 0, 1) := by kernel_rfl
theorem net_f1 : ((Tryz.prog.fieldsOf 59)[1]?).map (fun f => (f.type, f.offset, Tryz.prog.cellsOf f.type)) = some (57, 1, 1) := by kernel_rfl
theorem list2 {α : Type} {l : List α} (h : l.length = 2) : ∃ a b, l = [a, b] := by
 match l, h with
 | [a, b], _ => exact ⟨a, b, rfl⟩
set_option maxRecDepth 100000 in
theorem net_open {H : Type} {enc : TypeId × Value → H} {W : World} {r : Reach} {b0 base : Nat} {spare : Nat → Bool} {held : Bool} {v : Value} {d : DataW H} {p : List MemPlace}
  (hv : Value.okWide Tryz.prog W r b0 59 v) (h : DataW.Trod enc Tryz.prog W base spare held 59 v d p) (hz : Rows.uptoBulk d ≤ 1048576) :
  ∃ A N c1 c2 n, v = .agg #[.slice A n.inn.length c1, .slice N n.nodes.length c2] ∧ n.inn.length ≤ c1 ∧ c1 ≤ 9223372036854775807 ∧ n.nodes.length ≤ c2 ∧ c2 ≤ 9223372036854775807 ∧ NetR W A N n ∧ n.fits := by
 obtain ⟨cs, rfl, hsz⟩ := okWide_struct net_under hv
 obtain ⟨l⟩ := cs
 match l, hsz.trans net_cells with
 | [v0, v1], _ =>
  obtain ⟨fuel, hf⟩ := h
  obtain ⟨ys, n, _, hx, _, hlen, hg⟩ := DataW.trod_struct net_under hf
  rw [net_two] at hlen
  obtain ⟨y0, y1, rfl⟩ := list2 hlen
  simp only [Prod.mk.injEq, List.map_cons, List.map_nil] at hx
  obtain ⟨rfl, _⟩ := hx
  obtain ⟨f0, e0, t0⟩ := Option.map_eq_some_iff.1 net_f0
  simp only [Prod.mk.injEq] at t0
  have h0 := hg 0 f0 e0
  rw [t0.2.2, t0.2.1, t0.1] at h0
  simp [Value.cells] at h0
  obtain ⟨f1, e1, t1⟩ := Option.map_eq_some_iff.1 net_f1
  simp only [Prod.mk.injEq] at t1
  have h1 := hg 1 f1 e1
  rw [t1.2.2, t1.2.1, t1.1] at h1
  simp [Value.cells] at h1
  have hz0 : Rows.uptoBulk y0.1 ≤ 1048576 := by simp [Rows.uptoBulk, Rows.uptoBulkAll] at hz; omega
  have hz1 : Rows.uptoBulk y1.1 ≤ 1048576 := by simp [Rows.uptoBulk, Rows.uptoBulkAll] at hz; omega
  obtain ⟨A, c1, zs, rfl, a1, a2, a3, a4, a5⟩ := nums_open Tryz.underlying24 h0 hz0
  obtain ⟨N, c2, ns, rfl, b1, b2, b3, b4, b5⟩ := nodes_open h1 hz1
  exact ⟨A, N, c1, c2, ⟨zs, ns⟩, rfl, a2, a3, b2, b3, ⟨a1, b1⟩, a4, b4, a5, b5⟩
theorem NetD.fits.ok {n : NetD} (h : n.fits) : n.ok :=
 ⟨h.1, h.2.1, fun v hv => by
  obtain ⟨h1, h2, h3, h4, h5, h6, h7, h8⟩ := h.2.2.2 v hv
  exact ⟨h1, h2, h3, h4, h5, h7⟩⟩
end Go.Proofs.YtbnnpkcfifejmaaGreat
namespace Go.Proofs.YtbnnpkcfifejmaaGreat
open Go.ChangeShapes Go.WideShapes Go.Deep Go.RowKit
theorem fix_one : Tryz.prog.cellsOf 22 = 1 := by kernel_rfl
theorem ten_cells : Tryz.prog.cellsOf 30 = 2 := by kernel_rfl
theorem ten_under : Tryz.prog.underlying 30 = some (.struct (Tryz.prog.fieldsOf 30)) := by kernel_rfl
theorem ten_two : (Tryz.prog.fieldsOf 30).size = 2 := by kernel_rfl
theorem ten_f0 : ((Tryz.prog.fieldsOf 30)[0]?).map (fun f => (f.type, f.offset, Tryz.prog.cellsOf f.type)) = some (24, 0, 1) := by kernel_rfl
theorem ten_f1 : ((Tryz.prog.fieldsOf 30)[1]?).map (fun f => (f.type, f.offset, Tryz.prog.cellsOf f.type)) = some (28, 1, 1) := by kernel_rfl
theorem fixs_open {H : Type} {enc : TypeId × Value → H} {W : World} {base : Nat} {spare : Nat → Bool} {held : Bool} {fuel : Nat} {v : Value} {x : DataW H × List MemPlace}
  (h : DataW.trod enc Tryz.prog W base spare held fuel 28 [v] = some x) (hz : Rows.uptoBulk x.1 ≤ 1048576) :
  ∃ A c zs, v = .slice A zs.length c ∧ Ints .i64 W A zs ∧ zs.length ≤ c ∧ c ≤ 9223372036854775807 ∧ zs.length ≤ 1048576 ∧ ∀ z ∈ zs, Fx.In z := by
 obtain ⟨A, c, zs, rfl, hl, hc, hI, hw⟩ := ints_open Tryz.underlying28 Tryz.underlying22 fix_one h
 refine ⟨A, c, zs, rfl, hI, hc, ?_, ?_, fun z hz => wf_bd (hw z hz)⟩
 ·rcases slice_bulk Tryz.underlying28 h hz with e | ⟨a, len, cap, e, _, hm, _⟩
  ·injection e with _ _ e; omega
  ·injection e with _ _ e; unfold maxLen at hm; omega
 ·rcases slice_bulk Tryz.underlying28 h hz with e | ⟨a, len, cap, e, _, _, hb, _⟩
  ·injection e with _ e _; rw [e]; exact Nat.zero_le _
  ·have e2 : zs.length = len := by simp at e; exact e.2.1
   rw [e2]
   exact hb
set_option maxRecDepth 100000 in
theorem ten_open {H : Type} {enc : TypeId × Value → H} {W : World} {base : Nat} {spare : Nat → Bool} {held : Bool} {fuel : Nat} {v0 v1 : Value} {x : DataW H × List MemPlace}
  (hf : DataW.trod enc Tryz.prog W base spare held fuel 30 [v0, v1] = some x) (hz : Rows.uptoBulk x.1 ≤ 1048576) :
  ∃ (S C : Option Addr) (c d : Nat) (t : Ten), v0 = .slice S t.s.length c ∧ v1 = .slice C t.c.length d ∧ TenIn W S C c d t := by
 obtain ⟨ys, n, _, hx, _, hlen, hg⟩ := DataW.trod_struct ten_under hf
 rw [ten_two] at hlen
 obtain ⟨y0, y1, rfl⟩ := list2 hlen
 rw [hx] at hz
 obtain ⟨f0, e0, t0⟩ := Option.map_eq_some_iff.1 ten_f0
 simp only [Prod.mk.injEq] at t0
 have h0 := hg 0 f0 e0
 rw [t0.2.2, t0.2.1, t0.1] at h0
 simp at h0
 obtain ⟨f1, e1, t1⟩ := Option.map_eq_some_iff.1 ten_f1
 simp only [Prod.mk.injEq] at t1
 have h1 := hg 1 f1 e1
 rw [t1.2.2, t1.2.1, t1.1] at h1
 simp at h1
 have hz0 : Rows.uptoBulk y0.1 ≤ 1048576 := by simp [Rows.uptoBulk, Rows.uptoBulkAll] at hz; omega
 have hz1 : Rows.uptoBulk y1.1 ≤ 1048576 := by simp [Rows.uptoBulk, Rows.uptoBulkAll] at hz; omega
 obtain ⟨S, c, zs, rfl, a1, a2, a3, a4, a5⟩ := nums_open Tryz.underlying24 h0 hz0
 obtain ⟨C, d, cs, rfl, b1, b2, b3, b4, b5⟩ := fixs_open h1 hz1
 exact ⟨S, C, c, d, ⟨zs, cs⟩, rfl, rfl, ⟨⟨a1, b1⟩, a2, a3, b2, b3, a4, b4, b5⟩⟩
structure TenQ where
 t : Ten
 S : Option Addr
 c : Nat
 C : Option Addr
 d : Nat
instance : Inhabited TenQ := ⟨⟨Ly.none_, none, 0, none, 0⟩⟩
theorem tens_open {H : Type} {enc : TypeId × Value → H} {W : World} {base : Nat} {spare : Nat → Bool} {held : Bool} {fuel : Nat} {v : Value} {x : DataW H × List MemPlace}
  (h : DataW.trod enc Tryz.prog W base spare held fuel 27 [v] = some x) (hz : Rows.uptoBulk x.1 ≤ 1048576) :
  ∃ A c ts, v = .slice A ts.length c ∧ Tns W A ts ∧ ts.length ≤ c ∧ c ≤ 9223372036854775807 ∧ ts.length ≤ 1048576 := by
 rcases slice_bulk Tryz.underlying27 h hz with rfl | ⟨a, len, cap, rfl, hl, hm, hb, hi⟩
 ·exact ⟨none, 0, [], rfl, Tns.nil _ _, by simp, by omega, by simp⟩
 ·rw [ten_cells] at hi
  have key : ∀ i, i < len → ∃ q : TenQ, W.cell? ((a.add (i * 2)).add 0) = some (.slice q.S q.t.s.length q.c) ∧ W.cell? ((a.add (i * 2)).add 1) = some (.slice q.C q.t.c.length q.d) ∧ TenIn W q.S q.C q.c q.d q.t := fun i hil => by
   obtain ⟨cs', m, y, hc, ht, hw⟩ := hi i hil
   obtain ⟨_, hlen, hat⟩ := World.cells?_some hc
   obtain ⟨v0, v1, rfl⟩ := list2 hlen
   obtain ⟨S, C, c, d, t, rfl, rfl, hT⟩ := ten_open ht hw
   exact ⟨⟨t, S, c, C, d⟩, hat 0 (by omega), hat 1 (by omega), hT⟩
  obtain ⟨L, hL, hq⟩ := choose_list key
  refine ⟨some a, cap, L.map (·.t), by simp [hL], fun j hj => ?_, by simpa [hL] using hl, by unfold maxLen at hm; omega, by simp [hL]; exact hb⟩
  rw [List.length_map] at hj
  obtain ⟨h1, h2, h3⟩ := hq j hj
  obtain ⟨h0, _, _⟩ := hq 0 (by omega)
  obtain ⟨b, off, rfl⟩ := addr_lit (v := .slice L[0].S L[0].t.s.length L[0].c) (show W.cell? a = _ by simpa [Addr.add] using h0)
  simp only [addr_add, Nat.add_zero] at h1 h2
  rw [List.getElem_map]
  exact ⟨b, off, _, _, _, _, rfl, World.block_lt_of_cell? _ _ h1, h1, h2, h3⟩
theorem gcase_cells : Tryz.prog.cellsOf 32 = 12 := by kernel_rfl
theorem gcase_under : Tryz.prog.underlying 32 = some (.struct (Tryz.prog.fieldsOf 32)) := by kernel_rfl
theorem gcase_four : (Tryz.prog.fieldsOf 32).size = 4 := by kernel_rfl
theorem gcase_f0 : ((Tryz.prog.fieldsOf 32)[0]?).map (fun f => (f.type, f.offset, Tryz.prog.cellsOf f.type)) = some (26, 0, 8) := by kernel_rfl
theorem gcase_f1 : ((Tryz.prog.fieldsOf 32)[1]?).map (fun f => (f.type, f.offset, Tryz.prog.cellsOf f.type)) = some (27, 8, 1) := by kernel_rfl
theorem gcase_f2 : ((Tryz.prog.fieldsOf 32)[2]?).map (fun f => (f.type, f.offset, Tryz.prog.cellsOf f.type)) = some (27, 9, 1) := by kernel_rfl
theorem gcase_f3 : ((Tryz.prog.fieldsOf 32)[3]?).map (fun f => (f.type, f.offset, Tryz.prog.cellsOf f.type)) = some (30, 10, 2) := by kernel_rfl
theorem list4' {α : Type} {l : List α} (h : l.length = 4) : ∃ a b c d, l = [a, b, c, d] := by
 match l, h with
 | [a, b, c, d], _ => exact ⟨a, b, c, d, rfl⟩
theorem list12 {α : Type} {l : List α} (h : l.length = 12) : ∃ a b c d e f g i j k m n, l = [a, b, c, d, e, f, g, i, j, k, m, n] := by
 match l, h with
 | [a, b, c, d, e, f, g, i, j, k, m, n], _ => exact ⟨a, b, c, d, e, f, g, i, j, k, m, n, rfl⟩
def gcaseVal (o : OpD) (S : Option Addr) (c : Nat) (P : Option Addr) (lp cp : Nat) (X : Option Addr) (lx cx : Nat) (GS : Option Addr) (gs gc : Nat) (GC : Option Addr) (gn gd : Nat) : Value :=
 .agg #[.int .i64 o.kind, .int .i64 o.k, .int .i64 o.width, .int .i64 o.step, .int .i64 o.side, .int .i64 o.frm, .int .i64 o.to, .slice S o.s.length c, .slice P lp cp, .slice X lx cx, .slice GS gs gc, .slice GC gn gd]
set_option maxRecDepth 100000 in
theorem gcase_open {H : Type} {enc : TypeId × Value → H} {W : World} {r : Reach} {b0 base : Nat} {spare : Nat → Bool} {held : Bool} {v : Value} {d : DataW H} {p : List MemPlace}
  (hv : Value.okWide Tryz.prog W r b0 32 v) (h : DataW.Trod enc Tryz.prog W base spare held 32 v d p) (hz : Rows.uptoBulk d ≤ 1048576) :
  ∃ S c o P cp ps X cx xs GS GC gc gd g, v = gcaseVal o S c P (List.length ps) cp X (List.length xs) cx GS g.s.length gc GC g.c.length gd ∧ Ints .i64 W S o.s ∧ o.s.length ≤ c ∧ c ≤ 9223372036854775807 ∧ o.s.length ≤ 1048576 ∧ o.wide ∧ (∀ z ∈ o.s, -9223372036854775808 ≤ z ∧ z ≤ 9223372036854775807) ∧
   Tns W P ps ∧ ps.length ≤ cp ∧ cp ≤ 9223372036854775807 ∧ ps.length ≤ 1048576 ∧ Tns W X xs ∧ xs.length ≤ cx ∧ cx ≤ 9223372036854775807 ∧ xs.length ≤ 1048576 ∧ TenIn W GS GC gc gd g := by
 obtain ⟨cs, rfl, hsz⟩ := okWide_struct gcase_under hv
 obtain ⟨l⟩ := cs
 obtain ⟨v0, v1, v2, v3, v4, v5, v6, v7, v8, v9, v10, v11, rfl⟩ := list12 (hsz.trans gcase_cells)
 obtain ⟨fuel, hf⟩ := h
 obtain ⟨ys, n, _, hx, _, hlen, hg⟩ := DataW.trod_struct gcase_under hf
 rw [gcase_four] at hlen
 obtain ⟨y0, y1, y2, y3, rfl⟩ := list4' hlen
 simp only [Prod.mk.injEq, List.map_cons, List.map_nil] at hx
 obtain ⟨rfl, _⟩ := hx
 obtain ⟨f0, e0, t0⟩ := Option.map_eq_some_iff.1 gcase_f0
 simp only [Prod.mk.injEq] at t0
 have h0 := hg 0 f0 e0
 rw [t0.2.2, t0.2.1, t0.1] at h0
 simp [Value.cells] at h0
 have hz0 : Rows.uptoBulk y0.1 ≤ 1048576 := by simp [Rows.uptoBulk, Rows.uptoBulkAll] at hz; omega
 obtain ⟨f1, e1, t1⟩ := Option.map_eq_some_iff.1 gcase_f1
 simp only [Prod.mk.injEq] at t1
 have h1 := hg 1 f1 e1
 rw [t1.2.2, t1.2.1, t1.1] at h1
 simp [Value.cells] at h1
 have hz1 : Rows.uptoBulk y1.1 ≤ 1048576 := by simp [Rows.uptoBulk, Rows.uptoBulkAll] at hz; omega
 obtain ⟨f2, e2, t2⟩ := Option.map_eq_some_iff.1 gcase_f2
 simp only [Prod.mk.injEq] at t2
 have h2 := hg 2 f2 e2
 rw [t2.2.2, t2.2.1, t2.1] at h2
 simp [Value.cells] at h2
 have hz2 : Rows.uptoBulk y2.1 ≤ 1048576 := by simp [Rows.uptoBulk, Rows.uptoBulkAll] at hz; omega
 obtain ⟨f3, e3, t3⟩ := Option.map_eq_some_iff.1 gcase_f3
 simp only [Prod.mk.injEq] at t3
 have h3 := hg 3 f3 e3
 rw [t3.2.2, t3.2.1, t3.1] at h3
 simp [Value.cells] at h3
 have hz3 : Rows.uptoBulk y3.1 ≤ 1048576 := by simp [Rows.uptoBulk, Rows.uptoBulkAll] at hz; omega
 obtain ⟨o, S, c, rfl, rfl, rfl, rfl, rfl, rfl, rfl, rfl, a1, a2, a3, a4, a5, a6⟩ := op_open h0 hz0
 obtain ⟨P, cp, ps, rfl, p1, p2, p3, p4⟩ := tens_open h1 hz1
 obtain ⟨X, cx, xs, rfl, q1, q2, q3, q4⟩ := tens_open h2 hz2
 obtain ⟨GS, GC, gc, gd, g, rfl, rfl, hT⟩ := ten_open h3 hz3
 exact ⟨S, c, o, P, cp, ps, X, cx, xs, GS, GC, gc, gd, g, rfl, a1, a2, a3, a4, a5, a6, p1, p2, p3, p4, q1, q2, q3, q4, hT⟩
end Go.Proofs.YtbnnpkcfifejmaaGreat

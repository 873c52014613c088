/- Lemmas for the statements of this seat: contracts of functions and the plain laws. -/
import Derived.Deep.RegionHeld3
import Derived.Test.YtbnnpkcfifejmaaGreatZ10
set_option linter.unusedVariables false
namespace Go.Proofs.YtbnnpkcfifejmaaGreat
open Go.RowKit
namespace Ly
theorem poolBack_none {top : Bool} {x g : Ten} {w s : Int} (h : (poolBack top x g w s).2 ≠ 0) : (poolBack top x g w s).1 = none_ := by
 unfold poolBack at h ⊢
 split at h
 ·rename_i h1
  rw [if_pos h1]
  split at h
  ·exact absurd rfl h
  ·rename_i h2
   rw [if_neg h2]
 ·rename_i h1
  rw [if_neg h1]
theorem cutBack_none {x g : Ten} {sd f t : Int} (h : (cutBack x g sd f t).2 ≠ 0) : (cutBack x g sd f t).1 = none_ := by
 unfold cutBack at h ⊢
 split at h
 ·rename_i h1
  rw [if_pos h1]
  split at h
  ·rename_i h2
   rw [if_pos h2]
   split at h
   ·exact absurd rfl h
   ·rename_i h3
    rw [if_neg h3]
  ·rename_i h2
   rw [if_neg h2]
 ·rename_i h1
  rw [if_neg h1]
theorem layBack9 {o : OpD} {p x : List Ten} {g : Ten} (h : o.kind = 9) : layBack o p x g = Ly.bbias (Ly.got p 0) (Ly.got x 0) g := by
 unfold layBack
 rw [if_neg (by omega), if_pos h]
theorem layBack15 {o : OpD} {p x : List Ten} {g : Ten} (h : o.kind = 15) : layBack o p x g = Ly.bturn (Ly.got x 0) g o.s := by
 unfold layBack
 rw [if_neg (by omega), if_neg (by omega), if_neg (by omega), if_neg (by omega), if_neg (by omega), if_neg (by omega), if_neg (by omega), if_pos h]
theorem layBack11 {o : OpD} {p x : List Ten} {g : Ten} (h : o.kind = 11) : layBack o p x g = Ly.bsingle (Ly.poolBack true (Ly.got x 0) g o.width o.step) := by
 unfold layBack
 rw [if_neg (by omega), if_neg (by omega), if_neg (by omega), if_pos h]
theorem layBack12 {o : OpD} {p x : List Ten} {g : Ten} (h : o.kind = 12) : layBack o p x g = Ly.bsingle (Ly.poolBack false (Ly.got x 0) g o.width o.step) := by
 unfold layBack
 rw [if_neg (by omega), if_neg (by omega), if_neg (by omega), if_neg (by omega), if_pos h]
theorem layBack14 {o : OpD} {p x : List Ten} {g : Ten} (h : o.kind = 14) : layBack o p x g = Ly.bsingle (Ly.cutBack (Ly.got x 0) g o.side o.frm o.to) := by
 unfold layBack
 rw [if_neg (by omega), if_neg (by omega), if_neg (by omega), if_neg (by omega), if_neg (by omega), if_neg (by omega), if_pos h]
end Ly
set_option maxHeartbeats 16000000 in
set_option maxRecDepth 20000 in
theorem op_back9 (o : OpD) (S P X GS GC : Option Addr) (c cp cx gc gd : Nat) (p x : List Ten) (g : Ten) (w : World) (hk : o.kind = 9) (ho : o.s.length ≤ 1048576) (hI : Ints .i64 w S o.s) (hP : Tns w P p) (hX : Tns w X x) (hG : TenIn w GS GC gc gd g) (hc : Od.counts o p.length x.length = 0) :
  Calls Tryz.prog 11 #[.agg #[.int .i64 o.kind, .int .i64 o.k, .int .i64 o.width, .int .i64 o.step, .int .i64 o.side, .int .i64 o.frm, .int .i64 o.to, .slice S o.s.length c], .slice P p.length cp, .slice X x.length cx, .agg #[.slice GS g.s.length gc, .slice GC g.c.length gd]] w (GoB (Ly.layBack o p x g) w) := by
 have h01 : Later w (((w.alloc (.cells #[.int .i64 o.kind, .int .i64 o.k, .int .i64 o.width, .int .i64 o.step, .int .i64 o.side, .int .i64 o.frm, .int .i64 o.to, .slice S o.s.length c] 26)).alloc (.cells #[.slice GS g.s.length gc, .slice GC g.c.length gd] 30)).alloc (.cells #[.slice none 0 0, .slice none 0 0] 38)) := (((Later.refl w).alloc _).alloc _).alloc _
 have hko1 := ((Blk.new w 26 #[.int .i64 o.kind, .int .i64 o.k, .int .i64 o.width, .int .i64 o.step, .int .i64 o.side, .int .i64 o.frm, .int .i64 o.to, .slice S o.s.length c]).alloc (.cells #[.slice GS g.s.length gc, .slice GC g.c.length gd] 30)).alloc (.cells #[.slice none 0 0, .slice none 0 0] 38)
 have hkg1 := (Blk.new (w.alloc (.cells #[.int .i64 o.kind, .int .i64 o.k, .int .i64 o.width, .int .i64 o.step, .int .i64 o.side, .int .i64 o.frm, .int .i64 o.to, .slice S o.s.length c] 26)) 30 #[.slice GS g.s.length gc, .slice GC g.c.length gd]).alloc (.cells #[.slice none 0 0, .slice none 0 0] 38)
 have hz1 := Blk.new ((w.alloc (.cells #[.int .i64 o.kind, .int .i64 o.k, .int .i64 o.width, .int .i64 o.step, .int .i64 o.side, .int .i64 o.frm, .int .i64 o.to, .slice S o.s.length c] 26)).alloc (.cells #[.slice GS g.s.length gc, .slice GC g.c.length gd] 30)) 38 #[.slice none 0 0, .slice none 0 0]
 simp only [World.size_alloc] at hkg1 hz1
 have hun := Ly.counts_ok hc
 unfold Od.least Od.most Od.params at hun
 have hpl : p.length = 1 := by have := hun.1; have h3 := hun.2.2.2; rw [if_pos this] at h3; simp [hk] at h3; omega
 have hxl : x.length = 1 := by have := hun.1; have h1 := hun.2.1; have h2 := hun.2.2.1; rw [if_pos this] at h1 h2; simp [hk] at h1 h2; omega
 have HE := Lib.hid (Ly.layBack9 (p := p) (x := x) (g := g) hk)
 have HC := Lib.hid hc
 have Hpl := Lib.hid hpl
 have Hxl := Lib.hid hxl
 have Hk := Lib.hid hk
 clear hun hc hpl hxl hk
 have HI := Lib.hid hI
 have HP := Lib.hid hP
 have HX := Lib.hid hX
 have HG := Lib.hid hG
 have H01 := Lib.hid h01
 have Hko1 := Lib.hid hko1
 have Hkg1 := Lib.hid hkg1
 have Hz1 := Lib.hid hz1
 clear hI hP hX hG h01 hko1 hkg1 hz1
 go_enter Tryz.func11, Tryz.ntmps11
 go_wp2_with fail
 generalize ((w.alloc (.cells #[.int .i64 o.kind, .int .i64 o.k, .int .i64 o.width, .int .i64 o.step, .int .i64 o.side, .int .i64 o.frm, .int .i64 o.to, .slice S o.s.length c] 26)).alloc (.cells #[.slice GS g.s.length gc, .slice GC g.c.length gd] 30)).alloc (.cells #[.slice none 0 0, .slice none 0 0] 38) = w1 at *
 refine (op_counts o S c p.length x.length w1 (by omega) (HI.out.below H01.out (Nat.le_refl _))).mono ?_
 rintro e w2 ⟨rfl, hb2⟩
 rw [HC.out]
 have h12 : Later w1 w2 := hb2
 have hH := H01.out.trans h12
 have hz := h12.blk Hz1.out
 have hko := h12.blk Hko1.out
 have hkg := h12.blk Hkg1.out
 clear hb2 h12 H01 Hz1 Hko1 Hkg1
 have HH := Lib.hid hH
 have Hz := Lib.hid hz
 have Hko := Lib.hid hko
 have Hkg := Lib.hid hkg
 clear hH hz hko hkg
 obtain ⟨bp, po, S0, c0, C0, d0, rfl, lbp, p00, p01, hT0⟩ := HP.out.at_ (j := 0) (by have := Hpl.out; omega)
 obtain ⟨bx, xo, S2, c2, C2, d2, rfl, lbx, x00, x01, hT2⟩ := HX.out.at_ (j := 0) (by have := Hxl.out; omega)
 have hcall := fun (W : World) (h : Later w2 W) => (op_biasBack S0 C0 S2 C2 GS GC c0 d0 c2 d2 gc gd (Ly.got p 0) (Ly.got x 0) g W (hT0.later (HH.out.trans h)) (hT2.later (HH.out.trans h)) (HG.out.later (HH.out.trans h)))
 have hE := HE.out
 obtain ⟨R, hR⟩ : ∃ R, Ly.bbias (Ly.got p 0) (Ly.got x 0) g = R := ⟨_, rfl⟩
 rw [hR] at hcall hE
 have q1 : w2.cell? ⟨bp, po, none⟩ = some (.slice S0 (Ly.got p 0).s.length c0) := HH.out.cell (by simpa using p00)
 have q2 : w2.cell? ⟨bp, po + 1, none⟩ = some (.slice C0 (Ly.got p 0).c.length d0) := HH.out.cell (by simpa using p01)
 have q3 : w2.cell? ⟨bx, xo, none⟩ = some (.slice S2 (Ly.got x 0).s.length c2) := HH.out.cell (by simpa using x00)
 have q4 : w2.cell? ⟨bx, xo + 1, none⟩ = some (.slice C2 (Ly.got x 0).c.length d2) := HH.out.cell (by simpa using x01)
 have q5 : w2.cell? ⟨w.heap.size + 1, 0, none⟩ = some (.slice GS g.s.length gc) := by rw [Hkg.out.cell]; rfl
 have q6 : w2.cell? ⟨w.heap.size + 1, 1, none⟩ = some (.slice GC g.c.length gd) := by rw [Hkg.out.cell]; rfl
 have x0 : w2.cell? ⟨w.heap.size, 0, none⟩ = some (.int .i64 9) := by rw [Hko.out.cell, ← Hk.out]; rfl
 have hs0 := HH.out.size
 have hs2 := Hz.out.lt
 rw [Hxl.out, Hpl.out]
 clear hR p00 p01 hT0 x00 x01 hT2 HE
 have Hcall := Lib.hid hcall
 have HE := Lib.hid hE
 clear hcall hE
 go_upto_region 11 with fail
 clear x0
 have KF := Lib.hid (show ∀ Xw, Later w2 Xw → Xw.cell? ⟨bp, po, none⟩ = some (.slice S0 (Ly.got p 0).s.length c0) ∧ Xw.cell? ⟨bp, po + 1, none⟩ = some (.slice C0 (Ly.got p 0).c.length d0) ∧ Xw.cell? ⟨bx, xo, none⟩ = some (.slice S2 (Ly.got x 0).s.length c2) ∧ Xw.cell? ⟨bx, xo + 1, none⟩ = some (.slice C2 (Ly.got x 0).c.length d2) ∧ Xw.cell? ⟨w.heap.size + 1, 0, none⟩ = some (.slice GS g.s.length gc) ∧ Xw.cell? ⟨w.heap.size + 1, 1, none⟩ = some (.slice GC g.c.length gd) from fun Xw h => ⟨h.cell q1, h.cell q2, h.cell q3, h.cell q4, h.cell q5, h.cell q6⟩)
 refine wp_region_noPanic ?_
 refine wp_region_held_drew (S := fun Xw => Xw.cell? ⟨bp, po, none⟩ = some (.slice S0 (Ly.got p 0).s.length c0) ∧ Xw.cell? ⟨bp, po + 1, none⟩ = some (.slice C0 (Ly.got p 0).c.length d0) ∧ Xw.cell? ⟨bx, xo, none⟩ = some (.slice S2 (Ly.got x 0).s.length c2) ∧ Xw.cell? ⟨bx, xo + 1, none⟩ = some (.slice C2 (Ly.got x 0).c.length d2) ∧ Xw.cell? ⟨w.heap.size + 1, 0, none⟩ = some (.slice GS g.s.length gc) ∧ Xw.cell? ⟨w.heap.size + 1, 1, none⟩ = some (.slice GC g.c.length gd)) (by kernel_rfl) (KF.out _ Later.au) (fun hHeld => ?_)
 refine tk 0 ?_
 refine tk 1 ?_
 refine tk 2 ?_
 refine tk 3 ?_
 refine tk 4 ?_
 refine tk 5 ?_
 refine tk 6 ?_
 refine rd 7 fun K hK => ?_
 simp only [ga, gs, gz]
 go_simp
 go_at_call 46
 (with_reducible refine (Hcall.out _ (Later.au : Later w2 _)).mono ?_)
 intro e w9 hgo
 have hu := hgo.u (w0 := w) (show Later w _ from HH.out.trans (Later.au : Later w2 _))
 obtain ⟨A9, na, B9, nb, rfl, k1, k2, hb9⟩ := hu
 have hl9 : Later w2 w9 := Later.trans (Later.au : Later w2 (World.drew w2)) hgo.2
 have hz9 := hl9.blk Hz.out
 have c0' := hz9.cell 0
 have c1' := hz9.cell 1
 have f0' := hz9.frozen 0
 have f1' := hz9.frozen 1
 simp at c0' c1'
 have Hz9 := Lib.hid hz9
 clear hz9
 have K1 := Lib.hid k1
 have K2 := Lib.hid k2
 have HB9 := Lib.hid hb9
 have hbx : Below w2.heap.size w2 w9 := hl9
 clear k1 k2 hb9 hgo hl9
 try go_wp2_with fail
 refine hK.out _ _ (KF.out _ Later.au) (fun hHeld => ?_)
 clear hK K
 try simp only [ga, gs, gz, Act.put, sa, sz, ss]
 refine tk 8 ?_
 refine tk 9 ?_
 refine rd 10 fun K hK => ?_
 simp only [ga, gs, gz]
 go_simp
 refine hK.out _ _ ?_ (fun hHeld => ?_)
 ·(try dsimp only); (refine ⟨?_, ?_, ?_, ?_, ?_, ?_⟩ <;> (repeat (refine cell_setfar ?_ (by first | omega | (simp; done) | (simp; omega)))) <;> (refine Later.cell (Later.au : Later w2 _) ?_) <;> assumption)
 clear hK K
 try simp only [ga, gs, gz, Act.put, sa, sz, ss]
 refine tk 11 ?_
 clear KF
 refine wpAnyH_done (by kernel_rfl) ?_ _
 refine NoPanic.normal ?_
 have hz8 := (Hz9.out.set_ 0 (.slice A9 na na)).set_ 1 (.slice B9 nb nb)
 have e0 := hz8.cell 0
 have e1 := hz8.cell 1
 simp at e0 e1
 clear hHeld hz8
 go_wp2_with fail
 refine bodyPost_ret (v := .tuple #[.agg #[.slice A9 na na, .slice B9 nb nb], .int .i64 R.2]) (by simp [results, Tryz.results11, go_sem, e0, e1]) rfl ?_
 rw [HE.out]
 exact GoBU.fin K1.out K2.out HB9.out Hz9.out (show w.heap.size ≤ w.heap.size + 2 by omega) (by first | omega | (simp; omega)) _ _
set_option maxHeartbeats 16000000 in
set_option maxRecDepth 20000 in
theorem op_back15 (o : OpD) (S P X GS GC : Option Addr) (c cp cx gc gd : Nat) (p x : List Ten) (g : Ten) (w : World) (hk : o.kind = 15) (ho : o.s.length ≤ 1048576) (hI : Ints .i64 w S o.s) (hP : Tns w P p) (hX : Tns w X x) (hG : TenIn w GS GC gc gd g) (hc : Od.counts o p.length x.length = 0) :
  Calls Tryz.prog 11 #[.agg #[.int .i64 o.kind, .int .i64 o.k, .int .i64 o.width, .int .i64 o.step, .int .i64 o.side, .int .i64 o.frm, .int .i64 o.to, .slice S o.s.length c], .slice P p.length cp, .slice X x.length cx, .agg #[.slice GS g.s.length gc, .slice GC g.c.length gd]] w (GoB (Ly.layBack o p x g) w) := by
 have h01 : Later w (((w.alloc (.cells #[.int .i64 o.kind, .int .i64 o.k, .int .i64 o.width, .int .i64 o.step, .int .i64 o.side, .int .i64 o.frm, .int .i64 o.to, .slice S o.s.length c] 26)).alloc (.cells #[.slice GS g.s.length gc, .slice GC g.c.length gd] 30)).alloc (.cells #[.slice none 0 0, .slice none 0 0] 38)) := (((Later.refl w).alloc _).alloc _).alloc _
 have hko1 := ((Blk.new w 26 #[.int .i64 o.kind, .int .i64 o.k, .int .i64 o.width, .int .i64 o.step, .int .i64 o.side, .int .i64 o.frm, .int .i64 o.to, .slice S o.s.length c]).alloc (.cells #[.slice GS g.s.length gc, .slice GC g.c.length gd] 30)).alloc (.cells #[.slice none 0 0, .slice none 0 0] 38)
 have hkg1 := (Blk.new (w.alloc (.cells #[.int .i64 o.kind, .int .i64 o.k, .int .i64 o.width, .int .i64 o.step, .int .i64 o.side, .int .i64 o.frm, .int .i64 o.to, .slice S o.s.length c] 26)) 30 #[.slice GS g.s.length gc, .slice GC g.c.length gd]).alloc (.cells #[.slice none 0 0, .slice none 0 0] 38)
 have hz1 := Blk.new ((w.alloc (.cells #[.int .i64 o.kind, .int .i64 o.k, .int .i64 o.width, .int .i64 o.step, .int .i64 o.side, .int .i64 o.frm, .int .i64 o.to, .slice S o.s.length c] 26)).alloc (.cells #[.slice GS g.s.length gc, .slice GC g.c.length gd] 30)) 38 #[.slice none 0 0, .slice none 0 0]
 simp only [World.size_alloc] at hkg1 hz1
 have hun := Ly.counts_ok hc
 unfold Od.least Od.most Od.params at hun
 have hpl : p.length = 0 := by have := hun.1; have h3 := hun.2.2.2; rw [if_pos this] at h3; simp [hk] at h3; omega
 have hxl : x.length = 1 := by have := hun.1; have h1 := hun.2.1; have h2 := hun.2.2.1; rw [if_pos this] at h1 h2; simp [hk] at h1 h2; omega
 have HE := Lib.hid (Ly.layBack15 (p := p) (x := x) (g := g) hk)
 have HC := Lib.hid hc
 have Hpl := Lib.hid hpl
 have Hxl := Lib.hid hxl
 have Hk := Lib.hid hk
 clear hun hc hpl hxl hk
 have HI := Lib.hid hI
 have HP := Lib.hid hP
 have HX := Lib.hid hX
 have HG := Lib.hid hG
 have H01 := Lib.hid h01
 have Hko1 := Lib.hid hko1
 have Hkg1 := Lib.hid hkg1
 have Hz1 := Lib.hid hz1
 clear hI hP hX hG h01 hko1 hkg1 hz1
 go_enter Tryz.func11, Tryz.ntmps11
 go_wp2_with fail
 generalize ((w.alloc (.cells #[.int .i64 o.kind, .int .i64 o.k, .int .i64 o.width, .int .i64 o.step, .int .i64 o.side, .int .i64 o.frm, .int .i64 o.to, .slice S o.s.length c] 26)).alloc (.cells #[.slice GS g.s.length gc, .slice GC g.c.length gd] 30)).alloc (.cells #[.slice none 0 0, .slice none 0 0] 38) = w1 at *
 refine (op_counts o S c p.length x.length w1 (by omega) (HI.out.below H01.out (Nat.le_refl _))).mono ?_
 rintro e w2 ⟨rfl, hb2⟩
 rw [HC.out]
 have h12 : Later w1 w2 := hb2
 have hH := H01.out.trans h12
 have hz := h12.blk Hz1.out
 have hko := h12.blk Hko1.out
 have hkg := h12.blk Hkg1.out
 clear hb2 h12 H01 Hz1 Hko1 Hkg1
 have HH := Lib.hid hH
 have Hz := Lib.hid hz
 have Hko := Lib.hid hko
 have Hkg := Lib.hid hkg
 clear hH hz hko hkg
 obtain ⟨bx, xo, S2, c2, C2, d2, rfl, lbx, x00, x01, hT2⟩ := HX.out.at_ (j := 0) (by have := Hxl.out; omega)
 have hcall := fun (W : World) (h : Later w2 W) => (op_turnBack S2 C2 GS GC S c2 d2 gc gd c (Ly.got x 0) g o.s W (hT2.later (HH.out.trans h)) (HG.out.later (HH.out.trans h)) (HI.out.below (HH.out.trans h) (Nat.le_refl _)) ho)
 have hE := HE.out
 obtain ⟨R, hR⟩ : ∃ R, Ly.bturn (Ly.got x 0) g o.s = R := ⟨_, rfl⟩
 rw [hR] at hcall hE
 have q1 : w2.cell? ⟨bx, xo, none⟩ = some (.slice S2 (Ly.got x 0).s.length c2) := HH.out.cell (by simpa using x00)
 have q2 : w2.cell? ⟨bx, xo + 1, none⟩ = some (.slice C2 (Ly.got x 0).c.length d2) := HH.out.cell (by simpa using x01)
 have q3 : w2.cell? ⟨w.heap.size + 1, 0, none⟩ = some (.slice GS g.s.length gc) := by rw [Hkg.out.cell]; rfl
 have q4 : w2.cell? ⟨w.heap.size + 1, 1, none⟩ = some (.slice GC g.c.length gd) := by rw [Hkg.out.cell]; rfl
 have q5 : w2.cell? ⟨w.heap.size, 7, none⟩ = some (.slice S o.s.length c) := by rw [Hko.out.cell]; rfl
 have x0 : w2.cell? ⟨w.heap.size, 0, none⟩ = some (.int .i64 15) := by rw [Hko.out.cell, ← Hk.out]; rfl
 have hs0 := HH.out.size
 have hs2 := Hz.out.lt
 rw [Hxl.out]
 clear hR x00 x01 hT2 HE
 have Hcall := Lib.hid hcall
 have HE := Lib.hid hE
 clear hcall hE
 go_upto_region 26 with fail
 clear x0
 have KF := Lib.hid (show ∀ Xw, Later w2 Xw → Xw.cell? ⟨bx, xo, none⟩ = some (.slice S2 (Ly.got x 0).s.length c2) ∧ Xw.cell? ⟨bx, xo + 1, none⟩ = some (.slice C2 (Ly.got x 0).c.length d2) ∧ Xw.cell? ⟨w.heap.size + 1, 0, none⟩ = some (.slice GS g.s.length gc) ∧ Xw.cell? ⟨w.heap.size + 1, 1, none⟩ = some (.slice GC g.c.length gd) ∧ Xw.cell? ⟨w.heap.size, 7, none⟩ = some (.slice S o.s.length c) from fun Xw h => ⟨h.cell q1, h.cell q2, h.cell q3, h.cell q4, h.cell q5⟩)
 refine wp_region_noPanic ?_
 refine wp_region_held_drew (S := fun Xw => Xw.cell? ⟨bx, xo, none⟩ = some (.slice S2 (Ly.got x 0).s.length c2) ∧ Xw.cell? ⟨bx, xo + 1, none⟩ = some (.slice C2 (Ly.got x 0).c.length d2) ∧ Xw.cell? ⟨w.heap.size + 1, 0, none⟩ = some (.slice GS g.s.length gc) ∧ Xw.cell? ⟨w.heap.size + 1, 1, none⟩ = some (.slice GC g.c.length gd) ∧ Xw.cell? ⟨w.heap.size, 7, none⟩ = some (.slice S o.s.length c)) (by kernel_rfl) (KF.out _ Later.au) (fun hHeld => ?_)
 refine tk 0 ?_
 refine tk 1 ?_
 refine tk 2 ?_
 refine tk 3 ?_
 refine tk 4 ?_
 refine tk 5 ?_
 refine rd 6 fun K hK => ?_
 simp only [ga, gs, gz]
 go_simp
 go_at_call 49
 (with_reducible refine (Hcall.out _ (Later.au : Later w2 _)).mono ?_)
 intro e w9 hgo
 have hu := hgo.u (w0 := w) (show Later w _ from HH.out.trans (Later.au : Later w2 _))
 obtain ⟨A9, na, B9, nb, rfl, k1, k2, hb9⟩ := hu
 have hl9 : Later w2 w9 := Later.trans (Later.au : Later w2 (World.drew w2)) hgo.2
 have hz9 := hl9.blk Hz.out
 have c0' := hz9.cell 0
 have c1' := hz9.cell 1
 have f0' := hz9.frozen 0
 have f1' := hz9.frozen 1
 simp at c0' c1'
 have Hz9 := Lib.hid hz9
 clear hz9
 have K1 := Lib.hid k1
 have K2 := Lib.hid k2
 have HB9 := Lib.hid hb9
 have hbx : Below w2.heap.size w2 w9 := hl9
 clear k1 k2 hb9 hgo hl9
 try go_wp2_with fail
 refine hK.out _ _ (KF.out _ Later.au) (fun hHeld => ?_)
 clear hK K
 try simp only [ga, gs, gz, Act.put, sa, sz, ss]
 refine tk 7 ?_
 refine tk 8 ?_
 refine rd 9 fun K hK => ?_
 simp only [ga, gs, gz]
 go_simp
 refine hK.out _ _ ?_ (fun hHeld => ?_)
 ·(try dsimp only); (refine ⟨?_, ?_, ?_, ?_, ?_⟩ <;> (repeat (refine cell_setfar ?_ (by first | omega | (simp; done) | (simp; omega)))) <;> (refine Later.cell (Later.au : Later w2 _) ?_) <;> assumption)
 clear hK K
 try simp only [ga, gs, gz, Act.put, sa, sz, ss]
 refine tk 10 ?_
 clear KF
 refine wpAnyH_done (by kernel_rfl) ?_ _
 refine NoPanic.normal ?_
 have hz8 := (Hz9.out.set_ 0 (.slice A9 na na)).set_ 1 (.slice B9 nb nb)
 have e0 := hz8.cell 0
 have e1 := hz8.cell 1
 simp at e0 e1
 clear hHeld hz8
 go_wp2_with fail
 refine bodyPost_ret (v := .tuple #[.agg #[.slice A9 na na, .slice B9 nb nb], .int .i64 R.2]) (by simp [results, Tryz.results11, go_sem, e0, e1]) rfl ?_
 rw [HE.out]
 exact GoBU.fin K1.out K2.out HB9.out Hz9.out (show w.heap.size ≤ w.heap.size + 2 by omega) (by first | omega | (simp; omega)) _ _
set_option maxHeartbeats 16000000 in
set_option maxRecDepth 20000 in
theorem op_back11 (o : OpD) (S P X GS GC : Option Addr) (c cp cx gc gd : Nat) (p x : List Ten) (g : Ten) (w : World) (hk : o.kind = 11) (ho : o.s.length ≤ 1048576) (hI : Ints .i64 w S o.s) (hP : Tns w P p) (hX : Tns w X x) (hG : TenIn w GS GC gc gd g) (hc : Od.counts o p.length x.length = 0) :
  Calls Tryz.prog 11 #[.agg #[.int .i64 o.kind, .int .i64 o.k, .int .i64 o.width, .int .i64 o.step, .int .i64 o.side, .int .i64 o.frm, .int .i64 o.to, .slice S o.s.length c], .slice P p.length cp, .slice X x.length cx, .agg #[.slice GS g.s.length gc, .slice GC g.c.length gd]] w (GoB (Ly.layBack o p x g) w) := by
 have h01 : Later w (((w.alloc (.cells #[.int .i64 o.kind, .int .i64 o.k, .int .i64 o.width, .int .i64 o.step, .int .i64 o.side, .int .i64 o.frm, .int .i64 o.to, .slice S o.s.length c] 26)).alloc (.cells #[.slice GS g.s.length gc, .slice GC g.c.length gd] 30)).alloc (.cells #[.slice none 0 0, .slice none 0 0] 38)) := (((Later.refl w).alloc _).alloc _).alloc _
 have hko1 := ((Blk.new w 26 #[.int .i64 o.kind, .int .i64 o.k, .int .i64 o.width, .int .i64 o.step, .int .i64 o.side, .int .i64 o.frm, .int .i64 o.to, .slice S o.s.length c]).alloc (.cells #[.slice GS g.s.length gc, .slice GC g.c.length gd] 30)).alloc (.cells #[.slice none 0 0, .slice none 0 0] 38)
 have hkg1 := (Blk.new (w.alloc (.cells #[.int .i64 o.kind, .int .i64 o.k, .int .i64 o.width, .int .i64 o.step, .int .i64 o.side, .int .i64 o.frm, .int .i64 o.to, .slice S o.s.length c] 26)) 30 #[.slice GS g.s.length gc, .slice GC g.c.length gd]).alloc (.cells #[.slice none 0 0, .slice none 0 0] 38)
 have hz1 := Blk.new ((w.alloc (.cells #[.int .i64 o.kind, .int .i64 o.k, .int .i64 o.width, .int .i64 o.step, .int .i64 o.side, .int .i64 o.frm, .int .i64 o.to, .slice S o.s.length c] 26)).alloc (.cells #[.slice GS g.s.length gc, .slice GC g.c.length gd] 30)) 38 #[.slice none 0 0, .slice none 0 0]
 simp only [World.size_alloc] at hkg1 hz1
 have hun := Ly.counts_ok hc
 unfold Od.least Od.most Od.params at hun
 have hpl : p.length = 0 := by have := hun.1; have h3 := hun.2.2.2; rw [if_pos this] at h3; simp [hk] at h3; omega
 have hxl : x.length = 1 := by have := hun.1; have h1 := hun.2.1; have h2 := hun.2.2.1; rw [if_pos this] at h1 h2; simp [hk] at h1 h2; omega
 have HE := Lib.hid (Ly.layBack11 (p := p) (x := x) (g := g) hk)
 have HC := Lib.hid hc
 have Hpl := Lib.hid hpl
 have Hxl := Lib.hid hxl
 have Hk := Lib.hid hk
 clear hun hc hpl hxl hk
 have HI := Lib.hid hI
 have HP := Lib.hid hP
 have HX := Lib.hid hX
 have HG := Lib.hid hG
 have H01 := Lib.hid h01
 have Hko1 := Lib.hid hko1
 have Hkg1 := Lib.hid hkg1
 have Hz1 := Lib.hid hz1
 clear hI hP hX hG h01 hko1 hkg1 hz1
 go_enter Tryz.func11, Tryz.ntmps11
 go_wp2_with fail
 generalize ((w.alloc (.cells #[.int .i64 o.kind, .int .i64 o.k, .int .i64 o.width, .int .i64 o.step, .int .i64 o.side, .int .i64 o.frm, .int .i64 o.to, .slice S o.s.length c] 26)).alloc (.cells #[.slice GS g.s.length gc, .slice GC g.c.length gd] 30)).alloc (.cells #[.slice none 0 0, .slice none 0 0] 38) = w1 at *
 refine (op_counts o S c p.length x.length w1 (by omega) (HI.out.below H01.out (Nat.le_refl _))).mono ?_
 rintro e w2 ⟨rfl, hb2⟩
 rw [HC.out]
 have h12 : Later w1 w2 := hb2
 have hH := H01.out.trans h12
 have hz := h12.blk Hz1.out
 have hko := h12.blk Hko1.out
 have hkg := h12.blk Hkg1.out
 clear hb2 h12 H01 Hz1 Hko1 Hkg1
 have HH := Lib.hid hH
 have Hz := Lib.hid hz
 have Hko := Lib.hid hko
 have Hkg := Lib.hid hkg
 clear hH hz hko hkg
 obtain ⟨bx, xo, S2, c2, C2, d2, rfl, lbx, x00, x01, hT2⟩ := HX.out.at_ (j := 0) (by have := Hxl.out; omega)
 have hcall := fun (W : World) (h : Later w2 W) => calls_goU (pool_back true 1 S2 C2 GS GC c2 d2 gc gd (Ly.got x 0) g o.width o.step W (.inl ⟨rfl, rfl⟩) (hT2.later (HH.out.trans h)) (HG.out.later (HH.out.trans h))) Ly.poolBack_none
 have hE := HE.out
 obtain ⟨R, hR⟩ : ∃ R, Ly.poolBack true (Ly.got x 0) g o.width o.step = R := ⟨_, rfl⟩
 rw [hR] at hcall hE
 have q1 : w2.cell? ⟨bx, xo, none⟩ = some (.slice S2 (Ly.got x 0).s.length c2) := HH.out.cell (by simpa using x00)
 have q2 : w2.cell? ⟨bx, xo + 1, none⟩ = some (.slice C2 (Ly.got x 0).c.length d2) := HH.out.cell (by simpa using x01)
 have q3 : w2.cell? ⟨w.heap.size + 1, 0, none⟩ = some (.slice GS g.s.length gc) := by rw [Hkg.out.cell]; rfl
 have q4 : w2.cell? ⟨w.heap.size + 1, 1, none⟩ = some (.slice GC g.c.length gd) := by rw [Hkg.out.cell]; rfl
 have q5 : w2.cell? ⟨w.heap.size, 2, none⟩ = some (.int .i64 o.width) := by rw [Hko.out.cell]; rfl
 have q6 : w2.cell? ⟨w.heap.size, 3, none⟩ = some (.int .i64 o.step) := by rw [Hko.out.cell]; rfl
 have x0 : w2.cell? ⟨w.heap.size, 0, none⟩ = some (.int .i64 11) := by rw [Hko.out.cell, ← Hk.out]; rfl
 have hs0 := HH.out.size
 have hs2 := Hz.out.lt
 rw [Hxl.out]
 clear hR x00 x01 hT2 HE
 have Hcall := Lib.hid hcall
 have HE := Lib.hid hE
 clear hcall hE
 go_upto_region 18 with fail
 clear x0
 have KF := Lib.hid (show ∀ Xw, Later w2 Xw → Xw.cell? ⟨bx, xo, none⟩ = some (.slice S2 (Ly.got x 0).s.length c2) ∧ Xw.cell? ⟨bx, xo + 1, none⟩ = some (.slice C2 (Ly.got x 0).c.length d2) ∧ Xw.cell? ⟨w.heap.size + 1, 0, none⟩ = some (.slice GS g.s.length gc) ∧ Xw.cell? ⟨w.heap.size + 1, 1, none⟩ = some (.slice GC g.c.length gd) ∧ Xw.cell? ⟨w.heap.size, 2, none⟩ = some (.int .i64 o.width) ∧ Xw.cell? ⟨w.heap.size, 3, none⟩ = some (.int .i64 o.step) from fun Xw h => ⟨h.cell q1, h.cell q2, h.cell q3, h.cell q4, h.cell q5, h.cell q6⟩)
 refine wp_region_noPanic ?_
 refine wp_region_held_drew (S := fun Xw => Xw.cell? ⟨bx, xo, none⟩ = some (.slice S2 (Ly.got x 0).s.length c2) ∧ Xw.cell? ⟨bx, xo + 1, none⟩ = some (.slice C2 (Ly.got x 0).c.length d2) ∧ Xw.cell? ⟨w.heap.size + 1, 0, none⟩ = some (.slice GS g.s.length gc) ∧ Xw.cell? ⟨w.heap.size + 1, 1, none⟩ = some (.slice GC g.c.length gd) ∧ Xw.cell? ⟨w.heap.size, 2, none⟩ = some (.int .i64 o.width) ∧ Xw.cell? ⟨w.heap.size, 3, none⟩ = some (.int .i64 o.step)) (by kernel_rfl) (KF.out _ Later.au) (fun hHeld => ?_)
 refine tk 0 ?_
 refine tk 1 ?_
 refine tk 2 ?_
 refine tk 3 ?_
 refine tk 4 ?_
 refine tk 5 ?_
 refine tk 6 ?_
 refine tk 7 ?_
 refine rd 8 fun K hK => ?_
 simp only [ga, gs, gz]
 go_simp
 go_at_call 14
 (with_reducible refine (Hcall.out _ (Later.au : Later w2 _)).mono ?_)
 rintro e wf ⟨S3, c3, C3, d3, rfl, -, hof, hbf⟩
 have hlf : Later w2 wf := Later.trans (Later.au : Later w2 (World.drew w2)) hbf
 have Hof := Lib.hid hof
 have Hlf := Lib.hid hlf
 clear hof hlf
 try go_wp2_with fail
 refine hK.out _ _ (KF.out _ Later.au) (fun hHeld => ?_)
 clear hK K
 try simp only [ga, gs, gz, Act.put, sa, sz, ss]
 refine tk 9 ?_
 refine tk 10 ?_
 refine rd 11 fun K hK => ?_
 simp only [ga, gs, gz]
 go_simp
 go_at_call 47
 (with_reducible refine (op_single S3 C3 _ _ _ _ _ _).mono ?_)
 intro e w9 hsg
 have hu := sg_u (w0 := w) hsg (fun h => (Hof.out h).base (by first | omega | (simp; omega))) (HH.out.trans Hlf.out)
 have hl9 : Later w2 w9 := Later.trans Hlf.out (show Later wf w9 by obtain ⟨_, _, _, _, _, h⟩ := hsg; exact h)
 have he2 : (Ly.bsingle R).2 = R.2 := by unfold Ly.bsingle; split <;> simp_all
 obtain ⟨A9, na, B9, nb, rfl, k1, k2, hb9⟩ := hu
 have hlK := Hlf.out.size
 have hz9 := hl9.blk Hz.out
 have c0' := hz9.cell 0
 have c1' := hz9.cell 1
 have f0' := hz9.frozen 0
 have f1' := hz9.frozen 1
 simp at c0' c1'
 have Hz9 := Lib.hid hz9
 clear hz9
 have K1 := Lib.hid k1
 have K2 := Lib.hid k2
 have HB9 := Lib.hid hb9
 have HE2 := Lib.hid he2
 have hbx : Below w2.heap.size w2 w9 := hl9
 clear k1 k2 hb9 hsg hl9 he2
 try go_wp2_with fail
 refine hK.out _ _ (KF.out _ Later.au) (fun hHeld => ?_)
 clear hK K
 try simp only [ga, gs, gz, Act.put, sa, sz, ss]
 refine tk 12 ?_
 refine tk 13 ?_
 refine rd 14 fun K hK => ?_
 simp only [ga, gs, gz]
 go_simp
 refine hK.out _ _ ?_ (fun hHeld => ?_)
 ·(try dsimp only); (refine ⟨?_, ?_, ?_, ?_, ?_, ?_⟩ <;> (repeat (refine cell_setfar ?_ (by first | omega | (simp; done) | (simp; omega)))) <;> (refine Later.cell (Later.au : Later w2 _) ?_) <;> assumption)
 clear hK K
 try simp only [ga, gs, gz, Act.put, sa, sz, ss]
 refine tk 15 ?_
 clear KF
 refine wpAnyH_done (by kernel_rfl) ?_ _
 refine NoPanic.normal ?_
 have hz8 := (Hz9.out.set_ 0 (.slice A9 na na)).set_ 1 (.slice B9 nb nb)
 have e0 := hz8.cell 0
 have e1 := hz8.cell 1
 simp at e0 e1
 clear hHeld hz8
 go_wp2_with fail
 refine bodyPost_ret (v := .tuple #[.agg #[.slice A9 na na, .slice B9 nb nb], .int .i64 (Ly.bsingle R).2]) (by simp [results, Tryz.results11, go_sem, e0, e1]) rfl ?_
 rw [HE.out]
 exact GoBU.fin K1.out K2.out HB9.out Hz9.out (show w.heap.size ≤ w.heap.size + 2 by omega) (by first | omega | (simp; omega)) _ _
set_option maxHeartbeats 16000000 in
set_option maxRecDepth 20000 in
theorem op_back12 (o : OpD) (S P X GS GC : Option Addr) (c cp cx gc gd : Nat) (p x : List Ten) (g : Ten) (w : World) (hk : o.kind = 12) (ho : o.s.length ≤ 1048576) (hI : Ints .i64 w S o.s) (hP : Tns w P p) (hX : Tns w X x) (hG : TenIn w GS GC gc gd g) (hc : Od.counts o p.length x.length = 0) :
  Calls Tryz.prog 11 #[.agg #[.int .i64 o.kind, .int .i64 o.k, .int .i64 o.width, .int .i64 o.step, .int .i64 o.side, .int .i64 o.frm, .int .i64 o.to, .slice S o.s.length c], .slice P p.length cp, .slice X x.length cx, .agg #[.slice GS g.s.length gc, .slice GC g.c.length gd]] w (GoB (Ly.layBack o p x g) w) := by
 have h01 : Later w (((w.alloc (.cells #[.int .i64 o.kind, .int .i64 o.k, .int .i64 o.width, .int .i64 o.step, .int .i64 o.side, .int .i64 o.frm, .int .i64 o.to, .slice S o.s.length c] 26)).alloc (.cells #[.slice GS g.s.length gc, .slice GC g.c.length gd] 30)).alloc (.cells #[.slice none 0 0, .slice none 0 0] 38)) := (((Later.refl w).alloc _).alloc _).alloc _
 have hko1 := ((Blk.new w 26 #[.int .i64 o.kind, .int .i64 o.k, .int .i64 o.width, .int .i64 o.step, .int .i64 o.side, .int .i64 o.frm, .int .i64 o.to, .slice S o.s.length c]).alloc (.cells #[.slice GS g.s.length gc, .slice GC g.c.length gd] 30)).alloc (.cells #[.slice none 0 0, .slice none 0 0] 38)
 have hkg1 := (Blk.new (w.alloc (.cells #[.int .i64 o.kind, .int .i64 o.k, .int .i64 o.width, .int .i64 o.step, .int .i64 o.side, .int .i64 o.frm, .int .i64 o.to, .slice S o.s.length c] 26)) 30 #[.slice GS g.s.length gc, .slice GC g.c.length gd]).alloc (.cells #[.slice none 0 0, .slice none 0 0] 38)
 have hz1 := Blk.new ((w.alloc (.cells #[.int .i64 o.kind, .int .i64 o.k, .int .i64 o.width, .int .i64 o.step, .int .i64 o.side, .int .i64 o.frm, .int .i64 o.to, .slice S o.s.length c] 26)).alloc (.cells #[.slice GS g.s.length gc, .slice GC g.c.length gd] 30)) 38 #[.slice none 0 0, .slice none 0 0]
 simp only [World.size_alloc] at hkg1 hz1
 have hun := Ly.counts_ok hc
 unfold Od.least Od.most Od.params at hun
 have hpl : p.length = 0 := by have := hun.1; have h3 := hun.2.2.2; rw [if_pos this] at h3; simp [hk] at h3; omega
 have hxl : x.length = 1 := by have := hun.1; have h1 := hun.2.1; have h2 := hun.2.2.1; rw [if_pos this] at h1 h2; simp [hk] at h1 h2; omega
 have HE := Lib.hid (Ly.layBack12 (p := p) (x := x) (g := g) hk)
 have HC := Lib.hid hc
 have Hpl := Lib.hid hpl
 have Hxl := Lib.hid hxl
 have Hk := Lib.hid hk
 clear hun hc hpl hxl hk
 have HI := Lib.hid hI
 have HP := Lib.hid hP
 have HX := Lib.hid hX
 have HG := Lib.hid hG
 have H01 := Lib.hid h01
 have Hko1 := Lib.hid hko1
 have Hkg1 := Lib.hid hkg1
 have Hz1 := Lib.hid hz1
 clear hI hP hX hG h01 hko1 hkg1 hz1
 go_enter Tryz.func11, Tryz.ntmps11
 go_wp2_with fail
 generalize ((w.alloc (.cells #[.int .i64 o.kind, .int .i64 o.k, .int .i64 o.width, .int .i64 o.step, .int .i64 o.side, .int .i64 o.frm, .int .i64 o.to, .slice S o.s.length c] 26)).alloc (.cells #[.slice GS g.s.length gc, .slice GC g.c.length gd] 30)).alloc (.cells #[.slice none 0 0, .slice none 0 0] 38) = w1 at *
 refine (op_counts o S c p.length x.length w1 (by omega) (HI.out.below H01.out (Nat.le_refl _))).mono ?_
 rintro e w2 ⟨rfl, hb2⟩
 rw [HC.out]
 have h12 : Later w1 w2 := hb2
 have hH := H01.out.trans h12
 have hz := h12.blk Hz1.out
 have hko := h12.blk Hko1.out
 have hkg := h12.blk Hkg1.out
 clear hb2 h12 H01 Hz1 Hko1 Hkg1
 have HH := Lib.hid hH
 have Hz := Lib.hid hz
 have Hko := Lib.hid hko
 have Hkg := Lib.hid hkg
 clear hH hz hko hkg
 obtain ⟨bx, xo, S2, c2, C2, d2, rfl, lbx, x00, x01, hT2⟩ := HX.out.at_ (j := 0) (by have := Hxl.out; omega)
 have hcall := fun (W : World) (h : Later w2 W) => calls_goU (pool_back false 2 S2 C2 GS GC c2 d2 gc gd (Ly.got x 0) g o.width o.step W (.inr ⟨rfl, rfl⟩) (hT2.later (HH.out.trans h)) (HG.out.later (HH.out.trans h))) Ly.poolBack_none
 have hE := HE.out
 obtain ⟨R, hR⟩ : ∃ R, Ly.poolBack false (Ly.got x 0) g o.width o.step = R := ⟨_, rfl⟩
 rw [hR] at hcall hE
 have q1 : w2.cell? ⟨bx, xo, none⟩ = some (.slice S2 (Ly.got x 0).s.length c2) := HH.out.cell (by simpa using x00)
 have q2 : w2.cell? ⟨bx, xo + 1, none⟩ = some (.slice C2 (Ly.got x 0).c.length d2) := HH.out.cell (by simpa using x01)
 have q3 : w2.cell? ⟨w.heap.size + 1, 0, none⟩ = some (.slice GS g.s.length gc) := by rw [Hkg.out.cell]; rfl
 have q4 : w2.cell? ⟨w.heap.size + 1, 1, none⟩ = some (.slice GC g.c.length gd) := by rw [Hkg.out.cell]; rfl
 have q5 : w2.cell? ⟨w.heap.size, 2, none⟩ = some (.int .i64 o.width) := by rw [Hko.out.cell]; rfl
 have q6 : w2.cell? ⟨w.heap.size, 3, none⟩ = some (.int .i64 o.step) := by rw [Hko.out.cell]; rfl
 have x0 : w2.cell? ⟨w.heap.size, 0, none⟩ = some (.int .i64 12) := by rw [Hko.out.cell, ← Hk.out]; rfl
 have hs0 := HH.out.size
 have hs2 := Hz.out.lt
 rw [Hxl.out]
 clear hR x00 x01 hT2 HE
 have Hcall := Lib.hid hcall
 have HE := Lib.hid hE
 clear hcall hE
 go_upto_region 20 with fail
 clear x0
 have KF := Lib.hid (show ∀ Xw, Later w2 Xw → Xw.cell? ⟨bx, xo, none⟩ = some (.slice S2 (Ly.got x 0).s.length c2) ∧ Xw.cell? ⟨bx, xo + 1, none⟩ = some (.slice C2 (Ly.got x 0).c.length d2) ∧ Xw.cell? ⟨w.heap.size + 1, 0, none⟩ = some (.slice GS g.s.length gc) ∧ Xw.cell? ⟨w.heap.size + 1, 1, none⟩ = some (.slice GC g.c.length gd) ∧ Xw.cell? ⟨w.heap.size, 2, none⟩ = some (.int .i64 o.width) ∧ Xw.cell? ⟨w.heap.size, 3, none⟩ = some (.int .i64 o.step) from fun Xw h => ⟨h.cell q1, h.cell q2, h.cell q3, h.cell q4, h.cell q5, h.cell q6⟩)
 refine wp_region_noPanic ?_
 refine wp_region_held_drew (S := fun Xw => Xw.cell? ⟨bx, xo, none⟩ = some (.slice S2 (Ly.got x 0).s.length c2) ∧ Xw.cell? ⟨bx, xo + 1, none⟩ = some (.slice C2 (Ly.got x 0).c.length d2) ∧ Xw.cell? ⟨w.heap.size + 1, 0, none⟩ = some (.slice GS g.s.length gc) ∧ Xw.cell? ⟨w.heap.size + 1, 1, none⟩ = some (.slice GC g.c.length gd) ∧ Xw.cell? ⟨w.heap.size, 2, none⟩ = some (.int .i64 o.width) ∧ Xw.cell? ⟨w.heap.size, 3, none⟩ = some (.int .i64 o.step)) (by kernel_rfl) (KF.out _ Later.au) (fun hHeld => ?_)
 refine tk 0 ?_
 refine tk 1 ?_
 refine tk 2 ?_
 refine tk 3 ?_
 refine tk 4 ?_
 refine tk 5 ?_
 refine tk 6 ?_
 refine tk 7 ?_
 refine rd 8 fun K hK => ?_
 simp only [ga, gs, gz]
 go_simp
 go_at_call 14
 (with_reducible refine (Hcall.out _ (Later.au : Later w2 _)).mono ?_)
 rintro e wf ⟨S3, c3, C3, d3, rfl, -, hof, hbf⟩
 have hlf : Later w2 wf := Later.trans (Later.au : Later w2 (World.drew w2)) hbf
 have Hof := Lib.hid hof
 have Hlf := Lib.hid hlf
 clear hof hlf
 try go_wp2_with fail
 refine hK.out _ _ (KF.out _ Later.au) (fun hHeld => ?_)
 clear hK K
 try simp only [ga, gs, gz, Act.put, sa, sz, ss]
 refine tk 9 ?_
 refine tk 10 ?_
 refine rd 11 fun K hK => ?_
 simp only [ga, gs, gz]
 go_simp
 go_at_call 47
 (with_reducible refine (op_single S3 C3 _ _ _ _ _ _).mono ?_)
 intro e w9 hsg
 have hu := sg_u (w0 := w) hsg (fun h => (Hof.out h).base (by first | omega | (simp; omega))) (HH.out.trans Hlf.out)
 have hl9 : Later w2 w9 := Later.trans Hlf.out (show Later wf w9 by obtain ⟨_, _, _, _, _, h⟩ := hsg; exact h)
 have he2 : (Ly.bsingle R).2 = R.2 := by unfold Ly.bsingle; split <;> simp_all
 obtain ⟨A9, na, B9, nb, rfl, k1, k2, hb9⟩ := hu
 have hlK := Hlf.out.size
 have hz9 := hl9.blk Hz.out
 have c0' := hz9.cell 0
 have c1' := hz9.cell 1
 have f0' := hz9.frozen 0
 have f1' := hz9.frozen 1
 simp at c0' c1'
 have Hz9 := Lib.hid hz9
 clear hz9
 have K1 := Lib.hid k1
 have K2 := Lib.hid k2
 have HB9 := Lib.hid hb9
 have HE2 := Lib.hid he2
 have hbx : Below w2.heap.size w2 w9 := hl9
 clear k1 k2 hb9 hsg hl9 he2
 try go_wp2_with fail
 refine hK.out _ _ (KF.out _ Later.au) (fun hHeld => ?_)
 clear hK K
 try simp only [ga, gs, gz, Act.put, sa, sz, ss]
 refine tk 12 ?_
 refine tk 13 ?_
 refine rd 14 fun K hK => ?_
 simp only [ga, gs, gz]
 go_simp
 refine hK.out _ _ ?_ (fun hHeld => ?_)
 ·(try dsimp only); (refine ⟨?_, ?_, ?_, ?_, ?_, ?_⟩ <;> (repeat (refine cell_setfar ?_ (by first | omega | (simp; done) | (simp; omega)))) <;> (refine Later.cell (Later.au : Later w2 _) ?_) <;> assumption)
 clear hK K
 try simp only [ga, gs, gz, Act.put, sa, sz, ss]
 refine tk 15 ?_
 clear KF
 refine wpAnyH_done (by kernel_rfl) ?_ _
 refine NoPanic.normal ?_
 have hz8 := (Hz9.out.set_ 0 (.slice A9 na na)).set_ 1 (.slice B9 nb nb)
 have e0 := hz8.cell 0
 have e1 := hz8.cell 1
 simp at e0 e1
 clear hHeld hz8
 go_wp2_with fail
 refine bodyPost_ret (v := .tuple #[.agg #[.slice A9 na na, .slice B9 nb nb], .int .i64 (Ly.bsingle R).2]) (by simp [results, Tryz.results11, go_sem, e0, e1]) rfl ?_
 rw [HE.out]
 exact GoBU.fin K1.out K2.out HB9.out Hz9.out (show w.heap.size ≤ w.heap.size + 2 by omega) (by first | omega | (simp; omega)) _ _
set_option maxHeartbeats 16000000 in
set_option maxRecDepth 20000 in
theorem op_back14 (o : OpD) (S P X GS GC : Option Addr) (c cp cx gc gd : Nat) (p x : List Ten) (g : Ten) (w : World) (hk : o.kind = 14) (ho : o.s.length ≤ 1048576) (hI : Ints .i64 w S o.s) (hP : Tns w P p) (hX : Tns w X x) (hG : TenIn w GS GC gc gd g) (hc : Od.counts o p.length x.length = 0) :
  Calls Tryz.prog 11 #[.agg #[.int .i64 o.kind, .int .i64 o.k, .int .i64 o.width, .int .i64 o.step, .int .i64 o.side, .int .i64 o.frm, .int .i64 o.to, .slice S o.s.length c], .slice P p.length cp, .slice X x.length cx, .agg #[.slice GS g.s.length gc, .slice GC g.c.length gd]] w (GoB (Ly.layBack o p x g) w) := by
 have h01 : Later w (((w.alloc (.cells #[.int .i64 o.kind, .int .i64 o.k, .int .i64 o.width, .int .i64 o.step, .int .i64 o.side, .int .i64 o.frm, .int .i64 o.to, .slice S o.s.length c] 26)).alloc (.cells #[.slice GS g.s.length gc, .slice GC g.c.length gd] 30)).alloc (.cells #[.slice none 0 0, .slice none 0 0] 38)) := (((Later.refl w).alloc _).alloc _).alloc _
 have hko1 := ((Blk.new w 26 #[.int .i64 o.kind, .int .i64 o.k, .int .i64 o.width, .int .i64 o.step, .int .i64 o.side, .int .i64 o.frm, .int .i64 o.to, .slice S o.s.length c]).alloc (.cells #[.slice GS g.s.length gc, .slice GC g.c.length gd] 30)).alloc (.cells #[.slice none 0 0, .slice none 0 0] 38)
 have hkg1 := (Blk.new (w.alloc (.cells #[.int .i64 o.kind, .int .i64 o.k, .int .i64 o.width, .int .i64 o.step, .int .i64 o.side, .int .i64 o.frm, .int .i64 o.to, .slice S o.s.length c] 26)) 30 #[.slice GS g.s.length gc, .slice GC g.c.length gd]).alloc (.cells #[.slice none 0 0, .slice none 0 0] 38)
 have hz1 := Blk.new ((w.alloc (.cells #[.int .i64 o.kind, .int .i64 o.k, .int .i64 o.width, .int .i64 o.step, .int .i64 o.side, .int .i64 o.frm, .int .i64 o.to, .slice S o.s.length c] 26)).alloc (.cells #[.slice GS g.s.length gc, .slice GC g.c.length gd] 30)) 38 #[.slice none 0 0, .slice none 0 0]
 simp only [World.size_alloc] at hkg1 hz1
 have hun := Ly.counts_ok hc
 unfold Od.least Od.most Od.params at hun
 have hpl : p.length = 0 := by have := hun.1; have h3 := hun.2.2.2; rw [if_pos this] at h3; simp [hk] at h3; omega
 have hxl : x.length = 1 := by have := hun.1; have h1 := hun.2.1; have h2 := hun.2.2.1; rw [if_pos this] at h1 h2; simp [hk] at h1 h2; omega
 have HE := Lib.hid (Ly.layBack14 (p := p) (x := x) (g := g) hk)
 have HC := Lib.hid hc
 have Hpl := Lib.hid hpl
 have Hxl := Lib.hid hxl
 have Hk := Lib.hid hk
 clear hun hc hpl hxl hk
 have HI := Lib.hid hI
 have HP := Lib.hid hP
 have HX := Lib.hid hX
 have HG := Lib.hid hG
 have H01 := Lib.hid h01
 have Hko1 := Lib.hid hko1
 have Hkg1 := Lib.hid hkg1
 have Hz1 := Lib.hid hz1
 clear hI hP hX hG h01 hko1 hkg1 hz1
 go_enter Tryz.func11, Tryz.ntmps11
 go_wp2_with fail
 generalize ((w.alloc (.cells #[.int .i64 o.kind, .int .i64 o.k, .int .i64 o.width, .int .i64 o.step, .int .i64 o.side, .int .i64 o.frm, .int .i64 o.to, .slice S o.s.length c] 26)).alloc (.cells #[.slice GS g.s.length gc, .slice GC g.c.length gd] 30)).alloc (.cells #[.slice none 0 0, .slice none 0 0] 38) = w1 at *
 refine (op_counts o S c p.length x.length w1 (by omega) (HI.out.below H01.out (Nat.le_refl _))).mono ?_
 rintro e w2 ⟨rfl, hb2⟩
 rw [HC.out]
 have h12 : Later w1 w2 := hb2
 have hH := H01.out.trans h12
 have hz := h12.blk Hz1.out
 have hko := h12.blk Hko1.out
 have hkg := h12.blk Hkg1.out
 clear hb2 h12 H01 Hz1 Hko1 Hkg1
 have HH := Lib.hid hH
 have Hz := Lib.hid hz
 have Hko := Lib.hid hko
 have Hkg := Lib.hid hkg
 clear hH hz hko hkg
 obtain ⟨bx, xo, S2, c2, C2, d2, rfl, lbx, x00, x01, hT2⟩ := HX.out.at_ (j := 0) (by have := Hxl.out; omega)
 have hcall := fun (W : World) (h : Later w2 W) => calls_goU (cut_back S2 C2 GS GC c2 d2 gc gd (Ly.got x 0) g o.side o.frm o.to W (hT2.later (HH.out.trans h)) (HG.out.later (HH.out.trans h))) Ly.cutBack_none
 have hE := HE.out
 obtain ⟨R, hR⟩ : ∃ R, Ly.cutBack (Ly.got x 0) g o.side o.frm o.to = R := ⟨_, rfl⟩
 rw [hR] at hcall hE
 have q1 : w2.cell? ⟨bx, xo, none⟩ = some (.slice S2 (Ly.got x 0).s.length c2) := HH.out.cell (by simpa using x00)
 have q2 : w2.cell? ⟨bx, xo + 1, none⟩ = some (.slice C2 (Ly.got x 0).c.length d2) := HH.out.cell (by simpa using x01)
 have q3 : w2.cell? ⟨w.heap.size + 1, 0, none⟩ = some (.slice GS g.s.length gc) := by rw [Hkg.out.cell]; rfl
 have q4 : w2.cell? ⟨w.heap.size + 1, 1, none⟩ = some (.slice GC g.c.length gd) := by rw [Hkg.out.cell]; rfl
 have q5 : w2.cell? ⟨w.heap.size, 4, none⟩ = some (.int .i64 o.side) := by rw [Hko.out.cell]; rfl
 have q6 : w2.cell? ⟨w.heap.size, 5, none⟩ = some (.int .i64 o.frm) := by rw [Hko.out.cell]; rfl
 have q7 : w2.cell? ⟨w.heap.size, 6, none⟩ = some (.int .i64 o.to) := by rw [Hko.out.cell]; rfl
 have x0 : w2.cell? ⟨w.heap.size, 0, none⟩ = some (.int .i64 14) := by rw [Hko.out.cell, ← Hk.out]; rfl
 have hs0 := HH.out.size
 have hs2 := Hz.out.lt
 rw [Hxl.out]
 clear hR x00 x01 hT2 HE
 have Hcall := Lib.hid hcall
 have HE := Lib.hid hE
 clear hcall hE
 go_upto_region 24 with fail
 clear x0
 have KF := Lib.hid (show ∀ Xw, Later w2 Xw → Xw.cell? ⟨bx, xo, none⟩ = some (.slice S2 (Ly.got x 0).s.length c2) ∧ Xw.cell? ⟨bx, xo + 1, none⟩ = some (.slice C2 (Ly.got x 0).c.length d2) ∧ Xw.cell? ⟨w.heap.size + 1, 0, none⟩ = some (.slice GS g.s.length gc) ∧ Xw.cell? ⟨w.heap.size + 1, 1, none⟩ = some (.slice GC g.c.length gd) ∧ Xw.cell? ⟨w.heap.size, 4, none⟩ = some (.int .i64 o.side) ∧ Xw.cell? ⟨w.heap.size, 5, none⟩ = some (.int .i64 o.frm) ∧ Xw.cell? ⟨w.heap.size, 6, none⟩ = some (.int .i64 o.to) from fun Xw h => ⟨h.cell q1, h.cell q2, h.cell q3, h.cell q4, h.cell q5, h.cell q6, h.cell q7⟩)
 refine wp_region_noPanic ?_
 refine wp_region_held_drew (S := fun Xw => Xw.cell? ⟨bx, xo, none⟩ = some (.slice S2 (Ly.got x 0).s.length c2) ∧ Xw.cell? ⟨bx, xo + 1, none⟩ = some (.slice C2 (Ly.got x 0).c.length d2) ∧ Xw.cell? ⟨w.heap.size + 1, 0, none⟩ = some (.slice GS g.s.length gc) ∧ Xw.cell? ⟨w.heap.size + 1, 1, none⟩ = some (.slice GC g.c.length gd) ∧ Xw.cell? ⟨w.heap.size, 4, none⟩ = some (.int .i64 o.side) ∧ Xw.cell? ⟨w.heap.size, 5, none⟩ = some (.int .i64 o.frm) ∧ Xw.cell? ⟨w.heap.size, 6, none⟩ = some (.int .i64 o.to)) (by kernel_rfl) (KF.out _ Later.au) (fun hHeld => ?_)
 refine tk 0 ?_
 refine tk 1 ?_
 refine tk 2 ?_
 refine tk 3 ?_
 refine tk 4 ?_
 refine tk 5 ?_
 refine tk 6 ?_
 refine tk 7 ?_
 refine tk 8 ?_
 refine tk 9 ?_
 refine rd 10 fun K hK => ?_
 simp only [ga, gs, gz]
 go_simp
 go_at_call 16
 (with_reducible refine (Hcall.out _ (Later.au : Later w2 _)).mono ?_)
 rintro e wf ⟨S3, c3, C3, d3, rfl, -, hof, hbf⟩
 have hlf : Later w2 wf := Later.trans (Later.au : Later w2 (World.drew w2)) hbf
 have Hof := Lib.hid hof
 have Hlf := Lib.hid hlf
 clear hof hlf
 try go_wp2_with fail
 refine hK.out _ _ (KF.out _ Later.au) (fun hHeld => ?_)
 clear hK K
 try simp only [ga, gs, gz, Act.put, sa, sz, ss]
 refine tk 11 ?_
 refine tk 12 ?_
 refine rd 13 fun K hK => ?_
 simp only [ga, gs, gz]
 go_simp
 go_at_call 47
 (with_reducible refine (op_single S3 C3 _ _ _ _ _ _).mono ?_)
 intro e w9 hsg
 have hu := sg_u (w0 := w) hsg (fun h => (Hof.out h).base (by first | omega | (simp; omega))) (HH.out.trans Hlf.out)
 have hl9 : Later w2 w9 := Later.trans Hlf.out (show Later wf w9 by obtain ⟨_, _, _, _, _, h⟩ := hsg; exact h)
 have he2 : (Ly.bsingle R).2 = R.2 := by unfold Ly.bsingle; split <;> simp_all
 obtain ⟨A9, na, B9, nb, rfl, k1, k2, hb9⟩ := hu
 have hlK := Hlf.out.size
 have hz9 := hl9.blk Hz.out
 have c0' := hz9.cell 0
 have c1' := hz9.cell 1
 have f0' := hz9.frozen 0
 have f1' := hz9.frozen 1
 simp at c0' c1'
 have Hz9 := Lib.hid hz9
 clear hz9
 have K1 := Lib.hid k1
 have K2 := Lib.hid k2
 have HB9 := Lib.hid hb9
 have HE2 := Lib.hid he2
 have hbx : Below w2.heap.size w2 w9 := hl9
 clear k1 k2 hb9 hsg hl9 he2
 try go_wp2_with fail
 refine hK.out _ _ (KF.out _ Later.au) (fun hHeld => ?_)
 clear hK K
 try simp only [ga, gs, gz, Act.put, sa, sz, ss]
 refine tk 14 ?_
 refine tk 15 ?_
 refine rd 16 fun K hK => ?_
 simp only [ga, gs, gz]
 go_simp
 refine hK.out _ _ ?_ (fun hHeld => ?_)
 ·(try dsimp only); (refine ⟨?_, ?_, ?_, ?_, ?_, ?_, ?_⟩ <;> (repeat (refine cell_setfar ?_ (by first | omega | (simp; done) | (simp; omega)))) <;> (refine Later.cell (Later.au : Later w2 _) ?_) <;> assumption)
 clear hK K
 try simp only [ga, gs, gz, Act.put, sa, sz, ss]
 refine tk 17 ?_
 clear KF
 refine wpAnyH_done (by kernel_rfl) ?_ _
 refine NoPanic.normal ?_
 have hz8 := (Hz9.out.set_ 0 (.slice A9 na na)).set_ 1 (.slice B9 nb nb)
 have e0 := hz8.cell 0
 have e1 := hz8.cell 1
 simp at e0 e1
 clear hHeld hz8
 go_wp2_with fail
 refine bodyPost_ret (v := .tuple #[.agg #[.slice A9 na na, .slice B9 nb nb], .int .i64 (Ly.bsingle R).2]) (by simp [results, Tryz.results11, go_sem, e0, e1]) rfl ?_
 rw [HE.out]
 exact GoBU.fin K1.out K2.out HB9.out Hz9.out (show w.heap.size ≤ w.heap.size + 2 by omega) (by first | omega | (simp; omega)) _ _
end Go.Proofs.YtbnnpkcfifejmaaGreat
namespace Go.Proofs.YtbnnpkcfifejmaaGreat
open Go.RowKit
theorem tenY_info : (Tryz.prog.info? 30).map (fun i => (i.zero, i.size, i.bytes)) = some (some (.agg #[.slice none 0 0, .slice none 0 0]), 2, 48) := by kernel_rfl
theorem made_tens (k : Nat) : (madeCells #[Value.slice none 0 0, Value.slice none 0 0] k).toList = List.replicate k (Value.slice none 0 0) := by
 unfold madeCells
 rw [Array.toList_map, Array.toList_range]
 apply List.ext_getElem
 ·simp
 ·intro i h1 h2
  simp only [List.getElem_map, List.getElem_range, List.getElem_replicate]
  rcases Nat.mod_two_eq_zero_or_one i with e | e
  ·simp [e]
  ·simp [e]
theorem row_blk {w : World} {B e size n g : Nat} {xs : List Value} (h : w.ownsRow B e size (.slice (some ⟨g, 0, none⟩) n n) n xs) : Blk w g e xs.toArray := by
 rcases h.2 with ⟨h1, _⟩ | ⟨g', cap, cur, e1, _, hh, _, _, hs, ht⟩
 ·cases h1
 ·injection e1 with e1 _ e2
  injection e1 with e1
  injection e1 with e1 _ _
  subst e1 e2
  have : cur.toList = xs := by rw [← ht, List.take_of_length_le (by simp; omega)]
  rw [← this]
  exact hh
theorem RowT.tnsB {w w' : World} {vs : List Value} {ts : List Ten} {G : Nat} {t : TypeId} (h : RowT w vs ts) (hb : Below w.heap.size w w') (hG : Blk w' G t vs.toArray) : Tns w' (some ⟨G, 0, none⟩) ts := fun j hj => by
 obtain ⟨S, c, C, d, e1, e2, e3⟩ := h.2 j hj
 refine ⟨G, 0, S, c, C, d, rfl, hG.lt, ?_, ?_, e3.below hb (Nat.le_refl _)⟩
 ·rw [Nat.zero_add, hG.cell]; simpa using e1
 ·rw [Nat.zero_add, hG.cell]; simpa using e2
theorem fill_two {vs : List Value} {m k : Nat} {a b z : Value} (hl : vs.length = k * 2) (hk : k < m) :
  (((vs ++ List.replicate ((m - k) * 2) z).set (k * 2) a).set (k * 2 + 1) b) = (vs ++ [a, b]) ++ List.replicate ((m - (k + 1)) * 2) z := by
 have e : (m - k) * 2 = (m - (k + 1)) * 2 + 1 + 1 := by omega
 rw [e, List.replicate_succ, List.replicate_succ, List.set_append_right _ _ (by omega), hl, Nat.sub_self, List.set_cons_zero, List.set_append_right _ _ (by omega), hl, Nat.add_sub_cancel_left, List.set_cons_succ, List.set_cons_zero, List.append_assoc]
 rfl
def RowO (B : Nat) (w : World) (vs : List Value) (ts : List Ten) : Prop :=
 vs.length = ts.length * 2 ∧ ∀ j (hj : j < ts.length), ∃ S c C d, vs[j * 2]? = some (.slice S ts[j].s.length c) ∧ vs[j * 2 + 1]? = some (.slice C ts[j].c.length d) ∧ TenO B w (.agg #[.slice S ts[j].s.length c, .slice C ts[j].c.length d]) ts[j]
theorem RowO.later {B : Nat} {w w' : World} {vs : List Value} {ts : List Ten} (h : RowO B w vs ts) (hl : Later w w') : RowO B w' vs ts :=
 ⟨h.1, fun j hj => by obtain ⟨S, c, C, d, e1, e2, e3⟩ := h.2 j hj; exact ⟨S, c, C, d, e1, e2, e3.later hl⟩⟩
theorem TenO.ten {B : Nat} {w : World} {S C : Option Addr} {c d : Nat} {t : Ten} (h : TenO B w (.agg #[.slice S t.s.length c, .slice C t.c.length d]) t) : TenIn w S C c d t := by
 obtain ⟨S', c', C', d', e, hT, -, -⟩ := h
 simp at e
 obtain ⟨⟨rfl, rfl⟩, rfl, rfl⟩ := e
 exact hT
theorem RowO.rowT {B : Nat} {w : World} {vs : List Value} {ts : List Ten} (h : RowO B w vs ts) : RowT w vs ts :=
 ⟨h.1, fun j hj => by obtain ⟨S, c, C, d, e1, e2, e3⟩ := h.2 j hj; exact ⟨S, c, C, d, e1, e2, e3.ten⟩⟩
theorem RowO.set {B : Nat} {w : World} {vs : List Value} {ts : List Ten} {S C : Option Addr} {c d k : Nat} {t : Ten} (h : RowO B w vs ts) (hk : k < ts.length) (ht : TenO B w (.agg #[.slice S t.s.length c, .slice C t.c.length d]) t) :
  RowO B w ((vs.set (k * 2) (.slice S t.s.length c)).set (k * 2 + 1) (.slice C t.c.length d)) (ts.set k t) := by
 have hl := h.1
 refine ⟨by simp [hl], fun j hj => ?_⟩
 rw [List.length_set] at hj
 by_cases e : j = k
 ·subst e
  refine ⟨S, c, C, d, ?_, ?_, ?_⟩
  ·rw [List.getElem?_set_ne (by omega), List.getElem?_set_self (by omega)]; simp
  ·rw [List.getElem?_set_self (by simp; omega)]; simp
  ·simpa using ht
 ·obtain ⟨S', c', C', d', e1, e2, e3⟩ := h.2 j hj
  have e4 : (ts.set k t)[j]'(by simpa using hj) = ts[j] := by rw [List.getElem_set_ne (fun q => e q.symm)]
  refine ⟨S', c', C', d', ?_, ?_, ?_⟩
  ·rw [e4, List.getElem?_set_ne (by omega), List.getElem?_set_ne (by omega)]; exact e1
  ·rw [e4, List.getElem?_set_ne (by omega), List.getElem?_set_ne (by omega)]; exact e2
  ·rw [e4]; exact e3
theorem teno_none (B : Nat) (w : World) : TenO B w (.agg #[.slice none Ly.none_.s.length 0, .slice none Ly.none_.c.length 0]) Ly.none_ :=
 ⟨none, 0, none, 0, rfl, ⟨⟨Ints.nil, Ints.nil⟩, Nat.le_refl _, by omega, Nat.le_refl _, by omega, by simp [Ly.none_], by simp [Ly.none_], by intro z hz; simp [Ly.none_] at hz⟩, fun a e => (by cases e), fun a e => (by cases e)⟩
theorem RowO.zeros (B : Nat) (w : World) (m : Nat) : RowO B w (List.replicate (m * 2) (Value.slice none 0 0)) (List.replicate m Ly.none_) := by
 refine ⟨by simp, fun j hj => ?_⟩
 rw [List.length_replicate] at hj
 refine ⟨none, 0, none, 0, ?_, ?_, ?_⟩
 ·rw [List.getElem?_replicate, if_pos (by omega)]; simp [Ly.none_]
 ·rw [List.getElem?_replicate, if_pos (by omega)]; simp [Ly.none_]
 ·rw [List.getElem_replicate]; exact teno_none B w
theorem RowO.tnsO {B G : Nat} {w : World} {vs : List Value} {ts : List Ten} {t : TypeId} (h : RowO B w vs ts) (hG : Blk w G t vs.toArray) (hB : B ≤ G) : TnsO B w (some ⟨G, 0, none⟩) ts := by
 refine ⟨fun a e => ?_, fun j hj => ?_⟩
 ·injection e with e; subst e; exact ⟨G, rfl, hB, hG.lt, fun k => hG.frozen k⟩
 ·obtain ⟨S, c, C, d, e1, e2, e3⟩ := h.2 j hj
  exact ⟨G, S, c, C, d, rfl, by rw [hG.cell]; simpa using e1, by rw [hG.cell]; simpa using e2, e3⟩
theorem Tns.part {w : World} {b off : Nat} {ts : List Ten} (h : Tns w (some ⟨b, off, none⟩) ts) (k m : Nat) : Tns w (some ⟨b, off + k * 2, none⟩) ((ts.drop k).take m) := fun j hj => by
 have hj2 : k + j < ts.length := by simp at hj; omega
 obtain ⟨b', off', S, c, C, d, e, hl, c0, c1, hT⟩ := h (k + j) hj2
 injection e with e
 injection e with e1 e2
 subst e1 e2
 have eg : ((ts.drop k).take m)[j] = ts[k + j] := by simp
 refine ⟨b, off + k * 2, S, c, C, d, rfl, hl, ?_, ?_, ?_⟩
 ·rw [eg, show off + k * 2 + j * 2 = off + (k + j) * 2 by omega]; exact c0
 ·rw [eg, show off + k * 2 + j * 2 + 1 = off + (k + j) * 2 + 1 by omega]; exact c1
 ·rw [eg]; exact hT
theorem TenO.far2 {B : Nat} {w : World} {S C : Option Addr} {c d p : Nat} {u u2 : Value} {t : Ten} (h : TenO B w (.agg #[.slice S t.s.length c, .slice C t.c.length d]) t) (hS : ∀ a, S = some a → a.block ≠ p) (hC : ∀ a, C = some a → a.block ≠ p) :
  TenO B ((w.setCell ⟨p, 0, none⟩ u).setCell ⟨p, 1, none⟩ u2) (.agg #[.slice S t.s.length c, .slice C t.c.length d]) t := by
 obtain ⟨S', c', C', d', e, hT, h1, h2⟩ := h
 simp at e
 obtain ⟨⟨rfl, rfl⟩, rfl, rfl⟩ := e
 have hi : ∀ {A : Option Addr} {l : List Int}, (∀ a, A = some a → a.block ≠ p) → Ints .i64 w A l → Ints .i64 ((w.setCell ⟨p, 0, none⟩ u).setCell ⟨p, 1, none⟩ u2) A l := fun {A l} hA hI j hj => by
  obtain ⟨b, off, e, hl, hc⟩ := hI j hj
  exact ⟨b, off, e, by simpa using hl, (cell_same_block (far_block (hA _ e) u u2) _).trans hc⟩
 refine ⟨S, c, C, d, rfl, { hT with r := ⟨hi hS hT.r.1, hi hC hT.r.2⟩ }, h1, fun a e => ?_⟩
 obtain ⟨k1, k2, k3⟩ := h2 a e
 exact ⟨k1, by simpa using k2, fun j => by rw [World.frozen?_setCell, World.frozen?_setCell]; exact k3 j⟩
theorem Ints.off {w : World} {A : Option Addr} {l : List Int} {p i k : Nat} {T : TypeId} {vs : List Value} (h : Ints .i64 w A l) (hz : Blk w p T vs.toArray) (hv : ∀ u ∈ vs, ∃ A n c, u = Value.slice A n c) (u u2 : Value) : Ints .i64 ((w.setCell ⟨p, i, none⟩ u).setCell ⟨p, k, none⟩ u2) A l := fun j hj => by
 obtain ⟨b, off, e, hl, hc⟩ := h j hj
 have hne : b ≠ p := by
  rintro rfl
  rw [hz.cell, List.getElem?_toArray] at hc
  obtain ⟨_, _, _, e2⟩ := hv _ (List.mem_of_getElem? hc)
  cases e2
 exact ⟨b, off, e, by simpa using hl, (cell_same_block ((Below.heap_setCell _ ⟨p, k, none⟩ u2 b hne).trans (Below.heap_setCell w ⟨p, i, none⟩ u b hne)) _).trans hc⟩
theorem TenO.off {B p i k : Nat} {w : World} {v : Value} {t : Ten} {T : TypeId} {vs : List Value} (h : TenO B w v t) (hz : Blk w p T vs.toArray) (hv : ∀ u ∈ vs, ∃ A n c, u = Value.slice A n c) (u u2 : Value) : TenO B ((w.setCell ⟨p, i, none⟩ u).setCell ⟨p, k, none⟩ u2) v t := by
 obtain ⟨S, c, C, d, h1, h2, h3, h4⟩ := h
 refine ⟨S, c, C, d, h1, { h2 with r := ⟨h2.r.1.off hz hv u u2, h2.r.2.off hz hv u u2⟩ }, h3, fun a e => ?_⟩
 obtain ⟨k1, k2, k3⟩ := h4 a e
 exact ⟨k1, by simpa using k2, fun j => by rw [World.frozen?_setCell, World.frozen?_setCell]; exact k3 j⟩
theorem RowO.off {B p i k : Nat} {w : World} {us : List Value} {ts : List Ten} {T : TypeId} {vs : List Value} (h : RowO B w us ts) (hz : Blk w p T vs.toArray) (hv : ∀ u ∈ vs, ∃ A n c, u = Value.slice A n c) (u u2 : Value) : RowO B ((w.setCell ⟨p, i, none⟩ u).setCell ⟨p, k, none⟩ u2) us ts :=
 ⟨h.1, fun j hj => by obtain ⟨S, c, C, d, e1, e2, e3⟩ := h.2 j hj; exact ⟨S, c, C, d, e1, e2, e3.off hz hv u u2⟩⟩
theorem exec_slice_tens {P : Program} {ρ : Operand → Value} {o : Oper} {w : World} {t e : TypeId} {x lo hi : Operand} {A : Option Addr} {n c l m : Nat} (ho : o.op = .slice t x (some lo) (some hi) none)
  (hu : P.underlying t = some (.slice e)) (hs : (P.info? e).map (·.size) = some 2) (hx : ρ x = .slice A n c) (hl : ρ lo = .int .i64 (l : Int)) (hh : ρ hi = .int .i64 ((l : Int) + (m : Int))) (hc : l + m ≤ c) :
  (execOp ρ o).run P w = .ok (.value (.slice (if c = l then A else A.map fun a => a.add (l * 2)) m (c - l))) w := by
 cases hq : P.info? e with
 | none => simp [hq] at hs
 | some i =>
  have hi2 : i.size = 2 := by simpa [hq] using hs
  have e1 : (0 : Int) ≤ (l : Int) := by omega
  have e2 : (0 : Int) ≤ (l : Int) + (m : Int) := by omega
  have e3 : (l : Int) + (m : Int) ≤ (c : Int) := by omega
  have e4 : (l : Int) ≤ (((l : Int) + (m : Int)).toNat : Int) := by omega
  have e5 : ((l : Int) + (m : Int)).toNat - l = m := by omega
  have he : P.elem t = e := by simp [Program.elem, hu]
  have hu2 : P.underlying t = some (.slice (P.elem t)) := by rw [he]; exact hu
  have hr : (Instr.sliceAt t (Value.slice A n c) (some (Value.int .i64 (l : Int))) (some (Value.int .i64 ((l : Int) + (m : Int)))) none).run P w = .ok (.slice (if c = l then A else A.map fun a => a.add (l * 2)) m (c - l)) w := by
   rw [run_sliceAt_slice (h := hu2), run_slice_lh (ht := hu2) (h0 := e1) (h1 := by omega) (h2 := e3), he]
   simp [sizeOf, typeInfo, hq, hi2, sliced, Result.andThen, e5]
  unfold execOp
  simp [ho, hx, hl, hh, hr, Result.andThen]
theorem tns_sliced {w : World} {P : Option Addr} {ps : List Ten} {cp fr tl : Nat} (hP : Tns w P ps) (kP : ps.length ≤ cp) (nP : P = none → cp = 0) (h1 : fr ≤ tl) (h2 : tl ≤ ps.length) :
  Tns w (if cp = fr then P else P.map fun a => a.add (fr * 2)) ((ps.drop fr).take (tl - fr)) := by
 by_cases he : fr = tl
 ·subst he
  rw [Nat.sub_self, List.take_zero]
  exact Tns.nil _ _
 ·rw [if_neg (by omega)]
  obtain ⟨b, off, S, c, C, d, rfl, -⟩ := hP 0 (by omega)
  have := hP.part fr (tl - fr)
  simpa [addr_add] using this
def FwCut (w0 : World) (B : Nat) (R : Ten × Int) (a b : Value) (wx : World) : Prop :=
 ∃ S c C d tb, a = .pointer (some ⟨tb, 0, none⟩) ∧ b = .int .i64 R.2 ∧ Blk wx tb 30 #[.slice S R.1.s.length c, .slice C R.1.c.length d] ∧ (R.2 = 0 → TenO B wx (.agg #[.slice S R.1.s.length c, .slice C R.1.c.length d]) R.1) ∧ Later w0 wx
end Go.Proofs.YtbnnpkcfifejmaaGreat
namespace Go.Proofs.YtbnnpkcfifejmaaGreat
open Go.RowKit
theorem mid_stepT {α : Type} (C L : List α) {k : Nat} (hk : k < C.length) (hn : C.length = L.length) : (C.take k ++ L.drop k).set k C[k] = C.take (k + 1) ++ L.drop (k + 1) := by
 have h1 : (C.take k).length = k := by simp; omega
 rw [List.set_append_right _ _ (by omega), h1, Nat.sub_self, List.drop_eq_getElem_cons (by omega), List.set_cons_zero, List.take_succ_eq_append_getElem hk, List.append_assoc]
 rfl
theorem RowO.base {B B' : Nat} {w : World} {vs : List Value} {ts : List Ten} (h : RowO B w vs ts) (hB : B' ≤ B) : RowO B' w vs ts :=
 ⟨h.1, fun j hj => by obtain ⟨S, c, C, d, e1, e2, e3⟩ := h.2 j hj; exact ⟨S, c, C, d, e1, e2, e3.base hB⟩⟩
set_option maxHeartbeats 16000000 in
set_option maxRecDepth 20000 in
theorem join_back (sd : Int) (A GS GC : Option Addr) (f gc gd : Nat) (x : List Ten) (g : Ten) (w : World) (lx : x.length ≤ 1048576) (hf : x.length ≤ f) (hf2 : f ≤ 9223372036854775807) (hT : Tns w A x) (hG : TenIn w GS GC gc gd g) :
  Calls Tryz.prog 15 #[.int .i64 sd, .agg #[.slice GS g.s.length gc, .slice GC g.c.length gd], .slice A x.length f] w (GoL (Ly.joinBack sd g x) w) := by
 obtain ⟨i0, hi, hy0, hy1, hy2⟩ := info_parts tenZ_info
 have h01 : Later w (w.alloc (.cells #[.slice GS g.s.length gc, .slice GC g.c.length gd] 30)) := (Later.refl w).alloc _
 have hk := Blk.new w 30 #[.slice GS g.s.length gc, .slice GC g.c.length gd]
 have lg1 := hG.l1
 have lg2 := hG.l2
 have HT := Lib.hid hT
 have H01 := Lib.hid h01
 have Hk := Lib.hid hk
 have HG := Lib.hid hG
 clear hT h01 hk hG
 go_enter Tryz.func15, Tryz.ntmps15
 go_wp2_with fail
 generalize w.alloc (.cells #[.slice GS g.s.length gc, .slice GC g.c.length gd] 30) = w1 at *
 refine (move_joined sd A f x w1 lx hf hf2 (HT.out.later H01.out)).mono ?_
 rintro e w2 ⟨B, bc, rfl, hI, hc1, hc2, hfr, hb2⟩
 have h12 : Later w1 w2 := hb2
 have h02 := H01.out.trans h12
 have hk2 := h12.blk Hk.out
 clear hb2 H01 Hk h12 hfr
 by_cases hj : (Ly.joined sd x).2 = 0
 case neg =>
  have HE := Lib.hid (Ly.joinBack_err (g := g) hj)
  have Hj := Lib.hid hj
  have d1 : ((Ly.joined sd x).2 == 0) = false := by simpa using hj
  have d2 : ((Ly.joined sd x).2 != 0) = true := by simpa using hj
  clear hj hI
  generalize (Ly.joined sd x).2 = ge at *
  generalize (Ly.joined sd x).1.length = sl at *
  have H02 := Lib.hid h02
  have Hk2 := Lib.hid hk2
  clear h02 hk2
  go_wp2_with fail
  refine bodyPost_ret (v := .tuple #[.slice none 0 0, .int .i64 ge]) (by simp [results, Tryz.results15, go_sem]) rfl ?_
  exact GoL.fail HE.out Hj.out H02.out
 have hbad := fun hh => Ly.joinBack_bad (g := g) hj hh
 have hgood := fun hh hs => Ly.joinBack_ok (g := g) hj hh hs
 have heach := fun hh hs (j : Nat) (hjl : j < x.length) => Ly.jb_each (g := g) hj hh hs hjl
 obtain ⟨k, rfl, hxpos, hks, -, hsr, -⟩ := Ly.joined_facts hj
 rw [hj]
 have hsl4 := (Sh.right_mul hsr).2.1
 clear hj hsr
 generalize (Ly.joined (k : Int) x).1 = s at *
 have g0 : w2.cell? ⟨w.heap.size, 0, none⟩ = _ := hk2.cell 0
 have g1 : w2.cell? ⟨w.heap.size, 1, none⟩ = _ := hk2.cell 1
 simp at g0 g1
 have hrg := tensor_right GS GC gc gd g w2 (by omega) (by omega) (HG.out.later h02).r.1
 have heq := fun (V : World) (h : Later w2 V) => shape_equal GS B gc bc g.s s V (by omega) (by omega) (HG.out.later (h02.trans h)).r.1 (hI.below h (Nat.le_refl _))
 have H02 := Lib.hid h02
 have Hk2 := Lib.hid hk2
 have HI := Lib.hid hI
 have Hbad := Lib.hid hbad
 have Hgood := Lib.hid hgood
 have Hrg := Lib.hid hrg
 have Heq := Lib.hid heq
 have Heach := Lib.hid heach
 clear h02 hk2 hI hbad hgood hrg heq heach
 cases hr : Tn.right g
 ·have HE := Lib.hid (Hbad.out (by rw [hr]; rfl))
  rw [hr] at Hrg
  clear Hbad Hgood hr
  go_wp2_with fail
  refine (Hrg.out).mono ?_
  rintro e w3 ⟨rfl, hb3⟩
  have h23 : Later w2 w3 := hb3
  have h03 := H02.out.trans h23
  clear g0 g1 hb3
  have H23 := Lib.hid h23
  have H03 := Lib.hid h03
  clear h23 h03
  go_wp2_with fail
  refine bodyPost_ret (v := .tuple #[.slice none 0 0, .int .i64 20]) (by simp [results, Tryz.results15, go_sem]) rfl ?_
  exact GoL.fail HE.out (by decide) H03.out
 rw [hr] at Hrg
 go_wp2_with fail
 refine (Hrg.out).mono ?_
 rintro e w3 ⟨rfl, hb3⟩
 have h23 : Later w2 w3 := hb3
 have g0' := h23.cell g0
 clear hb3 g0 g1
 have heq3 := Heq.out _ h23
 cases hq : (g.s == s)
 ·have HE := Lib.hid (Hbad.out (by rw [hr, hq]; rfl))
  rw [hq] at heq3
  clear Hbad Hgood hr hq
  have H23 := Lib.hid h23
  have Heq3 := Lib.hid heq3
  clear h23 heq3
  go_wp2_with fail
  refine (Heq3.out).mono ?_
  rintro e w4 ⟨rfl, q4, rfl⟩
  have h03 := (H02.out.trans H23.out).drewN q4
  clear g0'
  have H03 := Lib.hid h03
  clear h03
  go_wp2_with fail
  refine bodyPost_ret (v := .tuple #[.slice none 0 0, .int .i64 20]) (by simp [results, Tryz.results15, go_sem]) rfl ?_
  exact GoL.fail HE.out (by decide) H03.out
 rw [hq] at heq3
 have hgs : g.s = s := by simpa using hq
 have HE := Lib.hid (Hgood.out hr hgs)
 have hall := Heach.out hr hgs
 rw [Int.toNat_natCast] at hall
 clear Hbad Hgood hr hq hgs Heach
 have H23 := Lib.hid h23
 have Heq3 := Lib.hid heq3
 have Hall := Lib.hid hall
 clear h23 heq3 hall
 go_wp2_with fail
 refine (Heq3.out).mono ?_
 rintro e w4 ⟨rfl, q4, rfl⟩
 have h24 := H23.out.drewN q4
 clear g0' Heq3 Heq Hrg H23
 generalize w3.drewN q4 = w4 at *
 have h04 := H02.out.trans h24
 have hk4 := h24.blk Hk2.out
 have hg4 := HG.out.later h04
 clear h24 H02 Hk2 HI
 have H04 := Lib.hid h04
 have Hk4 := Lib.hid hk4
 have Hg4 := Lib.hid hg4
 clear h04 hk4 hg4
 go_wp2_with (at_make; refine wpList_make_full _ rfl _ _ 27 rfl w4.heap.size 30 i0 (.agg #[.slice none 0 0, .slice none 0 0]) 2 Tryz.underlying27 hi hy0 hy1 _ _ _ _ x.length rfl rfl (by first | rfl | simp) (by first | rfl | simp) ?b2 ?b3 (Nat.le_refl _) ?_)
 case b2 => rw [hy2]; omega
 case b3 => unfold maxLen; omega
 intro w5 hown hgrow
 have hrow : Blk w5 w4.heap.size 30 (List.replicate (x.length * 2) (Value.slice none 0 0)).toArray := by
  have h := row_blk hown
  rw [made_tens] at h
  exact h
 have h45 : Later w4 w5 := (Later.refl w4).grown hgrow (Nat.le_refl _) (by simp)
 obtain ⟨JL, hJL⟩ : ∃ JL, Ly.jlist (k : Int) g 0 x = JL := ⟨_, rfl⟩
 have hJn : JL.length = x.length := by rw [← hJL, Ly.jlist_len]
 have hJg : ∀ j (hj : j < JL.length), JL[j] = Ly.jcut (k : Int) g (Ly.sumAt k (x.take j)) (Ly.got x j) := fun j hj => by
  have := Ly.jlist_get (k : Int) g x 0 j (by omega)
  rw [hJL, got_at hj, Int.zero_add, Int.toNat_natCast] at this
  exact this
 rw [hJL] at HE
 have hw4 : w.heap.size ≤ w4.heap.size := H04.out.size
 have hro0 : RowO w.heap.size w5 (List.replicate (x.length * 2) (Value.slice none 0 0)) (JL.take 0 ++ (List.replicate x.length Ly.none_).drop 0) := by simpa using RowO.zeros w.heap.size w5 x.length
 clear hown hgrow hi hy0 hy1 hy2 hJL
 have Hrow := Lib.hid hrow
 have H45 := Lib.hid h45
 have HJn := Lib.hid hJn
 have HJg := Lib.hid hJg
 have Hro0 := Lib.hid hro0
 clear hrow h45 hJn hJg hro0
 go_wp2_with fail
 go_loopw [11, 39] (fun fv iv wx => ∃ (j : Nat) (vs : List Value), j ≤ x.length ∧ iv = .int .i64 (j : Int) ∧ fv = .int .i64 (Ly.sumAt k (x.take j)) ∧ Blk wx w4.heap.size 30 vs.toArray ∧ RowO w.heap.size wx vs (JL.take j ++ (List.replicate x.length Ly.none_).drop j) ∧ Later w4 wx) (fun _ iv _ => x.length - (intOf iv).toNat)
 case atStart => exact ⟨0, _, Nat.zero_le _, rfl, rfl, Hrow.out, Hro0.out, H45.out⟩
 case round =>
  obtain ⟨j, vs, hj, rfl, rfl, hB, hvs, hlw⟩ := hrel
  clear Hrow Hro0 H45
  by_cases hlt : j < x.length
  ·obtain ⟨b, off, S, c, C, d, rfl, hb, y0, y1, ht⟩ := (HT.out.later (H04.out.trans hlw)).at_ hlt
   obtain ⟨hcut, hcs, hF0, hs1, hF1, hkt, -⟩ := Hall.out j hlt
   have hJj := HJg.out j (by rw [HJn.out]; exact hlt)
   have hst := mid_stepT JL (List.replicate x.length Ly.none_) (k := j) (by rw [HJn.out]; exact hlt) (by rw [HJn.out, List.length_replicate])
   rw [hJj] at hst
   have hsum : Ly.sumAt k (x.take (j + 1)) = Ly.sumAt k (x.take j) + Ly.at_ (Ly.got x j).s k := by
    rw [List.take_succ_eq_append_getElem hlt, Ly.sumAt_app, Ly.sumAt_one, got_at hlt]
    rfl
   obtain ⟨bs, os, hSe, -, cs⟩ := ht.r.1 k hkt
   subst hSe
   have cs' : wr.cell? ⟨bs, os + k, none⟩ = some (.int .i64 (Ly.at_ (Ly.got x j).s k)) := cs
   have hjc : Ly.jcut (k : Int) g (Ly.sumAt k (x.take j)) (Ly.got x j) = (Ly.cut g (k : Int) (Ly.sumAt k (x.take j)) (Ly.sumAt k (x.take j) + Ly.at_ (Ly.got x j).s k)).1 := by unfold Ly.jcut; rw [Int.toNat_natCast]
   rw [hjc] at hst
   have hvl : vs.length = x.length * 2 := by rw [hvs.1, List.length_append, List.length_take, List.length_drop, List.length_replicate, HJn.out]; omega
   have hmid : (JL.take j ++ (List.replicate x.length Ly.none_).drop j).length = x.length := by rw [List.length_append, List.length_take, List.length_drop, List.length_replicate, HJn.out]; omega
   obtain ⟨M1, hM1⟩ : ∃ M1, M1 = JL.take (j + 1) ++ (List.replicate x.length Ly.none_).drop (j + 1) := ⟨_, rfl⟩
   rw [← hM1] at hst
   generalize JL.take j ++ (List.replicate x.length Ly.none_).drop j = M0 at *
   generalize Ly.sumAt k (x.take j) = F at *
   generalize Ly.at_ (Ly.got x j).s k = sk at *
   generalize Ly.got x j = t at *
   have hcc := fun (V : World) (h : Later wr V) => tensor_cut GS GC gc gd g (k : Int) F (F + sk) V (Hg4.out.later (hlw.trans h))
   have hlb := (Later.refl wr).alloc (.cells #[.slice (some ⟨bs, os, none⟩) t.s.length c, .slice C t.c.length d] 30)
   have hbx := Blk.new wr 30 #[.slice (some ⟨bs, os, none⟩) t.s.length c, .slice C t.c.length d]
   have k1 : (j : Int) < (x.length : Int) := by omega
   have k2 : (k : Int) < (t.s.length : Int) := by omega
   clear cs hJj hjc ht hcs
   have HB := Lib.hid hB
   have Hvs := Lib.hid hvs
   have Hlw := Lib.hid hlw
   have Hcut := Lib.hid hcut
   have Hst := Lib.hid hst
   have Hsum := Lib.hid hsum
   have Hcc := Lib.hid hcc
   have Hlb := Lib.hid hlb
   have Hbx := Lib.hid hbx
   have Hvl := Lib.hid hvl
   have Hmid := Lib.hid hmid
   have HM1 := Lib.hid hM1
   clear hB hvs hlw hcut hst hsum hcc hlb hbx hvl hmid hM1
   go_upto_region 11 with fail
   have cs := Hlb.out.cell cs'
   generalize wr.alloc (.cells #[.slice (some ⟨bs, os, none⟩) t.s.length c, .slice C t.c.length d] 30) = wb at *
   have x0 : wb.cell? ⟨wr.heap.size, 0, none⟩ = _ := Hbx.out.cell 0
   have gg0 : wb.cell? ⟨w.heap.size, 0, none⟩ = _ := ((Hlw.out.trans Hlb.out).blk Hk4.out).cell 0
   have gg1 : wb.cell? ⟨w.heap.size, 1, none⟩ = _ := ((Hlw.out.trans Hlb.out).blk Hk4.out).cell 1
   simp at x0 gg0 gg1
   clear y0 y1 cs'
   go_wp2_with fail
   refine (Hcc.out _ Hlb.out).mono ?_
   rintro e w6 ⟨⟨hbad, -⟩ | ⟨-, v, rfl, hTO⟩, hb6⟩
   ·exact absurd Hcut.out hbad
   generalize (Ly.cut g (k : Int) F (F + sk)).1 = u at *
   have hTO2 := hTO
   obtain ⟨S3, c3, C3, d3, rfl, -, -, -⟩ := hTO
   have h6 : Later wb w6 := hb6
   have hr6 := Hlb.out.trans h6
   have hB6 := hr6.blk HB.out
   have hro := (Hvs.out.later hr6).set (k := j) (by rw [Hmid.out]; exact hlt) (hTO2.base (by have := Hlw.out.size; have := Hlb.out.size; omega))
   rw [Hst.out, HM1.out] at hro
   have hvll := Hvl.out
   obtain ⟨p0, e0⟩ : ∃ u, w6.cell? ⟨w4.heap.size, j * 2, none⟩ = some u := by rw [hB6.cell]; exact ⟨_, by rw [List.getElem?_toArray, List.getElem?_eq_getElem (by omega)]⟩
   obtain ⟨p1, e1⟩ : ∃ u, w6.cell? ⟨w4.heap.size, j * 2 + 1, none⟩ = some u := by rw [hB6.cell]; exact ⟨_, by rw [List.getElem?_toArray, List.getElem?_eq_getElem (by omega)]⟩
   have f0 := hB6.frozen (j * 2)
   have f1 := hB6.frozen (j * 2 + 1)
   have hro2 := hro.off (i := j * 2) (k := j * 2 + 1) hB6 Hvs.out.rowT.cell (.slice S3 u.s.length c3) (.slice C3 u.c.length d3)
   have hG2 := (hB6.set_ (j * 2) (.slice S3 u.s.length c3)).set_ (j * 2 + 1) (.slice C3 u.c.length d3)
   rw [List.setIfInBounds_toArray, List.setIfInBounds_toArray] at hG2
   have hl2 := ((Hlw.out.trans hr6).set (p := ⟨w4.heap.size, j * 2, none⟩) (Nat.le_refl _) (.slice S3 u.s.length c3)).set (p := ⟨w4.heap.size, j * 2 + 1, none⟩) (Nat.le_refl _) (.slice C3 u.c.length d3)
   clear hb6 x0 gg0 gg1 cs hTO2 hro Hvl Hmid hvll
   have H6 := Lib.hid h6
   have Hr6 := Lib.hid hr6
   have HB6 := Lib.hid hB6
   have Hro2 := Lib.hid hro2
   have HG2 := Lib.hid hG2
   have Hl2 := Lib.hid hl2
   clear h6 hr6 hB6 hro2 hG2 hl2
   go_wp2_with fail
   go_roundw
   case rel => exact ⟨j + 1, _, by omega, by go_num, by rw [Hsum.out], HG2.out, Hro2.out, Hl2.out⟩
   case measure => simp [intOf]; omega
  ·obtain rfl : j = x.length := by omega
   have hme : JL.take x.length ++ (List.replicate x.length Ly.none_).drop x.length = JL := by rw [← HJn.out, List.take_length, List.drop_eq_nil_of_le (by rw [List.length_replicate]; exact Nat.le_refl _), List.append_nil]
   rw [hme] at hvs
   have h0r := H04.out.trans hlw
   have HB := Lib.hid hB
   have Hvs := Lib.hid hvs
   have H0r := Lib.hid h0r
   clear hB hvs h0r
   clear hme
   go_wp2_with fail
   refine bodyPost_ret (v := .tuple #[.slice (some ⟨w4.heap.size, 0, none⟩) x.length x.length, .int .i64 0]) (by simp [results, Tryz.results15, go_sem]) rfl ?_
   rw [HE.out]
   exact ⟨.inr ⟨rfl, some ⟨w4.heap.size, 0, none⟩, by rw [show (JL, (0 : Int)).1.length = x.length from HJn.out], Hvs.out.tnsO HB.out hw4⟩, H0r.out⟩
end Go.Proofs.YtbnnpkcfifejmaaGreat
namespace Go.Proofs.YtbnnpkcfifejmaaGreat
open Go.RowKit
namespace Ly
theorem layBack13 {o : OpD} {p x : List Ten} {g : Ten} (h : o.kind = 13) : layBack o p x g = bseveral (joinBack o.side g x) := by
 unfold layBack
 rw [if_neg (by omega), if_neg (by omega), if_neg (by omega), if_neg (by omega), if_neg (by omega), if_pos h]
end Ly
set_option maxHeartbeats 8000000 in
set_option maxRecDepth 20000 in
theorem op_back13 (o : OpD) (S P X GS GC : Option Addr) (c cp cx gc gd : Nat) (p x : List Ten) (g : Ten) (w : World) (hk : o.kind = 13) (ho : o.s.length ≤ 1048576) (hI : Ints .i64 w S o.s) (hX : Tns w X x) (lX : x.length ≤ 1048576) (kX : x.length ≤ cx) (mX : cx ≤ 9223372036854775807) (hG : TenIn w GS GC gc gd g) :
  Calls Tryz.prog 11 #[.agg #[.int .i64 o.kind, .int .i64 o.k, .int .i64 o.width, .int .i64 o.step, .int .i64 o.side, .int .i64 o.frm, .int .i64 o.to, .slice S o.s.length c], .slice P p.length cp, .slice X x.length cx, .agg #[.slice GS g.s.length gc, .slice GC g.c.length gd]] w (GoB (Ly.back o p x g) w) := by
 have h01 : Later w (((w.alloc (.cells #[.int .i64 o.kind, .int .i64 o.k, .int .i64 o.width, .int .i64 o.step, .int .i64 o.side, .int .i64 o.frm, .int .i64 o.to, .slice S o.s.length c] 26)).alloc (.cells #[.slice GS g.s.length gc, .slice GC g.c.length gd] 30)).alloc (.cells #[.slice none 0 0, .slice none 0 0] 38)) := (((Later.refl w).alloc _).alloc _).alloc _
 have hko1 := ((Blk.new w 26 #[.int .i64 o.kind, .int .i64 o.k, .int .i64 o.width, .int .i64 o.step, .int .i64 o.side, .int .i64 o.frm, .int .i64 o.to, .slice S o.s.length c]).alloc (.cells #[.slice GS g.s.length gc, .slice GC g.c.length gd] 30)).alloc (.cells #[.slice none 0 0, .slice none 0 0] 38)
 have hkg1 := (Blk.new (w.alloc (.cells #[.int .i64 o.kind, .int .i64 o.k, .int .i64 o.width, .int .i64 o.step, .int .i64 o.side, .int .i64 o.frm, .int .i64 o.to, .slice S o.s.length c] 26)) 30 #[.slice GS g.s.length gc, .slice GC g.c.length gd]).alloc (.cells #[.slice none 0 0, .slice none 0 0] 38)
 have hz1 := Blk.new ((w.alloc (.cells #[.int .i64 o.kind, .int .i64 o.k, .int .i64 o.width, .int .i64 o.step, .int .i64 o.side, .int .i64 o.frm, .int .i64 o.to, .slice S o.s.length c] 26)).alloc (.cells #[.slice GS g.s.length gc, .slice GC g.c.length gd] 30)) 38 #[.slice none 0 0, .slice none 0 0]
 simp only [World.size_alloc] at hkg1 hz1
 have HI := Lib.hid hI
 have HX := Lib.hid hX
 have HG := Lib.hid hG
 have H01 := Lib.hid h01
 have Hko1 := Lib.hid hko1
 have Hkg1 := Lib.hid hkg1
 have Hz1 := Lib.hid hz1
 have Hk := Lib.hid hk
 clear hI hX hG h01 hko1 hkg1 hz1 hk
 go_enter Tryz.func11, Tryz.ntmps11
 go_wp2_with fail
 generalize ((w.alloc (.cells #[.int .i64 o.kind, .int .i64 o.k, .int .i64 o.width, .int .i64 o.step, .int .i64 o.side, .int .i64 o.frm, .int .i64 o.to, .slice S o.s.length c] 26)).alloc (.cells #[.slice GS g.s.length gc, .slice GC g.c.length gd] 30)).alloc (.cells #[.slice none 0 0, .slice none 0 0] 38) = w1 at *
 refine (op_counts o S c p.length x.length w1 (by omega) (HI.out.below H01.out (Nat.le_refl _))).mono ?_
 rintro e w2 ⟨rfl, hb2⟩
 have h12 : Later w1 w2 := hb2
 have hH := H01.out.trans h12
 have hz := h12.blk Hz1.out
 have hko := h12.blk Hko1.out
 have hkg := h12.blk Hkg1.out
 clear hb2 h12 H01 Hz1 Hko1 Hkg1
 by_cases hc : Od.counts o p.length x.length = 0
 case neg =>
  have HE := Lib.hid (Ly.back_err (g := g) hc)
  have Hc := Lib.hid hc
  have d2 : (Od.counts o p.length x.length != 0) = true := by simpa using hc
  clear hc
  generalize Od.counts o p.length x.length = ge at *
  have c0' := hz.cell 0
  have c1' := hz.cell 1
  have f0 := hz.frozen 0
  have f1 := hz.frozen 1
  have hz4 := (hz.set_ 0 (.slice none 0 0)).set_ 1 (.slice none 0 0)
  have d0 := hz4.cell 0
  have d1 := hz4.cell 1
  simp at c0' c1' d0 d1
  have HH := Lib.hid hH
  have Hz := Lib.hid hz
  have Hko := Lib.hid hko
  have Hkg := Lib.hid hkg
  have Hz4 := Lib.hid hz4
  clear hH hz hko hkg hz4
  go_wp2_with fail
  refine bodyPost_ret (v := .tuple #[.agg #[.slice none 0 0, .slice none 0 0], .int .i64 ge]) (by simp [results, Tryz.results11, go_sem, d0, d1]) rfl ?_
  exact GoB.fail HE.out Hc.out ((HH.out.set (p := ⟨w.heap.size + 2, 0, none⟩) (by simp) _).set (p := ⟨w.heap.size + 2, 1, none⟩) (by simp) _)
 have HE := Lib.hid ((Ly.back_lay (g := g) hc).trans (Ly.layBack13 Hk.out))
 rw [hc]
 clear hc
 have x0 : w2.cell? ⟨w.heap.size, 0, none⟩ = some (.int .i64 13) := by rw [hko.cell, ← Hk.out]; rfl
 have x1 : w2.cell? ⟨w.heap.size, 4, none⟩ = some (.int .i64 o.side) := by rw [hko.cell]; rfl
 have g0 := hkg.cell 0
 have g1 := hkg.cell 1
 simp at g0 g1
 have hcall := join_back o.side X GS GC cx gc gd x g w2 lX kX mX (HX.out.later hH) (HG.out.later hH)
 obtain ⟨R, hR⟩ : ∃ R, Ly.joinBack o.side g x = R := ⟨_, rfl⟩
 rw [hR] at hcall HE
 have HH := Lib.hid hH
 have Hz := Lib.hid hz
 have Hko := Lib.hid hko
 have Hkg := Lib.hid hkg
 have Hcall := Lib.hid hcall
 have HR := Lib.hid hR
 clear hH hz hko hkg hcall hR
 go_wp2_with fail
 refine (Hcall.out).mono ?_
 rintro e w3 ⟨⟨hne, rfl⟩ | ⟨h0, A, rfl, hO⟩, hb3⟩
 ·have h23 : Later w2 w3 := hb3
  have hE2 : Ly.bseveral R = (Ly.bnone, R.2) := by unfold Ly.bseveral; rw [if_neg hne]
  rw [hE2] at HE
  have h03 := HH.out.trans h23
  have hz3 := h23.blk Hz.out
  have Hne := Lib.hid hne
  clear hb3 x0 x1 g0 g1 hne hE2
  generalize R.2 = ge at *
  have H23 := Lib.hid h23
  have H03 := Lib.hid h03
  have Hz3 := Lib.hid hz3
  clear h23 h03 hz3
  go_wp2_with fail
  refine (op_several_no none 0 0 ge w3 Hne.out).mono ?_
  rintro e w4 ⟨rfl, hb4⟩
  have h34 : Later w3 w4 := hb4
  have h04 := H03.out.trans h34
  have hz4 := h34.blk Hz3.out
  have c0' := hz4.cell 0
  have c1' := hz4.cell 1
  have f0 := hz4.frozen 0
  have f1 := hz4.frozen 1
  have hz5 := (hz4.set_ 0 (.slice none 0 0)).set_ 1 (.slice none 0 0)
  have d0 := hz5.cell 0
  have d1 := hz5.cell 1
  simp at c0' c1' d0 d1
  clear hb4
  have H34 := Lib.hid h34
  have H04 := Lib.hid h04
  have Hz4 := Lib.hid hz4
  have Hz5 := Lib.hid hz5
  clear h34 h04 hz4 hz5
  go_wp2_with fail
  refine bodyPost_ret (v := .tuple #[.agg #[.slice none 0 0, .slice none 0 0], .int .i64 ge]) (by simp [results, Tryz.results11, go_sem, d0, d1]) rfl ?_
  exact GoB.fail HE.out Hne.out ((H04.out.set (p := ⟨w.heap.size + 2, 0, none⟩) (by simp) _).set (p := ⟨w.heap.size + 2, 1, none⟩) (by simp) _)
 ·have h23 : Later w2 w3 := hb3
  have hE2 : Ly.bseveral R = (⟨[], R.1⟩, 0) := by unfold Ly.bseveral; rw [if_pos h0]
  rw [hE2] at HE
  have h03 := HH.out.trans h23
  have hz3 := h23.blk Hz.out
  have hs2 := Hz.out.lt
  have hs0 := HH.out.size
  clear hb3 x0 x1 g0 g1 hE2 h0
  have H23 := Lib.hid h23
  have H03 := Lib.hid h03
  have Hz3 := Lib.hid hz3
  have HO := Lib.hid hO
  clear h23 h03 hz3 hO
  go_wp2_with fail
  refine (op_several_ok A R.1.length R.1.length w3).mono ?_
  rintro e w4 ⟨rfl, hb4⟩
  have h34 : Later w3 w4 := hb4
  have h04 := H03.out.trans h34
  have hz4 := h34.blk Hz3.out
  have hO4 := HO.out.later h34
  have hA4 : ∀ a, A = some a → a.block ≠ w.heap.size + 2 := fun a e => by
   obtain ⟨b, h1, h2, -, -⟩ := hO4.1 a e
   rw [h1]
   show b ≠ _
   omega
  have c0' := hz4.cell 0
  have c1' := hz4.cell 1
  have f0 := hz4.frozen 0
  have f1 := hz4.frozen 1
  have hz5 := (hz4.set_ 0 (.slice none 0 0)).set_ 1 (.slice A R.1.length R.1.length)
  have d0 := hz5.cell 0
  have d1 := hz5.cell 1
  simp at c0' c1' d0 d1
  clear hb4
  have H34 := Lib.hid h34
  have H04 := Lib.hid h04
  have Hz4 := Lib.hid hz4
  have Hz5 := Lib.hid hz5
  have HO4 := Lib.hid hO4
  have HA4 := Lib.hid hA4
  clear h34 h04 hz4 hz5 hO4 hA4
  go_wp2_with fail
  refine bodyPost_ret (v := .tuple #[.agg #[.slice none 0 0, .slice A R.1.length R.1.length], .int .i64 0]) (by simp [results, Tryz.results11, go_sem, d0, d1]) rfl ?_
  rw [HE.out]
  exact ⟨.inr ⟨rfl, none, A, rfl, TnsO.nil _ _, (HO4.out.base hs0).box Hz4.out HA4.out _ _⟩, (H04.out.set (p := ⟨w.heap.size + 2, 0, none⟩) (by simp) _).set (p := ⟨w.heap.size + 2, 1, none⟩) (by simp) _⟩
end Go.Proofs.YtbnnpkcfifejmaaGreat
namespace Go.Proofs.YtbnnpkcfifejmaaGreat
open Go.RowKit
theorem blk_ne {w : World} {a b : Nat} {t1 t2 : TypeId} {c1 c2 : Array Value} (h1 : Blk w a t1 c1) (h2 : Blk w b t2 c2) (ht : t1 ≠ t2) : a ≠ b := by
 intro e
 subst e
 have e := h1.symm.trans h2
 injection e with e
 injection e with _ e2 _
 exact ht e2
def six (u0 u1 u2 u3 u4 u5 : Value) (tb : Nat) (w : World) : World := (((((w.setCell ⟨tb, 0, none⟩ u0).setCell ⟨tb, 1, none⟩ u1).setCell ⟨tb, 2, none⟩ u2).setCell ⟨tb, 3, none⟩ u3).setCell ⟨tb, 4, none⟩ u4).setCell ⟨tb, 5, none⟩ u5
theorem six_else (u0 u1 u2 u3 u4 u5 : Value) (tb : Nat) (w : World) : Else tb w (six u0 u1 u2 u3 u4 u5 tb w) := ((((((Else.refl tb w).setCell 0 u0).setCell 1 u1).setCell 2 u2).setCell 3 u3).setCell 4 u4).setCell 5 u5
theorem six_blk {u0 u1 u2 u3 u4 u5 v0 v1 v2 v3 v4 v5 : Value} {tb : Nat} {T : TypeId} {w : World} (h : Blk w tb T #[v0, v1, v2, v3, v4, v5]) : Blk (six u0 u1 u2 u3 u4 u5 tb w) tb T #[u0, u1, u2, u3, u4, u5] := by
 have := (((((h.set_ 0 u0).set_ 1 u1).set_ 2 u2).set_ 3 u3).set_ 4 u4).set_ 5 u5
 simpa [six] using this
theorem six_facts {w : World} {p : Nat} {T : TypeId} {v0 v1 v2 v3 v4 v5 : Value} (h : Blk w p T #[v0, v1, v2, v3, v4, v5]) : w.cell? ⟨p, 0, none⟩ = some v0 ∧ w.cell? ⟨p, 1, none⟩ = some v1 ∧ w.cell? ⟨p, 2, none⟩ = some v2 ∧ w.cell? ⟨p, 3, none⟩ = some v3 ∧ w.cell? ⟨p, 4, none⟩ = some v4 ∧ w.cell? ⟨p, 5, none⟩ = some v5 ∧
  w.frozen? ⟨p, 0, none⟩ = false ∧ w.frozen? ⟨p, 1, none⟩ = false ∧ w.frozen? ⟨p, 2, none⟩ = false ∧ w.frozen? ⟨p, 3, none⟩ = false ∧ w.frozen? ⟨p, 4, none⟩ = false ∧ w.frozen? ⟨p, 5, none⟩ = false :=
 ⟨h.cell 0, h.cell 1, h.cell 2, h.cell 3, h.cell 4, h.cell 5, h.frozen 0, h.frozen 1, h.frozen 2, h.frozen 3, h.frozen 4, h.frozen 5⟩
theorem six_later {w W : World} {p : Nat} (h : Later w W) (hp : w.heap.size ≤ p) (u0 u1 u2 u3 u4 u5 : Value) : Later w (six u0 u1 u2 u3 u4 u5 p W) := (six_else u0 u1 u2 u3 u4 u5 p W).below h hp
structure DbI (w : World) (tb g0 h0 g1 h1 g2 h2 : Nat) (bw bx bg be : Array Value) (sw sg sx cg W X : List Int) (wx : World) : Prop where
 kw : Blk wx w.heap.size 30 bw
 kx : Blk wx (w.heap.size + 2) 30 bx
 kg : Blk wx (w.heap.size + 3) 30 bg
 kz : Blk wx (w.heap.size + 4) 42 #[.slice none 0 0, .slice none 0 0, .slice none 0 0, .slice none 0 0, .slice none 0 0, .slice none 0 0]
 ke : Blk wx tb 42 be
 G0 : Blk wx g0 3 (sw.map (Value.int .i64)).toArray
 H0 : Blk wx h0 22 (W.map (Value.int .i64)).toArray
 G1 : Blk wx g1 3 (sg.map (Value.int .i64)).toArray
 H1 : Blk wx h1 22 (cg.map (Value.int .i64)).toArray
 G2 : Blk wx g2 3 (sx.map (Value.int .i64)).toArray
 H2 : Blk wx h2 22 (X.map (Value.int .i64)).toArray
 lo : w.heap.size ≤ g0 ∧ w.heap.size ≤ g1 ∧ w.heap.size ≤ g2 ∧ w.heap.size + 4 < tb ∧ w.heap.size ≤ h0 ∧ h0 < h1 ∧ h1 < h2
 later : Later w wx
theorem DbI.to {w wx wy : World} {tb g0 h0 g1 h1 g2 h2 : Nat} {bw bx bg be : Array Value} {sw sg sx cg W X : List Int} (H : DbI w tb g0 h0 g1 h1 g2 h2 bw bx bg be sw sg sx cg W X wx) (hl : Later wx wy) : DbI w tb g0 h0 g1 h1 g2 h2 bw bx bg be sw sg sx cg W X wy :=
 ⟨hl.blk H.kw, hl.blk H.kx, hl.blk H.kg, hl.blk H.kz, hl.blk H.ke, hl.blk H.G0, hl.blk H.H0, hl.blk H.G1, hl.blk H.H1, hl.blk H.G2, hl.blk H.H2, H.lo, H.later.trans hl⟩
theorem DbI.elseW {w wx wy : World} {tb g0 h0 g1 h1 g2 h2 : Nat} {bw bx bg be : Array Value} {sw sg sx cg W X W' : List Int} (H : DbI w tb g0 h0 g1 h1 g2 h2 bw bx bg be sw sg sx cg W X wx) (hE : Else h0 wx wy) (hb : Blk wy h0 22 (W'.map (Value.int .i64)).toArray) : DbI w tb g0 h0 g1 h1 g2 h2 bw bx bg be sw sg sx cg W' X wy := by
 obtain ⟨l0, l1, l2, l3, l4, l5, l6⟩ := H.lo
 exact ⟨hE.blk (blk_ne H.kw H.H0 (by decide)) H.kw, hE.blk (blk_ne H.kx H.H0 (by decide)) H.kx, hE.blk (blk_ne H.kg H.H0 (by decide)) H.kg, hE.blk (blk_ne H.kz H.H0 (by decide)) H.kz, hE.blk (blk_ne H.ke H.H0 (by decide)) H.ke, hE.blk (blk_ne H.G0 H.H0 (by decide)) H.G0, hb, hE.blk (blk_ne H.G1 H.H0 (by decide)) H.G1, hE.blk (by omega) H.H1, hE.blk (blk_ne H.G2 H.H0 (by decide)) H.G2, hE.blk (by omega) H.H2, H.lo, hE.below H.later (by omega)⟩
theorem DbI.elseX {w wx wy : World} {tb g0 h0 g1 h1 g2 h2 : Nat} {bw bx bg be : Array Value} {sw sg sx cg W X X' : List Int} (H : DbI w tb g0 h0 g1 h1 g2 h2 bw bx bg be sw sg sx cg W X wx) (hE : Else h2 wx wy) (hb : Blk wy h2 22 (X'.map (Value.int .i64)).toArray) : DbI w tb g0 h0 g1 h1 g2 h2 bw bx bg be sw sg sx cg W X' wy := by
 obtain ⟨l0, l1, l2, l3, l4, l5, l6⟩ := H.lo
 exact ⟨hE.blk (blk_ne H.kw H.H2 (by decide)) H.kw, hE.blk (blk_ne H.kx H.H2 (by decide)) H.kx, hE.blk (blk_ne H.kg H.H2 (by decide)) H.kg, hE.blk (blk_ne H.kz H.H2 (by decide)) H.kz, hE.blk (blk_ne H.ke H.H2 (by decide)) H.ke, hE.blk (blk_ne H.G0 H.H2 (by decide)) H.G0, hE.blk (by omega) H.H0, hE.blk (blk_ne H.G1 H.H2 (by decide)) H.G1, hE.blk (by omega) H.H1, hE.blk (blk_ne H.G2 H.H2 (by decide)) H.G2, hb, H.lo, hE.below H.later (by omega)⟩
theorem DbI.putW {w wx : World} {tb g0 h0 g1 h1 g2 h2 : Nat} {bw bx bg be : Array Value} {sw sg sx cg W X : List Int} (H : DbI w tb g0 h0 g1 h1 g2 h2 bw bx bg be sw sg sx cg W X wx) (k : Nat) (z : Int) : DbI w tb g0 h0 g1 h1 g2 h2 bw bx bg be sw sg sx cg (W.set k z) X (wx.setCell ⟨h0, k, none⟩ (.int .i64 z)) :=
 H.elseW ((Else.refl _ _).setCell k _) (by have := H.H0.set_ k (.int .i64 z); rw [List.map_set]; simpa using this)
theorem DbI.putX {w wx : World} {tb g0 h0 g1 h1 g2 h2 : Nat} {bw bx bg be : Array Value} {sw sg sx cg W X : List Int} (H : DbI w tb g0 h0 g1 h1 g2 h2 bw bx bg be sw sg sx cg W X wx) (k : Nat) (z : Int) : DbI w tb g0 h0 g1 h1 g2 h2 bw bx bg be sw sg sx cg W (X.set k z) (wx.setCell ⟨h2, k, none⟩ (.int .i64 z)) :=
 H.elseX ((Else.refl _ _).setCell k _) (by have := H.H2.set_ k (.int .i64 z); rw [List.map_set]; simpa using this)
theorem DbI.store {w wx : World} {tb g0 h0 g1 h1 g2 h2 : Nat} {bw bx bg : Array Value} {v0 v1 v2 v3 v4 v5 u0 u1 u2 u3 u4 u5 : Value} {sw sg sx cg W X : List Int} (H : DbI w tb g0 h0 g1 h1 g2 h2 bw bx bg #[v0, v1, v2, v3, v4, v5] sw sg sx cg W X wx) : DbI w tb g0 h0 g1 h1 g2 h2 bw bx bg #[u0, u1, u2, u3, u4, u5] sw sg sx cg W X (six u0 u1 u2 u3 u4 u5 tb wx) := by
 have hE := six_else u0 u1 u2 u3 u4 u5 tb wx
 obtain ⟨l0, l1, l2, l3, l4, l5, l6⟩ := H.lo
 exact ⟨hE.blk (by omega) H.kw, hE.blk (by omega) H.kx, hE.blk (by omega) H.kg, hE.blk (by omega) H.kz, six_blk H.ke, hE.blk (blk_ne H.G0 H.ke (by decide)) H.G0, hE.blk (blk_ne H.H0 H.ke (by decide)) H.H0, hE.blk (blk_ne H.G1 H.ke (by decide)) H.G1, hE.blk (blk_ne H.H1 H.ke (by decide)) H.H1, hE.blk (blk_ne H.G2 H.ke (by decide)) H.G2, hE.blk (blk_ne H.H2 H.ke (by decide)) H.H2, H.lo, hE.below H.later (by omega)⟩
def DbCut (w : World) (bw bx bg : Array Value) (t g x : Ten) (a : Value) (wx : World) : Prop :=
 ∃ tb g0 h0 g1 h1 g2 h2, a = .pointer (some ⟨tb, 0, none⟩) ∧ DbI w tb g0 h0 g1 h1 g2 h2 bw bx bg #[.slice (some ⟨g0, 0, none⟩) t.s.length t.s.length, .slice (some ⟨h0, 0, none⟩) t.c.length t.c.length, .slice (some ⟨g1, 0, none⟩) g.s.length g.s.length, .slice (some ⟨h1, 0, none⟩) g.c.length g.c.length, .slice (some ⟨g2, 0, none⟩) x.s.length x.s.length, .slice (some ⟨h2, 0, none⟩) x.c.length x.c.length] t.s g.s x.s g.c t.c x.c wx
theorem db_mk {w w3 wa wb wc : World} {tb g0 h0 g1 h1 g2 h2 : Nat} {bw bx bg be : Array Value} {sw sg sx cg W X : List Int} (hw : Later w w3) (kw : Blk w3 w.heap.size 30 bw) (kx : Blk w3 (w.heap.size + 2) 30 bx) (kg : Blk w3 (w.heap.size + 3) 30 bg)
  (kz : Blk w3 (w.heap.size + 4) 42 #[.slice none 0 0, .slice none 0 0, .slice none 0 0, .slice none 0 0, .slice none 0 0, .slice none 0 0]) (G0 : Blk wa g0 3 (sw.map (Value.int .i64)).toArray) (H0 : Blk wa h0 22 (W.map (Value.int .i64)).toArray) (G1 : Blk wb g1 3 (sg.map (Value.int .i64)).toArray) (H1 : Blk wb h1 22 (cg.map (Value.int .i64)).toArray)
  (G2 : Blk wc g2 3 (sx.map (Value.int .i64)).toArray) (H2 : Blk wc h2 22 (X.map (Value.int .i64)).toArray) (ke : Blk wc tb 42 be) (l1 : Later w3 wa) (l2 : Later wa wb) (l3 : Later wb wc)
  (q0 : w3.heap.size ≤ g0 ∧ w3.heap.size ≤ h0) (q1 : wa.heap.size ≤ g1 ∧ wa.heap.size ≤ h1) (q2 : wb.heap.size ≤ g2 ∧ wb.heap.size ≤ h2) (q3 : w3.heap.size ≤ tb) : DbI w tb g0 h0 g1 h1 g2 h2 bw bx bg be sw sg sx cg W X wc := by
 have l13 := l1.trans (l2.trans l3)
 have s1 := l1.size
 have s2 := l2.size
 have s0 := hw.size
 have e0 := H0.lt
 have e1 := H1.lt
 have ez := kz.lt
 exact ⟨l13.blk kw, l13.blk kx, l13.blk kg, l13.blk kz, ke, (l2.trans l3).blk G0, (l2.trans l3).blk H0, l3.blk G1, l3.blk H1, G2, H2, ⟨by omega, by omega, by omega, by omega, by omega, by omega, by omega⟩, hw.trans l13⟩
theorem DbI.wt {w wx : World} {tb g0 h0 g1 h1 g2 h2 : Nat} {bw bx bg be : Array Value} {sw sg sx cg W X : List Int} (H : DbI w tb g0 h0 g1 h1 g2 h2 bw bx bg be sw sg sx cg W X wx) (b0 : sw.length ≤ 1048576) (b1 : W.length ≤ 1048576) (i : ∀ z ∈ W, Fx.In z) : TenIn wx (some ⟨g0, 0, none⟩) (some ⟨h0, 0, none⟩) sw.length W.length ⟨sw, W⟩ :=
 ⟨⟨H.G0.intsL, H.H0.intsL⟩, Nat.le_refl _, by omega, Nat.le_refl _, by omega, b0, b1, i⟩
theorem DbI.done {r : (Ten × Ten × Ten) × Int} {w wx : World} {tb g0 h0 g1 h1 g2 h2 n0 n1 n2 : Nat} {bw bx bg be : Array Value} {sw sg sx cg W X : List Int} (H : DbI w tb g0 h0 g1 h1 g2 h2 bw bx bg be sw sg sx cg W X wx) (hr : r = ((⟨sw, W⟩, ⟨sg, cg⟩, ⟨sx, X⟩), 0)) (e0 : W.length = n0) (e1 : cg.length = n1) (e2 : X.length = n2)
  (b0 : sw.length ≤ 1048576 ∧ sg.length ≤ 1048576 ∧ sx.length ≤ 1048576 ∧ W.length ≤ 1048576 ∧ cg.length ≤ 1048576 ∧ X.length ≤ 1048576) (i0 : ∀ z ∈ W, Fx.In z) (i1 : ∀ z ∈ cg, Fx.In z) (i2 : ∀ z ∈ X, Fx.In z) (u0 u1 u2 u3 u4 u5 : Value) :
  GoD r w (.returned (.tuple #[.agg #[.slice (some ⟨g0, 0, none⟩) sw.length sw.length, .slice (some ⟨h0, 0, none⟩) n0 n0, .slice (some ⟨g1, 0, none⟩) sg.length sg.length, .slice (some ⟨h1, 0, none⟩) n1 n1, .slice (some ⟨g2, 0, none⟩) sx.length sx.length, .slice (some ⟨h2, 0, none⟩) n2 n2], .int .i64 0])) (six u0 u1 u2 u3 u4 u5 (w.heap.size + 4) wx) := by
 subst hr
 obtain ⟨l0, l1, l2, l3, l4, l5, l6⟩ := H.lo
 obtain ⟨c0, c1, c2, c3, c4, c5⟩ := b0
 have hE := six_else u0 u1 u2 u3 u4 u5 (w.heap.size + 4) wx
 have hz := six_blk (u0 := u0) (u1 := u1) (u2 := u2) (u3 := u3) (u4 := u4) (u5 := u5) H.kz
 have hno := noint H.kz (fun k z => by
  match k with
  | 0 => simp
  | 1 => simp
  | 2 => simp
  | 3 => simp
  | 4 => simp
  | 5 => simp
  | n + 6 => simp)
 subst e0 e1 e2
 refine ⟨.inr ⟨rfl, _, _, _, _, _, _, _, _, _, _, _, _, rfl, ?_, ?_, ?_⟩, hE.below H.later (by omega)⟩
 ·exact (teno_of H.G0 H.H0 l0 (by omega) c0 c3 i0 rfl).else_ hE hno fun j => hz.frozen j
 ·exact (teno_of H.G1 H.H1 l1 (by omega) c1 c4 i1 rfl).else_ hE hno fun j => hz.frozen j
 ·exact (teno_of H.G2 H.H2 l2 (by omega) c2 c5 i2 rfl).else_ hE hno fun j => hz.frozen j
theorem GoD.fail {n : Int} {r : (Ten × Ten × Ten) × Int} {w w' : World} (hr : r = ((Ly.none_, Ly.none_, Ly.none_), n)) (hn : n ≠ 0) (hb : Below w.heap.size w w') : GoD r w (.returned (.tuple #[.agg #[.slice none 0 0, .slice none 0 0, .slice none 0 0, .slice none 0 0, .slice none 0 0, .slice none 0 0], .int .i64 n])) w' := by
 subst hr; exact ⟨.inl ⟨hn, rfl⟩, hb⟩
end Go.Proofs.YtbnnpkcfifejmaaGreat

/- Lemmas for the statements of this seat: contracts of functions and the plain laws. -/
import Derived.Laws.CopyOwn
import Derived.Test.YtbnnpkcfifejmaaGreatZ09
set_option linter.unusedVariables false
namespace Go.Proofs.YtbnnpkcfifejmaaGreat
open Go.RowKit
def GoBU (K : Nat) (r : Ly.Bk × Int) (w : World) (e : Ending) (w' : World) : Prop :=
 ∃ A na B nb, e = .returned (.tuple #[.agg #[.slice A na na, .slice B nb nb], .int .i64 r.2]) ∧ (r.2 ≠ 0 → A = none ∧ na = 0 ∧ B = none ∧ nb = 0) ∧
  (r.2 = 0 → na = r.1.p.length ∧ nb = r.1.x.length ∧ TnsO w.heap.size w' A r.1.p ∧ TnsO w.heap.size w' B r.1.x ∧ (∀ a, A = some a → K ≤ a.block) ∧ ∀ a, B = some a → K ≤ a.block) ∧ Below w.heap.size w w'
theorem GoB.u {r : Ly.Bk × Int} {w0 w w' : World} {e : Ending} (h : GoB r w e w') (hb : Below w0.heap.size w0 w) : GoBU w.heap.size r w0 e w' := by
 have hs := hb.size
 obtain ⟨⟨h1, rfl⟩ | ⟨h1, A, B, rfl, hA, hB⟩, h2⟩ := h
 ·exact ⟨none, 0, none, 0, rfl, fun _ => ⟨rfl, rfl, rfl, rfl⟩, fun h => absurd h h1, hb.trans (h2.mono hs)⟩
 ·refine ⟨A, _, B, _, by rw [h1], fun h => absurd h1 h, fun _ => ⟨rfl, rfl, hA.base hs, hB.base hs, fun a e => ?_, fun a e => ?_⟩, hb.trans (h2.mono hs)⟩
  ·obtain ⟨b, rfl, h3, -, -⟩ := hA.1 a e; exact h3
  ·obtain ⟨b, rfl, h3, -, -⟩ := hB.1 a e; exact h3
theorem GoBU.fin {K p : Nat} {r : Ly.Bk × Int} {w w' : World} {A B : Option Addr} {na nb : Nat} {T : TypeId} (h1 : r.2 ≠ 0 → A = none ∧ na = 0 ∧ B = none ∧ nb = 0)
  (h2 : r.2 = 0 → na = r.1.p.length ∧ nb = r.1.x.length ∧ TnsO w.heap.size w' A r.1.p ∧ TnsO w.heap.size w' B r.1.x ∧ (∀ a, A = some a → K ≤ a.block) ∧ ∀ a, B = some a → K ≤ a.block) (hb : Below w.heap.size w w')
  (hz : Blk w' p T #[.slice none 0 0, .slice none 0 0]) (hp : w.heap.size ≤ p) (hK : p < K) (u u2 : Value) :
  GoB r w (.returned (.tuple #[.agg #[.slice A na na, .slice B nb nb], .int .i64 r.2])) ((w'.setCell ⟨p, 0, none⟩ u).setCell ⟨p, 1, none⟩ u2) := by
 have hl : Below w.heap.size w ((w'.setCell ⟨p, 0, none⟩ u).setCell ⟨p, 1, none⟩ u2) := (Later.set (p := ⟨p, 0, none⟩) hb hp _).set (p := ⟨p, 1, none⟩) hp _
 by_cases he : r.2 = 0
 ·obtain ⟨rfl, rfl, hA, hB, k1, k2⟩ := h2 he
  refine ⟨.inr ⟨he, A, B, by rw [he], hA.box hz (fun a e => ?_) _ _, hB.box hz (fun a e => ?_) _ _⟩, hl⟩
  ·have := k1 a e; omega
  ·have := k2 a e; omega
 ·obtain ⟨rfl, rfl, rfl, rfl⟩ := h1 he
  exact ⟨.inl ⟨he, rfl⟩, hl⟩
theorem sg_u {r : Ten × Int} {w0 w w' : World} {S C : Option Addr} {c d : Nat} {e : Ending} (h : SgP S C r.1.s.length c r.1.c.length d r.2 w e w') (hr : r.2 = 0 → TenO w0.heap.size w (.agg #[.slice S r.1.s.length c, .slice C r.1.c.length d]) r.1) (hb : Below w0.heap.size w0 w) : GoBU w.heap.size (Ly.bsingle r) w0 e w' := by
 obtain ⟨X, k, rfl, h1, h2, h3⟩ := h
 have hl : Later w w' := h3
 have hbb : Below w0.heap.size w0 w' := hb.trans (h3.mono hb.size)
 by_cases he : r.2 = 0
 ·obtain ⟨rfl, p, rfl, hp, hk⟩ := h2 he
  have e1 : Ly.bsingle r = (⟨[], [r.1]⟩, 0) := by unfold Ly.bsingle; rw [if_pos he]
  rw [e1, he]
  refine ⟨none, 0, _, 1, rfl, fun h => absurd rfl h, fun _ => ⟨rfl, rfl, TnsO.nil _ _, TnsO.one hk (Nat.le_trans hb.size hp) ((hr he).later hl), fun a e => (by cases e), fun a e => ?_⟩, hbb⟩
  injection e with e; subst e; exact hp
 ·obtain ⟨rfl, rfl⟩ := h1 he
  have e1 : Ly.bsingle r = (Ly.bnone, r.2) := by unfold Ly.bsingle; rw [if_neg he]
  rw [e1]
  exact ⟨none, 0, none, 0, rfl, fun _ => ⟨rfl, rfl, rfl, rfl⟩, fun h => absurd h he, hbb⟩
namespace Ly
theorem turnBack_none {x g : Ten} (h : (turnBack x g).2 ≠ 0) : (turnBack x g).1 = none_ := by
 unfold turnBack of_ at h ⊢
 split at h
 ·rename_i h1
  rw [if_pos h1]
  split at h
  ·exact absurd rfl h
  ·rename_i h2
   rw [if_neg h2]
 ·rename_i h1
  rw [if_neg h1]
theorem bturn_err {x g : Ten} {s : List Int} (h : (turn x s).2 ≠ 0) : bturn x g s = (bnone, (turn x s).2) := by unfold bturn; rw [if_neg h]
theorem bturn_bad {x g : Ten} {s : List Int} (h : (turn x s).2 = 0) (hg : (Tn.right g && (g.s == s)) = false) : bturn x g s = (bnone, 20) := by
 unfold bturn
 rw [if_pos h, if_neg]
 intro hh
 rw [Bool.and_eq_true, decide_eq_true_eq] at hh
 rw [hh.1, hh.2] at hg
 simp at hg
theorem bturn_ok {x g : Ten} {s : List Int} (h : (turn x s).2 = 0) (hr : Tn.right g = true) (hs : g.s = s) : bturn x g s = bsingle (turnBack x g) := by unfold bturn; rw [if_pos h, if_pos (by rw [hr, hs]; simp)]
end Ly
set_option maxHeartbeats 8000000 in
set_option maxRecDepth 20000 in
theorem op_turnBack (S C GS GC A : Option Addr) (c d gc gd ac : Nat) (x g : Ten) (s : List Int) (w : World) (hx : TenIn w S C c d x) (hg : TenIn w GS GC gc gd g) (hA : Ints .i64 w A s) (hs : s.length ≤ 1048576) :
  Calls Tryz.prog 49 #[.agg #[.slice S x.s.length c, .slice C x.c.length d], .agg #[.slice GS g.s.length gc, .slice GC g.c.length gd], .slice A s.length ac] w (GoB (Ly.bturn x g s) w) := by
 obtain ⟨hkx, hkg, hz, h01⟩ := three_boxes w 30 30 38 #[.slice S x.s.length c, .slice C x.c.length d] #[.slice GS g.s.length gc, .slice GC g.c.length gd] #[.slice none 0 0, .slice none 0 0]
 have lg1 := hg.l1
 have lg2 := hg.l2
 have Hkx := Lib.hid hkx
 have Hkg := Lib.hid hkg
 have Hz := Lib.hid hz
 have H01 := Lib.hid h01
 have Hx := Lib.hid hx
 have Hg := Lib.hid hg
 have HA := Lib.hid hA
 clear hkx hkg hz h01 hx hg hA
 go_enter Tryz.func49, Tryz.ntmps49
 go_wp2_with fail
 generalize ((w.alloc (.cells #[.slice S x.s.length c, .slice C x.c.length d] 30)).alloc (.cells #[.slice GS g.s.length gc, .slice GC g.c.length gd] 30)).alloc (.cells #[.slice none 0 0, .slice none 0 0] 38) = w1 at *
 have hcall := calls_goU (move_turn S C A c d ac x s w1 (Hx.out.later H01.out) (HA.out.below H01.out (Nat.le_refl _)) hs) Ly.turn_none
 have herr := Ly.bturn_err (x := x) (g := g) (s := s)
 have hbad := Ly.bturn_bad (x := x) (g := g) (s := s)
 have hgood := Ly.bturn_ok (x := x) (g := g) (s := s)
 generalize Ly.turn x s = R at *
 have Hcall := Lib.hid hcall
 have Herr := Lib.hid herr
 have Hbad := Lib.hid hbad
 have Hgood := Lib.hid hgood
 clear hcall herr hbad hgood
 refine (Hcall.out).mono ?_
 rintro e w2 ⟨S3, c3, C3, d3, rfl, -, -, hb2⟩
 have h12 : Later w1 (w2.alloc (.cells #[.slice S3 R.1.s.length c3, .slice C3 R.1.c.length d3] 30)) := Later.alloc hb2 _
 have h02 := H01.out.trans h12
 have hkx2 := h12.blk Hkx.out
 have hkg2 := h12.blk Hkg.out
 have hz2 := h12.blk Hz.out
 clear hb2 Hkx Hkg Hz H01 Hcall
 have H12 := Lib.hid h12
 have H02 := Lib.hid h02
 have Hkx2 := Lib.hid hkx2
 have Hkg2 := Lib.hid hkg2
 have Hz2 := Lib.hid hz2
 clear h12 h02 hkx2 hkg2 hz2
 go_upto_region 2 with fail
 generalize w2.alloc (.cells #[.slice S3 R.1.s.length c3, .slice C3 R.1.c.length d3] 30) = w3 at *
 by_cases hR : R.2 = 0
 case neg =>
  have HE := Lib.hid (Herr.out hR)
  have d2 : (R.2 != 0) = true := by simpa using hR
  have HR := Lib.hid hR
  clear hR
  generalize R.2 = ge at *
  have c0 := Hz2.out.cell 0
  have c1 := Hz2.out.cell 1
  have f0 := Hz2.out.frozen 0
  have f1 := Hz2.out.frozen 1
  simp at c0 c1
  go_wp2_with fail
  refine bodyPost_ret (v := .tuple #[.agg #[.slice none 0 0, .slice none 0 0], .int .i64 ge]) (by simp [results, Tryz.results49, go_sem, c0, c1]) rfl ?_
  exact GoB.fail HE.out HR.out ((H02.out.set (p := ⟨w.heap.size + 2, 0, none⟩) (by simp) _).set (p := ⟨w.heap.size + 2, 1, none⟩) (by simp) _)
 have hbad2 := Hbad.out hR
 have hgood2 := Hgood.out hR
 have d2 : (R.2 != 0) = false := by simpa using hR
 have d3' : (R.2 == 0) = true := by simpa using hR
 clear Herr Hbad Hgood hR
 generalize R.2 = re at *
 have g0 := Hkg2.out.cell 0
 have g1 := Hkg2.out.cell 1
 simp at g0 g1
 have hrg := tensor_right GS GC gc gd g w3 (by omega) (by omega) (Hg.out.later H02.out).r.1
 have heq := fun (V : World) (h : Later w3 V) => shape_equal GS A gc ac g.s s V (by omega) (by omega) (Hg.out.later (H02.out.trans h)).r.1 (HA.out.below (H02.out.trans h) (Nat.le_refl _))
 have Hbad2 := Lib.hid hbad2
 have Hgood2 := Lib.hid hgood2
 have Hrg := Lib.hid hrg
 have Heq := Lib.hid heq
 clear hbad2 hgood2 hrg heq
 cases hr : Tn.right g
 ·have HE := Lib.hid (Hbad2.out (by rw [hr]; rfl))
  rw [hr] at Hrg
  clear hr
  go_wp2_with fail
  refine (Hrg.out).mono ?_
  rintro e w4 ⟨rfl, hb4⟩
  have h34 : Later w3 w4 := hb4
  have h04 := H02.out.trans h34
  have hz4 := h34.blk Hz2.out
  have c0 := hz4.cell 0
  have c1 := hz4.cell 1
  have f0 := hz4.frozen 0
  have f1 := hz4.frozen 1
  simp at c0 c1
  clear hb4 g0 g1
  have H34 := Lib.hid h34
  have H04 := Lib.hid h04
  have Hz4 := Lib.hid hz4
  clear h34 h04 hz4
  go_wp2_with fail
  refine bodyPost_ret (v := .tuple #[.agg #[.slice none 0 0, .slice none 0 0], .int .i64 20]) (by simp [results, Tryz.results49, go_sem, c0, c1]) rfl ?_
  exact GoB.fail HE.out (by decide) ((H04.out.set (p := ⟨w.heap.size + 2, 0, none⟩) (by simp) _).set (p := ⟨w.heap.size + 2, 1, none⟩) (by simp) _)
 rw [hr] at Hrg
 go_wp2_with fail
 refine (Hrg.out).mono ?_
 rintro e w4 ⟨rfl, hb4⟩
 have h34 : Later w3 w4 := hb4
 have g0' := h34.cell g0
 clear hb4 g0 g1
 have heq4 := Heq.out _ h34
 cases hq : (g.s == s)
 ·have HE := Lib.hid (Hbad2.out (by rw [hr, hq]; rfl))
  rw [hq] at heq4
  clear hr hq
  have H34 := Lib.hid h34
  have Heq4 := Lib.hid heq4
  clear h34 heq4
  go_wp2_with fail
  refine (Heq4.out).mono ?_
  rintro e w5 ⟨rfl, q5, rfl⟩
  have h05 := (H02.out.trans H34.out).drewN q5
  have hz5 := (H34.out.drewN q5).blk Hz2.out
  have c0 := hz5.cell 0
  have c1 := hz5.cell 1
  have f0 := hz5.frozen 0
  have f1 := hz5.frozen 1
  simp at c0 c1
  clear g0'
  have H05 := Lib.hid h05
  have Hz5 := Lib.hid hz5
  clear h05 hz5
  go_wp2_with fail
  refine bodyPost_ret (v := .tuple #[.agg #[.slice none 0 0, .slice none 0 0], .int .i64 20]) (by simp [results, Tryz.results49, go_sem, c0, c1]) rfl ?_
  exact GoB.fail HE.out (by decide) ((H05.out.set (p := ⟨w.heap.size + 2, 0, none⟩) (by simp) _).set (p := ⟨w.heap.size + 2, 1, none⟩) (by simp) _)
 rw [hq] at heq4
 have HE := Lib.hid (Hgood2.out hr (by simpa using hq))
 clear hr hq
 have H34 := Lib.hid h34
 have Heq4 := Lib.hid heq4
 clear h34 heq4
 go_wp2_with fail
 refine (Heq4.out).mono ?_
 rintro e w5 ⟨rfl, q5, rfl⟩
 have h35 := H34.out.drewN q5
 clear g0' Heq4 Heq Hrg H34 Hbad2 Hgood2
 generalize w4.drewN q5 = w5 at *
 have h05 := H02.out.trans h35
 have hz5 := h35.blk Hz2.out
 have hkx5 := h35.blk Hkx2.out
 have hkg5 := h35.blk Hkg2.out
 have a0 := hkx5.cell 0
 have a1 := hkx5.cell 1
 have g0 := hkg5.cell 0
 have g1 := hkg5.cell 1
 simp at a0 a1 g0 g1
 have hcall := calls_goU (turn_back S C GS GC c d gc gd x g w5 (Hx.out.later h05) (Hg.out.later h05)) Ly.turnBack_none
 generalize Ly.turnBack x g = Q at *
 clear h35
 have H05 := Lib.hid h05
 have Hz5 := Lib.hid hz5
 have Hkx5 := Lib.hid hkx5
 have Hkg5 := Lib.hid hkg5
 have Hcall := Lib.hid hcall
 clear h05 hz5 hkx5 hkg5 hcall
 go_wp2_with fail
 refine (Hcall.out).mono ?_
 rintro e w6 ⟨S4, c4, C4, d4, rfl, -, hok, hb6⟩
 have h56 : Later w5 w6 := hb6
 have h06 := H05.out.trans h56
 have hz6 := h56.blk Hz5.out
 have hs5 := H05.out.size
 clear hb6 a0 a1 g0 g1 Hcall
 have H56 := Lib.hid h56
 have H06 := Lib.hid h06
 have Hz6 := Lib.hid hz6
 have Hok := Lib.hid hok
 clear h56 h06 hz6 hok
 go_wp2_with fail
 refine (op_single S4 C4 _ _ _ _ _ w6).mono ?_
 intro e w7 hsg
 obtain ⟨A7, na, B7, nb, rfl, k1, k2, hb7⟩ := sg_u hsg (fun h => (Hok.out h).base hs5) H06.out
 have h67 : Later w6 w7 := by obtain ⟨_, _, _, _, _, h⟩ := hsg; exact h
 have hz7 := h67.blk Hz6.out
 have hzl := Hz6.out.lt
 have he2 : (Ly.bsingle Q).2 = Q.2 := by unfold Ly.bsingle; split <;> simp_all
 rw [he2]
 have c0 := hz7.cell 0
 have c1 := hz7.cell 1
 have f0 := hz7.frozen 0
 have f1 := hz7.frozen 1
 have hz8 := (hz7.set_ 0 (.slice A7 na na)).set_ 1 (.slice B7 nb nb)
 have d0 := hz8.cell 0
 have d1 := hz8.cell 1
 simp at c0 c1 d0 d1
 have hfin := fun (u u2 : Value) => GoBU.fin k1 k2 hb7 hz7 (show w.heap.size ≤ w.heap.size + 2 by omega) hzl u u2
 rw [he2] at hfin
 clear hsg k1 k2 hb7 he2
 have H67 := Lib.hid h67
 have Hz7 := Lib.hid hz7
 have Hz8 := Lib.hid hz8
 have Hfin := Lib.hid hfin
 clear h67 hz7 hz8 hfin
 go_wp2_with fail
 refine bodyPost_ret (v := .tuple #[.agg #[.slice A7 na na, .slice B7 nb nb], .int .i64 Q.2]) (by simp [results, Tryz.results49, go_sem, d0, d1]) rfl ?_
 rw [HE.out]
 exact Hfin.out _ _
end Go.Proofs.YtbnnpkcfifejmaaGreat
namespace Go.Proofs.YtbnnpkcfifejmaaGreat
open Go.RowKit
namespace Ly
theorem bbias_err {b x g : Ten} (h : (add x b).2 ≠ 0) : bbias b x g = (bnone, (add x b).2) := by unfold bbias; rw [if_neg h]
theorem bbias_bad {b x g : Ten} (h : (add x b).2 = 0) (hg : (Tn.right g && (g.s == (add x b).1.s)) = false) : bbias b x g = (bnone, 20) := by
 unfold bbias
 rw [if_pos h, if_neg]
 intro hh
 rw [Bool.and_eq_true, decide_eq_true_eq] at hh
 rw [hh.1, hh.2] at hg
 simp at hg
theorem bbias_ok {b x g : Ten} (h : (add x b).2 = 0) (hr : Tn.right g = true) (hs : g.s = (add x b).1.s) : bbias b x g = (⟨[g], [g]⟩, 0) := by unfold bbias; rw [if_pos h, if_pos (by rw [hr, hs]; simp)]
end Ly
theorem bb_fin {r : Ly.Bk × Int} {w W : World} {S0 C0 S1 C1 : Option Addr} {c0 d0 c1 d1 p1 p2 p : Nat} {g : Ten} {T T' : TypeId} (hr : r = (⟨[g], [g]⟩, 0)) (hw : Below w.heap.size w W)
  (t1 : TenO w.heap.size W (.agg #[.slice S0 g.s.length c0, .slice C0 g.c.length d0]) g) (t2 : TenO w.heap.size W (.agg #[.slice S1 g.s.length c1, .slice C1 g.c.length d1]) g)
  (b1 : Blk W p1 T #[.slice S0 g.s.length c0, .slice C0 g.c.length d0]) (b2 : Blk W p2 T #[.slice S1 g.s.length c1, .slice C1 g.c.length d1]) (hz : Blk W p T' #[.slice none 0 0, .slice none 0 0]) (q0 : w.heap.size ≤ p) (q1 : p < p1) (q2 : p < p2) (u u2 : Value) :
  GoB r w (.returned (.tuple #[.agg #[.slice (some ⟨p1, 0, none⟩) 1 1, .slice (some ⟨p2, 0, none⟩) 1 1], .int .i64 0])) ((W.setCell ⟨p, 0, none⟩ u).setCell ⟨p, 1, none⟩ u2) := by
 subst hr
 have n1 : p1 ≠ p := by omega
 have n2 : p2 ≠ p := by omega
 exact ⟨.inr ⟨rfl, _, _, rfl, TnsO.one ((b1.far (p := ⟨p, 0, none⟩) n1 _).far (p := ⟨p, 1, none⟩) n1 _) (by omega) (t1.box hz), TnsO.one ((b2.far (p := ⟨p, 0, none⟩) n2 _).far (p := ⟨p, 1, none⟩) n2 _) (by omega) (t2.box hz)⟩, (Later.set (p := ⟨p, 0, none⟩) hw q0 _).set (p := ⟨p, 1, none⟩) q0 _⟩
set_option maxHeartbeats 8000000 in
set_option maxRecDepth 20000 in
theorem op_biasBack (S' C' S C GS GC : Option Addr) (c' d' c d gc gd : Nat) (b x g : Ten) (w : World) (hb : TenIn w S' C' c' d' b) (hx : TenIn w S C c d x) (hg : TenIn w GS GC gc gd g) :
  Calls Tryz.prog 46 #[.agg #[.slice S' b.s.length c', .slice C' b.c.length d'], .agg #[.slice S x.s.length c, .slice C x.c.length d], .agg #[.slice GS g.s.length gc, .slice GC g.c.length gd]] w (GoB (Ly.bbias b x g) w) := by
 obtain ⟨hkb, hkx, hkg, hz, h01⟩ := four_boxes w 30 30 30 38 #[.slice S' b.s.length c', .slice C' b.c.length d'] #[.slice S x.s.length c, .slice C x.c.length d] #[.slice GS g.s.length gc, .slice GC g.c.length gd] #[.slice none 0 0, .slice none 0 0]
 have lg1 := hg.l1
 have lg2 := hg.l2
 have Hkb := Lib.hid hkb
 have Hkx := Lib.hid hkx
 have Hkg := Lib.hid hkg
 have Hz := Lib.hid hz
 have H01 := Lib.hid h01
 have Hb := Lib.hid hb
 have Hx := Lib.hid hx
 have Hg := Lib.hid hg
 clear hkb hkx hkg hz h01 hb hx hg
 go_enter Tryz.func46, Tryz.ntmps46
 go_wp2_with fail
 generalize (((w.alloc (.cells #[.slice S' b.s.length c', .slice C' b.c.length d'] 30)).alloc (.cells #[.slice S x.s.length c, .slice C x.c.length d] 30)).alloc (.cells #[.slice GS g.s.length gc, .slice GC g.c.length gd] 30)).alloc (.cells #[.slice none 0 0, .slice none 0 0] 38) = w1 at *
 have hcall := calls_goU (dense_bias S' C' S C c' d' c d b x w1 (Hb.out.later H01.out) (Hx.out.later H01.out)) Ly.add_none
 have herr := Ly.bbias_err (b := b) (x := x) (g := g)
 have hbad := Ly.bbias_bad (b := b) (x := x) (g := g)
 have hgood := Ly.bbias_ok (b := b) (x := x) (g := g)
 generalize Ly.add x b = R at *
 have Hcall := Lib.hid hcall
 have Herr := Lib.hid herr
 have Hbad := Lib.hid hbad
 have Hgood := Lib.hid hgood
 clear hcall herr hbad hgood
 refine (Hcall.out).mono ?_
 rintro e w2 ⟨S3, c3, C3, d3, rfl, -, hO, hb2⟩
 have hlo := (Later.refl w2).alloc (.cells #[.slice S3 R.1.s.length c3, .slice C3 R.1.c.length d3] 30)
 have hko := Blk.new w2 30 #[.slice S3 R.1.s.length c3, .slice C3 R.1.c.length d3]
 have hOT : R.2 = 0 → TenIn (w2.alloc (.cells #[.slice S3 R.1.s.length c3, .slice C3 R.1.c.length d3] 30)) S3 C3 c3 d3 R.1 := fun h => by
  obtain ⟨S', c', C', d', e', hT, -, -⟩ := hO h
  simp at e'
  obtain ⟨⟨rfl, rfl⟩, rfl, rfl⟩ := e'
  exact hT.later hlo
 have h12 : Later w1 (w2.alloc (.cells #[.slice S3 R.1.s.length c3, .slice C3 R.1.c.length d3] 30)) := Later.alloc hb2 _
 have h02 := H01.out.trans h12
 have hkx2 := h12.blk Hkx.out
 have hkg2 := h12.blk Hkg.out
 have hz2 := h12.blk Hz.out
 clear hb2 Hkb Hkx Hkg Hz H01 Hcall hO hlo
 have H12 := Lib.hid h12
 have H02 := Lib.hid h02
 have Hkx2 := Lib.hid hkx2
 have Hkg2 := Lib.hid hkg2
 have Hz2 := Lib.hid hz2
 have Hko := Lib.hid hko
 have HOT := Lib.hid hOT
 clear h12 h02 hkx2 hkg2 hz2 hko hOT
 go_upto_region 2 with fail
 generalize w2.alloc (.cells #[.slice S3 R.1.s.length c3, .slice C3 R.1.c.length d3] 30) = w3 at *
 generalize w2.heap.size = ob at *
 by_cases hR : R.2 = 0
 case neg =>
  have HE := Lib.hid (Herr.out hR)
  have d2 : (R.2 != 0) = true := by simpa using hR
  have HR := Lib.hid hR
  clear hR
  generalize R.2 = ge at *
  have c0 := Hz2.out.cell 0
  have c1 := Hz2.out.cell 1
  have f0 := Hz2.out.frozen 0
  have f1 := Hz2.out.frozen 1
  simp at c0 c1
  go_wp2_with fail
  refine bodyPost_ret (v := .tuple #[.agg #[.slice none 0 0, .slice none 0 0], .int .i64 ge]) (by simp [results, Tryz.results46, go_sem, c0, c1]) rfl ?_
  exact GoB.fail HE.out HR.out ((H02.out.set (p := ⟨w.heap.size + 3, 0, none⟩) (by simp) _).set (p := ⟨w.heap.size + 3, 1, none⟩) (by simp) _)
 have hOt := HOT.out hR
 have lo1 := hOt.l1
 have o0 := Hko.out.cell 0
 simp at o0
 have hbad2 := Hbad.out hR
 have hgood2 := Hgood.out hR
 have d2 : (R.2 != 0) = false := by simpa using hR
 have d3' : (R.2 == 0) = true := by simpa using hR
 clear Herr Hbad Hgood hR HOT
 generalize R.2 = re at *
 have g0 := Hkg2.out.cell 0
 have g1 := Hkg2.out.cell 1
 simp at g0 g1
 have hrg := tensor_right GS GC gc gd g w3 (by omega) (by omega) (Hg.out.later H02.out).r.1
 have heq := fun (V : World) (h : Later w3 V) => shape_equal GS S3 gc c3 g.s R.1.s V (by omega) (by omega) (Hg.out.later (H02.out.trans h)).r.1 (hOt.later h).r.1
 have Hbad2 := Lib.hid hbad2
 have Hgood2 := Lib.hid hgood2
 have Hrg := Lib.hid hrg
 have Heq := Lib.hid heq
 have HOt := Lib.hid hOt
 clear hbad2 hgood2 hrg heq hOt
 cases hr : Tn.right g
 ·have HE := Lib.hid (Hbad2.out (by rw [hr]; rfl))
  rw [hr] at Hrg
  clear hr
  go_wp2_with fail
  refine (Hrg.out).mono ?_
  rintro e w4 ⟨rfl, hb4⟩
  have h34 : Later w3 w4 := hb4
  have h04 := H02.out.trans h34
  have hz4 := h34.blk Hz2.out
  have c0 := hz4.cell 0
  have c1 := hz4.cell 1
  have f0 := hz4.frozen 0
  have f1 := hz4.frozen 1
  simp at c0 c1
  clear hb4 g0 g1 o0
  have H34 := Lib.hid h34
  have H04 := Lib.hid h04
  have Hz4 := Lib.hid hz4
  clear h34 h04 hz4
  go_wp2_with fail
  refine bodyPost_ret (v := .tuple #[.agg #[.slice none 0 0, .slice none 0 0], .int .i64 20]) (by simp [results, Tryz.results46, go_sem, c0, c1]) rfl ?_
  exact GoB.fail HE.out (by decide) ((H04.out.set (p := ⟨w.heap.size + 3, 0, none⟩) (by simp) _).set (p := ⟨w.heap.size + 3, 1, none⟩) (by simp) _)
 rw [hr] at Hrg
 go_wp2_with fail
 refine (Hrg.out).mono ?_
 rintro e w4 ⟨rfl, hb4⟩
 have h34 : Later w3 w4 := hb4
 have g0' := h34.cell g0
 have o0' := h34.cell o0
 clear hb4 g0 g1 o0
 have heq4 := Heq.out _ h34
 cases hq : (g.s == R.1.s)
 ·have HE := Lib.hid (Hbad2.out (by rw [hr, hq]; rfl))
  rw [hq] at heq4
  clear hr hq
  have H34 := Lib.hid h34
  have Heq4 := Lib.hid heq4
  clear h34 heq4
  go_wp2_with fail
  refine (Heq4.out).mono ?_
  rintro e w5 ⟨rfl, q5, rfl⟩
  have h05 := (H02.out.trans H34.out).drewN q5
  have hz5 := (H34.out.drewN q5).blk Hz2.out
  have c0 := hz5.cell 0
  have c1 := hz5.cell 1
  have f0 := hz5.frozen 0
  have f1 := hz5.frozen 1
  simp at c0 c1
  clear g0' o0'
  have H05 := Lib.hid h05
  have Hz5 := Lib.hid hz5
  clear h05 hz5
  go_wp2_with fail
  refine bodyPost_ret (v := .tuple #[.agg #[.slice none 0 0, .slice none 0 0], .int .i64 20]) (by simp [results, Tryz.results46, go_sem, c0, c1]) rfl ?_
  exact GoB.fail HE.out (by decide) ((H05.out.set (p := ⟨w.heap.size + 3, 0, none⟩) (by simp) _).set (p := ⟨w.heap.size + 3, 1, none⟩) (by simp) _)
 rw [hq] at heq4
 have HE := Lib.hid (Hgood2.out hr (by simpa using hq))
 obtain ⟨r5, r6⟩ := Ly.right_ok hr
 clear hr hq
 have H34 := Lib.hid h34
 have Heq4 := Lib.hid heq4
 clear h34 heq4
 go_wp2_with fail
 refine (Heq4.out).mono ?_
 rintro e w5 ⟨rfl, q5, rfl⟩
 have h35 := H34.out.drewN q5
 clear g0' o0' Heq4 Heq Hrg H34 Hbad2 Hgood2
 generalize w4.drewN q5 = w5 at *
 have h05 := H02.out.trans h35
 have hz5 := h35.blk Hz2.out
 have hkg5 := h35.blk Hkg2.out
 have g0 : w5.cell? ⟨w.heap.size + 2, 0, none⟩ = some (.slice GS g.s.length gc) := hkg5.cell 0
 have g1 : w5.cell? ⟨w.heap.size + 2, 1, none⟩ = some (.slice GC g.c.length gd) := hkg5.cell 1
 have hcc := fun (V : World) (h : Later w5 V) => tensor_copy GS GC gc gd g V (by omega) (by omega) (Hg.out.later (h05.trans h)).r
 have hs5 := h05.size
 have hz5l := hz5.lt
 clear h35 Hko HOt
 have H05 := Lib.hid h05
 have Hz5 := Lib.hid hz5
 have Hkg5 := Lib.hid hkg5
 have Hcc := Lib.hid hcc
 clear h05 hz5 hkg5 hcc
 go_wp2_with fail
 have KF := Lib.hid (show ∀ Xw, Later w5 Xw → Xw.cell? ⟨w.heap.size + 2, 0, none⟩ = some (.slice GS g.s.length gc) ∧ Xw.cell? ⟨w.heap.size + 2, 1, none⟩ = some (.slice GC g.c.length gd) from fun Xw h => ⟨h.cell g0, h.cell g1⟩)
 refine wp_region_noPanic ?_
 refine wp_region_held_drew (S := fun Xw => Xw.cell? ⟨w.heap.size + 2, 0, none⟩ = some (.slice GS g.s.length gc) ∧ Xw.cell? ⟨w.heap.size + 2, 1, none⟩ = some (.slice GC g.c.length gd)) (by kernel_rfl) (KF.out _ Later.au) (fun hHeld => ?_)
 refine tk 0 ?_
 refine tk 3 ?_
 refine rd 1 fun K hK => ?_
 simp only [ga, gs, gz]
 go_simp
 go_at_call 52; (with_reducible refine (Hcc.out _ (Later.au : Later w5 _)).mono ?_); rintro e wa ⟨v, rfl, hN, hba⟩
 have hO1 := hN.o (B := w5.heap.size) (by omega) (by omega) Hg.out.num
 obtain ⟨g0', h0', rfl, -, -, -, -⟩ := hN
 have HO1 := Lib.hid hO1
 clear hO1
 try go_wp2_with fail
 refine hK.out _ _ (KF.out _ Later.au) (fun hHeld => ?_)
 clear hK K
 try simp only [ga, gs, gz, Act.put, sa, sz, ss]
 refine wpAnyH_ready (rs := [2, 4]) (by kernel_rfl) (by simp) ?_
 refine AllReadyH.cons (o := _) rfl (fun K hK => ?_) (AllReadyH.cons (o := _) rfl (fun K hK => ?_) (AllReadyH.nil))
 ·simp only [ga, gs, gz]
  go_simp
  refine hK.out _ _ (KF.out _ Later.au) (fun hHeld => ?_)
  clear hK K
  try simp only [ga, gs, gz, Act.put, sa, sz, ss]
  refine rd 4 fun K hK => ?_
  simp only [ga, gs, gz]
  go_simp
  go_at_call 52; (with_reducible refine (Hcc.out _ (Later.au : Later w5 _)).mono ?_); rintro e wb ⟨v, rfl, hN, hbb⟩
  have lA : Later w5 wa := (Later.au : Later w5 wa)
  have lB : Later wa wb := (Later.au : Later wa wb)
  have sA := lA.size
  have sB := lB.size
  have hO2 := hN.o (by omega) (by omega) Hg.out.num
  obtain ⟨g1', h1', rfl, -, -, -, -⟩ := hN
  have HO2 := Lib.hid hO2
  have hz7 := (lA.trans lB).blk Hz5.out
  have c0 := hz7.cell 0
  have c1 := hz7.cell 1
  have f0 := hz7.frozen 0
  have f1 := hz7.frozen 1
  simp at c0 c1
  have ya := hz7.alloc (.cells #[.slice (some ⟨g1', 0, none⟩) g.s.length g.s.length, .slice (some ⟨h1', 0, none⟩) g.c.length g.c.length] 30)
  have ca0 := ya.cell 0
  have ca1 := ya.cell 1
  have fa0 := ya.frozen 0
  have fa1 := ya.frozen 1
  simp at ca0 ca1
  clear ya
  have Hz7 := Lib.hid hz7
  have HlA := Lib.hid lA
  have HlB := Lib.hid lB
  clear hO2 hz7 lA lB
  try go_wp2_with fail
  refine hK.out _ _ (KF.out _ Later.au) (fun hHeld => ?_)
  clear hK K
  try simp only [ga, gs, gz, Act.put, sa, sz, ss]
  refine rd 5 fun K hK => ?_
  simp only [ga, gs, gz]
  go_simp
  refine hK.out _ _ (KF.out _ Later.au) (fun hHeld => ?_)
  clear hK K
  try simp only [ga, gs, gz, Act.put, sa, sz, ss]
  refine tk 6 ?_
  refine rd 7 fun K hK => ?_
  simp only [ga, gs, gz]
  go_simp
  refine hK.out _ _ ?_ (fun hHeld => ?_)
  ·(try dsimp only); (refine ⟨?_, ?_⟩ <;> (repeat (refine cell_setfar ?_ (by first | omega | (simp; done) | (simp; omega)))) <;> (refine Later.cell (Later.au : Later w5 _) ?_) <;> assumption)
  clear hK K
  try simp only [ga, gs, gz, Act.put, sa, sz, ss]
  refine tk 8 ?_
  clear KF
  refine wpAnyH_done (by kernel_rfl) ?_ _
  refine NoPanic.normal ?_
  have hX : Later wb (wb.alloc (.cells #[.slice (some ⟨g1', 0, none⟩) g.s.length g.s.length, .slice (some ⟨h1', 0, none⟩) g.c.length g.c.length] 30)) := Later.au
  have hz9 := hX.blk Hz7.out
  have hw9 := H05.out.trans (HlA.out.trans (HlB.out.trans hX))
  have hfin := fun (u u2 : Value) => bb_fin (p1 := wa.heap.size) (p2 := wb.heap.size) HE.out hw9 ((HO1.out.base hs5).later (HlB.out.trans hX)) ((HO2.out.base (by first | omega | (simp; omega))).later hX) (hX.blk ((show Later (wa.alloc (.cells #[.slice (some ⟨g0', 0, none⟩) g.s.length g.s.length, .slice (some ⟨h0', 0, none⟩) g.c.length g.c.length] 30)) wb from hbb).blk (Blk.new wa _ _))) (Blk.new wb _ _) hz9 (by omega) (by omega) (by omega) u u2
  have hz8 := (hz9.set_ 0 (.slice (some ⟨wa.heap.size, 0, none⟩) 1 1)).set_ 1 (.slice (some ⟨wb.heap.size, 0, none⟩) 1 1)
  have d0 := hz8.cell 0
  have d1 := hz8.cell 1
  simp at d0 d1
  clear hHeld g0 g1 hX hz9 hw9 hz8
  have Hfin := Lib.hid hfin
  clear hfin
  go_wp2_with fail
  refine bodyPost_ret (v := .tuple #[.agg #[.slice (some ⟨wa.heap.size, 0, none⟩) 1 1, .slice (some ⟨wb.heap.size, 0, none⟩) 1 1], .int .i64 0]) (by simp [results, Tryz.results46, go_sem, d0, d1]) rfl ?_
  exact Hfin.out _ _
 ·simp only [ga, gs, gz]
  go_simp
  go_at_call 52; (with_reducible refine (Hcc.out _ (Later.au : Later w5 _)).mono ?_); rintro e wb ⟨v, rfl, hN, hbb⟩
  have lA : Later w5 wa := (Later.au : Later w5 wa)
  have lB : Later wa wb := (Later.au : Later wa wb)
  have sA := lA.size
  have sB := lB.size
  have hO2 := hN.o (by omega) (by omega) Hg.out.num
  obtain ⟨g1', h1', rfl, -, -, -, -⟩ := hN
  have HO2 := Lib.hid hO2
  have hz7 := (lA.trans lB).blk Hz5.out
  have c0 := hz7.cell 0
  have c1 := hz7.cell 1
  have f0 := hz7.frozen 0
  have f1 := hz7.frozen 1
  simp at c0 c1
  have ya := hz7.alloc (.cells #[.slice (some ⟨g1', 0, none⟩) g.s.length g.s.length, .slice (some ⟨h1', 0, none⟩) g.c.length g.c.length] 30)
  have ca0 := ya.cell 0
  have ca1 := ya.cell 1
  have fa0 := ya.frozen 0
  have fa1 := ya.frozen 1
  simp at ca0 ca1
  clear ya
  have yb := hz7.alloc (.cells #[.slice (some ⟨g0', 0, none⟩) g.s.length g.s.length, .slice (some ⟨h0', 0, none⟩) g.c.length g.c.length] 30)
  have cb0 := yb.cell 0
  have cb1 := yb.cell 1
  have fb0 := yb.frozen 0
  have fb1 := yb.frozen 1
  simp at cb0 cb1
  clear yb
  have yc := (hz7.alloc (.cells #[.slice (some ⟨g0', 0, none⟩) g.s.length g.s.length, .slice (some ⟨h0', 0, none⟩) g.c.length g.c.length] 30)).alloc (.cells #[.slice (some ⟨g1', 0, none⟩) g.s.length g.s.length, .slice (some ⟨h1', 0, none⟩) g.c.length g.c.length] 30)
  have cc0 := yc.cell 0
  have cc1 := yc.cell 1
  have fc0 := yc.frozen 0
  have fc1 := yc.frozen 1
  simp at cc0 cc1
  clear yc
  have yd := (hz7.alloc (.cells #[.slice (some ⟨g1', 0, none⟩) g.s.length g.s.length, .slice (some ⟨h1', 0, none⟩) g.c.length g.c.length] 30)).alloc (.cells #[.slice (some ⟨g0', 0, none⟩) g.s.length g.s.length, .slice (some ⟨h0', 0, none⟩) g.c.length g.c.length] 30)
  have cd0 := yd.cell 0
  have cd1 := yd.cell 1
  have fd0 := yd.frozen 0
  have fd1 := yd.frozen 1
  simp at cd0 cd1
  clear yd
  have Hz7 := Lib.hid hz7
  have HlA := Lib.hid lA
  have HlB := Lib.hid lB
  clear hO2 hz7 lA lB
  try go_wp2_with fail
  refine hK.out _ _ (KF.out _ Later.au) (fun hHeld => ?_)
  clear hK K
  try simp only [ga, gs, gz, Act.put, sa, sz, ss]
  refine wpAnyH_ready (rs := [2, 5]) (by kernel_rfl) (by simp) ?_
  refine AllReadyH.cons (o := _) rfl (fun K hK => ?_) (AllReadyH.cons (o := _) rfl (fun K hK => ?_) (AllReadyH.nil))
  ·simp only [ga, gs, gz]
   go_simp
   refine hK.out _ _ (KF.out _ Later.au) (fun hHeld => ?_)
   clear hK K
   try simp only [ga, gs, gz, Act.put, sa, sz, ss]
   refine rd 5 fun K hK => ?_
   simp only [ga, gs, gz]
   go_simp
   refine hK.out _ _ (KF.out _ Later.au) (fun hHeld => ?_)
   clear hK K
   try simp only [ga, gs, gz, Act.put, sa, sz, ss]
   refine tk 6 ?_
   refine rd 7 fun K hK => ?_
   simp only [ga, gs, gz]
   go_simp
   refine hK.out _ _ ?_ (fun hHeld => ?_)
   ·(try dsimp only); (refine ⟨?_, ?_⟩ <;> (repeat (refine cell_setfar ?_ (by first | omega | (simp; done) | (simp; omega)))) <;> (refine Later.cell (Later.au : Later w5 _) ?_) <;> assumption)
   clear hK K
   try simp only [ga, gs, gz, Act.put, sa, sz, ss]
   refine tk 8 ?_
   clear KF
   refine wpAnyH_done (by kernel_rfl) ?_ _
   refine NoPanic.normal ?_
   have hX : Later wb ((wb.alloc (.cells #[.slice (some ⟨g0', 0, none⟩) g.s.length g.s.length, .slice (some ⟨h0', 0, none⟩) g.c.length g.c.length] 30)).alloc (.cells #[.slice (some ⟨g1', 0, none⟩) g.s.length g.s.length, .slice (some ⟨h1', 0, none⟩) g.c.length g.c.length] 30)) := Later.au
   have hz9 := hX.blk Hz7.out
   have hw9 := H05.out.trans (HlA.out.trans (HlB.out.trans hX))
   have hfin := fun (u u2 : Value) => bb_fin (p1 := wb.heap.size) (p2 := (wb.heap.size + 1)) HE.out hw9 ((HO1.out.base hs5).later (HlB.out.trans hX)) ((HO2.out.base (by first | omega | (simp; omega))).later hX) ((Blk.new wb _ _).alloc _) (by have := Blk.new (wb.alloc (.cells #[.slice (some ⟨g0', 0, none⟩) g.s.length g.s.length, .slice (some ⟨h0', 0, none⟩) g.c.length g.c.length] 30)) 30 #[.slice (some ⟨g1', 0, none⟩) g.s.length g.s.length, .slice (some ⟨h1', 0, none⟩) g.c.length g.c.length]; rwa [World.size_alloc] at this) hz9 (by omega) (by omega) (by omega) u u2
   have hz8 := (hz9.set_ 0 (.slice (some ⟨wb.heap.size, 0, none⟩) 1 1)).set_ 1 (.slice (some ⟨(wb.heap.size + 1), 0, none⟩) 1 1)
   have d0 := hz8.cell 0
   have d1 := hz8.cell 1
   simp at d0 d1
   clear hHeld g0 g1 hX hz9 hw9 hz8
   have Hfin := Lib.hid hfin
   clear hfin
   go_wp2_with fail
   refine bodyPost_ret (v := .tuple #[.agg #[.slice (some ⟨wb.heap.size, 0, none⟩) 1 1, .slice (some ⟨(wb.heap.size + 1), 0, none⟩) 1 1], .int .i64 0]) (by simp [results, Tryz.results46, go_sem, d0, d1]) rfl ?_
   exact Hfin.out _ _
  ·simp only [ga, gs, gz]
   go_simp
   refine hK.out _ _ (KF.out _ Later.au) (fun hHeld => ?_)
   clear hK K
   try simp only [ga, gs, gz, Act.put, sa, sz, ss]
   refine rd 2 fun K hK => ?_
   simp only [ga, gs, gz]
   go_simp
   refine hK.out _ _ (KF.out _ Later.au) (fun hHeld => ?_)
   clear hK K
   try simp only [ga, gs, gz, Act.put, sa, sz, ss]
   refine tk 6 ?_
   refine rd 7 fun K hK => ?_
   simp only [ga, gs, gz]
   go_simp
   refine hK.out _ _ ?_ (fun hHeld => ?_)
   ·(try dsimp only); (refine ⟨?_, ?_⟩ <;> (repeat (refine cell_setfar ?_ (by first | omega | (simp; done) | (simp; omega)))) <;> (refine Later.cell (Later.au : Later w5 _) ?_) <;> assumption)
   clear hK K
   try simp only [ga, gs, gz, Act.put, sa, sz, ss]
   refine tk 8 ?_
   clear KF
   refine wpAnyH_done (by kernel_rfl) ?_ _
   refine NoPanic.normal ?_
   have hX : Later wb ((wb.alloc (.cells #[.slice (some ⟨g1', 0, none⟩) g.s.length g.s.length, .slice (some ⟨h1', 0, none⟩) g.c.length g.c.length] 30)).alloc (.cells #[.slice (some ⟨g0', 0, none⟩) g.s.length g.s.length, .slice (some ⟨h0', 0, none⟩) g.c.length g.c.length] 30)) := Later.au
   have hz9 := hX.blk Hz7.out
   have hw9 := H05.out.trans (HlA.out.trans (HlB.out.trans hX))
   have hfin := fun (u u2 : Value) => bb_fin (p1 := (wb.heap.size + 1)) (p2 := wb.heap.size) HE.out hw9 ((HO1.out.base hs5).later (HlB.out.trans hX)) ((HO2.out.base (by first | omega | (simp; omega))).later hX) (by have := Blk.new (wb.alloc (.cells #[.slice (some ⟨g1', 0, none⟩) g.s.length g.s.length, .slice (some ⟨h1', 0, none⟩) g.c.length g.c.length] 30)) 30 #[.slice (some ⟨g0', 0, none⟩) g.s.length g.s.length, .slice (some ⟨h0', 0, none⟩) g.c.length g.c.length]; rwa [World.size_alloc] at this) ((Blk.new wb _ _).alloc _) hz9 (by omega) (by omega) (by omega) u u2
   have hz8 := (hz9.set_ 0 (.slice (some ⟨(wb.heap.size + 1), 0, none⟩) 1 1)).set_ 1 (.slice (some ⟨wb.heap.size, 0, none⟩) 1 1)
   have d0 := hz8.cell 0
   have d1 := hz8.cell 1
   simp at d0 d1
   clear hHeld g0 g1 hX hz9 hw9 hz8
   have Hfin := Lib.hid hfin
   clear hfin
   go_wp2_with fail
   refine bodyPost_ret (v := .tuple #[.agg #[.slice (some ⟨(wb.heap.size + 1), 0, none⟩) 1 1, .slice (some ⟨wb.heap.size, 0, none⟩) 1 1], .int .i64 0]) (by simp [results, Tryz.results46, go_sem, d0, d1]) rfl ?_
   exact Hfin.out _ _
end Go.Proofs.YtbnnpkcfifejmaaGreat
namespace Go.Proofs.YtbnnpkcfifejmaaGreat
open Go.RowKit
theorem splice_map (f : Int → Value) (L l : List Int) (o : Nat) : splice (L.map f) o (l.map f) = (splice L o l).map f := by
 simp [splice, List.map_append, List.map_take, List.map_drop]
theorem step_copy_else {P : Program} {ops : Array Oper} {o : Oper} {a : Act} {w : World} {K : Act → World → Prop} {Q : Exit → Act → World → Prop} {E : Prop} (hgd : o.guard = none) (d s : Operand) (dT sT : TypeId)
  (ho : o.op = .call { callee := .builtin .copy, args := #[d, s], argTypes := #[dT, sT] }) (elem : TypeId) (hu : P.underlying dT = some (.slice elem)) (hsz : (P.info? elem).map (·.size) = some 1)
  (g off dLen dCap : Nat) (ad : Addr) (sLen sCap : Nat) (hd : a.eval d = .slice (some ⟨g, off, none⟩) dLen dCap) (hs : a.eval s = .slice (some ad) sLen sCap)
  (cur l : List Int) (t : TypeId) (hk : Blk w g t (cur.map (Value.int .i64)).toArray) (hn : l.length = Nat.min sLen dLen)
  (hsrc : ∀ j (hj : j < l.length), w.cell? (ad.add j) = some (.int .i64 l[j])) (hfit : off + l.length ≤ cur.length)
  (h : ∀ w', Blk w' g t ((splice cur off l).map (Value.int .i64)).toArray → Else g w w' → K (a.put o.dst (goInt l.length)) w') :
  if Region.wanted o (yielded ops a.tmps) = true then Oper.wp P o a w K Q else E := by
 have hw : Region.wanted o (yielded ops a.tmps) = true := by simp [Region.wanted, hgd]
 rw [if_pos hw]
 have hrun := run_copy_row (P := P) w dT sT o.type elem g off dLen dCap ad sLen sCap (cur.map (Value.int .i64)).toArray t (l.map (Value.int .i64)) hu hsz hk (by simpa using hn)
  (fun j v hj => by
   rw [List.getElem?_map] at hj
   cases hq : l[j]? with
   | none => rw [hq] at hj; simp at hj
   | some z =>
    rw [hq] at hj
    simp at hj
    subst hj
    obtain ⟨hjl, hz⟩ := List.getElem?_eq_some_iff.1 hq
    rw [hsrc j hjl, hz]) (by simpa using hfit) (fun v hv => by obtain ⟨z, _, rfl⟩ := List.mem_map.1 hv; rfl)
 unfold Oper.wp
 simp [execOp, ho, resolve, invoke, builtin, hd, hs, hrun, Result.andThen]
 refine h _ ?_ ⟨fun k hk2 => setRow_other w g k _ hk2, by simp [World.setRow], below_setRow (Below.refl _ _) (Nat.le_refl _) _⟩
 rw [← splice_map]
 show _ = _
 simpa [splice] using setRow_heap w g _ _ t _ hk
end Go.Proofs.YtbnnpkcfifejmaaGreat
namespace Go.Proofs.YtbnnpkcfifejmaaGreat
open Go.RowKit
structure PbI (t : TypeId) (w : World) (q h gg : Nat) (bx bg bb : Array Value) (sh acc : List Int) (wx : World) : Prop where
 own : Blk wx h 22 (acc.map (Value.int .i64)).toArray
 shp : Blk wx gg 3 (sh.map (Value.int .i64)).toArray
 box : Blk wx q t bb
 bx : Blk wx w.heap.size t bx
 bg : Blk wx (w.heap.size + 1) t bg
 bz : Blk wx (w.heap.size + 2) t #[.slice none 0 0, .slice none 0 0]
 lo : gg ≠ h ∧ q ≠ h ∧ w.heap.size + 2 < h ∧ w.heap.size ≤ gg
 later : Later w wx
theorem PbI.to {t : TypeId} {w wx wy : World} {q h gg : Nat} {bx bg bb : Array Value} {sh acc : List Int} (H : PbI t w q h gg bx bg bb sh acc wx) (hl : Later wx wy) : PbI t w q h gg bx bg bb sh acc wy :=
 ⟨hl.blk H.own, hl.blk H.shp, hl.blk H.box, hl.blk H.bx, hl.blk H.bg, hl.blk H.bz, H.lo, H.later.trans hl⟩
theorem PbI.else_ {t : TypeId} {w wx wy : World} {q h gg : Nat} {bx bg bb : Array Value} {sh acc acc' : List Int} (H : PbI t w q h gg bx bg bb sh acc wx) (hE : Else h wx wy) (hb : Blk wy h 22 (acc'.map (Value.int .i64)).toArray) : PbI t w q h gg bx bg bb sh acc' wy := by
 obtain ⟨l0, l1, l2, l3⟩ := H.lo
 exact ⟨hb, hE.blk l0 H.shp, hE.blk l1 H.box, hE.blk (by omega) H.bx, hE.blk (by omega) H.bg, hE.blk (by omega) H.bz, H.lo, hE.below H.later (by omega)⟩
theorem PbI.put {t : TypeId} {w wx : World} {q h gg : Nat} {bx bg bb : Array Value} {sh acc : List Int} (H : PbI t w q h gg bx bg bb sh acc wx) (k : Nat) (z : Int) : PbI t w q h gg bx bg bb sh (acc.set k z) (wx.setCell ⟨h, k, none⟩ (.int .i64 z)) :=
 H.else_ ((Else.refl _ _).setCell k _) (by have := H.own.set_ k (.int .i64 z); rw [List.map_set]; simpa using this)
theorem PbI.done {t : TypeId} {r : Ten × Int} {w wx : World} {q h gg n : Nat} {bx bg bb : Array Value} {sh acc : List Int} (H : PbI t w q h gg bx bg bb sh acc wx) (hr : r = (⟨sh, acc⟩, 0)) (hn : acc.length = n) (l1 : sh.length ≤ 1048576) (l2 : acc.length ≤ 1048576) (hi : ∀ z ∈ acc, Fx.In z) (u u2 : Value) :
  GoP r w (.returned (.tuple #[.agg #[.slice (some ⟨gg, 0, none⟩) sh.length sh.length, .slice (some ⟨h, 0, none⟩) n n], .int .i64 0])) ((wx.setCell ⟨w.heap.size + 2, 0, none⟩ u).setCell ⟨w.heap.size + 2, 1, none⟩ u2) := by
 subst hn
 obtain ⟨m0, m1, m2, m3⟩ := H.lo
 exact GoP.ok hr ((teno_of H.shp H.own m3 (by omega) l1 l2 hi rfl).box H.bz) ((H.later.set (p := ⟨w.heap.size + 2, 0, none⟩) (by simp) _).set (p := ⟨w.heap.size + 2, 1, none⟩) (by simp) _)
end Go.Proofs.YtbnnpkcfifejmaaGreat
namespace Go.Proofs.YtbnnpkcfifejmaaGreat
open Go.RowKit
namespace Ly
theorem pback_err {top : Bool} {x g : Ten} {width step : Int} (h : poolErr x width step ≠ 0) : poolBack top x g width step = (none_, poolErr x width step) := by unfold poolBack; rw [if_neg h]
theorem pback_bad {top : Bool} {x g : Ten} {width step : Int} (h : poolErr x width step = 0) (hg : (Tn.right g && decide (g.s = poolS x width step)) = false) : poolBack top x g width step = (none_, 20) := by unfold poolBack; rw [if_pos h, if_neg (by simp [hg])]
theorem pback_ok {top : Bool} {x g : Ten} {width step : Int} (h : poolErr x width step = 0) (hg : (Tn.right g && decide (g.s = poolS x width step)) = true) : poolBack top x g width step = (⟨x.s, poolX top x.c g.c (lastOf x.s) (lastOf (poolS x width step)) width step.toNat g.c.length⟩, 0) := by unfold poolBack; rw [if_pos h, if_pos hg]
theorem addRow_facts {l : List Int} (hl : ∀ z ∈ l, Fx.In z) (a : Nat) {v : Int} (hv : Fx.In v) : ∀ k, (addRow l a v k).length = l.length ∧ ∀ z ∈ addRow l a v k, Fx.In z
 | 0 => ⟨rfl, hl⟩
 | k + 1 => by
  obtain ⟨h1, h2⟩ := addRow_facts hl a hv k
  exact ⟨by show (addAt _ _ _).length = _; rw [addAt_len, h1], addAt_in h2 hv⟩
theorem poolX_facts {top : Bool} {x g : List Int} (hg : ∀ z ∈ g, Fx.In z) (sd n : Nat) (width : Int) (st : Nat) : ∀ k, (poolX top x g sd n width st k).length = x.length ∧ ∀ z ∈ poolX top x g sd n width st k, Fx.In z
 | 0 => ⟨by simp [poolX, zeros], zeros_in _⟩
 | k + 1 => by
  obtain ⟨h1, h2⟩ := poolX_facts (top := top) (x := x) hg sd n width st k
  have hv : Fx.In (at_ g k) := by
   unfold at_
   rw [List.getD_eq_getElem?_getD]
   cases h : g[k]? with
   | none => unfold Fx.In; simp
   | some z => exact hg z (List.mem_of_getElem? h)
  show (poolStep _ _ _ _ _ _ _ _ _).length = _ ∧ ∀ z ∈ poolStep _ _ _ _ _ _ _ _ _, Fx.In z
  unfold poolStep
  split
  ·exact ⟨by rw [addAt_len, h1], addAt_in h2 hv⟩
  ·have := addRow_facts h2 (from_ sd n st k) (Fx.div_in (at_ g k) (width * 4294967296)) width.toNat
   exact ⟨by rw [this.1, h1], this.2⟩
end Ly
set_option maxHeartbeats 16000000 in
set_option maxRecDepth 20000 in
theorem pool_back (top : Bool) (kind : Int) (S C GS GC : Option Addr) (c d gc gd : Nat) (x g : Ten) (width step : Int) (w : World) (hkt : (kind = 1 ∧ top = true) ∨ (kind = 2 ∧ top = false)) (hx : TenIn w S C c d x) (hg : TenIn w GS GC gc gd g) :
  Calls Tryz.prog 14 #[.int .i64 kind, .agg #[.slice S x.s.length c, .slice C x.c.length d], .agg #[.slice GS g.s.length gc, .slice GC g.c.length gd], .int .i64 width, .int .i64 step] w (GoP (Ly.poolBack top x g width step) w) := by
 obtain ⟨hkx, hkg, hz, h01⟩ := three_boxes w 30 30 30 #[.slice S x.s.length c, .slice C x.c.length d] #[.slice GS g.s.length gc, .slice GC g.c.length gd] #[.slice none 0 0, .slice none 0 0]
 have Hkx := Lib.hid hkx
 have Hkg := Lib.hid hkg
 have Hz := Lib.hid hz
 have H01 := Lib.hid h01
 have Hx := Lib.hid hx
 have Hg := Lib.hid hg
 have Hkt := Lib.hid hkt
 clear hkx hkg hz h01 hx hg hkt
 go_enter Tryz.func14, Tryz.ntmps14
 go_wp2_with fail
 generalize ((w.alloc (.cells #[.slice S x.s.length c, .slice C x.c.length d] 30)).alloc (.cells #[.slice GS g.s.length gc, .slice GC g.c.length gd] 30)).alloc (.cells #[.slice none 0 0, .slice none 0 0] 30) = w1 at *
 refine (pool_agree kind S C c d x width step w1 (by rcases Hkt.out with h | h <;> omega) (Hx.out.later H01.out)).mono ?_
 rintro e w2 ⟨A, ac, rfl, hI, hc1, hc2, hf, hb2⟩
 have h12 : Later w1 w2 := hb2
 have h02 := H01.out.trans h12
 have hz2 := h12.blk Hz.out
 have hkx2 := h12.blk Hkx.out
 have hkg2 := h12.blk Hkg.out
 clear hb2 Hz H01 Hkx Hkg h12 hf
 rw [Ly.poolR_err]
 by_cases hg0 : Ly.poolErr x width step = 0
 case neg =>
  have HE := Lib.hid (Ly.pback_err (top := top) (g := g) hg0)
  have d1 : (Ly.poolErr x width step == 0) = false := by simpa using hg0
  have d2 : (Ly.poolErr x width step != 0) = true := by simpa using hg0
  have Hg0 := Lib.hid hg0
  clear hg0
  generalize Ly.poolErr x width step = er at *
  generalize (Ly.poolR x width step).1.length = sl at *
  have c0 := hz2.cell 0
  have c1 := hz2.cell 1
  have f0 := hz2.frozen 0
  have f1 := hz2.frozen 1
  simp at c0 c1
  have H02 := Lib.hid h02
  have Hz2 := Lib.hid hz2
  have Hkx2 := Lib.hid hkx2
  have Hkg2 := Lib.hid hkg2
  have HI := Lib.hid hI
  clear h02 hz2 hkx2 hkg2 hI
  go_wp2_with fail
  refine bodyPost_ret (v := .tuple #[.agg #[.slice none 0 0, .slice none 0 0], .int .i64 er]) (by simp [results, Tryz.results14, go_sem, c0, c1]) rfl ?_
  exact GoP.fail HE.out Hg0.out ((H02.out.set (p := ⟨w.heap.size + 2, 0, none⟩) (by simp) _).set (p := ⟨w.heap.size + 2, 1, none⟩) (by simp) _)
 obtain ⟨sd, n, wd, st, pre, h1, h2, h3, h4, rfl, rfl, h5, h6, h7, h8, h9, h10, h11, h12, h13, h14, h15, h16, h17, h18, h19, h20, h21, h22⟩ := Ly.pool_facts hg0
 have hbad := fun h => Ly.pback_bad (top := top) (g := g) hg0 h
 have hgood := fun h => Ly.pback_ok (top := top) (g := g) hg0 h
 rw [hg0]
 rw [h21] at hI hc1 ⊢
 rw [h1, h3, Int.toNat_natCast] at hgood
 generalize Ly.poolS x wd st = os at *
 have hol : os.length ≤ 4 := by omega
 have hol1 : 1 ≤ os.length := by omega
 have H1 := Lib.hid h1
 have H2 := Lib.hid h2
 have H3 := Lib.hid h3
 have H4 := Lib.hid h4
 have H10 := Lib.hid h10
 have H11 := Lib.hid h11
 have H12 := Lib.hid h12
 have H15 := Lib.hid h15
 have H21 := Lib.hid h21
 have H22 := Lib.hid h22
 clear h1 h2 h3 h4 h10 h11 h12 h15 h21 h22
 have g0 : w2.cell? ⟨w.heap.size + 1, 0, none⟩ = _ := hkg2.cell 0
 have g1 : w2.cell? ⟨w.heap.size + 1, 1, none⟩ = _ := hkg2.cell 1
 simp at g0 g1
 have hgl1 := Hg.out.l1
 have hgl2 := Hg.out.l2
 have hrg := tensor_right GS GC gc gd g w2 (by omega) (by omega) (Hg.out.later h02).r.1
 have heq := fun (V : World) (h : Later w2 V) => shape_equal GS A gc ac g.s os V (by omega) (by omega) (Hg.out.later (h02.trans h)).r.1 (hI.below h (Nat.le_refl _))
 clear hg0
 have H02 := Lib.hid h02
 have Hz2 := Lib.hid hz2
 have Hkx2 := Lib.hid hkx2
 have Hkg2 := Lib.hid hkg2
 have HI := Lib.hid hI
 have Hbad := Lib.hid hbad
 have Hgood := Lib.hid hgood
 have Hrg := Lib.hid hrg
 have Heq := Lib.hid heq
 clear h02 hz2 hkx2 hkg2 hI hbad hgood hrg heq
 have hfail : ∀ wf, Later w2 wf → (Tn.right g && decide (g.s = os)) = false → True := fun _ _ _ => trivial
 clear hfail
 cases hr : Tn.right g
 ·have HE := Lib.hid (Hbad.out (by rw [hr]; rfl))
  rw [hr] at Hrg
  go_wp2_with fail
  refine (Hrg.out).mono ?_
  rintro e w3 ⟨rfl, hb3⟩
  have h23 : Later w2 w3 := hb3
  have hz3 := h23.blk Hz2.out
  have h03 := H02.out.trans h23
  have c0 := hz3.cell 0
  have c1 := hz3.cell 1
  have f0 := hz3.frozen 0
  have f1 := hz3.frozen 1
  simp at c0 c1
  clear g0 g1 hb3
  have H23 := Lib.hid h23
  have Hz3 := Lib.hid hz3
  have H03 := Lib.hid h03
  clear h23 hz3 h03
  go_wp2_with fail
  refine bodyPost_ret (v := .tuple #[.agg #[.slice none 0 0, .slice none 0 0], .int .i64 20]) (by simp [results, Tryz.results14, go_sem, c0, c1]) rfl ?_
  exact GoP.fail HE.out (by decide) ((H03.out.set (p := ⟨w.heap.size + 2, 0, none⟩) (by simp) _).set (p := ⟨w.heap.size + 2, 1, none⟩) (by simp) _)
 rw [hr] at Hrg
 go_wp2_with fail
 refine (Hrg.out).mono ?_
 rintro e w3 ⟨rfl, hb3⟩
 have h23 : Later w2 w3 := hb3
 have g0' := h23.cell g0
 clear hb3 g0 g1
 have heq3 := Heq.out _ h23
 cases hq : (g.s == os)
 ·have HE := Lib.hid (Hbad.out (by rw [hr]; simpa using hq))
  rw [hq] at heq3
  have H23 := Lib.hid h23
  have Heq3 := Lib.hid heq3
  clear h23 heq3
  go_wp2_with fail
  refine (Heq3.out).mono ?_
  rintro e w4 ⟨rfl, q4, rfl⟩
  have hz3 := (H23.out.drewN q4).blk Hz2.out
  have h03 := (H02.out.trans H23.out).drewN q4
  have c0 := hz3.cell 0
  have c1 := hz3.cell 1
  have f0 := hz3.frozen 0
  have f1 := hz3.frozen 1
  simp at c0 c1
  clear g0'
  have Hz3 := Lib.hid hz3
  have H03 := Lib.hid h03
  clear hz3 h03
  go_wp2_with fail
  refine bodyPost_ret (v := .tuple #[.agg #[.slice none 0 0, .slice none 0 0], .int .i64 20]) (by simp [results, Tryz.results14, go_sem, c0, c1]) rfl ?_
  exact GoP.fail HE.out (by decide) ((H03.out.set (p := ⟨w.heap.size + 2, 0, none⟩) (by simp) _).set (p := ⟨w.heap.size + 2, 1, none⟩) (by simp) _)
 have HE := Lib.hid (Hgood.out (by rw [hr]; simpa using hq))
 rw [hq] at heq3
 have hgs : g.s = os := by simpa using hq
 have hgl : g.c.length = pre * n := by
  have h0 : (g.c.length : Int) = Safe.prod g.s := by have := hr; simp only [Tn.right, Bool.and_eq_true, decide_eq_true_eq] at this; exact this.2
  rw [hgs, H22.out] at h0
  exact Int.ofNat.inj h0
 have H23 := Lib.hid h23
 have Heq3 := Lib.hid heq3
 have Hgl := Lib.hid hgl
 have Hgs := Lib.hid hgs
 clear h23 heq3 hgl hgs
 clear Hbad Hgood hq hr
 go_wp2_with fail
 refine (Heq3.out).mono ?_
 rintro e w4 ⟨rfl, q4, rfl⟩
 have h24 := H23.out.drewN q4
 clear g0' Heq3 Heq Hrg H23
 generalize w3.drewN q4 = w4 at *
 have h04 := H02.out.trans h24
 have hkx4 := h24.blk Hkx2.out
 have hkg4 := h24.blk Hkg2.out
 have hz4 := h24.blk Hz2.out
 have hI4 := HI.out.below h24 (Nat.le_refl _)
 clear h24 H02 Hkx2 Hkg2 Hz2 HI
 have b0 : w4.cell? ⟨w.heap.size, 0, none⟩ = _ := hkx4.cell 0
 have b1 : w4.cell? ⟨w.heap.size, 1, none⟩ = _ := hkx4.cell 1
 simp at b0 b1
 have H04 := Lib.hid h04
 have Hkx4 := Lib.hid hkx4
 have Hkg4 := Lib.hid hkg4
 have Hz4 := Lib.hid hz4
 have HI4 := Lib.hid hI4
 clear h04 hkx4 hkg4 hz4 hI4
 go_wp2_with fail
 refine (tensor_copy S C c d x w4 (by omega) (by omega) (Hx.out.later H04.out).r).mono ?_
 rintro e w5 ⟨v, rfl, ⟨gg, h, rfl, hgg, hh, hG, hH⟩, hb5⟩
 have h45 : Later w4 w5 := hb5
 have h5a : Later w5 (w5.alloc (.cells #[.slice (some ⟨gg, 0, none⟩) x.s.length x.s.length, .slice (some ⟨h, 0, none⟩) x.c.length x.c.length] 30)) := (Later.refl w5).alloc _
 have ho := Blk.new w5 30 #[.slice (some ⟨gg, 0, none⟩) x.s.length x.s.length, .slice (some ⟨h, 0, none⟩) x.c.length x.c.length]
 have h46 := h45.trans h5a
 have h06 := H04.out.trans h46
 have hkx6 := h46.blk Hkx4.out
 have hkg6 := h46.blk Hkg4.out
 have hz6 := h46.blk Hz4.out
 have HI4b := HI4
 have hI6 := HI4.out.below h46 (Nat.le_refl _)
 have hG6 := h5a.blk hG
 have hH6 := h5a.blk hH
 have hzl := Hz4.out.lt
 have hgne := rows_apart hG hH
 have hhl := hH.lt
 have hggl := hG.lt
 have h04s := H04.out.size
 clear hb5 b0 b1 hG hH H04 Hkx4 Hkg4 Hz4 HI4
 have H45 := Lib.hid h45
 have H5a := Lib.hid h5a
 have Ho := Lib.hid ho
 have H46 := Lib.hid h46
 have H06 := Lib.hid h06
 have Hkx6 := Lib.hid hkx6
 have Hkg6 := Lib.hid hkg6
 have Hz6 := Lib.hid hz6
 have HI6 := Lib.hid hI6
 have HG6 := Lib.hid hG6
 have HH6 := Lib.hid hH6
 clear h45 h5a ho h46 h06 hkx6 hkg6 hz6 hI6 hG6 hH6
 go_upto_region 7 with fail
 generalize w5.alloc (.cells #[.slice (some ⟨gg, 0, none⟩) x.s.length x.s.length, .slice (some ⟨h, 0, none⟩) x.c.length x.c.length] 30) = w6 at *
 generalize hqe : w5.heap.size = q at *
 have hne1 : gg ≠ h := hgne
 have hne2 : q ≠ h := by omega
 have hhz : w.heap.size + 2 < h := by omega
 have hpos : 0 < x.c.length := by
  have e1 := (Sh.right_mul H15.out).2.2.2.2.1
  rw [H22.out] at e1
  have e2 : 1 ≤ pre := by
   rcases Nat.eq_zero_or_pos pre with h0 | h0
   ·rw [h0, Nat.zero_mul] at e1; simp at e1
   ·exact h0
  have e3 : 1 * 1 ≤ pre * sd := Nat.mul_le_mul e2 (by omega)
  have := H10.out
  omega
 clear H45 H5a hqe
 have o1 : w6.cell? ⟨q, 1, none⟩ = _ := Ho.out.cell 1
 simp at o1
 go_wp2_with (refine wpList_clear rfl (.tmp 48) 28 22 rfl Tryz.underlying28 Tryz.zeroValue22 h 22 x.c x.c.length rfl HH6.out hpos ?_)
 intro w7 hz7 hE7
 have hP0 : PbI 30 w q h gg #[.slice S x.s.length c, .slice C x.c.length d] #[.slice GS g.s.length gc, .slice GC g.c.length gd] #[.slice (some ⟨gg, 0, none⟩) x.s.length x.s.length, .slice (some ⟨h, 0, none⟩) x.c.length x.c.length] x.s (Ly.zeros x.c.length) w7 := (PbI.mk (acc := x.c) HH6.out HG6.out Ho.out Hkx6.out Hkg6.out Hz6.out ⟨hne1, hne2, hhz, by omega⟩ H06.out).else_ hE7 hz7
 have h47 : Later w4 w7 := Below.trans H46.out (hE7.2.2.mono hh)
 have hI7 := HI4b.out.below h47 (Nat.le_refl _)
 obtain ⟨bs, os', rfl, -, y0⟩ := (Hx.out.later hP0.later).r.1 (x.s.length - 1) (by omega)
 obtain ⟨ba, oa, rfl, -, y1o⟩ := hI7 (x.s.length - 1) (by show _ < os.length; have := H12.out; omega)
 rw [H2.out] at y0
 have y1 : w7.cell? ⟨ba, oa + (x.s.length - 1), none⟩ = some (.int .i64 n) := by rw [y1o]; exact congrArg (fun z => some (Value.int .i64 z)) H4.out
 clear y1o
 have b0 : w7.cell? ⟨w.heap.size, 0, none⟩ = some (.slice (some ⟨bs, os', none⟩) x.s.length c) := by rw [hP0.bx.cell]; rfl
 have e1 : IntKind.i64.wrap ((x.s.length : Int) - 1) = (x.s.length : Int) - 1 := IntWalk.i64_in _ (by omega)
 have e2 : (0 : Int) ≤ (x.s.length : Int) - 1 := by omega
 have e3 : (x.s.length : Int) - 1 < (x.s.length : Int) := by omega
 have e4 : ((x.s.length : Int) - 1).toNat = x.s.length - 1 := by omega
 clear hz7 hE7 o1 hI7 h47
 have HP0 := Lib.hid hP0
 clear hP0
 rw [H12.out]
 go_upto_region 8 with fail
 go_quiet (fail)
 clear e1 e2 e3 e4 b0 y0 y1
 have g1 : (w7.drewN nq).cell? ⟨w.heap.size + 1, 1, none⟩ = some (.slice GC g.c.length gd) := by rw [(HP0.out.bg.drewN nq).cell]; rfl
 obtain ⟨N, hN⟩ : ∃ N, N = pre * n := ⟨_, rfl⟩
 have hgN : g.c.length = N := by rw [hN]; exact Hgl.out
 have hP1 : PbI 30 w q h gg #[.slice (some ⟨bs, os', none⟩) x.s.length c, .slice C x.c.length d] #[.slice GS g.s.length gc, .slice GC g.c.length gd] #[.slice (some ⟨gg, 0, none⟩) x.s.length x.s.length, .slice (some ⟨h, 0, none⟩) x.c.length x.c.length] x.s (Ly.poolX top x.c g.c sd n (wd : Int) st 0) (w7.drewN nq) := HP0.out.to ((Later.refl w7).drewN nq)
 have hxl4 : x.c.length ≤ d := Hx.out.c1
 have hd2 : d ≤ 9223372036854775807 := Hx.out.c2
 have hfacts := Ly.poolX_facts (top := top) (x := x.c) Hg.out.num sd n (wd : Int) st
 rw [hgN] at HE
 have HP1 := Lib.hid hP1
 have HgN := Lib.hid hgN
 have HN := Lib.hid hN
 have Hfacts := Lib.hid hfacts
 clear hP1 hgN hN hfacts
 go_wp2_with fail
 clear g1
 go_loopw [65] (fun i wx => ∃ k : Nat, k ≤ N ∧ i = .int .i64 (k : Int) ∧ PbI 30 w q h gg #[.slice (some ⟨bs, os', none⟩) x.s.length c, .slice C x.c.length d] #[.slice GS g.s.length gc, .slice GC g.c.length gd] #[.slice (some ⟨gg, 0, none⟩) x.s.length x.s.length, .slice (some ⟨h, 0, none⟩) x.c.length x.c.length] x.s (Ly.poolX top x.c g.c sd n (wd : Int) st k) wx) (fun i _ => N - (intOf i).toNat)
 case atStart => exact ⟨0, Nat.zero_le _, rfl, HP1.out⟩
 case round =>
  obtain ⟨k, hk, rfl, hJ⟩ := hrel
  clear HP1 HP0
  by_cases hlt : k < N
  ·have hkn : k < pre * n := by have := HN.out; omega
   have hbd := Ly.from_bd (pre := pre) (sd := sd) h8 h9 hkn
   rw [← H10.out] at hbd
   obtain ⟨hal, hai⟩ := Hfacts.out k
   obtain ⟨bc, oc, rfl, hbc, -⟩ := Hx.out.cell (k := 0) (by omega)
   obtain ⟨bg, og, rfl, -, gk⟩ := (Hg.out.later hJ.later).cell (k := k) (by have := HgN.out; omega)
   have hvin := Ly.at_in Hg.out.num k
   have hwl := Ly.win_len (c := x.c) (sd := sd) (n := n) (wd := wd) (st := st) (i := k) hbd
   have hcw := fun (V : World) => pool_window bc oc d x.c.length sd n wd st pre k V hxl4 hd2 H10.out h16 h8 h5 h9 hkn (by have := HN.out; omega) h20 h19
   have hcg := fun (V : World) => (show Calls Tryz.prog 59 #[.slice (some ⟨h, 0, none⟩) x.c.length x.c.length, .int .i64 k, .int .i64 sd, .int .i64 n, .int .i64 wd, .int .i64 st] V fun e w' => e = .returned (.slice (some ⟨h, Ly.from_ sd n st k, none⟩) wd (x.c.length - Ly.from_ sd n st k)) ∧ ∃ q, w' = V.drewN q from by
    have := pool_window h 0 x.c.length x.c.length sd n wd st pre k V (Nat.le_refl _) (by omega) H10.out h16 h8 h5 h9 hkn (by have := HN.out; omega) h20 h19
    rwa [Nat.zero_add] at this)
   have hWI := fun (V : World) (hV : Later wr V) => (Hx.out.later (hJ.later.trans hV)).win (sd := sd) (n := n) (st := st) (i := k) (wd := wd) hbd
   have hstep : Ly.poolX top x.c g.c sd n (wd : Int) st (k + 1) = Ly.poolStep top x.c sd n (wd : Int) st (Ly.poolX top x.c g.c sd n (wd : Int) st k) k (Ly.at_ g.c k) := rfl
   unfold Ly.poolStep at hstep
   rw [Int.toNat_natCast] at hstep
   obtain ⟨acc', hacc⟩ : ∃ acc', acc' = Ly.poolX top x.c g.c sd n (wd : Int) st (k + 1) := ⟨_, rfl⟩
   rw [← hacc] at hstep
   generalize Ly.poolX top x.c g.c sd n (wd : Int) st k = acc at *
   generalize Ly.at_ g.c k = vk at *
   generalize Ly.from_ sd n st k = fr at *
   generalize Ly.win x.c sd n wd st k = wn at *
   have b1 : wr.cell? ⟨w.heap.size, 1, none⟩ = some (.slice (some ⟨bc, oc, none⟩) x.c.length d) := by rw [hJ.bx.cell]; rfl
   have o1 : wr.cell? ⟨q, 1, none⟩ = some (.slice (some ⟨h, 0, none⟩) x.c.length x.c.length) := by rw [hJ.box.cell]; rfl
   have kk1 : (k : Int) < (g.c.length : Int) := by have := HgN.out; omega
   have B1 := Lib.hid b1
   clear hbc b1
   have HJ := Lib.hid hJ
   have Hcw := Lib.hid hcw
   have Hcg := Lib.hid hcg
   have HWI := Lib.hid hWI
   have Hstep := Lib.hid hstep
   have Hwl := Lib.hid hwl
   have Hai := Lib.hid hai
   have Hvin := Lib.hid hvin
   have Hal := Lib.hid hal
   have Hacc := Lib.hid hacc
   clear hJ hcw hcg hWI hstep hwl hai hvin hal hacc
   go_wp2_with fail
   clear gk
   refine (Hcg.out _).mono ?_
   rintro e wa ⟨rfl, q1, rfl⟩
   have hlx : Later wr (wr.drewN q1) := (Later.refl wr).drewN q1
   have hJa := HJ.out.to hlx
   have hWa := HWI.out _ hlx
   have b1 := hlx.cell B1.out
   clear o1 HJ HWI B1 hlx
   generalize wr.drewN q1 = wq at *
   have HJa := Lib.hid hJa
   have HWa := Lib.hid hWa
   clear hJa hWa
   rcases Hkt.out with ⟨rfl, rfl⟩ | ⟨rfl, rfl⟩
   ·go_wp2_with fail
    refine (Hcw.out _).mono ?_
    rintro e wb ⟨rfl, q2, rfl⟩
    clear b1
    have hlx : Later wq (wq.drewN q2) := (Later.refl wq).drewN q2
    have hJb := HJa.out.to hlx
    have hWb := HWa.out.below hlx (Nat.le_refl _)
    have hbl := best_lt (l := wn) (k := wn.length) (by have := Hwl.out; omega)
    obtain ⟨m, hm⟩ : ∃ m : Nat, Ly.best wn wn.length = (m : Int) := ⟨_, (Int.toNat_of_nonneg hbl.1).symm⟩
    have hmw : m < wd := by have := Hwl.out; omega
    have hcb := (show Calls Tryz.prog 60 #[.slice (some ⟨bc, oc + fr, none⟩) wd (d - fr)] (wq.drewN q2) fun e w' => e = .returned (.int .i64 (m : Int)) ∧ (wq.drewN q2) = w' from by
     have hd := pool_best (some ⟨bc, oc + fr, none⟩) (d - fr) wn (wq.drewN q2) (by have := Hwl.out; omega) hWb
     rw [hm, Hwl.out] at hd
     exact hd)
    have hal := Hal.out
    have hst2 := Hstep.out
    rw [if_pos trivial] at hst2
    have hm' : Ly.best wn wd = (m : Int) := by rw [← hm, Hwl.out]
    rw [hm', Int.toNat_natCast] at hst2
    clear hm'
    generalize wq.drewN q2 = wc at *
    have am : wc.cell? ⟨h, fr + m, none⟩ = some (.int .i64 (Ly.at_ acc (fr + m))) := by
     have := hJb.own.row_get (k := fr + m) (by show fr + m < acc.length; omega)
     rw [this]
     simp [Ly.at_get (show fr + m < acc.length by omega)]
    have af := hJb.own.frozen (fr + m)
    have hain := Ly.at_in Hai.out (fr + m)
    have hcadd := fun V => fix_add (Ly.at_ acc (fr + m)) vk V hain Hvin.out
    have hput := hJb.put (fr + m) (Fx.add (Ly.at_ acc (fr + m)) vk)
    rw [show acc.set (fr + m) (Fx.add (Ly.at_ acc (fr + m)) vk) = acc' from hst2.symm, Hacc.out] at hput
    generalize Ly.at_ acc (fr + m) = av at *
    have k3 : (m : Int) < (wd : Int) := by omega
    have k4 : (0 : Int) ≤ (m : Int) := by omega
    clear hst2 hm hbl hlx hWb hain hal
    have HJb := Lib.hid hJb
    have Hcb := Lib.hid hcb
    have Hcadd := Lib.hid hcadd
    have Hput := Lib.hid hput
    clear hJb hcb hcadd hput
    go_wp2_with fail
    refine (Hcb.out).mono ?_
    rintro e w' ⟨rfl, rfl⟩
    go_wp2_with fail
    refine (Hcadd.out _).mono ?_
    rintro e w' ⟨rfl, rfl⟩
    go_wp2_with fail
    go_roundw
    case rel => exact ⟨k + 1, by omega, by go_num, Hput.out⟩
    case measure => simp [intOf]; omega
   ·have hwin : Fx.In ((wd : Int) * 4294967296) := by unfold Fx.In; omega
    have hint := fun (V : World) => fix_int (wd : Int) V (by omega) (by omega)
    have hdiv := fun (V : World) => fix_div vk ((wd : Int) * 4294967296) V Hvin.out hwin
    have hst2 := Hstep.out
    rw [if_neg (by simp)] at hst2
    have hdi := Fx.div_in vk ((wd : Int) * 4294967296)
    generalize Fx.div vk ((wd : Int) * 4294967296) = y at *
    clear hwin
    have Hint := Lib.hid hint
    have Hdiv := Lib.hid hdiv
    have Hst2 := Lib.hid hst2
    have Hdi := Lib.hid hdi
    clear hint hdiv hst2 hdi
    go_wp2_with fail
    refine (Hint.out _).mono ?_
    rintro e w' ⟨rfl, rfl⟩
    go_wp2_with fail
    refine (Hdiv.out _).mono ?_
    rintro e wc ⟨rfl, q3, rfl⟩
    have hJb := HJa.out.to ((Later.refl wq).drewN q3)
    clear b1 HJa HWa
    generalize wq.drewN q3 = wc at *
    have hfr := fun j => Ly.addRow_facts Hai.out fr Hdi.out j
    have HJb := Lib.hid hJb
    have Hfr := Lib.hid hfr
    clear hJb hfr
    go_upto_region 18 with fail
    go_loopw [104] (fun i wx => ∃ j : Nat, j ≤ wd ∧ i = .int .i64 (j : Int) ∧ PbI 30 w q h gg #[.slice (some ⟨bs, os', none⟩) x.s.length c, .slice (some ⟨bc, oc, none⟩) x.c.length d] #[.slice GS g.s.length gc, .slice (some ⟨bg, og, none⟩) g.c.length gd] #[.slice (some ⟨gg, 0, none⟩) x.s.length x.s.length, .slice (some ⟨h, 0, none⟩) x.c.length x.c.length] x.s (Ly.addRow acc fr y j) wx) (fun i _ => wd - (intOf i).toNat)
    case atStart => exact ⟨0, Nat.zero_le _, rfl, HJb.out⟩
    case round =>
     obtain ⟨j, hj, rfl, hQ⟩ := hrel
     clear HJb
     by_cases hjt : j < wd
     ·obtain ⟨hal2, hai2⟩ := Hfr.out j
      have hal := Hal.out
      have hsucc : Ly.addRow acc fr y (j + 1) = (Ly.addRow acc fr y j).set (fr + j) (Fx.add (Ly.at_ (Ly.addRow acc fr y j) (fr + j)) y) := rfl
      obtain ⟨A1, hA1⟩ : ∃ A1, A1 = Ly.addRow acc fr y (j + 1) := ⟨_, rfl⟩
      rw [← hA1] at hsucc
      generalize Ly.addRow acc fr y j = A0 at *
      have am : wr.cell? ⟨h, fr + j, none⟩ = some (.int .i64 (Ly.at_ A0 (fr + j))) := by
       have := hQ.own.row_get (k := fr + j) (by omega)
       rw [this, Ly.at_get (show fr + j < A0.length by omega)]
      have af := hQ.own.frozen (fr + j)
      have hcadd := fun V => fix_add (Ly.at_ A0 (fr + j)) y V (Ly.at_in hai2 (fr + j)) Hdi.out
      have hput := hQ.put (fr + j) (Fx.add (Ly.at_ A0 (fr + j)) y)
      rw [← hsucc, hA1] at hput
      generalize Ly.at_ A0 (fr + j) = av at *
      have k3 : (j : Int) < (wd : Int) := by omega
      clear hsucc hal2 hal hA1
      have HQ := Lib.hid hQ
      have Hcadd := Lib.hid hcadd
      have Hput := Lib.hid hput
      have Hai2 := Lib.hid hai2
      clear hQ hcadd hput hai2
      go_wp2_with fail
      refine (Hcadd.out _).mono ?_
      rintro e w' ⟨rfl, rfl⟩
      go_wp2_with fail
      go_roundw
      case rel => exact ⟨j + 1, by omega, by go_num, Hput.out⟩
      case measure => simp [intOf]; omega
     ·obtain rfl : j = wd := by omega
      rw [← Hst2.out, Hacc.out] at hQ
      have HQ := Lib.hid hQ
      clear hQ
      go_wp2_with fail
      go_roundw
      case rel => exact ⟨k + 1, by omega, by go_num, HQ.out⟩
      case measure => simp [intOf]; omega
  ·obtain rfl : k = N := by omega
   have kk2 : ¬ (k : Int) < (g.c.length : Int) := by have := HgN.out; omega
   obtain ⟨hal, hai⟩ := Hfacts.out k
   generalize Ly.poolX top x.c g.c sd n (wd : Int) st k = acc at *
   have o0 : wr.cell? ⟨q, 0, none⟩ = some (.slice (some ⟨gg, 0, none⟩) x.s.length x.s.length) := by rw [hJ.box.cell]; rfl
   have o1 : wr.cell? ⟨q, 1, none⟩ = some (.slice (some ⟨h, 0, none⟩) x.c.length x.c.length) := by rw [hJ.box.cell]; rfl
   have c0 := hJ.bz.cell 0
   have c1 := hJ.bz.cell 1
   have f0 := hJ.bz.frozen 0
   have f1 := hJ.bz.frozen 1
   simp at c0 c1
   have hz3 := (hJ.bz.set_ 0 (.slice (some ⟨gg, 0, none⟩) x.s.length x.s.length)).set_ 1 (.slice (some ⟨h, 0, none⟩) x.c.length x.c.length)
   have d0 := hz3.cell 0
   have d1 := hz3.cell 1
   simp at d0 d1
   have HJ := Lib.hid hJ
   have Hai := Lib.hid hai
   have Hz3 := Lib.hid hz3
   have Hal := Lib.hid hal
   clear hJ hai hz3 hal
   go_wp2_with fail
   refine bodyPost_ret (v := .tuple #[.agg #[.slice (some ⟨gg, 0, none⟩) x.s.length x.s.length, .slice (some ⟨h, 0, none⟩) x.c.length x.c.length], .int .i64 0]) (by simp [results, Tryz.results14, go_sem, d0, d1]) rfl ?_
   exact HJ.out.done HE.out Hal.out (by omega) (by have := Hal.out; omega) Hai.out _ _
end Go.Proofs.YtbnnpkcfifejmaaGreat
namespace Go.Proofs.YtbnnpkcfifejmaaGreat
open Go.RowKit
namespace Ly
theorem joinedS_right {sd : Int} : ∀ {r : List Ten} {s : List Int}, (∀ t ∈ r, Tn.right t = true) → joinedS sd s r = Od.joinAll sd s (r.map Ten.s)
 | [], _, _ => rfl
 | t :: r, s, h => by
  unfold joinedS
  rw [if_pos (h t (by simp)), List.map_cons, Od.joinAll]
  split
  ·exact joinedS_right fun u hu => h u (by simp [hu])
  ·rfl
theorem got_map {x : List Ten} (h : 0 < x.length) : (x.map Ten.s).getD 0 [] = (got x 0).s := by
 cases x with
 | nil => simp at h
 | cons a r => rfl
theorem counts_zero {o : OpD} {p x : Int} (hr : Od.right o = true) (h1 : Od.least o ≤ x) (h2 : x ≤ Od.most o) (h3 : p = Od.params o) : Od.counts o p x = 0 := by
 unfold Od.counts
 rw [if_pos hr, if_neg]
 rintro (h | h | h) <;> omega
set_option maxHeartbeats 4000000 in
theorem go_good {o : OpD} {p x : List Ten} (hp : ∀ t ∈ p, Tn.right t = true) (hx : ∀ t ∈ x, Tn.right t = true) (h : (Od.shape o (p.map Ten.s) (x.map Ten.s)).2 = 0) : Od.counts o p.length x.length = 0 ∧ (lay o p x).2 = 0 := by
 obtain ⟨hr, h1, h2, h3, hsp, hsx, e⟩ := Od.shape_ok h
 rw [List.length_map] at h1 h2 h3
 have hc := counts_zero hr h1 h2 h3
 refine ⟨hc, ?_⟩
 rw [e] at h
 have hk := Od.right_kind hr
 have hl := Od.least_pos hr
 unfold Od.least Od.most at *
 unfold Od.params at h3
 rw [if_pos hr] at h1 h2 h3
 unfold Od.byKind at h
 have hcases : o.kind ≤ 7 ∨ o.kind = 8 ∨ o.kind = 9 ∨ o.kind = 10 ∨ o.kind = 11 ∨ o.kind = 12 ∨ o.kind = 13 ∨ o.kind = 14 ∨ o.kind = 15 := by omega
 rcases hcases with hk1 | hk1 | hk1 | hk1 | hk1 | hk1 | hk1 | hk1 | hk1
 ·have e : lay o p x = point o.kind o.k x := by unfold lay; rw [if_neg (by omega), if_neg (by omega), if_neg (by omega), if_neg (by omega), if_neg (by omega), if_neg (by omega), if_neg (by omega), if_neg (by omega)]
  rw [if_neg (by omega), if_neg (by omega), if_neg (by omega), if_neg (by omega), if_neg (by omega), if_neg (by omega), if_neg (by omega)] at h
  rw [if_pos hk1] at h1 h2
  rw [if_pos hr, if_pos hk1] at hl
  rw [e]
  unfold Od.same at h
  split at h
  ·rename_i hs
   have hx0 : 0 < x.length := by omega
   rw [got_map hx0] at hs
   simp only [List.all_eq_true, List.mem_map, decide_eq_true_eq] at hs
   have ha : ptAgree o.kind x = 0 := by
    unfold ptAgree
    rw [if_neg (by omega), if_neg (by omega), if_pos]
    simp only [List.all_eq_true, Bool.and_eq_true, decide_eq_true_eq]
    exact fun t ht => ⟨hx t ht, hs _ ⟨t, ht, rfl⟩⟩
   unfold point
   rw [if_pos ha]
  ·simp at h
 ·obtain ⟨a, b, rfl⟩ := two_of (l := p) (by simp [hk1] at h3; omega)
  obtain ⟨t, rfl⟩ := one_of (l := x) (by simp [hk1] at h1 h2; omega)
  have e : lay o [a, b] [t] = dense a b t := by unfold lay; rw [if_pos hk1]; rfl
  rw [if_pos hk1] at h
  rw [e]
  unfold Od.dense at h
  simp only [List.map_cons, List.map_nil, List.getD_cons_zero, List.getD_cons_succ] at h
  split at h
  ·rename_i hd
   obtain ⟨d1, d2, d3, d4, d5⟩ := hd
   have ra := hp a (by simp)
   have rb := hp b (by simp)
   have rt := hx t (by simp)
   unfold dense
   rw [if_pos]
   simp only [denseOk, Bool.and_eq_true, decide_eq_true_eq]
   refine ⟨⟨⟨⟨⟨ra, d1⟩, rb⟩, rt⟩, ?_⟩, ?_⟩
   ·match hb : b.s, d2 with
    | [z], _ => rw [hb] at d3; simp at d3; unfold at_; rw [d3]; simp
   ·rw [(right_s rt).2, d5]; rfl
  ·simp at h
 ·obtain ⟨b, rfl⟩ := one_of (l := p) (by simp [hk1] at h3; omega)
  obtain ⟨t, rfl⟩ := one_of (l := x) (by simp [hk1] at h1 h2; omega)
  have e : lay o [b] [t] = add t b := by unfold lay; rw [if_neg (by omega), if_pos hk1]; rfl
  rw [if_neg (by omega), if_pos hk1] at h
  rw [e]
  unfold Od.same at h
  split at h
  ·rename_i hs
   simp at hs
   unfold add
   rw [if_pos]
   simp only [alike, Bool.and_eq_true, decide_eq_true_eq]
   exact ⟨⟨hx t (by simp), hp b (by simp)⟩, hs⟩
  ·simp at h
 ·obtain ⟨b, rfl⟩ := one_of (l := p) (by simp [hk1] at h3; omega)
  obtain ⟨t, rfl⟩ := one_of (l := x) (by simp [hk1] at h1 h2; omega)
  have e : lay o [b] [t] = conv b t o.step := by unfold lay; rw [if_neg (by omega), if_neg (by omega), if_pos hk1]; rfl
  rw [if_neg (by omega), if_neg (by omega), if_pos hk1] at h
  rw [e]
  have hce : convErr b t o.step = 0 := by
   unfold convErr
   rw [if_pos (by simp [hp b (by simp), hx t (by simp)])]
   exact h
  unfold conv
  rw [if_pos hce]
 ·obtain rfl := none_of (l := p) (by rw [if_neg (by omega), if_neg (by omega)] at h3; omega)
  obtain ⟨t, rfl⟩ := one_of (l := x) (by simp [hk1] at h1 h2; omega)
  have e : lay o [] [t] = pool true t o.width o.step := by unfold lay; rw [if_neg (by omega), if_neg (by omega), if_neg (by omega), if_pos hk1]; rfl
  rw [if_neg (by omega), if_neg (by omega), if_neg (by omega), if_pos (by omega)] at h
  rw [e]
  have hce : poolErr t o.width o.step = 0 := by
   unfold poolErr
   rw [if_pos (hx t (by simp))]
   exact h
  unfold pool
  rw [if_pos hce]
 ·obtain rfl := none_of (l := p) (by rw [if_neg (by omega), if_neg (by omega)] at h3; omega)
  obtain ⟨t, rfl⟩ := one_of (l := x) (by simp [hk1] at h1 h2; omega)
  have e : lay o [] [t] = pool false t o.width o.step := by unfold lay; rw [if_neg (by omega), if_neg (by omega), if_neg (by omega), if_neg (by omega), if_pos hk1]; rfl
  rw [if_neg (by omega), if_neg (by omega), if_neg (by omega), if_pos (by omega)] at h
  rw [e]
  have hce : poolErr t o.width o.step = 0 := by
   unfold poolErr
   rw [if_pos (hx t (by simp))]
   exact h
  unfold pool
  rw [if_pos hce]
 ·obtain rfl := none_of (l := p) (by rw [if_neg (by omega), if_neg (by omega)] at h3; omega)
  have e : lay o [] x = join o.side x := by unfold lay; rw [if_neg (by omega), if_neg (by omega), if_neg (by omega), if_neg (by omega), if_neg (by omega), if_pos hk1]
  rw [if_neg (by omega), if_neg (by omega), if_neg (by omega), if_neg (by omega), if_pos (by omega)] at h
  rw [e]
  have hje : (joined o.side x).2 = 0 := by
   match x, h1 with
   | t :: r, _ =>
    unfold joined
    simp only
    rw [if_pos (hx t (by simp))]
    unfold Od.joined at h
    split at h
    ·simp at h
    ·rename_i hcn
     rw [if_neg, joinedS_right fun u hu => hx u (by simp [hu])]
     ·exact h
     ·rintro ⟨hl0, hi⟩
      refine hcn ⟨by simpa using hl0, ?_⟩
      simp [Od.inR]
      omega
   | [], h1 => simp at h1; omega
  unfold join
  rw [if_pos hje]
 ·obtain rfl := none_of (l := p) (by rw [if_neg (by omega), if_neg (by omega)] at h3; omega)
  obtain ⟨t, rfl⟩ := one_of (l := x) (by simp [hk1] at h1 h2; omega)
  have e : lay o [] [t] = cut t o.side o.frm o.to := by unfold lay; rw [if_neg (by omega), if_neg (by omega), if_neg (by omega), if_neg (by omega), if_neg (by omega), if_neg (by omega), if_pos hk1]; rfl
  rw [if_neg (by omega), if_neg (by omega), if_neg (by omega), if_neg (by omega), if_neg (by omega), if_pos (by omega)] at h
  rw [e]
  unfold cut
  have h : (Od.cut t.s o.side o.frm o.to).2 = 0 := h
  rw [if_pos (hx t (by simp)), if_pos h]
 ·obtain rfl := none_of (l := p) (by rw [if_neg (by omega), if_neg (by omega)] at h3; omega)
  obtain ⟨t, rfl⟩ := one_of (l := x) (by simp [hk1] at h1 h2; omega)
  have e : lay o [] [t] = turn t o.s := by unfold lay; rw [if_neg (by omega), if_neg (by omega), if_neg (by omega), if_neg (by omega), if_neg (by omega), if_neg (by omega), if_neg (by omega), if_pos hk1]; rfl
  rw [if_neg (by omega), if_neg (by omega), if_neg (by omega), if_neg (by omega), if_neg (by omega), if_neg (by omega), if_pos (by omega)] at h
  rw [e]
  unfold Od.turned at h
  split at h
  ·rename_i hs
   simp at hs
   have rt := hx t (by simp)
   unfold turn of_
   rw [if_pos rt, if_pos]
   simp only [Tn.right, Bool.and_eq_true, decide_eq_true_eq]
   exact ⟨hs.1.2, by rw [(right_s rt).2, hs.2]⟩
  ·simp at h
theorem addAt_foldl_len (f : Touch → Nat) (g : Touch → Int) : ∀ (ts : List Touch) (l : List Int), (ts.foldl (fun o t => addAt o (f t) (g t)) l).length = l.length
 | [], _ => rfl
 | t :: ts, l => by rw [List.foldl_cons, addAt_foldl_len f g ts, addAt_len]
theorem right_of {s c : List Int} (h1 : Sh.right s = true) (h2 : (c.length : Int) = Safe.prod s) : Tn.right ⟨s, c⟩ = true := by simp [Tn.right, h1, h2]
theorem span_prod {s : List Int} (h : Sh.right s = true) : (span s : Int) = Safe.prod s := by
 obtain ⟨_, _, _, _, h1, _⟩ := Sh.right_mul h
 unfold span
 omega
theorem cut_lay {x : Ten} {sd frm til : Int} (h : (cut x sd frm til).2 = 0) (hrs : Sh.right (cut x sd frm til).1.s = true) : Tn.right (cut x sd frm til).1 = true := by
 by_cases hr : Tn.right x = true
 case neg => rw [cut_right (by simpa using hr)] at h; simp at h
 by_cases hc : (Od.cut x.s sd frm til).2 = 0
 case neg => rw [cut_err hr hc] at h; exact absurd h hc
 obtain ⟨k, S, f, t, inner, pre, e1, e2, e3, hk, hS, hft, htS, hS2, hin, hpre, hset, hdr, hprod, hlen, -, -, -⟩ := cut_facts hr hc
 rw [cut_ok hr hc] at hrs ⊢
 refine right_of hrs ?_
 have h1 : side x.s sd.toNat = S := by unfold side at_; rw [e1, Int.toNat_natCast, hS, Int.toNat_natCast]
 have h2 : span ((Od.cut x.s sd frm til).1.drop (sd.toNat + 1)) = inner := by unfold span; rw [hset, e1, Int.toNat_natCast, hdr, Int.toNat_natCast]
 have hpos : 0 < S * inner := Nat.mul_pos (by omega) (by omega)
 rw [h1, h2, hlen, Nat.mul_div_cancel _ hpos, rows_len, hset, hprod, e2, e3, Int.toNat_natCast, Int.toNat_natCast]
 intro i hi
 rw [e2, e3, Int.toNat_natCast, Int.toNat_natCast, hlen]
 have a1 : f * inner + (t - f) * inner ≤ S * inner := by rw [← Nat.add_mul]; exact Nat.mul_le_mul_right _ (by omega)
 have a2 : (i + 1) * (S * inner) ≤ pre * (S * inner) := Nat.mul_le_mul_right _ (by omega)
 rw [Nat.succ_mul] at a2
 omega
set_option maxHeartbeats 4000000 in
theorem lay_right {o : OpD} {p x : List Ten} (hc : Od.counts o p.length x.length = 0) (h : (lay o p x).2 = 0) : Tn.right (lay o p x).1 = true := by
 have hs := lay_shape hc h
 have hrs : Sh.right (lay o p x).1.s = true := by
  have := Od.shape_right (by rw [hs])
  rw [hs] at this
  exact this
 clear hs
 obtain ⟨hr, h1, h2, h3⟩ := counts_ok hc
 have hk := Od.right_kind hr
 unfold lay at h hrs ⊢
 split at h
 ·rename_i hk1
  rw [if_pos hk1] at hrs ⊢
  unfold dense at h hrs ⊢
  split at h
  ·rename_i hd
   rw [if_pos hd] at hrs ⊢
   simp only [denseOk, Bool.and_eq_true, decide_eq_true_eq] at hd
   refine right_of hrs ?_
   rw [tab_len]
   exact (right_s hd.1.1.1.2).2
  ·simp at h
 ·rename_i n8
  rw [if_neg n8] at hrs ⊢
  split at h
  ·rename_i hk1
   rw [if_pos hk1] at hrs ⊢
   unfold add at h hrs ⊢
   split at h
   ·rename_i hd
    rw [if_pos hd] at hrs ⊢
    simp only [alike, Bool.and_eq_true, decide_eq_true_eq] at hd
    refine right_of hrs ?_
    rw [tab_len]
    exact (right_s hd.1.1).2
   ·simp at h
  ·rename_i n9
   rw [if_neg n9] at hrs ⊢
   split at h
   ·rename_i hk1
    rw [if_pos hk1] at hrs ⊢
    unfold conv at h hrs ⊢
    split at h
    ·rename_i hd
     rw [if_pos hd] at hrs ⊢
     refine right_of hrs ?_
     unfold convC
     rw [addAt_foldl_len, zeros_len]
     exact span_prod hrs
    ·rename_i hd; exact absurd h hd
   ·rename_i n10
    rw [if_neg n10] at hrs ⊢
    split at h
    ·rename_i hk1
     rw [if_pos hk1] at hrs ⊢
     unfold pool at h hrs ⊢
     split at h
     ·rename_i hd
      rw [if_pos hd] at hrs ⊢
      refine right_of hrs ?_
      rw [tab_len]
      exact span_prod hrs
     ·rename_i hd; exact absurd h hd
    ·rename_i n11
     rw [if_neg n11] at hrs ⊢
     split at h
     ·rename_i hk1
      rw [if_pos hk1] at hrs ⊢
      unfold pool at h hrs ⊢
      split at h
      ·rename_i hd
       rw [if_pos hd] at hrs ⊢
       refine right_of hrs ?_
       rw [tab_len]
       exact span_prod hrs
      ·rename_i hd; exact absurd h hd
     ·rename_i n12
      rw [if_neg n12] at hrs ⊢
      split at h
      ·rename_i hk1
       rw [if_pos hk1] at hrs ⊢
       by_cases hj : (joined o.side x).2 = 0
       case neg => rw [join_err hj] at h; exact absurd h hj
       rw [join_ok hj] at hrs ⊢
       refine right_of hrs ?_
       obtain ⟨k, rows, inner, q0, q1, q2, q3, q4, q5, q6, q7, q8, q9, q10⟩ := joined_rows hj
       have q11 : o.side.toNat = k := by omega
       show ((joinC _ _ _).length : Int) = Safe.prod (joined o.side x).1
       rw [q11, q4, joinC_len (Nat.le_refl _), q10, Int.natCast_mul, wsum_eq q6 q9]
      ·rename_i n13
       rw [if_neg n13] at hrs ⊢
       split at h
       ·rename_i hk1
        rw [if_pos hk1] at hrs ⊢
        exact cut_lay h hrs
       ·rename_i n14
        rw [if_neg n14] at hrs ⊢
        split at h
        ·rename_i hk1
         rw [if_pos hk1] at hrs ⊢
         unfold turn of_ at h ⊢
         split at h
         ·rename_i hd
          rw [if_pos hd]
          split at h
          ·rename_i hd2; rw [if_pos hd2]; exact hd2
          ·simp at h
         ·simp at h
        ·rename_i n15
         rw [if_neg n15] at hrs ⊢
         unfold point at h hrs ⊢
         split at h
         ·rename_i hd
          rw [if_pos hd] at hrs ⊢
          refine right_of hrs ?_
          rw [tab_len]
          unfold ptAgree at hd
          split at hd
          ·simp at hd
          ·split at hd
           ·simp at hd
           ·split at hd
            ·rename_i g1 g2 hall
             simp only [List.all_eq_true, Bool.and_eq_true, decide_eq_true_eq] at hall
             have hx1 : 0 < x.length := by
              rcases Nat.eq_zero_or_pos x.length with h0 | h0
              ·simp [h0] at g2; omega
              ·exact h0
             have : got x 0 ∈ x := by rw [got_at hx1]; exact List.getElem_mem hx1
             exact (right_s (hall _ this).1).2
            ·simp at hd
         ·rename_i hd; exact absurd h hd
end Ly
end Go.Proofs.YtbnnpkcfifejmaaGreat
namespace Go.Proofs.YtbnnpkcfifejmaaGreat
open Go.RowKit
namespace Ly
theorem sumAt_app (k : Nat) : ∀ a b : List Ten, sumAt k (a ++ b) = sumAt k a + sumAt k b
 | [], b => by simp [sumAt]
 | t :: r, b => by
  have := sumAt_app k r b
  simp only [sumAt, List.cons_append, List.foldr_cons] at this ⊢
  omega
theorem sumAt_one (k : Nat) (t : Ten) : sumAt k [t] = t.s.getD k 0 := by simp [sumAt]
theorem sumAt_le {k : Nat} : ∀ {l : List Ten}, (∀ t ∈ l, 0 ≤ t.s.getD k 0) → 0 ≤ sumAt k l
 | [], _ => by simp [sumAt]
 | t :: r, h => by
  have h1 := h t (by simp)
  have h2 := sumAt_le (k := k) (l := r) (fun u hu => h u (List.mem_cons_of_mem _ hu))
  simp only [sumAt, List.foldr_cons] at h2 ⊢
  omega
def jcut (sd : Int) (g : Ten) (frm : Int) (t : Ten) : Ten := (cut g sd frm (frm + at_ t.s sd.toNat)).1
def jlist (sd : Int) (g : Ten) : Int → List Ten → List Ten
 | _, [] => []
 | f, t :: r => jcut sd g f t :: jlist sd g (f + at_ t.s sd.toNat) r
theorem jlist_len (sd : Int) (g : Ten) : ∀ (l : List Ten) (f : Int), (jlist sd g f l).length = l.length
 | [], _ => rfl
 | _ :: r, f => by simp [jlist, jlist_len sd g r]
theorem jlist_get (sd : Int) (g : Ten) : ∀ (l : List Ten) (f : Int) (j : Nat), j < l.length → got (jlist sd g f l) j = jcut sd g (f + sumAt sd.toNat (l.take j)) (got l j)
 | [], _, _, h => absurd h (by simp)
 | t :: r, f, 0, _ => by simp [jlist, got, sumAt]
 | t :: r, f, j + 1, h => by
  have := jlist_get sd g r (f + at_ t.s sd.toNat) j (by simpa using h)
  have e1 : got (jlist sd g f (t :: r)) (j + 1) = got (jlist sd g (f + at_ t.s sd.toNat) r) j := by simp [jlist, got]
  have e2 : got (t :: r) (j + 1) = got r j := by simp [got]
  rw [e1, this, e2]
  congr 1
  simp only [List.take_succ_cons, sumAt, List.foldr_cons, at_]
  omega
theorem jb_ok (sd : Int) (g : Ten) : ∀ (l : List Ten) (f : Int), (∀ j, j < l.length → (cut g sd (f + sumAt sd.toNat (l.take j)) (f + sumAt sd.toNat (l.take j) + at_ (got l j).s sd.toNat)).2 = 0) → joinBackL sd g f l = (jlist sd g f l, 0)
 | [], _, _ => rfl
 | t :: r, f, h => by
  have h0 := h 0 (by simp)
  have e0 : f + sumAt sd.toNat ((t :: r).take 0) = f := by simp [sumAt]
  rw [e0] at h0
  have e1 : got (t :: r) 0 = t := rfl
  rw [e1] at h0
  have ih := jb_ok sd g r (f + at_ t.s sd.toNat) fun j hj => by
   have := h (j + 1) (by simpa using hj)
   have e2 : got (t :: r) (j + 1) = got r j := by simp [got]
   have e3 : f + sumAt sd.toNat ((t :: r).take (j + 1)) = f + at_ t.s sd.toNat + sumAt sd.toNat (r.take j) := by
    simp only [List.take_succ_cons, sumAt, List.foldr_cons, at_]; omega
   rw [e2, e3] at this
   exact this
  unfold joinBackL
  rw [if_pos h0, ih]
  rfl
theorem joinBack_err {sd : Int} {g : Ten} {x : List Ten} (h : (joined sd x).2 ≠ 0) : joinBack sd g x = ([], (joined sd x).2) := by unfold joinBack; rw [if_neg h]
theorem joinBack_bad {sd : Int} {g : Ten} {x : List Ten} (h : (joined sd x).2 = 0) (hg : (Tn.right g && (g.s == (joined sd x).1)) = false) : joinBack sd g x = ([], 20) := by
 unfold joinBack
 rw [if_pos h, if_neg]
 intro hh
 rw [Bool.and_eq_true, decide_eq_true_eq] at hh
 rw [hh.1, hh.2] at hg
 simp at hg
theorem jb_each {sd : Int} {x : List Ten} {g : Ten} (h : (joined sd x).2 = 0) (hg : Tn.right g = true) (hs : g.s = (joined sd x).1) {j : Nat} (hj : j < x.length) :
  (cut g sd (sumAt sd.toNat (x.take j)) (sumAt sd.toNat (x.take j) + at_ (got x j).s sd.toNat)).2 = 0 ∧ (cut g sd (sumAt sd.toNat (x.take j)) (sumAt sd.toNat (x.take j) + at_ (got x j).s sd.toNat)).1.s = (got x j).s ∧
  0 ≤ sumAt sd.toNat (x.take j) ∧ 1 ≤ at_ (got x j).s sd.toNat ∧ sumAt sd.toNat (x.take j) + at_ (got x j).s sd.toNat ≤ 1024 ∧ sd.toNat < (got x j).s.length ∧ 0 ≤ sd := by
 obtain ⟨k, rfl, hpos, hk, hall, hr, hsum⟩ := joined_facts h
 rw [Int.toNat_natCast]
 rw [← hs] at hk hall hr hsum
 obtain ⟨htr, hn⟩ := hall (got x j) (by rw [got_at hj]; exact List.getElem_mem _)
 have htr2 := htr
 simp only [Tn.right, Bool.and_eq_true, decide_eq_true_eq] at htr2
 obtain ⟨_, _, _, hbt, _, _⟩ := Sh.right_mul htr2.1
 obtain ⟨_, _, _, hbg, _, _⟩ := Sh.right_mul hr
 have hkt : k < (got x j).s.length := by rw [hn.len]; exact hk
 have hm := hbt _ (List.getElem_mem hkt)
 have hmg := hbg _ (List.getElem_mem hk)
 have ea : at_ (got x j).s k = (got x j).s[k] := get_at hkt
 have eg : g.s.getD k 0 = g.s[k] := get_at hk
 have hnn : ∀ t ∈ x, 0 ≤ t.s.getD k 0 := fun t ht => by
  obtain ⟨h1, h2⟩ := hall t ht
  simp only [Tn.right, Bool.and_eq_true, decide_eq_true_eq] at h1
  obtain ⟨_, _, _, hb, _, _⟩ := Sh.right_mul h1.1
  have hkk : k < t.s.length := by rw [h2.len]; exact hk
  have := hb _ (List.getElem_mem hkk)
  rw [get_at hkk]
  omega
 have hF := sumAt_le (k := k) (l := x.take j) fun t ht => hnn t (List.mem_of_mem_take ht)
 have hD := sumAt_le (k := k) (l := x.drop (j + 1)) fun t ht => hnn t (List.mem_of_mem_drop ht)
 have hsp : sumAt k x = sumAt k (x.take j) + (at_ (got x j).s k + sumAt k (x.drop (j + 1))) := by
  have e : x = x.take j ++ ([got x j] ++ x.drop (j + 1)) := by rw [got_at hj, List.singleton_append, ← List.drop_eq_getElem_cons hj, List.take_append_drop]
  have := congrArg (sumAt k) e
  rw [sumAt_app, sumAt_app, sumAt_one] at this
  exact this
 generalize sumAt k (x.take j) = F at *
 have hcut : Od.cut g.s (k : Int) F (F + at_ (got x j).s k) = (g.s.set k (at_ (got x j).s k), 0) := by
  unfold Od.cut
  rw [if_pos hr, if_pos]
  ·rw [Int.toNat_natCast, show F + at_ (got x j).s k - F = at_ (got x j).s k by omega]
  ·unfold Od.inR Od.at_
   rw [Bool.and_eq_true, decide_eq_true_eq, decide_eq_true_eq, Int.toNat_natCast]
   refine ⟨⟨by omega, by omega⟩, hF, ?_, by omega⟩
   rw [hsum, hsp]
   omega
 have hc2 : (Od.cut g.s (k : Int) F (F + at_ (got x j).s k)).2 = 0 := by rw [hcut]
 rw [cut_ok hg hc2]
 refine ⟨rfl, ?_, hF, by omega, by omega, hkt, by omega⟩
 show (Od.cut g.s (k : Int) F (F + at_ (got x j).s k)).1 = _
 rw [hcut]
 show g.s.set k _ = _
 apply List.ext_getElem?
 intro i
 by_cases hi : i = k
 ·subst hi
  rw [List.getElem?_set_self hk, List.getElem?_eq_getElem hkt, ea]
 ·rw [List.getElem?_set_ne (Ne.symm hi)]
  have := hn.same i hi
  rw [List.getD_eq_getElem?_getD, List.getD_eq_getElem?_getD] at this
  by_cases hl : i < g.s.length
  ·have hl2 : i < (got x j).s.length := by rw [hn.len]; exact hl
   rw [List.getElem?_eq_getElem hl, List.getElem?_eq_getElem hl2] at this ⊢
   simpa using this.symm
  ·rw [List.getElem?_eq_none (by omega), List.getElem?_eq_none (by rw [hn.len]; omega)]
theorem joinBack_ok {sd : Int} {g : Ten} {x : List Ten} (h : (joined sd x).2 = 0) (hg : Tn.right g = true) (hs : g.s = (joined sd x).1) : joinBack sd g x = (jlist sd g 0 x, 0) := by
 unfold joinBack
 rw [if_pos h, if_pos (by rw [hg, hs]; simp)]
 exact jb_ok sd g x 0 fun j hj => by rw [Int.zero_add]; exact (jb_each h hg hs hj).1
theorem cbk_right {x g : Ten} {sd frm til : Int} (h : Tn.right x = false) : cutBack x g sd frm til = (none_, 20) := by unfold cutBack; rw [h]; rfl
theorem cbk_err {x g : Ten} {sd frm til : Int} (h : Tn.right x = true) (h2 : (Od.cut x.s sd frm til).2 ≠ 0) : cutBack x g sd frm til = (none_, (Od.cut x.s sd frm til).2) := by unfold cutBack; rw [if_pos h, if_neg h2]
theorem cbk_bad {x g : Ten} {sd frm til : Int} (h : Tn.right x = true) (h2 : (Od.cut x.s sd frm til).2 = 0) (hg : (Tn.right g && (g.s == (Od.cut x.s sd frm til).1)) = false) : cutBack x g sd frm til = (none_, 20) := by
 unfold cutBack
 rw [if_pos h, if_pos h2, if_neg]
 intro hh
 rw [Bool.and_eq_true, decide_eq_true_eq] at hh
 rw [hh.1, hh.2] at hg
 simp at hg
theorem cbk_ok {x g : Ten} {sd frm til : Int} (h : Tn.right x = true) (h2 : (Od.cut x.s sd frm til).2 = 0) (hg : Tn.right g = true) (hs : g.s = (Od.cut x.s sd frm til).1) :
  cutBack x g sd frm til = (⟨x.s, cutX x.c.length (side x.s sd.toNat * span ((Od.cut x.s sd frm til).1.drop (sd.toNat + 1))) (frm.toNat * span ((Od.cut x.s sd frm til).1.drop (sd.toNat + 1))) ((til.toNat - frm.toNat) * span ((Od.cut x.s sd frm til).1.drop (sd.toNat + 1))) g.c (x.c.length / (side x.s sd.toNat * span ((Od.cut x.s sd frm til).1.drop (sd.toNat + 1))))⟩, 0) := by
 unfold cutBack
 rw [if_pos h, if_pos h2, if_pos (by rw [hg, hs]; simp)]
theorem cutX_facts {n row a part : Nat} {g : List Int} (hg : ∀ z ∈ g, Fx.In z) : ∀ k, (∀ i, i < k → i * row + a + part ≤ n ∧ i * part + part ≤ g.length) → (cutX n row a part g k).length = n ∧ ∀ z ∈ cutX n row a part g k, Fx.In z
 | 0, _ => ⟨zeros_len _, zeros_in _⟩
 | k + 1, h => by
  obtain ⟨h1, h2⟩ := cutX_facts hg k fun i hi => h i (by omega)
  obtain ⟨h3, h4⟩ := h k (by omega)
  have hl : ((g.drop (k * part)).take part).length = part := by rw [List.length_take, List.length_drop]; omega
  refine ⟨?_, fun z hz => ?_⟩
  ·show (splice _ _ _).length = n
   rw [length_splice _ _ _ (by rw [hl, h1]; omega), h1]
  ·have hz : z ∈ splice (cutX n row a part g k) (k * row + a) ((g.drop (k * part)).take part) := hz
   unfold splice at hz
   rcases List.mem_append.1 hz with hz | hz
   ·exact h2 z (List.mem_of_mem_take hz)
   ·rcases List.mem_append.1 hz with hz | hz
    ·exact hg z (List.mem_of_mem_drop (List.mem_of_mem_take hz))
    ·exact h2 z (List.mem_of_mem_drop hz)
end Ly
end Go.Proofs.YtbnnpkcfifejmaaGreat
namespace Go.Proofs.YtbnnpkcfifejmaaGreat
open Go.RowKit
set_option maxHeartbeats 16000000 in
set_option maxRecDepth 20000 in
theorem cut_back (S C GS GC : Option Addr) (c d gc gd : Nat) (x g : Ten) (sd frm til : Int) (w : World) (hx : TenIn w S C c d x) (hg : TenIn w GS GC gc gd g) :
  Calls Tryz.prog 16 #[.agg #[.slice S x.s.length c, .slice C x.c.length d], .agg #[.slice GS g.s.length gc, .slice GC g.c.length gd], .int .i64 sd, .int .i64 frm, .int .i64 til] w (GoP (Ly.cutBack x g sd frm til) w) := by
 have hsz : (Tryz.prog.info? 22).map (·.size) = some 1 := by
  obtain ⟨i0, hi, -, hz1, -⟩ := info_parts fix_info
  rw [hi]; exact congrArg some hz1
 obtain ⟨hkx, hkg, hz, h01⟩ := three_boxes w 30 30 30 #[.slice S x.s.length c, .slice C x.c.length d] #[.slice GS g.s.length gc, .slice GC g.c.length gd] #[.slice none 0 0, .slice none 0 0]
 have lg1 := hg.l1
 have lg2 := hg.l2
 have lx1 := hx.l1
 have lx2 := hx.l2
 have Hkx := Lib.hid hkx
 have Hkg := Lib.hid hkg
 have Hz := Lib.hid hz
 have H01 := Lib.hid h01
 have Hx := Lib.hid hx
 have Hg := Lib.hid hg
 clear hkx hkg hz h01 hx hg
 go_enter Tryz.func16, Tryz.ntmps16
 go_wp2_with fail
 generalize ((w.alloc (.cells #[.slice S x.s.length c, .slice C x.c.length d] 30)).alloc (.cells #[.slice GS g.s.length gc, .slice GC g.c.length gd] 30)).alloc (.cells #[.slice none 0 0, .slice none 0 0] 30) = w1 at *
 refine (tensor_right S C c d x w1 (by omega) (by omega) (Hx.out.later H01.out).r.1).mono ?_
 rintro e w2 ⟨rfl, hb2⟩
 have h12 : Later w1 w2 := hb2
 have h02 := H01.out.trans h12
 have hz2 := h12.blk Hz.out
 have hkx2 := h12.blk Hkx.out
 have hkg2 := h12.blk Hkg.out
 clear hb2 Hz H01 Hkx Hkg h12
 cases hr : Tn.right x
 ·have HE := Lib.hid (Ly.cbk_right (g := g) (sd := sd) (frm := frm) (til := til) hr)
  clear hr
  have c0 := hz2.cell 0
  have c1 := hz2.cell 1
  have f0 := hz2.frozen 0
  have f1 := hz2.frozen 1
  simp at c0 c1
  have H02 := Lib.hid h02
  have Hz2 := Lib.hid hz2
  have Hkx2 := Lib.hid hkx2
  have Hkg2 := Lib.hid hkg2
  clear h02 hz2 hkx2 hkg2
  go_wp2_with fail
  refine bodyPost_ret (v := .tuple #[.agg #[.slice none 0 0, .slice none 0 0], .int .i64 20]) (by simp [results, Tryz.results16, go_sem, c0, c1]) rfl ?_
  exact GoP.fail HE.out (by decide) ((H02.out.set (p := ⟨w.heap.size + 2, 0, none⟩) (by simp) _).set (p := ⟨w.heap.size + 2, 1, none⟩) (by simp) _)
 have x0 := hkx2.cell 0
 simp at x0
 have H02 := Lib.hid h02
 have Hz2 := Lib.hid hz2
 have Hkx2 := Lib.hid hkx2
 have Hkg2 := Lib.hid hkg2
 clear h02 hz2 hkx2 hkg2
 go_wp2_with fail
 clear x0
 refine (shape_cut S c x.s sd frm til w2 (by omega) (Hx.out.later H02.out).r.1).mono ?_
 rintro e w3 ⟨A, ac, rfl, hI, hc1, hc2, hf, hb3⟩
 have h23 : Later w2 w3 := hb3
 have h03 := H02.out.trans h23
 have hz3 := h23.blk Hz2.out
 have hkx3 := h23.blk Hkx2.out
 have hkg3 := h23.blk Hkg2.out
 clear hb3 Hz2 Hkx2 Hkg2 h23 hf H02
 by_cases hc0 : (Od.cut x.s sd frm til).2 = 0
 case neg =>
  have HE := Lib.hid (Ly.cbk_err (g := g) hr hc0)
  have Hc0 := Lib.hid hc0
  have d1 : ((Od.cut x.s sd frm til).2 == 0) = false := by simpa using hc0
  have d2 : ((Od.cut x.s sd frm til).2 != 0) = true := by simpa using hc0
  clear hc0 hr
  generalize (Od.cut x.s sd frm til).2 = ge at *
  generalize (Od.cut x.s sd frm til).1 = os at *
  have c0 := hz3.cell 0
  have c1 := hz3.cell 1
  have f0 := hz3.frozen 0
  have f1 := hz3.frozen 1
  simp at c0 c1
  have H03 := Lib.hid h03
  have Hz3 := Lib.hid hz3
  have Hkx3 := Lib.hid hkx3
  have Hkg3 := Lib.hid hkg3
  have HI := Lib.hid hI
  clear h03 hz3 hkx3 hkg3 hI
  go_wp2_with fail
  refine bodyPost_ret (v := .tuple #[.agg #[.slice none 0 0, .slice none 0 0], .int .i64 ge]) (by simp [results, Tryz.results16, go_sem, c0, c1]) rfl ?_
  exact GoP.fail HE.out Hc0.out ((H03.out.set (p := ⟨w.heap.size + 2, 0, none⟩) (by simp) _).set (p := ⟨w.heap.size + 2, 1, none⟩) (by simp) _)
 have hbad := fun hh => Ly.cbk_bad (g := g) hr hc0 hh
 have hgood := fun hh hs => Ly.cbk_ok (g := g) hr hc0 hh hs
 obtain ⟨k, S', f, t, inner, pre, rfl, rfl, rfl, hk, hS, hft, htS, hS2, hin, hpre, hcs, hci, hcp, hxl, hxl2, hsl, hsb⟩ := Ly.cut_facts hr hc0
 rw [hc0]
 rw [hcs] at hI hc1 hbad hgood ⊢
 have hol : (x.s.set k ((t - f : Nat) : Int)).length = x.s.length := List.length_set
 have hsd : Ly.side x.s k = S' := by show (x.s.getD k 0).toNat = S'; rw [hS]; exact Int.toNat_natCast _
 have hspn : Ly.span ((x.s.set k ((t - f : Nat) : Int)).drop (k + 1)) = inner := by unfold Ly.span; rw [hci]; exact Int.toNat_natCast _
 simp only [Int.toNat_natCast, hsd, hspn] at hgood
 have hos0 : 0 < (x.s.set k ((t - f : Nat) : Int)).length := by omega
 generalize x.s.set k ((t - f : Nat) : Int) = os at *
 obtain ⟨row, hrow⟩ : ∃ row, row = S' * inner := ⟨_, rfl⟩
 obtain ⟨a, ha⟩ : ∃ a, a = f * inner := ⟨_, rfl⟩
 obtain ⟨part, hpart⟩ : ∃ part, part = (t - f) * inner := ⟨_, rfl⟩
 have hapr : a + part ≤ row := by
  rw [ha, hpart, hrow, ← Nat.add_mul]
  exact Nat.mul_le_mul_right _ (by omega)
 have hpart1 : 1 ≤ part := by
  rw [hpart]
  have : 1 * 1 ≤ (t - f) * inner := Nat.mul_le_mul (by omega) hin
  omega
 have hrow1 : 1 ≤ row := by omega
 rw [← hrow, ← ha, ← hpart] at hgood
 rw [← hrow] at hxl
 rw [← hpart] at hcp
 have hdiv : x.c.length / row = pre := by rw [hxl]; exact Nat.mul_div_cancel _ hrow1
 rw [hdiv] at hgood
 have hrowle : row ≤ 65536 := by
  have : 1 * row ≤ pre * row := Nat.mul_le_mul_right _ hpre
  omega
 have hprel : pre ≤ 65536 := by
  have : pre * 1 ≤ pre * row := Nat.mul_le_mul_left _ hrow1
  omega
 have hinl : inner ≤ 65536 := by
  have : 1 * inner ≤ S' * inner := Nat.mul_le_mul_right _ (by omega)
  omega
 have e1 : (S' : Int) * (inner : Int) = (row : Int) := by rw [hrow]; simp
 have e2 : (f : Int) * (inner : Int) = (a : Int) := by rw [ha]; simp
 have e3 : ((t : Int) - (f : Int)) * (inner : Int) = (part : Int) := by rw [hpart, ← Int.ofNat_sub (by omega)]; simp
 have hos4 : os.length ≤ 4 := by omega
 have hdrop := fun (V : World) (hV : Ints .i64 V A os) => (show Ints .i64 V A os from hV)
 clear hdrop
 have E1 := Lib.hid e1
 have E2 := Lib.hid e2
 have E3 := Lib.hid e3
 have Hci := Lib.hid hci
 have Hcp := Lib.hid hcp
 have Hxl := Lib.hid hxl
 have Hol := Lib.hid hol
 have Hsb := Lib.hid hsb
 have HS := Lib.hid hS
 have Hdiv := Lib.hid hdiv
 obtain ⟨ba, oa, hAe, hba, -⟩ := hI 0 hos0
 subst hAe
 have g0 : w3.cell? ⟨w.heap.size + 1, 0, none⟩ = _ := hkg3.cell 0
 have g1 : w3.cell? ⟨w.heap.size + 1, 1, none⟩ = _ := hkg3.cell 1
 simp at g0 g1
 have hrg := tensor_right GS GC gc gd g w3 (by omega) (by omega) (Hg.out.later h03).r.1
 have heq := fun (V : World) (h : Later w3 V) => shape_equal GS (some ⟨ba, oa, none⟩) gc ac g.s os V (by omega) (by omega) (Hg.out.later (h03.trans h)).r.1 (hI.below h (Nat.le_refl _))
 clear hsd hspn hrow ha hpart hdiv e1 e2 e3 hci hcp hxl hol hsb hS hr hc0 hcs
 have H03 := Lib.hid h03
 have Hz3 := Lib.hid hz3
 have Hkx3 := Lib.hid hkx3
 have Hkg3 := Lib.hid hkg3
 have HI := Lib.hid hI
 have Hbad := Lib.hid hbad
 have Hgood := Lib.hid hgood
 have Hrg := Lib.hid hrg
 have Heq := Lib.hid heq
 clear h03 hz3 hkx3 hkg3 hI hbad hgood hrg heq
 cases hr : Tn.right g
 ·have HE := Lib.hid (Hbad.out (by rw [hr]; rfl))
  rw [hr] at Hrg
  clear Hbad Hgood hr
  go_wp2_with fail
  refine (Hrg.out).mono ?_
  rintro e w4 ⟨rfl, hb4⟩
  have h34 : Later w3 w4 := hb4
  have hz4 := h34.blk Hz3.out
  have h04 := H03.out.trans h34
  clear g0 g1 hb4
  have c0 := hz4.cell 0
  have c1 := hz4.cell 1
  have f0 := hz4.frozen 0
  have f1 := hz4.frozen 1
  simp at c0 c1
  have H34 := Lib.hid h34
  have Hz4 := Lib.hid hz4
  have H04 := Lib.hid h04
  clear h34 hz4 h04
  go_wp2_with fail
  refine bodyPost_ret (v := .tuple #[.agg #[.slice none 0 0, .slice none 0 0], .int .i64 20]) (by simp [results, Tryz.results16, go_sem, c0, c1]) rfl ?_
  exact GoP.fail HE.out (by decide) ((H04.out.set (p := ⟨w.heap.size + 2, 0, none⟩) (by simp) _).set (p := ⟨w.heap.size + 2, 1, none⟩) (by simp) _)
 rw [hr] at Hrg
 go_wp2_with fail
 refine (Hrg.out).mono ?_
 rintro e w4 ⟨rfl, hb4⟩
 have h34 : Later w3 w4 := hb4
 have g0' := h34.cell g0
 clear hb4 g0 g1
 have heq4 := Heq.out _ h34
 cases hq : (g.s == os)
 ·have HE := Lib.hid (Hbad.out (by rw [hr, hq]; rfl))
  rw [hq] at heq4
  clear Hbad Hgood hr hq
  have H34 := Lib.hid h34
  have Heq4 := Lib.hid heq4
  clear h34 heq4
  go_wp2_with fail
  refine (Heq4.out).mono ?_
  rintro e w5 ⟨rfl, q5, rfl⟩
  have hz5 := (H34.out.drewN q5).blk Hz3.out
  have h05 := (H03.out.trans H34.out).drewN q5
  clear g0'
  have c0 := hz5.cell 0
  have c1 := hz5.cell 1
  have f0 := hz5.frozen 0
  have f1 := hz5.frozen 1
  simp at c0 c1
  have Hz5 := Lib.hid hz5
  have H05 := Lib.hid h05
  clear hz5 h05
  go_wp2_with fail
  refine bodyPost_ret (v := .tuple #[.agg #[.slice none 0 0, .slice none 0 0], .int .i64 20]) (by simp [results, Tryz.results16, go_sem, c0, c1]) rfl ?_
  exact GoP.fail HE.out (by decide) ((H05.out.set (p := ⟨w.heap.size + 2, 0, none⟩) (by simp) _).set (p := ⟨w.heap.size + 2, 1, none⟩) (by simp) _)
 rw [hq] at heq4
 have hgs : g.s = os := by simpa using hq
 have HE := Lib.hid (Hgood.out hr hgs)
 have hgl : g.c.length = pre * part := by
  have h0 : (g.c.length : Int) = Safe.prod g.s := by have := hr; simp only [Tn.right, Bool.and_eq_true, decide_eq_true_eq] at this; exact this.2
  rw [hgs, Hcp.out] at h0
  exact Int.ofNat.inj h0
 have H34 := Lib.hid h34
 have Heq4 := Lib.hid heq4
 have Hgl := Lib.hid hgl
 have Hgs := Lib.hid hgs
 clear h34 heq4 hgl hgs
 clear Hbad Hgood hq hr
 go_wp2_with fail
 refine (Heq4.out).mono ?_
 rintro e w5 ⟨rfl, q5, rfl⟩
 have h35 := H34.out.drewN q5
 clear g0' Heq4 Heq Hrg H34
 generalize w4.drewN q5 = w5 at *
 have h05 := H03.out.trans h35
 have hkx5 := h35.blk Hkx3.out
 have hkg5 := h35.blk Hkg3.out
 have hz5 := h35.blk Hz3.out
 have hI5 := HI.out.below h35 (Nat.le_refl _)
 clear h35 H03 Hkx3 Hkg3 Hz3 HI
 have b0 : w5.cell? ⟨w.heap.size, 0, none⟩ = _ := hkx5.cell 0
 have b1 : w5.cell? ⟨w.heap.size, 1, none⟩ = _ := hkx5.cell 1
 simp at b0 b1
 have H05 := Lib.hid h05
 have Hkx5 := Lib.hid hkx5
 have Hkg5 := Lib.hid hkg5
 have Hz5 := Lib.hid hz5
 have HI5 := Lib.hid hI5
 clear h05 hkx5 hkg5 hz5 hI5
 go_wp2_with fail
 refine (tensor_copy S C c d x w5 (by omega) (by omega) (Hx.out.later H05.out).r).mono ?_
 rintro e w6 ⟨v, rfl, ⟨gg, h, rfl, hgg, hh, hG, hH⟩, hb6⟩
 have h56 : Later w5 w6 := hb6
 have h6a : Later w6 (w6.alloc (.cells #[.slice (some ⟨gg, 0, none⟩) x.s.length x.s.length, .slice (some ⟨h, 0, none⟩) x.c.length x.c.length] 30)) := (Later.refl w6).alloc _
 have ho := Blk.new w6 30 #[.slice (some ⟨gg, 0, none⟩) x.s.length x.s.length, .slice (some ⟨h, 0, none⟩) x.c.length x.c.length]
 have h57 := h56.trans h6a
 have h07 := H05.out.trans h57
 have hkx7 := h57.blk Hkx5.out
 have hkg7 := h57.blk Hkg5.out
 have hz7 := h57.blk Hz5.out
 have hG7 := h6a.blk hG
 have hH7 := h6a.blk hH
 have hzl := Hz5.out.lt
 have hgne := rows_apart hG hH
 have hhl := hH.lt
 have hggl := hG.lt
 have h05s := H05.out.size
 clear hb6 b0 b1 hG hH H05 Hkx5 Hkg5 Hz5
 have H56 := Lib.hid h56
 have H6a := Lib.hid h6a
 have Ho := Lib.hid ho
 have H57 := Lib.hid h57
 have H07 := Lib.hid h07
 have Hkx7 := Lib.hid hkx7
 have Hkg7 := Lib.hid hkg7
 have Hz7 := Lib.hid hz7
 have HG7 := Lib.hid hG7
 have HH7 := Lib.hid hH7
 clear h56 h6a ho h57 h07 hkx7 hkg7 hz7 hG7 hH7
 go_upto_region 9 with fail
 generalize w6.alloc (.cells #[.slice (some ⟨gg, 0, none⟩) x.s.length x.s.length, .slice (some ⟨h, 0, none⟩) x.c.length x.c.length] 30) = w7 at *
 generalize hqe : w6.heap.size = q at *
 have hne1 : gg ≠ h := hgne
 have hne2 : q ≠ h := by omega
 have hhz : w.heap.size + 2 < h := by omega
 have hpos : 0 < x.c.length := by
  have := Hxl.out
  have : 1 * 1 ≤ pre * row := Nat.mul_le_mul hpre hrow1
  omega
 clear H56 H6a hqe
 have o1 : w7.cell? ⟨q, 1, none⟩ = _ := Ho.out.cell 1
 simp at o1
 go_wp2_with (refine wpList_clear rfl (.tmp 52) 28 22 rfl Tryz.underlying28 Tryz.zeroValue22 h 22 x.c x.c.length rfl HH7.out hpos ?_)
 intro w8 hz8 hE8
 have hP0 : PbI 30 w q h gg #[.slice S x.s.length c, .slice C x.c.length d] #[.slice GS g.s.length gc, .slice GC g.c.length gd] #[.slice (some ⟨gg, 0, none⟩) x.s.length x.s.length, .slice (some ⟨h, 0, none⟩) x.c.length x.c.length] x.s (Ly.zeros x.c.length) w8 := (PbI.mk (acc := x.c) HH7.out HG7.out Ho.out Hkx7.out Hkg7.out Hz7.out ⟨hne1, hne2, hhz, by omega⟩ H07.out).else_ hE8 hz8
 have h58 : Later w5 w8 := Below.trans H57.out (hE8.2.2.mono hh)
 have hI8 := HI5.out.below h58 (Nat.le_refl _)
 have hQ : Ints .i64 w8 (if ac = k + 1 then some ⟨ba, oa, none⟩ else some ⟨ba, oa + (k + 1), none⟩) (os.drop (k + 1)) := by
  by_cases hca : ac = k + 1
  ·rw [List.drop_eq_nil_of_le (hca ▸ hc1)]; exact Ints.nil
  ·rw [if_neg hca]; exact hI8.drop_ (k + 1)
 have hdl : (os.drop (k + 1)).length = os.length - (k + 1) := List.length_drop
 have hle := fun j => Safe.prod_take_le (os.drop (k + 1)) j (fun z hz => (Hsb.out z (List.mem_of_mem_drop hz)).1)
 have hpo := fun j => Safe.prod_pos ((os.drop (k + 1)).take j) (fun z hz => (Hsb.out z (List.mem_of_mem_drop (List.mem_of_mem_take hz))).1)
 have hsu := fun j hj => Safe.prod_take_succ (os.drop (k + 1)) j hj
 have hcid : Safe.prod (os.drop (k + 1)) = (inner : Int) := Hci.out
 have hko : k < os.length := by have := Hol.out; omega
 clear hz8 hE8 o1 hI8 h58 HI5 H57 HG7 HH7 Ho Hkx7 Hkg7 Hz7 H07
 have HP0 := Lib.hid hP0
 have HQ := Lib.hid hQ
 have Hle := Lib.hid hle
 have Hpo := Lib.hid hpo
 have Hsu := Lib.hid hsu
 have Hcid := Lib.hid hcid
 clear hP0 hQ hle hpo hsu hcid
 generalize os.drop (k + 1) = dr at *
 have q1 : (k : Int) + 1 ≤ (os.length : Int) := by omega
 have q2 : (os.length : Int) ≤ (ac : Int) := by omega
 go_upto_region 11 with fail
 go_cut [15, 56, 57, 58] (fun u v a b wx => w8 = wx ∧ u = .int .i64 1 ∧ a = .int .i64 ((os.length - (k + 1) : Nat) : Int) ∧ b = .int .i64 0 ∧ ∃ Q cq, v = .slice Q (os.length - (k + 1)) cq ∧ Ints .i64 w8 Q dr)
 case first =>
  have hQ := HQ.out
  by_cases hca : ac = k + 1
  ·have u9 : (ac = k + 1) = True := eq_true hca
   rw [if_pos hca] at hQ
   have HQ := Lib.hid hQ
   clear hQ
   clear hca
   go_wp2_with fail
   all_goals (go_meet; exact ⟨rfl, rfl, rfl, rfl, _, _, rfl, HQ.out⟩)
  ·have u9 : (ac = k + 1) = False := eq_false hca
   rw [if_neg hca] at hQ
   have u8 : k + 1 < ac := by omega
   have HQ := Lib.hid hQ
   clear hQ
   clear hca
   go_wp2_with fail
   all_goals (go_meet; exact ⟨rfl, rfl, rfl, rfl, _, _, rfl, HQ.out⟩)
 case rest =>
  obtain ⟨rfl, rfl, rfl, rfl, Qa, cq, rfl, hQa⟩ := hcut
  clear q1 q2 HQ
  rw [← hdl]
  have HQa := Lib.hid hQa
  clear hQa
  go_upto_region 12 with fail
  go_loop [15, 58] (fun v i => ∃ j : Nat, j ≤ dr.length ∧ i = .int .i64 (j : Int) ∧ v = .int .i64 (Safe.prod (dr.take j))) (fun _ i => dr.length - (intOf i).toNat)
  case atStart => exact ⟨0, Nat.zero_le _, rfl, rfl⟩
  case round =>
   obtain ⟨j, hj, rfl, rfl⟩ := hrel
   by_cases hlt : j < dr.length
   ·obtain ⟨bb, ob, hQe, -, hc⟩ := HQa.out j hlt
    subst hQe
    rw [get_at hlt] at hc
    have p1 := Hpo.out j
    have p2 := Hle.out j
    have p3 := Hpo.out (j + 1)
    have p4 := Hle.out (j + 1)
    have p5 := Hsu.out j hlt
    rw [Hcid.out] at p2 p4
    obtain ⟨P', hP⟩ : ∃ P', P' = Safe.prod (dr.take (j + 1)) := ⟨_, rfl⟩
    rw [← hP] at p3 p4 p5
    have HP := Lib.hid hP
    clear hP
    generalize Safe.prod (dr.take j) = P at *
    have e1 : P * dr[j] = P' := p5.symm
    generalize dr[j] = z at *
    clear p5
    go_wp2_with fail
    go_round
    case rel => exact ⟨j + 1, by omega, by go_num, by rw [← HP.out]⟩
    case measure => simp [intOf]; omega
   ·obtain rfl : j = dr.length := by omega
    rw [List.take_length, Hcid.out]
    clear HQa Hle Hpo Hsu
    obtain ⟨bs, os2, hSe, -, y0⟩ := (Hx.out.later HP0.out.later).r.1 k hk
    subst hSe
    rw [HS.out] at y0
    obtain ⟨bg, og, hGe, -, -⟩ := Hg.out.cell (k := 0) (by have := Hgl.out; have : 1 * 1 ≤ pre * part := Nat.mul_le_mul hpre hpart1; omega)
    subst hGe
    have b0 : w8.cell? ⟨w.heap.size, 0, none⟩ = some (.slice (some ⟨bs, os2, none⟩) x.s.length c) := by rw [HP0.out.bx.cell]; rfl
    have b1 : w8.cell? ⟨w.heap.size, 1, none⟩ = some (.slice C x.c.length d) := by rw [HP0.out.bx.cell]; rfl
    have e1 := E1.out
    have e3 := E3.out
    have k1 : (k : Int) < (x.s.length : Int) := by omega
    have z1 : IntKind.i64.wrap ((S' : Int) * (inner : Int)) = (row : Int) := by rw [e1]; exact IntWalk.i64_in _ (by omega)
    have z2 : IntKind.i64.wrap ((t : Int) - (f : Int)) = (t : Int) - (f : Int) := IntWalk.i64_in _ (by omega)
    have z3 : IntKind.i64.wrap (((t : Int) - (f : Int)) * (inner : Int)) = (part : Int) := by rw [e3]; exact IntWalk.i64_in _ (by omega)
    have z4 : (x.c.length : Int) / (row : Int) = (pre : Int) := by
     rw [show (x.c.length : Int) / (row : Int) = ((x.c.length / row : Nat) : Int) by simp, Hdiv.out]
    have z5 : ¬ (row : Int) = 0 := by omega
    clear e1 e3
    go_upto_region 18 with fail
    clear b0 b1 y0 z1 z2 z3 z4
    have hP1 : PbI 30 w q h gg #[.slice (some ⟨bs, os2, none⟩) x.s.length c, .slice C x.c.length d] #[.slice GS g.s.length gc, .slice (some ⟨bg, og, none⟩) g.c.length gd] #[.slice (some ⟨gg, 0, none⟩) x.s.length x.s.length, .slice (some ⟨h, 0, none⟩) x.c.length x.c.length] x.s (Ly.cutX x.c.length row a part g.c 0) w8 := HP0.out
    have HP1 := Lib.hid hP1
    clear hP1
    go_loopw [83] (fun i wx => ∃ m : Nat, m ≤ pre ∧ i = .int .i64 (m : Int) ∧ PbI 30 w q h gg #[.slice (some ⟨bs, os2, none⟩) x.s.length c, .slice C x.c.length d] #[.slice GS g.s.length gc, .slice (some ⟨bg, og, none⟩) g.c.length gd] #[.slice (some ⟨gg, 0, none⟩) x.s.length x.s.length, .slice (some ⟨h, 0, none⟩) x.c.length x.c.length] x.s (Ly.cutX x.c.length row a part g.c m) wx) (fun i _ => pre - (intOf i).toNat)
    case atStart => exact ⟨0, Nat.zero_le _, rfl, HP1.out⟩
    case round =>
     obtain ⟨m, hm, rfl, hJ⟩ := hrel
     clear HP1
     have hfit : ∀ i, i < pre → i * row + a + part ≤ x.c.length ∧ i * part + part ≤ g.c.length := fun i hi => by
      have h9 : (i + 1) * row ≤ pre * row := Nat.mul_le_mul_right _ hi
      have h8 : (i + 1) * part ≤ pre * part := Nat.mul_le_mul_right _ hi
      rw [Nat.succ_mul] at h9 h8
      have := Hxl.out
      have := Hgl.out
      exact ⟨by omega, by omega⟩
     have hfacts := Ly.cutX_facts (n := x.c.length) (row := row) (a := a) (part := part) Hg.out.num m (fun i hi => hfit i (by omega))
     by_cases hmt : m < pre
     ·obtain ⟨hal, hai⟩ := hfacts
      obtain ⟨hf1, hf2⟩ := hfit m hmt
      have hJlo := hJ.lo
      have hstep : Ly.cutX x.c.length row a part g.c (m + 1) = splice (Ly.cutX x.c.length row a part g.c m) (m * row + a) ((g.c.drop (m * part)).take part) := rfl
      have hll : ((g.c.drop (m * part)).take part).length = part := by rw [List.length_take, List.length_drop]; omega
      have hsrc : ∀ (V : World), Later wr V → ∀ i (hi : i < ((g.c.drop (m * part)).take part).length), V.cell? ((⟨bg, og + m * part, none⟩ : Addr).add i) = some (.int .i64 ((g.c.drop (m * part)).take part)[i]) := fun V hV i hi => by
       obtain ⟨b', o', e', -, hc⟩ := (Hg.out.later (hJ.later.trans hV)).cell (k := m * part + i) (by rw [hll] at hi; omega)
       injection e' with e'; injection e' with e1 e2; subst e1 e2
       rw [addr_add, Nat.add_assoc, hc, Ly.at_get (by rw [hll] at hi; omega)]
       simp
      have o1 : wr.cell? ⟨q, 1, none⟩ = some (.slice (some ⟨h, 0, none⟩) x.c.length x.c.length) := by rw [hJ.box.cell]; rfl
      have g1 : wr.cell? ⟨w.heap.size + 1, 1, none⟩ = some (.slice (some ⟨bg, og, none⟩) g.c.length gd) := by rw [hJ.bg.cell]; rfl
      have hgd := Hg.out.c1
      have hgd2 := Hg.out.c2
      obtain ⟨l, hl⟩ : ∃ l, l = (g.c.drop (m * part)).take part := ⟨_, rfl⟩
      rw [← hl] at hstep hll hsrc
      obtain ⟨p, hp⟩ : ∃ p, p = m * row := ⟨_, rfl⟩
      obtain ⟨pp, hpp⟩ : ∃ pp, pp = m * part := ⟨_, rfl⟩
      have z1 : IntKind.i64.wrap ((m : Int) * (row : Int)) = (p : Int) := by rw [show (m : Int) * (row : Int) = ((m * row : Nat) : Int) by simp, ← hp]; exact IntWalk.i64_in _ (by omega)
      have z2 : IntKind.i64.wrap ((f : Int) * (inner : Int)) = (a : Int) := by rw [E2.out]; exact IntWalk.i64_in _ (by omega)
      have z3 : IntKind.i64.wrap ((p : Int) + (a : Int)) = (p : Int) + (a : Int) := IntWalk.i64_in _ (by omega)
      have z4 : IntKind.i64.wrap ((m : Int) * (part : Int)) = (pp : Int) := by rw [show (m : Int) * (part : Int) = ((m * part : Nat) : Int) by simp, ← hpp]; exact IntWalk.i64_in _ (by omega)
      have z5' : IntKind.i64.wrap ((m : Int) + 1) = (m : Int) + 1 := IntWalk.i64_in _ (by omega)
      have z6 : IntKind.i64.wrap (((m : Int) + 1) * (part : Int)) = (pp : Int) + (part : Int) := by rw [Int.add_mul, show (m : Int) * (part : Int) = ((m * part : Nat) : Int) by simp, ← hpp, Int.one_mul]; exact IntWalk.i64_in _ (by omega)
      rw [← hp] at hf1 hstep
      rw [← hpp] at hf2 hsrc
      have u1 : (0 : Int) ≤ (p : Int) + (a : Int) := by omega
      have u2 : (p : Int) + (a : Int) ≤ (x.c.length : Int) := by omega
      have u3 : (pp : Int) + (part : Int) ≤ (gd : Int) := by omega
      have u4 : (pp : Int) ≤ (pp : Int) + (part : Int) := by omega
      have u5 : ((p : Int) + (a : Int)).toNat = p + a := by omega
      have u6 : ((pp : Int) + (part : Int)).toNat - pp = part := by omega
      have u7 : (x.c.length = p + a) = False := eq_false (by omega)
      have u8 : (gd = pp) = False := eq_false (by omega)
      generalize Ly.cutX x.c.length row a part g.c m = acc at *
      clear hfit hl hp hpp
      have HJ := Lib.hid hJ
      have Hstep := Lib.hid hstep
      have Hsrc := Lib.hid hsrc
      have Hai := Lib.hid hai
      have Hll := Lib.hid hll
      clear hJ hstep hsrc hai hll
      have hq1 : q ≠ h := hJlo.2.1
      have hq2 : w.heap.size + 1 ≠ h := by omega
      go_wp2_with fail
      have KF := Lib.hid (show ∀ Xw, Later wr Xw → Xw.cell? ⟨q, 1, none⟩ = some (.slice (some ⟨h, 0, none⟩) x.c.length x.c.length) ∧ Xw.cell? ⟨w.heap.size + 1, 1, none⟩ = some (.slice (some ⟨bg, og, none⟩) g.c.length gd) from fun Xw h => ⟨h.cell o1, h.cell g1⟩)
      refine wp_region_noPanic ?_
      refine wp_region_held_drew (S := fun Xw => Xw.cell? ⟨q, 1, none⟩ = some (.slice (some ⟨h, 0, none⟩) x.c.length x.c.length) ∧ Xw.cell? ⟨w.heap.size + 1, 1, none⟩ = some (.slice (some ⟨bg, og, none⟩) g.c.length gd)) (by kernel_rfl) (KF.out _ Later.au) (fun hHeld => ?_)
      refine tk 0 ?_
      refine tk 1 ?_
      refine tk 2 ?_
      refine tk 3 ?_
      refine tk 4 ?_
      refine tk 5 ?_
      refine tk 6 ?_
      refine tk 7 ?_
      refine tk 8 ?_
      refine tk 10 ?_
      refine tk 11 ?_
      refine tk 12 ?_
      refine tk 13 ?_
      refine tk 14 ?_
      refine tk 15 ?_
      refine tk 16 ?_
      refine tk 17 ?_
      refine tk 18 ?_
      refine wpAnyH_ready (rs := [9, 19]) (by kernel_rfl) (by simp) ?_
      refine AllReadyH.cons (o := _) rfl (fun K hK => ?_) (AllReadyH.cons (o := _) rfl (fun K hK => ?_) (AllReadyH.nil))
      ·simp only [ga, gs, gz]
       go_simp
       refine hK.out _ _ (KF.out _ Later.au) (fun hHeld => ?_)
       clear hK K
       try simp only [ga, gs, gz, Act.put, sa, sz, ss]
       refine rd 19 fun K hK => ?_
       simp only [ga, gs, gz]
       go_simp
       refine hK.out _ _ (KF.out _ Later.au) (fun hHeld => ?_)
       clear hK K
       try simp only [ga, gs, gz, Act.put, sa, sz, ss]
       refine rd 20 fun K hK => ?_
       refine step_copy_else (by rfl) (.tmp 95) (.tmp 105) _ _ (by rfl) 22 Tryz.underlying28 hsz h (p + a) _ _ ⟨bg, og + pp, none⟩ part _ (by rfl) (by rfl) acc l 22 ((HJ.out.to Later.au).own) ?n1 (Hsrc.out _ Later.au) ?n2 ?_
       case n1 => rw [Hll.out]; exact (Nat.min_eq_left (by omega)).symm
       case n2 => rw [Hll.out]; omega
       intro w4 hb4 hE4
       have hP2 := (HJ.out.to (Later.au : Later wr _)).else_ hE4 hb4
       rw [← Hstep.out] at hP2
       have o1 := (World.cell?_of_block (hE4.1 q hq1)).trans (Later.cell (Later.au : Later wr _) o1)
       have g1 := (World.cell?_of_block (hE4.1 (w.heap.size + 1) hq2)).trans (Later.cell (Later.au : Later wr _) g1)
       have HP2 := Lib.hid hP2
       clear hP2 hb4 hE4
       refine hK.out _ _ (by first | exact ⟨o1, g1⟩ | exact KF.out _ Later.au) (fun hHeld => ?_)
       clear hK K
       try simp only [ga, gs, gz, Act.put, sa, sz, ss]
       clear KF
       refine wpAnyH_done (by kernel_rfl) ?_ _
       refine NoPanic.normal ?_
       clear hHeld o1 g1
       go_wp2_with fail
       go_roundw
       case rel => exact ⟨m + 1, by omega, by go_num, HP2.out.to Later.au⟩
       case measure => simp [intOf]; omega
      ·simp only [ga, gs, gz]
       go_simp
       refine hK.out _ _ (KF.out _ Later.au) (fun hHeld => ?_)
       clear hK K
       try simp only [ga, gs, gz, Act.put, sa, sz, ss]
       refine rd 9 fun K hK => ?_
       simp only [ga, gs, gz]
       go_simp
       refine hK.out _ _ (KF.out _ Later.au) (fun hHeld => ?_)
       clear hK K
       try simp only [ga, gs, gz, Act.put, sa, sz, ss]
       refine rd 20 fun K hK => ?_
       refine step_copy_else (by rfl) (.tmp 95) (.tmp 105) _ _ (by rfl) 22 Tryz.underlying28 hsz h (p + a) _ _ ⟨bg, og + pp, none⟩ part _ (by rfl) (by rfl) acc l 22 ((HJ.out.to Later.au).own) ?n1 (Hsrc.out _ Later.au) ?n2 ?_
       case n1 => rw [Hll.out]; exact (Nat.min_eq_left (by omega)).symm
       case n2 => rw [Hll.out]; omega
       intro w4 hb4 hE4
       have hP2 := (HJ.out.to (Later.au : Later wr _)).else_ hE4 hb4
       rw [← Hstep.out] at hP2
       have o1 := (World.cell?_of_block (hE4.1 q hq1)).trans (Later.cell (Later.au : Later wr _) o1)
       have g1 := (World.cell?_of_block (hE4.1 (w.heap.size + 1) hq2)).trans (Later.cell (Later.au : Later wr _) g1)
       have HP2 := Lib.hid hP2
       clear hP2 hb4 hE4
       refine hK.out _ _ (by first | exact ⟨o1, g1⟩ | exact KF.out _ Later.au) (fun hHeld => ?_)
       clear hK K
       try simp only [ga, gs, gz, Act.put, sa, sz, ss]
       clear KF
       refine wpAnyH_done (by kernel_rfl) ?_ _
       refine NoPanic.normal ?_
       clear hHeld o1 g1
       go_wp2_with fail
       go_roundw
       case rel => exact ⟨m + 1, by omega, by go_num, HP2.out.to Later.au⟩
       case measure => simp [intOf]; omega
     ·obtain rfl : m = pre := by omega
      obtain ⟨hal, hai⟩ := hfacts
      generalize Ly.cutX x.c.length row a part g.c m = acc at *
      have o0 : wr.cell? ⟨q, 0, none⟩ = some (.slice (some ⟨gg, 0, none⟩) x.s.length x.s.length) := by rw [hJ.box.cell]; rfl
      have o1 : wr.cell? ⟨q, 1, none⟩ = some (.slice (some ⟨h, 0, none⟩) x.c.length x.c.length) := by rw [hJ.box.cell]; rfl
      have c0 := hJ.bz.cell 0
      have c1 := hJ.bz.cell 1
      have f0 := hJ.bz.frozen 0
      have f1 := hJ.bz.frozen 1
      simp at c0 c1
      have hz3 := (hJ.bz.set_ 0 (.slice (some ⟨gg, 0, none⟩) x.s.length x.s.length)).set_ 1 (.slice (some ⟨h, 0, none⟩) x.c.length x.c.length)
      have d0 := hz3.cell 0
      have d1 := hz3.cell 1
      simp at d0 d1
      clear hfit
      have HJ := Lib.hid hJ
      have Hai := Lib.hid hai
      have Hz3 := Lib.hid hz3
      have Hal := Lib.hid hal
      clear hJ hai hz3 hal
      go_wp2_with fail
      refine bodyPost_ret (v := .tuple #[.agg #[.slice (some ⟨gg, 0, none⟩) x.s.length x.s.length, .slice (some ⟨h, 0, none⟩) x.c.length x.c.length], .int .i64 0]) (by simp [results, Tryz.results16, go_sem, d0, d1]) rfl ?_
      exact HJ.out.done HE.out Hal.out (by omega) (by have := Hal.out; omega) Hai.out _ _
end Go.Proofs.YtbnnpkcfifejmaaGreat

/- Lemmas for the statements of this seat: contracts of functions and the plain laws. -/
import Derived.BigQuiet
import Derived.ChangeKeysEq
import Derived.Deep.DeepCutAuto
import Derived.Test.YtbnnpkcfifejmaaGreatZ06
set_option linter.unusedVariables false
namespace Go.Proofs.YtbnnpkcfifejmaaGreat
open Go.RowKit
theorem bodyPostM_ret {F : Fence} {n : Nat} {P : Program} {fn : Func} {R : Ending → World → Prop} {a : Act} {w : World} {v : Value} (hr : (results fn a.tmps).run P w = .ok v w) (hd : a.defers = []) (hR : R (.returned v) w) : bodyPostM F n P fn R .ret a w := by
 show LeavesInM F n P fn a.tmps R a.defers .returning w
 rw [hd]
 exact ⟨v, hr, hR⟩
theorem conv_right {ws xs : List Int} {step : Int} (h : (Od.conv ws xs step).2 = 0) : Sh.right (Od.conv ws xs step).1 = true := by
 unfold Od.conv at h ⊢
 split at h
 ·rename_i hc
  rw [if_pos hc]
  split at h
  ·rename_i ha
   rw [if_pos ha]
   split at h
   ·rename_i hr
    rw [if_pos hr]; exact hr
   ·simp at h
  ·simp at h
 ·simp at h
namespace Ly
theorem conv_lens {t x : Ten} {step : Int} (hr : Tn.right t = true) (hq : Tn.right x = true) (h : (Od.conv t.s x.s step).2 = 0) :
  t.c.length = (frame t.s x.s (Od.conv t.s x.s step).1 step).outs * (frame t.s x.s (Od.conv t.s x.s step).1 step).ins * ((frame t.s x.s (Od.conv t.s x.s step).1 step).k0 * (frame t.s x.s (Od.conv t.s x.s step).1 step).k1) ∧
  x.c.length = (frame t.s x.s (Od.conv t.s x.s step).1 step).ins * ((frame t.s x.s (Od.conv t.s x.s step).1 step).i0 * (frame t.s x.s (Od.conv t.s x.s step).1 step).i1) ∧
  (Safe.prod (Od.conv t.s x.s step).1).toNat = (frame t.s x.s (Od.conv t.s x.s step).1 step).outs * (frame t.s x.s (Od.conv t.s x.s step).1 step).o0 * (frame t.s x.s (Od.conv t.s x.s step).1 step).o1 := by
 obtain ⟨-, -, hcase⟩ := conv_fit h
 have h1 : (t.c.length : Int) = Safe.prod t.s := by simp [Tn.right] at hr; exact hr.2
 have h2 : (x.c.length : Int) = Safe.prod x.s := by simp [Tn.right] at hq; exact hq.2
 generalize (Od.conv t.s x.s step).1 = out at *
 rcases hcase with ⟨a, b, k, i, o, e1, e2, e3⟩ | ⟨a, b, k, kk, i, ii, o, oo, e1, e2, e3⟩
 ·rw [e1] at h1
  rw [e2] at h2
  rw [e1, e2, e3]
  have h3 : Safe.prod [(a : Int), o] = ((a * o : Nat) : Int) := by simp [Safe.prod]
  have h1' : (t.c.length : Int) = ((a * b * k : Nat) : Int) := by rw [h1]; simp [Safe.prod, Int.mul_assoc]
  have h2' : (x.c.length : Int) = ((b * i : Nat) : Int) := by rw [h2]; simp [Safe.prod]
  refine ⟨?_, ?_, ?_⟩
  ·simp [frame, last2, side, at_]; exact Int.ofNat.inj h1'
  ·simp [frame, last2, side, at_]; exact Int.ofNat.inj h2'
  ·rw [h3]; simp only [frame, last2, side, at_, Int.toNat_natCast, List.drop_succ_cons, List.drop_zero, List.length_singleton, if_true, List.getD_cons_zero, Nat.mul_one]
 ·rw [e1] at h1
  rw [e2] at h2
  rw [e1, e2, e3]
  have h3 : Safe.prod [(a : Int), o, oo] = ((a * o * oo : Nat) : Int) := by simp [Safe.prod, Int.mul_assoc]
  have h1' : (t.c.length : Int) = ((a * b * (k * kk) : Nat) : Int) := by rw [h1]; simp [Safe.prod, Int.mul_assoc]
  have h2' : (x.c.length : Int) = ((b * (i * ii) : Nat) : Int) := by rw [h2]; simp [Safe.prod]
  refine ⟨?_, ?_, ?_⟩
  ·simp [frame, last2, side, at_]; exact Int.ofNat.inj h1'
  ·simp [frame, last2, side, at_]; exact Int.ofNat.inj h2'
  ·rw [h3]; simp [frame, last2, side, at_]; rfl
theorem addAt_len (l : List Int) (i : Nat) (v : Int) : (addAt l i v).length = l.length := by simp [addAt]
theorem addAt_in {l : List Int} {i : Nat} {v : Int} (hl : ∀ z ∈ l, Fx.In z) (hv : Fx.In v) : ∀ z ∈ addAt l i v, Fx.In z := fun z hz => by
 unfold addAt at hz
 rcases List.mem_or_eq_of_mem_set hz with h | rfl
 ·exact hl z h
 ·exact Fx.add_in _ _
theorem convC_push (w x : List Int) (ts : List Touch) (t : Touch) (n : Nat) : convC w x (ts ++ [t]) n = addAt (convC w x ts n) t.o (Fx.mul (at_ w t.w) (at_ x t.x)) := by unfold convC; rw [List.foldl_append]; rfl
theorem convC_facts {w x : List Int} (hw : ∀ z ∈ w, Fx.In z) (hx : ∀ z ∈ x, Fx.In z) (n : Nat) : ∀ ts : List Touch, (convC w x ts.reverse n).length = n ∧ ∀ z ∈ convC w x ts.reverse n, Fx.In z
 | [] => ⟨by simp [convC, zeros], fun z hz => by simp [convC, zeros] at hz; rw [hz.2]; exact Fx.in_zero⟩
 | t :: r => by
  obtain ⟨h1, h2⟩ := convC_facts hw hx n r
  rw [List.reverse_cons, convC_push]
  exact ⟨by rw [addAt_len, h1], addAt_in h2 (Fx.mul_in _ _)⟩
theorem convC_len {w x : List Int} (hw : ∀ z ∈ w, Fx.In z) (hx : ∀ z ∈ x, Fx.In z) (n : Nat) (ts : List Touch) : (convC w x ts n).length = n := by have := (convC_facts hw hx n ts.reverse).1; rwa [List.reverse_reverse] at this
theorem convC_in {w x : List Int} (hw : ∀ z ∈ w, Fx.In z) (hx : ∀ z ∈ x, Fx.In z) (n : Nat) (ts : List Touch) : ∀ z ∈ convC w x ts n, Fx.In z := by have := (convC_facts hw hx n ts.reverse).2; rwa [List.reverse_reverse] at this
end Ly
set_option maxHeartbeats 1000000 in
theorem conv_go (S C S' C' : Option Addr) (c d c' d' : Nat) (t x : Ten) (step : Int) (w : World) (ht : TenIn w S C c d t) (hx : TenIn w S' C' c' d' x) :
  Calls Tryz.prog 96 #[.agg #[.slice S t.s.length c, .slice C t.c.length d], .agg #[.slice S' x.s.length c', .slice C' x.c.length d'], .int .i64 step] w (GoP (Ly.conv t x step) w) := by
 obtain ⟨hk0, hk1, hz, h01⟩ := three_boxes w 30 30 30 #[.slice S t.s.length c, .slice C t.c.length d] #[.slice S' x.s.length c', .slice C' x.c.length d'] #[.slice none 0 0, .slice none 0 0]
 have l1 := ht.l1
 have l5 := hx.s1
 have l6 := hx.s2
 have l2 := ht.l2
 have l3 := hx.l1
 have l4 := hx.l2
 have Hk0 := Lib.hid hk0
 have Hk1 := Lib.hid hk1
 have Hz := Lib.hid hz
 have H01 := Lib.hid h01
 have Ht := Lib.hid ht
 have Hx := Lib.hid hx
 clear hk0 hk1 hz h01 ht hx
 refine callsIn_wide.1 (callsIn_of_wp_marks (n := 9) Tryz.func96 rfl trivial (wpIn_wide.2 ?_))
 simp only [Tryz.ntmps96, List.size_toArray, List.length_cons, List.length_nil, Nat.reduceAdd, Nat.reduceSub, Array.replicate_succ, Array.replicate_zero, List.push_toArray, List.append_toArray, List.nil_append, List.cons_append]
 go_upto_region 1 with fail
 generalize (((w.alloc (.cells #[.slice S t.s.length c, .slice C t.c.length d] 30)).alloc (.cells #[.slice S' x.s.length c', .slice C' x.c.length d'] 30)).alloc (.cells #[.slice none 0 0, .slice none 0 0] 30)) = w1 at *
 have a0 := Hk0.out.cell 0
 have a1 := Hk0.out.cell 1
 simp at a0 a1
 have b0 := Hk1.out.cell 0
 have b1 := Hk1.out.cell 1
 simp at b0 b1
 go_wp2_with fail
 refine (tensor_right S C c d t w1 (by omega) (by omega) (Ht.out.later H01.out).r.1).mono ?_
 rintro e w2 ⟨rfl, hb2⟩
 have h12 : Later w1 w2 := hb2
 have h02 := H01.out.trans h12
 have hz2 := h12.blk Hz.out
 have hka := h12.blk Hk0.out
 have hkb := h12.blk Hk1.out
 clear hb2 Hz H01 Hk0 Hk1 h12 a0 a1 b0 b1
 have a0 := hka.cell 0
 have a1 := hka.cell 1
 have b0 := hkb.cell 0
 have b1 := hkb.cell 1
 have c0 := hz2.cell 0
 have c1 := hz2.cell 1
 have f0 := hz2.frozen 0
 have f1 := hz2.frozen 1
 simp at a0 a1 b0 b1 c0 c1
 cases hr : Tn.right t
 ·have HE := Lib.hid (show Ly.conv t x step = (Ly.none_, 20) by simp [Ly.conv, Ly.convErr, hr])
  clear hr
  have H02 := Lib.hid h02
  have Hz2 := Lib.hid hz2
  have Hka := Lib.hid hka
  have Hkb := Lib.hid hkb
  clear h02 hz2 hka hkb
  go_wp2_with fail
  refine bodyPostM_ret (v := .tuple #[.agg #[.slice none 0 0, .slice none 0 0], .int .i64 20]) (by simp [results, Tryz.results96, go_sem, c0, c1]) rfl ?_
  exact GoP.fail HE.out (by decide) ((H02.out.set (p := ⟨w.heap.size + 2, 0, none⟩) (by simp) _).set (p := ⟨w.heap.size + 2, 1, none⟩) (by simp) _)
 have H02 := Lib.hid h02
 have Hz2 := Lib.hid hz2
 have Hka := Lib.hid hka
 have Hkb := Lib.hid hkb
 clear h02 hz2 hka hkb
 go_wp2_with fail
 refine (tensor_right S' C' c' d' x w2 (by omega) (by omega) (Hx.out.later H02.out).r.1).mono ?_
 rintro e w3 ⟨rfl, hb3⟩
 have h23 : Later w2 w3 := hb3
 have h03 := H02.out.trans h23
 have hz3 := h23.blk Hz2.out
 have hka3 := h23.blk Hka.out
 have hkb3 := h23.blk Hkb.out
 clear hb3 Hz2 H02 Hka Hkb h23 a0 a1 b0 b1 c0 c1 f0 f1
 have a0 := hka3.cell 0
 have a1 := hka3.cell 1
 have b0 := hkb3.cell 0
 have b1 := hkb3.cell 1
 have c0 := hz3.cell 0
 have c1 := hz3.cell 1
 have f0 := hz3.frozen 0
 have f1 := hz3.frozen 1
 simp at a0 a1 b0 b1 c0 c1
 cases hq : Tn.right x
 ·have HE := Lib.hid (show Ly.conv t x step = (Ly.none_, 20) by simp [Ly.conv, Ly.convErr, hr, hq])
  clear hr hq
  have H03 := Lib.hid h03
  have Hz3 := Lib.hid hz3
  have Hka3 := Lib.hid hka3
  have Hkb3 := Lib.hid hkb3
  clear h03 hz3 hka3 hkb3
  go_wp2_with fail
  refine bodyPostM_ret (v := .tuple #[.agg #[.slice none 0 0, .slice none 0 0], .int .i64 20]) (by simp [results, Tryz.results96, go_sem, c0, c1]) rfl ?_
  exact GoP.fail HE.out (by decide) ((H03.out.set (p := ⟨w.heap.size + 2, 0, none⟩) (by simp) _).set (p := ⟨w.heap.size + 2, 1, none⟩) (by simp) _)
 have H03 := Lib.hid h03
 have Hz3 := Lib.hid hz3
 have Hka3 := Lib.hid hka3
 have Hkb3 := Lib.hid hkb3
 clear h03 hz3 hka3 hkb3
 go_wp2_with fail
 refine (conv_shape S S' c c' t.s x.s step w3 (by omega) (by omega) (by omega) (by omega) (Ht.out.later H03.out).r.1 (Hx.out.later H03.out).r.1).mono ?_
 rintro e w4 ⟨A, ac, rfl, hI, hc1, hc2, hf, hb⟩
 have h34 : Later w3 w4 := hb
 have h04 := H03.out.trans h34
 have hz4 := h34.blk Hz3.out
 have hka4 := h34.blk Hka3.out
 have hkb4 := h34.blk Hkb3.out
 clear hb Hz3 H03 Hka3 Hkb3 h34 a0 a1 b0 b1 c0 c1 f0 f1
 have a0 := hka4.cell 0
 have a1 := hka4.cell 1
 have b0 := hkb4.cell 0
 have b1 := hkb4.cell 1
 have c0 := hz4.cell 0
 have c1 := hz4.cell 1
 have f0 := hz4.frozen 0
 have f1 := hz4.frozen 1
 simp at a0 a1 b0 b1 c0 c1
 have hce : Ly.convErr t x step = (Od.conv t.s x.s step).2 := by simp [Ly.convErr, hr, hq]
 by_cases hne : (Od.conv t.s x.s step).2 ≠ 0
 ·have HE := Lib.hid (show Ly.conv t x step = (Ly.none_, (Od.conv t.s x.s step).2) by simp [Ly.conv, hce, hne])
  have hne' : ¬ (Od.conv t.s x.s step).2 = 0 := hne
  clear hr hq hce
  have H04 := Lib.hid h04
  have Hz4 := Lib.hid hz4
  have Hka4 := Lib.hid hka4
  have Hkb4 := Lib.hid hkb4
  have HI := Lib.hid hI
  clear h04 hz4 hka4 hkb4 hI
  go_wp2_with fail
  refine bodyPostM_ret (v := .tuple #[.agg #[.slice none 0 0, .slice none 0 0], .int .i64 (Od.conv t.s x.s step).2]) (by simp [results, Tryz.results96, go_sem, c0, c1]) rfl ?_
  exact GoP.fail HE.out hne ((H04.out.set (p := ⟨w.heap.size + 2, 0, none⟩) (by simp) _).set (p := ⟨w.heap.size + 2, 1, none⟩) (by simp) _)
 have hok : (Od.conv t.s x.s step).2 = 0 := by omega
 have HE := Lib.hid (show Ly.conv t x step = (⟨(Od.conv t.s x.s step).1, Ly.convC t.c x.c (Ly.convT t x step) (Ly.span (Od.conv t.s x.s step).1)⟩, 0) by simp [Ly.conv, hce, hok])
 clear hne hce
 obtain ⟨hst, hfit, hcase⟩ := Ly.conv_fit hok
 rw [hok]
 have hol : (Od.conv t.s x.s step).1.length ≤ 4 := by
  rcases hcase with ⟨_, _, _, _, _, _, _, e⟩ | ⟨_, _, _, _, _, _, _, _, _, _, e⟩ <;> rw [e] <;> simp
 have hor := conv_right hok
 have hcallT := conv_touch S S' c c' t.s x.s step
 have HF := Lib.hid hfit
 have HK := Lib.hid hok
 have HC := Lib.hid hcase
 obtain ⟨out, hout⟩ : ∃ out, (Od.conv t.s x.s step).1 = out := ⟨_, rfl⟩
 rw [hout] at hI hc1 hol hor ⊢
 clear hfit hok hcase
 have HT := Lib.hid hcallT
 clear hcallT
 have H04 := Lib.hid h04
 have Hz4 := Lib.hid hz4
 have Hka4 := Lib.hid hka4
 have Hkb4 := Lib.hid hkb4
 have HI := Lib.hid hI
 clear h04 hz4 hka4 hkb4 hI
 go_wp2_with fail
 refine (tensor_make A ac out 0 w4 (by omega) HI.out).mono ?_
 rintro e w5 ⟨hmk, hb5⟩
 obtain ⟨⟨hbad, -⟩ | ⟨-, v, rfl, g, hh, rfl, hg, hh', hG, hH⟩, hb5⟩ := And.intro hmk hb5
 ·rw [hor] at hbad; cases hbad
 have h45 : Later w4 w5 := hb5
 have h5a : Later w5 (w5.alloc (.cells #[.slice (some ⟨g, 0, none⟩) out.length out.length, .slice (some ⟨hh, 0, none⟩) (Safe.prod out).toNat (Safe.prod out).toNat] 30)) := (Later.refl w5).alloc _
 have ho := Blk.new w5 30 #[.slice (some ⟨g, 0, none⟩) out.length out.length, .slice (some ⟨hh, 0, none⟩) (Safe.prod out).toNat (Safe.prod out).toNat]
 have h46 := h45.trans h5a
 have h06 := H04.out.trans h46
 have hz6 := h46.blk Hz4.out
 have hka6 := h46.blk Hka4.out
 have hkb6 := h46.blk Hkb4.out
 have hG6 := h5a.blk hG
 have hH6 := h5a.blk hH
 have hz4lt := Hz4.out.lt
 have hHlt5 := hH.lt
 have hgh : g ≠ hh := fun e => by
  subst e
  have := hG.symm.trans hH
  simp at this
 clear Hz4 Hka4 Hkb4 hG hH a0 a1 b0 b1 c0 c1 f0 f1
 have H45 := Lib.hid h45
 have H5a := Lib.hid h5a
 have Ho := Lib.hid ho
 have H46 := Lib.hid h46
 have H06 := Lib.hid h06
 have Hz6 := Lib.hid hz6
 have Hka6 := Lib.hid hka6
 have Hkb6 := Lib.hid hkb6
 have HG6 := Lib.hid hG6
 have HH6 := Lib.hid hH6
 clear h45 h5a ho h46 h06 hz6 hka6 hkb6 hG6 hH6
 go_upto_region 7 with fail
 generalize w5.alloc (.cells #[.slice (some ⟨g, 0, none⟩) out.length out.length, .slice (some ⟨hh, 0, none⟩) (Safe.prod out).toNat (Safe.prod out).toNat] 30) = w6 at *
 generalize hpe : w5.heap.size = q at *
 have a0 := Hka6.out.cell 0
 have b0 := Hkb6.out.cell 0
 simp at a0 b0
 go_wp2_with fail
 refine (HT.out w6 Ht.out.s1 l5 l6 (Ht.out.later H06.out).r.1 (Hx.out.later H06.out).r.1 HK.out).mono ?_
 rintro e w7 ⟨rfl, hb7⟩
 have h67 : Later w6 w7 := hb7
 have h07 := H06.out.trans h67
 have hz7 := h67.blk Hz6.out
 have hka7 := h67.blk Hka6.out
 have hkb7 := h67.blk Hkb6.out
 have hG7 := h67.blk HG6.out
 have hH7 := h67.blk HH6.out
 have ho7 := h67.blk Ho.out
 clear Hz6 Hka6 Hkb6 HG6 HH6 Ho a0 b0 hb7 H06
 have H67 := Lib.hid h67
 have H07 := Lib.hid h07
 have Hz7 := Lib.hid hz7
 have Hka7 := Lib.hid hka7
 have Hkb7 := Lib.hid hkb7
 have HG7 := Lib.hid hG7
 have HH7 := Lib.hid hH7
 have Ho7 := Lib.hid ho7
 clear h67 h07 hz7 hka7 hkb7 hG7 hH7 ho7
 go_wp2_with fail
 have hs := HF.out.small
 have hps := HF.out.pos
 have hpl := HF.out.places
 have hT : Ly.convT t x step = (Ly.frame t.s x.s out step).all := by unfold Ly.convT; rw [hout]
 rw [hout] at hs hps hpl
 generalize hfr : Ly.frame t.s x.s out step = fr at *
 refine wpIn_wide.1 (wpIn_range_first (n := 9) (9 - 1 - 1 - 1) rfl (by omega) (gf := 115) (lf := #[fr.V]) rfl trivial (enters_of Tryz.func115 (by kernel_rfl) rfl) Ly.Touch.V rfl fr.all
  (fun pre W => Blk W hh 22 ((Ly.convC t.c x.c pre (Safe.prod out).toNat).map (Value.int .i64)).toArray ∧ Blk W q 30 #[.slice (some ⟨g, 0, none⟩) out.length out.length, .slice (some ⟨hh, 0, none⟩) (Safe.prod out).toNat (Safe.prod out).toNat] ∧ (Blk W w.heap.size 30 #[.slice S t.s.length c, .slice C t.c.length d] ∧ Blk W (w.heap.size + 1) 30 #[.slice S' x.s.length c', .slice C' x.c.length d'] ∧ Blk W (w.heap.size + 2) 30 #[.slice none 0 0, .slice none 0 0] ∧ Blk W g 3 (out.map (Value.int .i64)).toArray) ∧ Later w W) ?hI ?h0 ?hseq ?hbody ?hdone)
 case hI =>
  rintro pre A B hb ⟨h1, h2, ⟨h4, h5, h6, h7⟩, h3⟩
  exact ⟨(hb.block _ HH7.out.lt).trans h1, (hb.block _ Ho7.out.lt).trans h2, ⟨(hb.block _ Hka7.out.lt).trans h4, (hb.block _ Hkb7.out.lt).trans h5, (hb.block _ Hz7.out.lt).trans h6, (hb.block _ HG7.out.lt).trans h7⟩, Below.trans h3 (hb.mono H07.out.size)⟩
 case h0 => exact ⟨by simpa [Ly.convC, Ly.zeros] using HH7.out, Ho7.out, ⟨Hka7.out, Hkb7.out, Hz7.out, HG7.out⟩, H07.out⟩
 case hseq =>
  intro l J W hsz hbw hJ hY h0
  exact frame_each Fence.wide (9 - 1) l trivial trivial rfl (by omega) fr hs hps W.heap.size J hJ hY W (Nat.le_refl _) h0
 case hbody =>
  rintro pre z rest A hx ⟨h1, h2, ⟨h4, h5, h6, h7⟩, h3⟩ hA
  obtain ⟨po, pw, px⟩ := hpl z (by rw [hx]; simp)
  obtain ⟨l7, l8, l9⟩ := Ly.conv_lens hr hq HK.out
  rw [hout, hfr] at l7 l8
  rw [hout, hfr] at l9
  rw [← l9] at po
  rw [← l7] at pw
  rw [← l8] at px
  have hcl := Ly.convC_len Ht.out.num Hx.out.num (Safe.prod out).toNat pre
  have hci := Ly.convC_in Ht.out.num Hx.out.num (Safe.prod out).toNat pre
  have hpush := Ly.convC_push t.c x.c pre z (Safe.prod out).toNat
  have hin := Ly.convC_in Ht.out.num Hx.out.num (Safe.prod out).toNat (pre ++ [z])
  clear l7 l8 l9 hmk hx
  generalize Ly.convC t.c x.c pre (Safe.prod out).toNat = acc at *
  rw [hpush]
  clear hpush hin
  generalize (Safe.prod out).toNat = N at *
  have hs7 := H07.out.size
  have hHlt := HH7.out.lt
  have hGlt := HG7.out.lt
  have hqlt := Ho7.out.lt
  have hzlt := Hz7.out.lt
  obtain ⟨bt, ot, rfl, lbt, w0⟩ := Ht.out.cell pw
  obtain ⟨bx, ox, rfl, lbx, x0⟩ := Hx.out.cell px
  have hwI := Ly.at_in Ht.out.num z.w
  have hxI := Ly.at_in Hx.out.num z.x
  have haI := Ly.at_in hci z.o
  have hmulI := Fx.mul_in (Ly.at_ t.c z.w) (Ly.at_ x.c z.x)
  have hso : acc.set z.o (Fx.add (Ly.at_ acc z.o) (Fx.mul (Ly.at_ t.c z.w) (Ly.at_ x.c z.x))) = Ly.addAt acc z.o (Fx.mul (Ly.at_ t.c z.w) (Ly.at_ x.c z.x)) := rfl
  have ho1 : Ly.at_ acc z.o = acc[z.o]'(by omega) := Ly.at_get (by omega)
  generalize Ly.at_ t.c z.w = tv at *
  generalize Ly.at_ x.c z.x = xv at *
  have HSO := Lib.hid hso
  clear hso
  rw [← HSO.out]
  rw [show Ly.Touch.V z = Value.agg #[.int .i64 z.o, .int .i64 z.w, .int .i64 z.x] from rfl]
  have h1c := h1.cell z.o
  simp [show z.o < acc.length by omega, ← ho1] at h1c
  generalize Ly.at_ acc z.o = ov at *
  clear ho1
  obtain ⟨zo, zw, zx⟩ := z
  simp only at *
  have hat := Blk.new A 114 #[.int .i64 zo, .int .i64 zw, .int .i64 zx]
  have hlA := (Later.refl A).alloc (.cells #[.int .i64 zo, .int .i64 zw, .int .i64 zx] 114)
  have hwA := w0
  have H1 := Lib.hid h1
  have H2 := Lib.hid h2
  have H4 := Lib.hid h4
  have H5 := Lib.hid h5
  have H6 := Lib.hid h6
  have H7 := Lib.hid h7
  have H3 := Lib.hid h3
  have Hat := Lib.hid hat
  have HlA := Lib.hid hlA
  have Hci := Lib.hid hci
  clear h1 h2 h4 h5 h6 h7 h3 hat hlA hci
  gi_wp2_with (rw [Oper.semAt_eq _ _ _ (fun c h => by cases h)]; go_simp; try go_bits)
  have Hpl := Lib.hid hpl
  have HT2 := Lib.hid hT
  clear hpl hT hs hps hor hout
  refine ⟨Above.alloc _ _ _, fun A2 hs2 hk2 hb2 => ?_⟩
  rw [World.size_alloc] at hs2
  have hlt2 := H1.out.lt
  have hfar := fun (k : Nat) (h : k < w7.heap.size) => hk2 k (by omega)
  have g1 : Blk A2 hh 22 (acc.map (Value.int .i64)).toArray := (hfar hh hHlt).trans (HlA.out.blk H1.out)
  have g2 : Blk A2 q 30 #[.slice (some ⟨g, 0, none⟩) out.length out.length, .slice (some ⟨hh, 0, none⟩) N N] := (hfar q hqlt).trans (HlA.out.blk H2.out)
  have g4 : Blk A2 w.heap.size 30 #[.slice S t.s.length c, .slice (some ⟨bt, ot, none⟩) t.c.length d] := (hfar w.heap.size (by omega)).trans (HlA.out.blk H4.out)
  have g5 : Blk A2 (w.heap.size + 1) 30 #[.slice S' x.s.length c', .slice (some ⟨bx, ox, none⟩) x.c.length d'] := (hfar (w.heap.size + 1) (by omega)).trans (HlA.out.blk H5.out)
  have g6 : Blk A2 (w.heap.size + 2) 30 #[.slice none 0 0, .slice none 0 0] := (hfar (w.heap.size + 2) (by omega)).trans (HlA.out.blk H6.out)
  have g7 : Blk A2 g 3 (out.map (Value.int .i64)).toArray := (hfar _ hGlt).trans (HlA.out.blk H7.out)
  have g8 : Blk A2 A.heap.size 114 #[.int .i64 zo, .int .i64 zw, .int .i64 zx] := (hk2 A.heap.size (by omega)).trans Hat.out
  have g3 : Later w A2 := Below.trans (show Below w.heap.size w _ from H3.out.trans HlA.out) (hb2.mono (by omega))
  have u0 := g8.cell 0
  have u1 := g8.cell 1
  have u2 := g8.cell 2
  have u3 := g4.cell 1
  have u4 := g5.cell 1
  have u5 := g2.cell 1
  simp at u0 u1 u2 u3 u4 u5
  have u6 := g3.cell w0
  have u7 := g3.cell x0
  have u8 : A2.cell? ⟨hh, zo, none⟩ = some (.int .i64 ov) := (World.cell?_of_block (hfar hh hHlt)).trans (HlA.out.cell h1c)
  have u9 := g1.frozen zo
  clear w0 x0 hwA h1c hfar hk2 hb2 H1 H2 H3 H4 H5 H6 H7 Hat HlA
  have Hg1 := Lib.hid g1
  have Hg2 := Lib.hid g2
  have Hg3 := Lib.hid g3
  have Hg4 := Lib.hid g4
  have Hg5 := Lib.hid g5
  have Hg6 := Lib.hid g6
  have Hg7 := Lib.hid g7
  have Hg8 := Lib.hid g8
  clear g1 g2 g3 g4 g5 g6 g7 g8
  have v1 : (zw : Int) < (t.c.length : Int) := by omega
  have v2 : (zx : Int) < (x.c.length : Int) := by omega
  have v3 : (zo : Int) < (N : Int) := by omega
  gi_wp2_with fail
  have KF := Lib.hid (show ∀ Xw, Later A2 Xw → Xw.cell? ⟨A.heap.size, 0, none⟩ = some (.int .i64 zo) ∧ Xw.cell? ⟨A.heap.size, 1, none⟩ = some (.int .i64 zw) ∧ Xw.cell? ⟨A.heap.size, 2, none⟩ = some (.int .i64 zx) ∧ Xw.cell? ⟨w.heap.size, 1, none⟩ = some (.slice (some ⟨bt, ot, none⟩) t.c.length d) ∧ Xw.cell? ⟨w.heap.size + 1, 1, none⟩ = some (.slice (some ⟨bx, ox, none⟩) x.c.length d') ∧ Xw.cell? ⟨bt, ot + zw, none⟩ = some (.int .i64 tv) ∧ Xw.cell? ⟨bx, ox + zx, none⟩ = some (.int .i64 xv) from fun Xw h => ⟨h.cell u0, h.cell u1, h.cell u2, h.cell u3, h.cell u4, h.cell u6, h.cell u7⟩)
  refine wpIn_round_held_drew (S := fun Xw => Xw.cell? ⟨A.heap.size, 0, none⟩ = some (.int .i64 zo) ∧ Xw.cell? ⟨A.heap.size, 1, none⟩ = some (.int .i64 zw) ∧ Xw.cell? ⟨A.heap.size, 2, none⟩ = some (.int .i64 zx) ∧ Xw.cell? ⟨w.heap.size, 1, none⟩ = some (.slice (some ⟨bt, ot, none⟩) t.c.length d) ∧ Xw.cell? ⟨w.heap.size + 1, 1, none⟩ = some (.slice (some ⟨bx, ox, none⟩) x.c.length d') ∧ Xw.cell? ⟨bt, ot + zw, none⟩ = some (.int .i64 tv) ∧ Xw.cell? ⟨bx, ox + zx, none⟩ = some (.int .i64 xv)) (by kernel_rfl) (by kernel_rfl) (KF.out _ Later.au) (fun hHeld => ?_)
  refine tk 0 ?_
  refine tk 1 ?_
  refine tk 2 ?_
  refine tk 3 ?_
  refine tk 4 ?_
  refine tk 5 ?_
  refine tk 6 ?_
  refine tk 7 ?_
  refine tk 8 ?_
  refine tk 9 ?_
  refine tk 10 ?_
  refine tk 11 ?_
  refine rd 12 fun K hK => ?_
  simp only [ga, gs, gz]
  go_simp
  go_at_call 54; (with_reducible refine (fix_mul tv xv _ hwI hxI).mono ?_); rintro e wb ⟨rfl, rfl⟩
  try go_wp2_with fail
  refine hK.out _ _ (KF.out _ Later.au) (fun hHeld => ?_)
  clear hK K
  try simp only [ga, gs, gz, Act.put, sa, sz, ss]
  refine tk 13 ?_
  clear KF
  refine wpAnyH_done (by kernel_rfl) ?_ _
  refine NoPanic.normal ?_
  refine OnlyNormal.mk ?_
  gi_wp2_with fail
  have KF := Lib.hid (show ∀ Xw, Later A2 Xw → Xw.cell? ⟨A.heap.size, 0, none⟩ = some (.int .i64 zo) ∧ Xw.cell? ⟨q, 1, none⟩ = some (.slice (some ⟨hh, 0, none⟩) N N) from fun Xw h => ⟨h.cell u0, h.cell u5⟩)
  refine wpIn_round_held_drew (S := fun Xw => Xw.cell? ⟨A.heap.size, 0, none⟩ = some (.int .i64 zo) ∧ Xw.cell? ⟨q, 1, none⟩ = some (.slice (some ⟨hh, 0, none⟩) N N)) (by kernel_rfl) (by kernel_rfl) (KF.out _ Later.au) (fun hHeld => ?_)
  refine tk 0 ?_
  refine tk 1 ?_
  refine tk 2 ?_
  refine tk 3 ?_
  refine tk 4 ?_
  refine tk 5 ?_
  refine tk 6 ?_
  refine tk 7 ?_
  refine tk 8 ?_
  refine tk 10 ?_
  refine rd 9 fun K hK => ?_
  simp only [ga, gs, gz]
  go_simp
  refine hK.out _ _ (KF.out _ Later.au) (fun hHeld => ?_)
  clear hK K
  try simp only [ga, gs, gz, Act.put, sa, sz, ss]
  refine rd 11 fun K hK => ?_
  simp only [ga, gs, gz]
  go_simp
  go_at_call 55; (with_reducible refine (fix_add ov (Fx.mul tv xv) _ haI hmulI).mono ?_); rintro e wb ⟨rfl, rfl⟩
  try go_wp2_with fail
  refine hK.out _ _ (KF.out _ Later.au) (fun hHeld => ?_)
  clear hK K
  try simp only [ga, gs, gz, Act.put, sa, sz, ss]
  refine tk 12 ?_
  refine rd 13 fun K hK => ?_
  simp only [ga, gs, gz]
  go_simp
  refine hK.out _ _ ?_ (fun hHeld => ?_)
  ·(try dsimp only); (refine ⟨?_, ?_⟩ <;> (repeat (refine cell_setfar ?_ (by first | omega | (simp; done) | (simp; omega)))) <;> (refine Later.cell (Later.au : Later A2 _) ?_) <;> assumption)
  clear hK K
  try simp only [ga, gs, gz, Act.put, sa, sz, ss]
  clear KF
  refine wpAnyH_done (by kernel_rfl) ?_ _
  refine NoPanic.normal ?_
  refine OnlyNormal.mk ?_
  gi_wp2_with fail
  have n1 : w.heap.size ≠ hh := by omega
  have n2 : w.heap.size + 1 ≠ hh := by omega
  have n3 : w.heap.size + 2 ≠ hh := by omega
  have n4 : q ≠ hh := by omega
  have k1 := Hg1.out.set_ zo (.int .i64 (Fx.add ov (Fx.mul tv xv)))
  refine ⟨Above.setCell (p := ⟨hh, zo, none⟩) hHlt _, ?_, Hg2.out.far (p := ⟨hh, zo, none⟩) n4 _, ⟨Hg4.out.far (p := ⟨hh, zo, none⟩) n1 _, Hg5.out.far (p := ⟨hh, zo, none⟩) n2 _, Hg6.out.far (p := ⟨hh, zo, none⟩) n3 _, Hg7.out.far (p := ⟨hh, zo, none⟩) hgh _⟩, ((Hg3.out.set (p := ⟨hh, zo, none⟩) (by simp; omega) _).drew).drew⟩
  simpa using k1.drew.drew
 case hdone =>
  rintro D W ⟨h1, h2, ⟨h4, h5, h6, h7⟩, h3⟩ hD hK
  have hzlt := Hz7.out.lt
  have o0 := h2.cell 0
  have o1 := h2.cell 1
  have c0 := h6.cell 0
  have c1 := h6.cell 1
  have f0 := h6.frozen 0
  have f1 := h6.frozen 1
  simp at o0 o1 c0 c1
  have hN : Ly.span out = (Safe.prod out).toNat := rfl
  have hzz := (h6.set_ 0 (.slice (some ⟨g, 0, none⟩) out.length out.length)).set_ 1 (.slice (some ⟨hh, 0, none⟩) (Safe.prod out).toNat (Safe.prod out).toNat)
  have d0 := hzz.cell 0
  have d1 := hzz.cell 1
  simp at d0 d1
  have hcl := Ly.convC_len Ht.out.num Hx.out.num (Safe.prod out).toNat fr.all
  have hci := Ly.convC_in Ht.out.num Hx.out.num (Safe.prod out).toNat fr.all
  have hHE := HE.out
  rw [hT, hout, hN] at hHE
  have hsz : out.length ≤ 1048576 := by omega
  obtain ⟨l7, l8, l9⟩ := Ly.conv_lens hr hq HK.out
  rw [hout, hfr] at l9
  have hsn : (Safe.prod out).toNat ≤ 1048576 := by rw [l9]; have := HF.out.out; rw [hout, hfr] at this; omega
  clear l7 l8 l9 hmk hpl hs hps hN hzz
  have HHE := Lib.hid hHE
  clear hHE hT
  generalize Ly.convC t.c x.c fr.all (Safe.prod out).toNat = acc at *
  generalize (Safe.prod out).toNat = N at *
  have hK2 := (Below.heap_setCell (W.setCell ⟨w.heap.size + 2, 0, none⟩ (.slice (some ⟨g, 0, none⟩) out.length out.length)) ⟨w.heap.size + 2, 1, none⟩ (.slice (some ⟨hh, 0, none⟩) N N) D (by simp; omega)).trans ((Below.heap_setCell W ⟨w.heap.size + 2, 0, none⟩ (.slice (some ⟨g, 0, none⟩) out.length out.length) D (by simp; omega)).trans hK)
  have H1 := Lib.hid h1
  have H2 := Lib.hid h2
  have H4 := Lib.hid h4
  have H5 := Lib.hid h5
  have H6 := Lib.hid h6
  have H7 := Lib.hid h7
  have H3 := Lib.hid h3
  have HK := Lib.hid hK
  have HK2 := Lib.hid hK2
  have Hci := Lib.hid hci
  clear h1 h2 h4 h5 h6 h7 h3 hK hK2 hci
  go_wp2_with fail
  refine ⟨by simp, .inl ⟨_, _, rfl, run_takeDeferred HK2.out, ?_⟩⟩
  have m1 : w.heap.size + 2 ≠ D := by omega
  have m2 : g ≠ w.heap.size + 2 := by omega
  have m3 : hh ≠ w.heap.size + 2 := by omega
  have hD1 : g ≠ D := by have := HG7.out.lt; omega
  have hD2 : hh ≠ D := by have := HH7.out.lt; omega
  have e0 := (World.cell?_of_block (World.putObj_heap_other (o := .deferred none) (w := (W.setCell ⟨w.heap.size + 2, 0, none⟩ (.slice (some ⟨g, 0, none⟩) out.length out.length)).setCell ⟨w.heap.size + 2, 1, none⟩ (.slice (some ⟨hh, 0, none⟩) N N)) m1)).trans d0
  have e1 := (World.cell?_of_block (World.putObj_heap_other (o := .deferred none) (w := (W.setCell ⟨w.heap.size + 2, 0, none⟩ (.slice (some ⟨g, 0, none⟩) out.length out.length)).setCell ⟨w.heap.size + 2, 1, none⟩ (.slice (some ⟨hh, 0, none⟩) N N)) m1)).trans d1
  have b1 : Blk (((W.setCell ⟨w.heap.size + 2, 0, none⟩ (.slice (some ⟨g, 0, none⟩) out.length out.length)).setCell ⟨w.heap.size + 2, 1, none⟩ (.slice (some ⟨hh, 0, none⟩) N N)).putObj D (.deferred none)) g 3 (out.map (Value.int .i64)).toArray := (World.putObj_heap_other hD1).trans ((H7.out.far (p := ⟨w.heap.size + 2, 0, none⟩) m2 _).far (p := ⟨w.heap.size + 2, 1, none⟩) m2 _)
  have b2 : Blk (((W.setCell ⟨w.heap.size + 2, 0, none⟩ (.slice (some ⟨g, 0, none⟩) out.length out.length)).setCell ⟨w.heap.size + 2, 1, none⟩ (.slice (some ⟨hh, 0, none⟩) N N)).putObj D (.deferred none)) hh 22 (acc.map (Value.int .i64)).toArray := (World.putObj_heap_other hD2).trans ((H1.out.far (p := ⟨w.heap.size + 2, 0, none⟩) m3 _).far (p := ⟨w.heap.size + 2, 1, none⟩) m3 _)
  have b3 : Later w (((W.setCell ⟨w.heap.size + 2, 0, none⟩ (.slice (some ⟨g, 0, none⟩) out.length out.length)).setCell ⟨w.heap.size + 2, 1, none⟩ (.slice (some ⟨hh, 0, none⟩) N N)).putObj D (.deferred none)) := Below.trans ((H3.out.set (p := ⟨w.heap.size + 2, 0, none⟩) (by simp) _).set (p := ⟨w.heap.size + 2, 1, none⟩) (by simp) _) (below_put _ _ (by omega))
  simp only [Nat.add_assoc, Nat.reduceAdd]
  generalize ((W.setCell ⟨w.heap.size + 2, 0, none⟩ (.slice (some ⟨g, 0, none⟩) out.length out.length)).setCell ⟨w.heap.size + 2, 1, none⟩ (.slice (some ⟨hh, 0, none⟩) N N)).putObj D (.deferred none) = W4 at *
  refine ⟨.tuple #[.agg #[.slice (some ⟨g, 0, none⟩) out.length out.length, .slice (some ⟨hh, 0, none⟩) N N], .int .i64 0], by simp [results, Tryz.results96, go_sem, e0, e1], ?_⟩
  refine GoP.ok HHE.out ?_ b3
  refine ⟨some ⟨g, 0, none⟩, out.length, some ⟨hh, 0, none⟩, N, by simp [hcl], ⟨⟨b1.intsL, b2.intsL⟩, Nat.le_refl _, by omega, by simp [hcl], by omega, hsz, by simp [hcl]; omega, Hci.out⟩, ?_, ?_⟩
  ·intro a e
   injection e with e
   rw [← e]
   show w.heap.size ≤ g
   omega
  ·intro a e
   injection e with e
   rw [← e]
   exact ⟨show w.heap.size ≤ hh by omega, b2.lt, fun j => b2.frozen j⟩
end Go.Proofs.YtbnnpkcfifejmaaGreat
namespace Go.Proofs.YtbnnpkcfifejmaaGreat
open Go.RowKit
theorem gop_fin {r : Ten × Int} {w w1 wf : World} {v u u2 : Value} {p : Nat} {T : TypeId} (hne : r.2 ≠ 0 → v = Value.agg #[.slice none 0 0, .slice none 0 0]) (hok : r.2 = 0 → TenO w1.heap.size wf v r.1) (hL : Later w wf) (hz : Blk wf p T #[.slice none 0 0, .slice none 0 0]) (hp : w.heap.size ≤ p) (hs : w.heap.size ≤ w1.heap.size) :
  GoP r w (.returned (.tuple #[v, .int .i64 r.2])) ((wf.setCell ⟨p, 0, none⟩ u).setCell ⟨p, 1, none⟩ u2) := by
 refine ⟨?_, (hL.set (p := ⟨p, 0, none⟩) hp _).set (p := ⟨p, 1, none⟩) hp _⟩
 by_cases h : r.2 = 0
 ·exact .inr ⟨h, v, by rw [h], ((hok h).base hs).box hz⟩
 ·exact .inl ⟨h, by rw [hne h]⟩
def case_arr (o : OpD) (S P X GS GC : Option Addr) (c cp cx gc gd : Nat) (p x : List Ten) (g : Ten) : Array Value := #[.int .i64 o.kind, .int .i64 o.k, .int .i64 o.width, .int .i64 o.step, .int .i64 o.side, .int .i64 o.frm, .int .i64 o.to, .slice S o.s.length c, .slice P p.length cp, .slice X x.length cx, .slice GS g.s.length gc, .slice GC g.c.length gd]
set_option maxHeartbeats 8000000 in
set_option maxRecDepth 20000 in
theorem op_go (o : OpD) (S P X : Option Addr) (c cp cx : Nat) (p x : List Ten) (w : World) (ho : o.s.length ≤ 1048576) (hI : Ints .i64 w S o.s) (hk0 : Fx.In o.k) (hP : Tns w P p) (hX : Tns w X x) (lX : x.length ≤ 1048576) (kX : x.length ≤ cx) (mX : cx ≤ 9223372036854775807) :
  Calls Tryz.prog 42 #[.agg #[.int .i64 o.kind, .int .i64 o.k, .int .i64 o.width, .int .i64 o.step, .int .i64 o.side, .int .i64 o.frm, .int .i64 o.to, .slice S o.s.length c], .slice P p.length cp, .slice X x.length cx] w (GoP (Ly.go o p x) w) := by
 have h01 : Later w ((w.alloc (.cells #[.int .i64 o.kind, .int .i64 o.k, .int .i64 o.width, .int .i64 o.step, .int .i64 o.side, .int .i64 o.frm, .int .i64 o.to, .slice S o.s.length c] 26)).alloc (.cells #[.slice none 0 0, .slice none 0 0] 30)) := ((Later.refl w).alloc _).alloc _
 have hko1 := (Blk.new w 26 #[.int .i64 o.kind, .int .i64 o.k, .int .i64 o.width, .int .i64 o.step, .int .i64 o.side, .int .i64 o.frm, .int .i64 o.to, .slice S o.s.length c]).alloc (.cells #[.slice none 0 0, .slice none 0 0] 30)
 have hz1 := Blk.new (w.alloc (.cells #[.int .i64 o.kind, .int .i64 o.k, .int .i64 o.width, .int .i64 o.step, .int .i64 o.side, .int .i64 o.frm, .int .i64 o.to, .slice S o.s.length c] 26)) 30 #[.slice none 0 0, .slice none 0 0]
 rw [World.size_alloc] at hz1
 have HI := Lib.hid hI
 have HP := Lib.hid hP
 have HX := Lib.hid hX
 have H01 := Lib.hid h01
 have Hko1 := Lib.hid hko1
 have Hz1 := Lib.hid hz1
 clear hI hP hX h01 hko1 hz1
 go_enter Tryz.func42, Tryz.ntmps42
 go_wp2_with fail
 generalize (w.alloc (.cells #[.int .i64 o.kind, .int .i64 o.k, .int .i64 o.width, .int .i64 o.step, .int .i64 o.side, .int .i64 o.frm, .int .i64 o.to, .slice S o.s.length c] 26)).alloc (.cells #[.slice none 0 0, .slice none 0 0] 30) = w1 at *
 refine (op_counts o S c p.length x.length w1 (by omega) (HI.out.below H01.out (Nat.le_refl _))).mono ?_
 rintro e w2 ⟨rfl, hb2⟩
 have h12 : Later w1 w2 := hb2
 have hH := H01.out.trans h12
 have hz := h12.blk Hz1.out
 have hko := h12.blk Hko1.out
 clear hb2 h12 H01 Hz1 Hko1
 by_cases hc : Od.counts o p.length x.length = 0
 case neg =>
  have HE := Lib.hid (Ly.go_err hc)
  have Hc := Lib.hid hc
  have d2 : (Od.counts o p.length x.length != 0) = true := by simpa using hc
  clear hc
  generalize Od.counts o p.length x.length = ge at *
  have c0' := hz.cell 0
  have c1' := hz.cell 1
  have f0 := hz.frozen 0
  have f1 := hz.frozen 1
  simp at c0' c1'
  have HH := Lib.hid hH
  have Hz := Lib.hid hz
  have Hko := Lib.hid hko
  clear hH hz hko
  go_wp2_with fail
  refine bodyPost_ret (v := .tuple #[.agg #[.slice none 0 0, .slice none 0 0], .int .i64 ge]) (by simp [results, Tryz.results42, go_sem, c0', c1']) rfl ?_
  exact GoP.fail HE.out Hc.out ((HH.out.set (p := ⟨w.heap.size + 1, 0, none⟩) (by simp) _).set (p := ⟨w.heap.size + 1, 1, none⟩) (by simp) _)
 have hkr := Od.right_kind (Ly.counts_ok hc).1
 have hg0 : Ly.go o p x = Ly.lay o p x := Ly.go_lay hc
 rw [hc]
 have HH := Lib.hid hH
 have Hz := Lib.hid hz
 have Hko := Lib.hid hko
 clear hH hz hko
 have hcases : o.kind ≤ 7 ∨ o.kind = 8 ∨ o.kind = 9 ∨ o.kind = 10 ∨ o.kind = 11 ∨ o.kind = 12 ∨ o.kind = 13 ∨ o.kind = 14 ∨ o.kind = 15 := by omega
 rcases hcases with hk | hk | hk | hk | hk | hk | hk | hk | hk
 ·have hR0 : Ly.lay o p x = Ly.point o.kind o.k x := Ly.lay7 hk
  have hno : (Ly.point o.kind o.k x).2 ≠ 0 → (Ly.point o.kind o.k x).1 = Ly.none_ := Ly.point_none
  have hun := (Ly.counts_ok hc)
  unfold Od.least Od.most Od.params at hun
  clear hun hc
  have hcall := fun (W : World) (h : Later w2 W) => calls_goU (point_go o.kind o.k X cx x W lX (HX.out.later (HH.out.trans h)) hk0) hno
  obtain ⟨R, hR⟩ : ∃ R, Ly.point o.kind o.k x = R := ⟨_, rfl⟩
  rw [hR] at hcall
  rw [hR] at hR0
  have HE := Lib.hid (hg0.trans hR0)
  clear hno
  have q1 : w2.cell? ⟨w.heap.size, 0, none⟩ = some (.int .i64 o.kind) := by rw [Hko.out.cell]; rfl
  have q2 : w2.cell? ⟨w.heap.size, 1, none⟩ = some (.int .i64 o.k) := by rw [Hko.out.cell]; rfl
  have x0 : w2.cell? ⟨w.heap.size, 0, none⟩ = some (.int .i64 o.kind) := by rw [Hko.out.cell]; rfl
  have k8 : (o.kind == 8) = false := by rw [beq_eq_false_iff_ne]; omega
  have k9 : (o.kind == 9) = false := by rw [beq_eq_false_iff_ne]; omega
  have k10 : (o.kind == 10) = false := by rw [beq_eq_false_iff_ne]; omega
  have k11 : (o.kind == 11) = false := by rw [beq_eq_false_iff_ne]; omega
  have k12 : (o.kind == 12) = false := by rw [beq_eq_false_iff_ne]; omega
  have k13 : (o.kind == 13) = false := by rw [beq_eq_false_iff_ne]; omega
  have k14 : (o.kind == 14) = false := by rw [beq_eq_false_iff_ne]; omega
  have k15 : (o.kind == 15) = false := by rw [beq_eq_false_iff_ne]; omega
  have Hcall := Lib.hid hcall
  have HR := Lib.hid hR
  clear hcall hR hR0
  go_wp2_with fail
  refine (Hcall.out _ (Later.refl _)).mono ?_
  rintro e wf ⟨S3, c3, C3, d3, rfl, hne, hof, hbf⟩
  have hlf : Later w2 wf := hbf
  have hzf := hlf.blk Hz.out
  have c0' := hzf.cell 0
  have c1' := hzf.cell 1
  have f0' := hzf.frozen 0
  have f1' := hzf.frozen 1
  simp at c0' c1'
  have Hne := Lib.hid hne
  have Hof := Lib.hid hof
  have Hzf := Lib.hid hzf
  have Hlf := Lib.hid hlf
  clear hne hof hzf hlf
  have hz4 := (Hzf.out.set_ 0 (.slice S3 R.1.s.length c3)).set_ 1 (.slice C3 R.1.c.length d3)
  have e0 := hz4.cell 0
  have e1 := hz4.cell 1
  simp at e0 e1
  have Hz4 := Lib.hid hz4
  clear hz4
  go_wp2_with fail
  refine bodyPost_ret (v := .tuple #[.agg #[.slice S3 R.1.s.length c3, .slice C3 R.1.c.length d3], .int .i64 R.2]) (by simp [results, Tryz.results42, go_sem, e0, e1]) rfl ?_
  rw [HE.out]
  exact gop_fin Hne.out Hof.out (HH.out.trans Hlf.out) Hzf.out (by simp) (by have := HH.out.size; simp; omega)
 ·have hR0 : Ly.lay o p x = Ly.dense (Ly.got p 0) (Ly.got p 1) (Ly.got x 0) := Ly.lay8 hk
  have hno : (Ly.dense (Ly.got p 0) (Ly.got p 1) (Ly.got x 0)).2 ≠ 0 → (Ly.dense (Ly.got p 0) (Ly.got p 1) (Ly.got x 0)).1 = Ly.none_ := Ly.dense_none
  have hun := (Ly.counts_ok hc)
  unfold Od.least Od.most Od.params at hun
  have hpl : p.length = 2 := by have := hun.1; have h3 := hun.2.2.2; rw [if_pos this] at h3; simp [hk] at h3; omega
  have hxl : x.length = 1 := by have := hun.1; have h1 := hun.2.1; have h2 := hun.2.2.1; rw [if_pos this] at h1 h2; simp [hk] at h1 h2; omega
  clear hun hc
  obtain ⟨bp, po, S0, c0, C0, d0, rfl, lbp, p00, p01, hT0⟩ := HP.out.at_ (j := 0) (by omega)
  obtain ⟨bp2, po2, S1, c1, C1, d1, ep, -, p10, p11, hT1⟩ := HP.out.at_ (j := 1) (by omega)
  injection ep with ep; injection ep with ep1 ep2; subst ep1 ep2
  obtain ⟨bx, xo, S2, c2, C2, d2, rfl, lbx, x00, x01, hT2⟩ := HX.out.at_ (j := 0) (by omega)
  have hcall := fun (W : World) (h : Later w2 W) => calls_goU (dense_go S0 C0 S1 C1 S2 C2 c0 d0 c1 d1 c2 d2 (Ly.got p 0) (Ly.got p 1) (Ly.got x 0) W (hT0.later (HH.out.trans h)) (hT1.later (HH.out.trans h)) (hT2.later (HH.out.trans h))) hno
  obtain ⟨R, hR⟩ : ∃ R, Ly.dense (Ly.got p 0) (Ly.got p 1) (Ly.got x 0) = R := ⟨_, rfl⟩
  rw [hR] at hcall
  rw [hR] at hR0
  have HE := Lib.hid (hg0.trans hR0)
  clear hno
  have q1 : w2.cell? ⟨bp, po, none⟩ = some (.slice S0 (Ly.got p 0).s.length c0) := HH.out.cell (by simpa using p00)
  have q2 : w2.cell? ⟨bp, po + 1, none⟩ = some (.slice C0 (Ly.got p 0).c.length d0) := HH.out.cell (by simpa using p01)
  have q3 : w2.cell? ⟨bp, po + 2, none⟩ = some (.slice S1 (Ly.got p 1).s.length c1) := HH.out.cell (by simpa using p10)
  have q4 : w2.cell? ⟨bp, po + 2 + 1, none⟩ = some (.slice C1 (Ly.got p 1).c.length d1) := HH.out.cell (by simpa using p11)
  have q5 : w2.cell? ⟨bx, xo, none⟩ = some (.slice S2 (Ly.got x 0).s.length c2) := HH.out.cell (by simpa using x00)
  have q6 : w2.cell? ⟨bx, xo + 1, none⟩ = some (.slice C2 (Ly.got x 0).c.length d2) := HH.out.cell (by simpa using x01)
  have x0 : w2.cell? ⟨w.heap.size, 0, none⟩ = some (.int .i64 8) := by rw [Hko.out.cell, ← hk]; rfl
  rw [hpl]
  rw [hxl]
  have Hcall := Lib.hid hcall
  have HR := Lib.hid hR
  clear hcall hR hR0 hT0 hT1 hT2
  have lp1 : bp < w2.heap.size := Nat.lt_of_lt_of_le lbp HH.out.size
  have lx1 : bx < w2.heap.size := Nat.lt_of_lt_of_le lbx HH.out.size
  go_upto_region 6 with fail
  clear x0 hk
  have KF := Lib.hid (show ∀ Xw, Later w2 Xw → Xw.cell? ⟨bp, po, none⟩ = some (.slice S0 (Ly.got p 0).s.length c0) ∧ Xw.cell? ⟨bp, po + 1, none⟩ = some (.slice C0 (Ly.got p 0).c.length d0) ∧ Xw.cell? ⟨bp, po + 2, none⟩ = some (.slice S1 (Ly.got p 1).s.length c1) ∧ Xw.cell? ⟨bp, po + 2 + 1, none⟩ = some (.slice C1 (Ly.got p 1).c.length d1) ∧ Xw.cell? ⟨bx, xo, none⟩ = some (.slice S2 (Ly.got x 0).s.length c2) ∧ Xw.cell? ⟨bx, xo + 1, none⟩ = some (.slice C2 (Ly.got x 0).c.length d2) from fun Xw h => ⟨h.cell q1, h.cell q2, h.cell q3, h.cell q4, h.cell q5, h.cell q6⟩)
  refine wp_region_noPanic ?_
  refine wp_region_held_drew (S := fun Xw => Xw.cell? ⟨bp, po, none⟩ = some (.slice S0 (Ly.got p 0).s.length c0) ∧ Xw.cell? ⟨bp, po + 1, none⟩ = some (.slice C0 (Ly.got p 0).c.length d0) ∧ Xw.cell? ⟨bp, po + 2, none⟩ = some (.slice S1 (Ly.got p 1).s.length c1) ∧ Xw.cell? ⟨bp, po + 2 + 1, none⟩ = some (.slice C1 (Ly.got p 1).c.length d1) ∧ Xw.cell? ⟨bx, xo, none⟩ = some (.slice S2 (Ly.got x 0).s.length c2) ∧ Xw.cell? ⟨bx, xo + 1, none⟩ = some (.slice C2 (Ly.got x 0).c.length d2)) (by kernel_rfl) (KF.out _ Later.au) (fun hHeld => ?_)
  refine tk 0 ?_
  refine tk 1 ?_
  refine tk 2 ?_
  refine tk 3 ?_
  refine tk 4 ?_
  refine tk 5 ?_
  refine tk 6 ?_
  refine tk 7 ?_
  refine tk 8 ?_
  refine rd 9 fun K hK => ?_
  simp only [ga, gs, gz]
  go_simp
  go_at_call 94
  (with_reducible refine (Hcall.out _ (Later.au : Later w2 _)).mono ?_)
  rintro e wf ⟨S3, c3, C3, d3, rfl, hne, hof, hbf⟩
  have hlf : Later w2 wf := Later.trans (Later.au : Later w2 (World.drew w2)) hbf
  have hzf := hlf.blk Hz.out
  have c0' := hzf.cell 0
  have c1' := hzf.cell 1
  have f0' := hzf.frozen 0
  have f1' := hzf.frozen 1
  simp at c0' c1'
  have Hne := Lib.hid hne
  have Hof := Lib.hid hof
  have Hzf := Lib.hid hzf
  have Hlf := Lib.hid hlf
  clear hne hof hzf hlf
  try go_wp2_with fail
  refine hK.out _ _ (KF.out _ Later.au) (fun hHeld => ?_)
  clear hK K
  try simp only [ga, gs, gz, Act.put, sa, sz, ss]
  refine tk 10 ?_
  refine tk 11 ?_
  refine rd 12 fun K hK => ?_
  simp only [ga, gs, gz]
  go_simp
  refine hK.out _ _ ?_ (fun hHeld => ?_)
  ·(try dsimp only); (refine ⟨?_, ?_, ?_, ?_, ?_, ?_⟩ <;> (repeat (refine cell_setfar ?_ (by first | omega | (simp; done) | (simp; omega)))) <;> (refine Later.cell (Later.au : Later w2 _) ?_) <;> assumption)
  clear hK K
  try simp only [ga, gs, gz, Act.put, sa, sz, ss]
  refine tk 13 ?_
  clear KF
  refine wpAnyH_done (by kernel_rfl) ?_ _
  refine NoPanic.normal ?_
  have hz4 := (Hzf.out.set_ 0 (.slice S3 R.1.s.length c3)).set_ 1 (.slice C3 R.1.c.length d3)
  have e0 := hz4.cell 0
  have e1 := hz4.cell 1
  simp at e0 e1
  have Hz4 := Lib.hid hz4
  clear hz4
  go_wp2_with fail
  refine bodyPost_ret (v := .tuple #[.agg #[.slice S3 R.1.s.length c3, .slice C3 R.1.c.length d3], .int .i64 R.2]) (by simp [results, Tryz.results42, go_sem, e0, e1]) rfl ?_
  rw [HE.out]
  exact gop_fin Hne.out Hof.out (HH.out.trans Hlf.out) Hzf.out (by simp) (by have := HH.out.size; simp; omega)
 ·have hR0 : Ly.lay o p x = Ly.add (Ly.got x 0) (Ly.got p 0) := Ly.lay9 hk
  have hno : (Ly.add (Ly.got x 0) (Ly.got p 0)).2 ≠ 0 → (Ly.add (Ly.got x 0) (Ly.got p 0)).1 = Ly.none_ := Ly.add_none
  have hun := (Ly.counts_ok hc)
  unfold Od.least Od.most Od.params at hun
  have hpl : p.length = 1 := by have := hun.1; have h3 := hun.2.2.2; rw [if_pos this] at h3; simp [hk] at h3; omega
  have hxl : x.length = 1 := by have := hun.1; have h1 := hun.2.1; have h2 := hun.2.2.1; rw [if_pos this] at h1 h2; simp [hk] at h1 h2; omega
  clear hun hc
  obtain ⟨bp, po, S0, c0, C0, d0, rfl, lbp, p00, p01, hT0⟩ := HP.out.at_ (j := 0) (by omega)
  obtain ⟨bx, xo, S2, c2, C2, d2, rfl, lbx, x00, x01, hT2⟩ := HX.out.at_ (j := 0) (by omega)
  have hcall := fun (W : World) (h : Later w2 W) => calls_goU (dense_bias S0 C0 S2 C2 c0 d0 c2 d2 (Ly.got p 0) (Ly.got x 0) W (hT0.later (HH.out.trans h)) (hT2.later (HH.out.trans h))) hno
  obtain ⟨R, hR⟩ : ∃ R, Ly.add (Ly.got x 0) (Ly.got p 0) = R := ⟨_, rfl⟩
  rw [hR] at hcall
  rw [hR] at hR0
  have HE := Lib.hid (hg0.trans hR0)
  clear hno
  have q1 : w2.cell? ⟨bp, po, none⟩ = some (.slice S0 (Ly.got p 0).s.length c0) := HH.out.cell (by simpa using p00)
  have q2 : w2.cell? ⟨bp, po + 1, none⟩ = some (.slice C0 (Ly.got p 0).c.length d0) := HH.out.cell (by simpa using p01)
  have q3 : w2.cell? ⟨bx, xo, none⟩ = some (.slice S2 (Ly.got x 0).s.length c2) := HH.out.cell (by simpa using x00)
  have q4 : w2.cell? ⟨bx, xo + 1, none⟩ = some (.slice C2 (Ly.got x 0).c.length d2) := HH.out.cell (by simpa using x01)
  have x0 : w2.cell? ⟨w.heap.size, 0, none⟩ = some (.int .i64 9) := by rw [Hko.out.cell, ← hk]; rfl
  rw [hpl]
  rw [hxl]
  have Hcall := Lib.hid hcall
  have HR := Lib.hid hR
  clear hcall hR hR0 hT0 hT2
  have lp1 : bp < w2.heap.size := Nat.lt_of_lt_of_le lbp HH.out.size
  have lx1 : bx < w2.heap.size := Nat.lt_of_lt_of_le lbx HH.out.size
  go_upto_region 8 with fail
  clear x0 hk
  have KF := Lib.hid (show ∀ Xw, Later w2 Xw → Xw.cell? ⟨bp, po, none⟩ = some (.slice S0 (Ly.got p 0).s.length c0) ∧ Xw.cell? ⟨bp, po + 1, none⟩ = some (.slice C0 (Ly.got p 0).c.length d0) ∧ Xw.cell? ⟨bx, xo, none⟩ = some (.slice S2 (Ly.got x 0).s.length c2) ∧ Xw.cell? ⟨bx, xo + 1, none⟩ = some (.slice C2 (Ly.got x 0).c.length d2) from fun Xw h => ⟨h.cell q1, h.cell q2, h.cell q3, h.cell q4⟩)
  refine wp_region_noPanic ?_
  refine wp_region_held_drew (S := fun Xw => Xw.cell? ⟨bp, po, none⟩ = some (.slice S0 (Ly.got p 0).s.length c0) ∧ Xw.cell? ⟨bp, po + 1, none⟩ = some (.slice C0 (Ly.got p 0).c.length d0) ∧ Xw.cell? ⟨bx, xo, none⟩ = some (.slice S2 (Ly.got x 0).s.length c2) ∧ Xw.cell? ⟨bx, xo + 1, none⟩ = some (.slice C2 (Ly.got x 0).c.length d2)) (by kernel_rfl) (KF.out _ Later.au) (fun hHeld => ?_)
  refine tk 0 ?_
  refine tk 1 ?_
  refine tk 2 ?_
  refine tk 3 ?_
  refine tk 4 ?_
  refine tk 5 ?_
  refine rd 6 fun K hK => ?_
  simp only [ga, gs, gz]
  go_simp
  go_at_call 95
  (with_reducible refine (Hcall.out _ (Later.au : Later w2 _)).mono ?_)
  rintro e wf ⟨S3, c3, C3, d3, rfl, hne, hof, hbf⟩
  have hlf : Later w2 wf := Later.trans (Later.au : Later w2 (World.drew w2)) hbf
  have hzf := hlf.blk Hz.out
  have c0' := hzf.cell 0
  have c1' := hzf.cell 1
  have f0' := hzf.frozen 0
  have f1' := hzf.frozen 1
  simp at c0' c1'
  have Hne := Lib.hid hne
  have Hof := Lib.hid hof
  have Hzf := Lib.hid hzf
  have Hlf := Lib.hid hlf
  clear hne hof hzf hlf
  try go_wp2_with fail
  refine hK.out _ _ (KF.out _ Later.au) (fun hHeld => ?_)
  clear hK K
  try simp only [ga, gs, gz, Act.put, sa, sz, ss]
  refine tk 7 ?_
  refine tk 8 ?_
  refine rd 9 fun K hK => ?_
  simp only [ga, gs, gz]
  go_simp
  refine hK.out _ _ ?_ (fun hHeld => ?_)
  ·(try dsimp only); (refine ⟨?_, ?_, ?_, ?_⟩ <;> (repeat (refine cell_setfar ?_ (by first | omega | (simp; done) | (simp; omega)))) <;> (refine Later.cell (Later.au : Later w2 _) ?_) <;> assumption)
  clear hK K
  try simp only [ga, gs, gz, Act.put, sa, sz, ss]
  refine tk 10 ?_
  clear KF
  refine wpAnyH_done (by kernel_rfl) ?_ _
  refine NoPanic.normal ?_
  have hz4 := (Hzf.out.set_ 0 (.slice S3 R.1.s.length c3)).set_ 1 (.slice C3 R.1.c.length d3)
  have e0 := hz4.cell 0
  have e1 := hz4.cell 1
  simp at e0 e1
  have Hz4 := Lib.hid hz4
  clear hz4
  go_wp2_with fail
  refine bodyPost_ret (v := .tuple #[.agg #[.slice S3 R.1.s.length c3, .slice C3 R.1.c.length d3], .int .i64 R.2]) (by simp [results, Tryz.results42, go_sem, e0, e1]) rfl ?_
  rw [HE.out]
  exact gop_fin Hne.out Hof.out (HH.out.trans Hlf.out) Hzf.out (by simp) (by have := HH.out.size; simp; omega)
 ·have hR0 : Ly.lay o p x = Ly.conv (Ly.got p 0) (Ly.got x 0) o.step := Ly.lay10 hk
  have hno : (Ly.conv (Ly.got p 0) (Ly.got x 0) o.step).2 ≠ 0 → (Ly.conv (Ly.got p 0) (Ly.got x 0) o.step).1 = Ly.none_ := Ly.conv_none
  have hun := (Ly.counts_ok hc)
  unfold Od.least Od.most Od.params at hun
  have hpl : p.length = 1 := by have := hun.1; have h3 := hun.2.2.2; rw [if_pos this] at h3; simp [hk] at h3; omega
  have hxl : x.length = 1 := by have := hun.1; have h1 := hun.2.1; have h2 := hun.2.2.1; rw [if_pos this] at h1 h2; simp [hk] at h1 h2; omega
  clear hun hc
  obtain ⟨bp, po, S0, c0, C0, d0, rfl, lbp, p00, p01, hT0⟩ := HP.out.at_ (j := 0) (by omega)
  obtain ⟨bx, xo, S2, c2, C2, d2, rfl, lbx, x00, x01, hT2⟩ := HX.out.at_ (j := 0) (by omega)
  have hcall := fun (W : World) (h : Later w2 W) => calls_goU (conv_go S0 C0 S2 C2 c0 d0 c2 d2 (Ly.got p 0) (Ly.got x 0) o.step W (hT0.later (HH.out.trans h)) (hT2.later (HH.out.trans h))) hno
  obtain ⟨R, hR⟩ : ∃ R, Ly.conv (Ly.got p 0) (Ly.got x 0) o.step = R := ⟨_, rfl⟩
  rw [hR] at hcall
  rw [hR] at hR0
  have HE := Lib.hid (hg0.trans hR0)
  clear hno
  have q1 : w2.cell? ⟨bp, po, none⟩ = some (.slice S0 (Ly.got p 0).s.length c0) := HH.out.cell (by simpa using p00)
  have q2 : w2.cell? ⟨bp, po + 1, none⟩ = some (.slice C0 (Ly.got p 0).c.length d0) := HH.out.cell (by simpa using p01)
  have q3 : w2.cell? ⟨bx, xo, none⟩ = some (.slice S2 (Ly.got x 0).s.length c2) := HH.out.cell (by simpa using x00)
  have q4 : w2.cell? ⟨bx, xo + 1, none⟩ = some (.slice C2 (Ly.got x 0).c.length d2) := HH.out.cell (by simpa using x01)
  have q5 : w2.cell? ⟨w.heap.size, 3, none⟩ = some (.int .i64 o.step) := by rw [Hko.out.cell]; rfl
  have x0 : w2.cell? ⟨w.heap.size, 0, none⟩ = some (.int .i64 10) := by rw [Hko.out.cell, ← hk]; rfl
  rw [hpl]
  rw [hxl]
  have Hcall := Lib.hid hcall
  have HR := Lib.hid hR
  clear hcall hR hR0 hT0 hT2
  have lp1 : bp < w2.heap.size := Nat.lt_of_lt_of_le lbp HH.out.size
  have lx1 : bx < w2.heap.size := Nat.lt_of_lt_of_le lbx HH.out.size
  go_upto_region 10 with fail
  clear x0 hk
  have KF := Lib.hid (show ∀ Xw, Later w2 Xw → Xw.cell? ⟨bp, po, none⟩ = some (.slice S0 (Ly.got p 0).s.length c0) ∧ Xw.cell? ⟨bp, po + 1, none⟩ = some (.slice C0 (Ly.got p 0).c.length d0) ∧ Xw.cell? ⟨bx, xo, none⟩ = some (.slice S2 (Ly.got x 0).s.length c2) ∧ Xw.cell? ⟨bx, xo + 1, none⟩ = some (.slice C2 (Ly.got x 0).c.length d2) ∧ Xw.cell? ⟨w.heap.size, 3, none⟩ = some (.int .i64 o.step) from fun Xw h => ⟨h.cell q1, h.cell q2, h.cell q3, h.cell q4, h.cell q5⟩)
  refine wp_region_noPanic ?_
  refine wp_region_held_drew (S := fun Xw => Xw.cell? ⟨bp, po, none⟩ = some (.slice S0 (Ly.got p 0).s.length c0) ∧ Xw.cell? ⟨bp, po + 1, none⟩ = some (.slice C0 (Ly.got p 0).c.length d0) ∧ Xw.cell? ⟨bx, xo, none⟩ = some (.slice S2 (Ly.got x 0).s.length c2) ∧ Xw.cell? ⟨bx, xo + 1, none⟩ = some (.slice C2 (Ly.got x 0).c.length d2) ∧ Xw.cell? ⟨w.heap.size, 3, none⟩ = some (.int .i64 o.step)) (by kernel_rfl) (KF.out _ Later.au) (fun hHeld => ?_)
  refine tk 0 ?_
  refine tk 1 ?_
  refine tk 2 ?_
  refine tk 3 ?_
  refine tk 4 ?_
  refine tk 5 ?_
  refine tk 6 ?_
  refine tk 7 ?_
  refine rd 8 fun K hK => ?_
  simp only [ga, gs, gz]
  go_simp
  go_at_call 96
  (with_reducible refine (Hcall.out _ (Later.au : Later w2 _)).mono ?_)
  rintro e wf ⟨S3, c3, C3, d3, rfl, hne, hof, hbf⟩
  have hlf : Later w2 wf := Later.trans (Later.au : Later w2 (World.drew w2)) hbf
  have hzf := hlf.blk Hz.out
  have c0' := hzf.cell 0
  have c1' := hzf.cell 1
  have f0' := hzf.frozen 0
  have f1' := hzf.frozen 1
  simp at c0' c1'
  have Hne := Lib.hid hne
  have Hof := Lib.hid hof
  have Hzf := Lib.hid hzf
  have Hlf := Lib.hid hlf
  clear hne hof hzf hlf
  try go_wp2_with fail
  refine hK.out _ _ (KF.out _ Later.au) (fun hHeld => ?_)
  clear hK K
  try simp only [ga, gs, gz, Act.put, sa, sz, ss]
  refine tk 9 ?_
  refine tk 10 ?_
  refine rd 11 fun K hK => ?_
  simp only [ga, gs, gz]
  go_simp
  refine hK.out _ _ ?_ (fun hHeld => ?_)
  ·(try dsimp only); (refine ⟨?_, ?_, ?_, ?_, ?_⟩ <;> (repeat (refine cell_setfar ?_ (by first | omega | (simp; done) | (simp; omega)))) <;> (refine Later.cell (Later.au : Later w2 _) ?_) <;> assumption)
  clear hK K
  try simp only [ga, gs, gz, Act.put, sa, sz, ss]
  refine tk 12 ?_
  clear KF
  refine wpAnyH_done (by kernel_rfl) ?_ _
  refine NoPanic.normal ?_
  have hz4 := (Hzf.out.set_ 0 (.slice S3 R.1.s.length c3)).set_ 1 (.slice C3 R.1.c.length d3)
  have e0 := hz4.cell 0
  have e1 := hz4.cell 1
  simp at e0 e1
  have Hz4 := Lib.hid hz4
  clear hz4
  go_wp2_with fail
  refine bodyPost_ret (v := .tuple #[.agg #[.slice S3 R.1.s.length c3, .slice C3 R.1.c.length d3], .int .i64 R.2]) (by simp [results, Tryz.results42, go_sem, e0, e1]) rfl ?_
  rw [HE.out]
  exact gop_fin Hne.out Hof.out (HH.out.trans Hlf.out) Hzf.out (by simp) (by have := HH.out.size; simp; omega)
 ·have hR0 : Ly.lay o p x = Ly.pool true (Ly.got x 0) o.width o.step := Ly.lay11 hk
  have hno : (Ly.pool true (Ly.got x 0) o.width o.step).2 ≠ 0 → (Ly.pool true (Ly.got x 0) o.width o.step).1 = Ly.none_ := Ly.pool_none
  have hun := (Ly.counts_ok hc)
  unfold Od.least Od.most Od.params at hun
  have hpl : p.length = 0 := by have := hun.1; have h3 := hun.2.2.2; rw [if_pos this] at h3; simp [hk] at h3; omega
  have hxl : x.length = 1 := by have := hun.1; have h1 := hun.2.1; have h2 := hun.2.2.1; rw [if_pos this] at h1 h2; simp [hk] at h1 h2; omega
  clear hun hc
  obtain ⟨bx, xo, S2, c2, C2, d2, rfl, lbx, x00, x01, hT2⟩ := HX.out.at_ (j := 0) (by omega)
  have hcall := fun (W : World) (h : Later w2 W) => calls_goU (pool_go true 1 S2 C2 c2 d2 (Ly.got x 0) o.width o.step W (.inl ⟨rfl, rfl⟩) (hT2.later (HH.out.trans h))) hno
  obtain ⟨R, hR⟩ : ∃ R, Ly.pool true (Ly.got x 0) o.width o.step = R := ⟨_, rfl⟩
  rw [hR] at hcall
  rw [hR] at hR0
  have HE := Lib.hid (hg0.trans hR0)
  clear hno
  have q1 : w2.cell? ⟨bx, xo, none⟩ = some (.slice S2 (Ly.got x 0).s.length c2) := HH.out.cell (by simpa using x00)
  have q2 : w2.cell? ⟨bx, xo + 1, none⟩ = some (.slice C2 (Ly.got x 0).c.length d2) := HH.out.cell (by simpa using x01)
  have q3 : w2.cell? ⟨w.heap.size, 2, none⟩ = some (.int .i64 o.width) := by rw [Hko.out.cell]; rfl
  have q4 : w2.cell? ⟨w.heap.size, 3, none⟩ = some (.int .i64 o.step) := by rw [Hko.out.cell]; rfl
  have x0 : w2.cell? ⟨w.heap.size, 0, none⟩ = some (.int .i64 11) := by rw [Hko.out.cell, ← hk]; rfl
  rw [hxl]
  have Hcall := Lib.hid hcall
  have HR := Lib.hid hR
  clear hcall hR hR0 hT2
  have lx1 : bx < w2.heap.size := Nat.lt_of_lt_of_le lbx HH.out.size
  go_upto_region 12 with fail
  clear x0 hk
  have KF := Lib.hid (show ∀ Xw, Later w2 Xw → Xw.cell? ⟨bx, xo, none⟩ = some (.slice S2 (Ly.got x 0).s.length c2) ∧ Xw.cell? ⟨bx, xo + 1, none⟩ = some (.slice C2 (Ly.got x 0).c.length d2) ∧ Xw.cell? ⟨w.heap.size, 2, none⟩ = some (.int .i64 o.width) ∧ Xw.cell? ⟨w.heap.size, 3, none⟩ = some (.int .i64 o.step) from fun Xw h => ⟨h.cell q1, h.cell q2, h.cell q3, h.cell q4⟩)
  refine wp_region_noPanic ?_
  refine wp_region_held_drew (S := fun Xw => Xw.cell? ⟨bx, xo, none⟩ = some (.slice S2 (Ly.got x 0).s.length c2) ∧ Xw.cell? ⟨bx, xo + 1, none⟩ = some (.slice C2 (Ly.got x 0).c.length d2) ∧ Xw.cell? ⟨w.heap.size, 2, none⟩ = some (.int .i64 o.width) ∧ Xw.cell? ⟨w.heap.size, 3, none⟩ = some (.int .i64 o.step)) (by kernel_rfl) (KF.out _ Later.au) (fun hHeld => ?_)
  refine tk 0 ?_
  refine tk 1 ?_
  refine tk 2 ?_
  refine tk 3 ?_
  refine tk 4 ?_
  refine tk 5 ?_
  refine tk 6 ?_
  refine rd 7 fun K hK => ?_
  simp only [ga, gs, gz]
  go_simp
  go_at_call 97
  (with_reducible refine (Hcall.out _ (Later.au : Later w2 _)).mono ?_)
  rintro e wf ⟨S3, c3, C3, d3, rfl, hne, hof, hbf⟩
  have hlf : Later w2 wf := Later.trans (Later.au : Later w2 (World.drew w2)) hbf
  have hzf := hlf.blk Hz.out
  have c0' := hzf.cell 0
  have c1' := hzf.cell 1
  have f0' := hzf.frozen 0
  have f1' := hzf.frozen 1
  simp at c0' c1'
  have Hne := Lib.hid hne
  have Hof := Lib.hid hof
  have Hzf := Lib.hid hzf
  have Hlf := Lib.hid hlf
  clear hne hof hzf hlf
  try go_wp2_with fail
  refine hK.out _ _ (KF.out _ Later.au) (fun hHeld => ?_)
  clear hK K
  try simp only [ga, gs, gz, Act.put, sa, sz, ss]
  refine tk 8 ?_
  refine tk 9 ?_
  refine rd 10 fun K hK => ?_
  simp only [ga, gs, gz]
  go_simp
  refine hK.out _ _ ?_ (fun hHeld => ?_)
  ·(try dsimp only); (refine ⟨?_, ?_, ?_, ?_⟩ <;> (repeat (refine cell_setfar ?_ (by first | omega | (simp; done) | (simp; omega)))) <;> (refine Later.cell (Later.au : Later w2 _) ?_) <;> assumption)
  clear hK K
  try simp only [ga, gs, gz, Act.put, sa, sz, ss]
  refine tk 11 ?_
  clear KF
  refine wpAnyH_done (by kernel_rfl) ?_ _
  refine NoPanic.normal ?_
  have hz4 := (Hzf.out.set_ 0 (.slice S3 R.1.s.length c3)).set_ 1 (.slice C3 R.1.c.length d3)
  have e0 := hz4.cell 0
  have e1 := hz4.cell 1
  simp at e0 e1
  have Hz4 := Lib.hid hz4
  clear hz4
  go_wp2_with fail
  refine bodyPost_ret (v := .tuple #[.agg #[.slice S3 R.1.s.length c3, .slice C3 R.1.c.length d3], .int .i64 R.2]) (by simp [results, Tryz.results42, go_sem, e0, e1]) rfl ?_
  rw [HE.out]
  exact gop_fin Hne.out Hof.out (HH.out.trans Hlf.out) Hzf.out (by simp) (by have := HH.out.size; simp; omega)
 ·have hR0 : Ly.lay o p x = Ly.pool false (Ly.got x 0) o.width o.step := Ly.lay12 hk
  have hno : (Ly.pool false (Ly.got x 0) o.width o.step).2 ≠ 0 → (Ly.pool false (Ly.got x 0) o.width o.step).1 = Ly.none_ := Ly.pool_none
  have hun := (Ly.counts_ok hc)
  unfold Od.least Od.most Od.params at hun
  have hpl : p.length = 0 := by have := hun.1; have h3 := hun.2.2.2; rw [if_pos this] at h3; simp [hk] at h3; omega
  have hxl : x.length = 1 := by have := hun.1; have h1 := hun.2.1; have h2 := hun.2.2.1; rw [if_pos this] at h1 h2; simp [hk] at h1 h2; omega
  clear hun hc
  obtain ⟨bx, xo, S2, c2, C2, d2, rfl, lbx, x00, x01, hT2⟩ := HX.out.at_ (j := 0) (by omega)
  have hcall := fun (W : World) (h : Later w2 W) => calls_goU (pool_go false 2 S2 C2 c2 d2 (Ly.got x 0) o.width o.step W (.inr ⟨rfl, rfl⟩) (hT2.later (HH.out.trans h))) hno
  obtain ⟨R, hR⟩ : ∃ R, Ly.pool false (Ly.got x 0) o.width o.step = R := ⟨_, rfl⟩
  rw [hR] at hcall
  rw [hR] at hR0
  have HE := Lib.hid (hg0.trans hR0)
  clear hno
  have q1 : w2.cell? ⟨bx, xo, none⟩ = some (.slice S2 (Ly.got x 0).s.length c2) := HH.out.cell (by simpa using x00)
  have q2 : w2.cell? ⟨bx, xo + 1, none⟩ = some (.slice C2 (Ly.got x 0).c.length d2) := HH.out.cell (by simpa using x01)
  have q3 : w2.cell? ⟨w.heap.size, 2, none⟩ = some (.int .i64 o.width) := by rw [Hko.out.cell]; rfl
  have q4 : w2.cell? ⟨w.heap.size, 3, none⟩ = some (.int .i64 o.step) := by rw [Hko.out.cell]; rfl
  have x0 : w2.cell? ⟨w.heap.size, 0, none⟩ = some (.int .i64 12) := by rw [Hko.out.cell, ← hk]; rfl
  rw [hxl]
  have Hcall := Lib.hid hcall
  have HR := Lib.hid hR
  clear hcall hR hR0 hT2
  have lx1 : bx < w2.heap.size := Nat.lt_of_lt_of_le lbx HH.out.size
  go_upto_region 14 with fail
  clear x0 hk
  have KF := Lib.hid (show ∀ Xw, Later w2 Xw → Xw.cell? ⟨bx, xo, none⟩ = some (.slice S2 (Ly.got x 0).s.length c2) ∧ Xw.cell? ⟨bx, xo + 1, none⟩ = some (.slice C2 (Ly.got x 0).c.length d2) ∧ Xw.cell? ⟨w.heap.size, 2, none⟩ = some (.int .i64 o.width) ∧ Xw.cell? ⟨w.heap.size, 3, none⟩ = some (.int .i64 o.step) from fun Xw h => ⟨h.cell q1, h.cell q2, h.cell q3, h.cell q4⟩)
  refine wp_region_noPanic ?_
  refine wp_region_held_drew (S := fun Xw => Xw.cell? ⟨bx, xo, none⟩ = some (.slice S2 (Ly.got x 0).s.length c2) ∧ Xw.cell? ⟨bx, xo + 1, none⟩ = some (.slice C2 (Ly.got x 0).c.length d2) ∧ Xw.cell? ⟨w.heap.size, 2, none⟩ = some (.int .i64 o.width) ∧ Xw.cell? ⟨w.heap.size, 3, none⟩ = some (.int .i64 o.step)) (by kernel_rfl) (KF.out _ Later.au) (fun hHeld => ?_)
  refine tk 0 ?_
  refine tk 1 ?_
  refine tk 2 ?_
  refine tk 3 ?_
  refine tk 4 ?_
  refine tk 5 ?_
  refine tk 6 ?_
  refine rd 7 fun K hK => ?_
  simp only [ga, gs, gz]
  go_simp
  go_at_call 97
  (with_reducible refine (Hcall.out _ (Later.au : Later w2 _)).mono ?_)
  rintro e wf ⟨S3, c3, C3, d3, rfl, hne, hof, hbf⟩
  have hlf : Later w2 wf := Later.trans (Later.au : Later w2 (World.drew w2)) hbf
  have hzf := hlf.blk Hz.out
  have c0' := hzf.cell 0
  have c1' := hzf.cell 1
  have f0' := hzf.frozen 0
  have f1' := hzf.frozen 1
  simp at c0' c1'
  have Hne := Lib.hid hne
  have Hof := Lib.hid hof
  have Hzf := Lib.hid hzf
  have Hlf := Lib.hid hlf
  clear hne hof hzf hlf
  try go_wp2_with fail
  refine hK.out _ _ (KF.out _ Later.au) (fun hHeld => ?_)
  clear hK K
  try simp only [ga, gs, gz, Act.put, sa, sz, ss]
  refine tk 8 ?_
  refine tk 9 ?_
  refine rd 10 fun K hK => ?_
  simp only [ga, gs, gz]
  go_simp
  refine hK.out _ _ ?_ (fun hHeld => ?_)
  ·(try dsimp only); (refine ⟨?_, ?_, ?_, ?_⟩ <;> (repeat (refine cell_setfar ?_ (by first | omega | (simp; done) | (simp; omega)))) <;> (refine Later.cell (Later.au : Later w2 _) ?_) <;> assumption)
  clear hK K
  try simp only [ga, gs, gz, Act.put, sa, sz, ss]
  refine tk 11 ?_
  clear KF
  refine wpAnyH_done (by kernel_rfl) ?_ _
  refine NoPanic.normal ?_
  have hz4 := (Hzf.out.set_ 0 (.slice S3 R.1.s.length c3)).set_ 1 (.slice C3 R.1.c.length d3)
  have e0 := hz4.cell 0
  have e1 := hz4.cell 1
  simp at e0 e1
  have Hz4 := Lib.hid hz4
  clear hz4
  go_wp2_with fail
  refine bodyPost_ret (v := .tuple #[.agg #[.slice S3 R.1.s.length c3, .slice C3 R.1.c.length d3], .int .i64 R.2]) (by simp [results, Tryz.results42, go_sem, e0, e1]) rfl ?_
  rw [HE.out]
  exact gop_fin Hne.out Hof.out (HH.out.trans Hlf.out) Hzf.out (by simp) (by have := HH.out.size; simp; omega)
 ·have hR0 : Ly.lay o p x = Ly.join o.side x := Ly.lay13 hk
  have hno : (Ly.join o.side x).2 ≠ 0 → (Ly.join o.side x).1 = Ly.none_ := Ly.join_none
  have hun := (Ly.counts_ok hc)
  unfold Od.least Od.most Od.params at hun
  have hpl : p.length = 0 := by have := hun.1; have h3 := hun.2.2.2; rw [if_pos this] at h3; simp [hk] at h3; omega
  clear hun hc
  have hcall := fun (W : World) (h : Later w2 W) => calls_goU (move_join o.side X cx x W lX kX mX (HX.out.later (HH.out.trans h))) hno
  obtain ⟨R, hR⟩ : ∃ R, Ly.join o.side x = R := ⟨_, rfl⟩
  rw [hR] at hcall
  rw [hR] at hR0
  have HE := Lib.hid (hg0.trans hR0)
  clear hno
  have q1 : w2.cell? ⟨w.heap.size, 4, none⟩ = some (.int .i64 o.side) := by rw [Hko.out.cell]; rfl
  have x0 : w2.cell? ⟨w.heap.size, 0, none⟩ = some (.int .i64 13) := by rw [Hko.out.cell, ← hk]; rfl
  have Hcall := Lib.hid hcall
  have HR := Lib.hid hR
  clear hcall hR hR0
  go_wp2_with fail
  refine (Hcall.out _ (Later.refl _)).mono ?_
  rintro e wf ⟨S3, c3, C3, d3, rfl, hne, hof, hbf⟩
  have hlf : Later w2 wf := hbf
  have hzf := hlf.blk Hz.out
  have c0' := hzf.cell 0
  have c1' := hzf.cell 1
  have f0' := hzf.frozen 0
  have f1' := hzf.frozen 1
  simp at c0' c1'
  have Hne := Lib.hid hne
  have Hof := Lib.hid hof
  have Hzf := Lib.hid hzf
  have Hlf := Lib.hid hlf
  clear hne hof hzf hlf
  have hz4 := (Hzf.out.set_ 0 (.slice S3 R.1.s.length c3)).set_ 1 (.slice C3 R.1.c.length d3)
  have e0 := hz4.cell 0
  have e1 := hz4.cell 1
  simp at e0 e1
  have Hz4 := Lib.hid hz4
  clear hz4
  go_wp2_with fail
  refine bodyPost_ret (v := .tuple #[.agg #[.slice S3 R.1.s.length c3, .slice C3 R.1.c.length d3], .int .i64 R.2]) (by simp [results, Tryz.results42, go_sem, e0, e1]) rfl ?_
  rw [HE.out]
  exact gop_fin Hne.out Hof.out (HH.out.trans Hlf.out) Hzf.out (by simp) (by have := HH.out.size; simp; omega)
 ·have hR0 : Ly.lay o p x = Ly.cut (Ly.got x 0) o.side o.frm o.to := Ly.lay14 hk
  have hno : (Ly.cut (Ly.got x 0) o.side o.frm o.to).2 ≠ 0 → (Ly.cut (Ly.got x 0) o.side o.frm o.to).1 = Ly.none_ := Ly.cut_none
  have hun := (Ly.counts_ok hc)
  unfold Od.least Od.most Od.params at hun
  have hpl : p.length = 0 := by have := hun.1; have h3 := hun.2.2.2; rw [if_pos this] at h3; simp [hk] at h3; omega
  have hxl : x.length = 1 := by have := hun.1; have h1 := hun.2.1; have h2 := hun.2.2.1; rw [if_pos this] at h1 h2; simp [hk] at h1 h2; omega
  clear hun hc
  obtain ⟨bx, xo, S2, c2, C2, d2, rfl, lbx, x00, x01, hT2⟩ := HX.out.at_ (j := 0) (by omega)
  have hcall := fun (W : World) (h : Later w2 W) => calls_goU (move_cut S2 C2 c2 d2 (Ly.got x 0) o.side o.frm o.to W (hT2.later (HH.out.trans h))) hno
  obtain ⟨R, hR⟩ : ∃ R, Ly.cut (Ly.got x 0) o.side o.frm o.to = R := ⟨_, rfl⟩
  rw [hR] at hcall
  rw [hR] at hR0
  have HE := Lib.hid (hg0.trans hR0)
  clear hno
  have q1 : w2.cell? ⟨bx, xo, none⟩ = some (.slice S2 (Ly.got x 0).s.length c2) := HH.out.cell (by simpa using x00)
  have q2 : w2.cell? ⟨bx, xo + 1, none⟩ = some (.slice C2 (Ly.got x 0).c.length d2) := HH.out.cell (by simpa using x01)
  have q3 : w2.cell? ⟨w.heap.size, 4, none⟩ = some (.int .i64 o.side) := by rw [Hko.out.cell]; rfl
  have q4 : w2.cell? ⟨w.heap.size, 5, none⟩ = some (.int .i64 o.frm) := by rw [Hko.out.cell]; rfl
  have q5 : w2.cell? ⟨w.heap.size, 6, none⟩ = some (.int .i64 o.to) := by rw [Hko.out.cell]; rfl
  have x0 : w2.cell? ⟨w.heap.size, 0, none⟩ = some (.int .i64 14) := by rw [Hko.out.cell, ← hk]; rfl
  rw [hxl]
  have Hcall := Lib.hid hcall
  have HR := Lib.hid hR
  clear hcall hR hR0 hT2
  have lx1 : bx < w2.heap.size := Nat.lt_of_lt_of_le lbx HH.out.size
  go_upto_region 18 with fail
  clear x0 hk
  have KF := Lib.hid (show ∀ Xw, Later w2 Xw → Xw.cell? ⟨bx, xo, none⟩ = some (.slice S2 (Ly.got x 0).s.length c2) ∧ Xw.cell? ⟨bx, xo + 1, none⟩ = some (.slice C2 (Ly.got x 0).c.length d2) ∧ Xw.cell? ⟨w.heap.size, 4, none⟩ = some (.int .i64 o.side) ∧ Xw.cell? ⟨w.heap.size, 5, none⟩ = some (.int .i64 o.frm) ∧ Xw.cell? ⟨w.heap.size, 6, none⟩ = some (.int .i64 o.to) from fun Xw h => ⟨h.cell q1, h.cell q2, h.cell q3, h.cell q4, h.cell q5⟩)
  refine wp_region_noPanic ?_
  refine wp_region_held_drew (S := fun Xw => Xw.cell? ⟨bx, xo, none⟩ = some (.slice S2 (Ly.got x 0).s.length c2) ∧ Xw.cell? ⟨bx, xo + 1, none⟩ = some (.slice C2 (Ly.got x 0).c.length d2) ∧ Xw.cell? ⟨w.heap.size, 4, none⟩ = some (.int .i64 o.side) ∧ Xw.cell? ⟨w.heap.size, 5, none⟩ = some (.int .i64 o.frm) ∧ Xw.cell? ⟨w.heap.size, 6, none⟩ = some (.int .i64 o.to)) (by kernel_rfl) (KF.out _ Later.au) (fun hHeld => ?_)
  refine tk 0 ?_
  refine tk 1 ?_
  refine tk 2 ?_
  refine tk 3 ?_
  refine tk 4 ?_
  refine tk 5 ?_
  refine tk 6 ?_
  refine tk 7 ?_
  refine tk 8 ?_
  refine rd 9 fun K hK => ?_
  simp only [ga, gs, gz]
  go_simp
  go_at_call 99
  (with_reducible refine (Hcall.out _ (Later.au : Later w2 _)).mono ?_)
  rintro e wf ⟨S3, c3, C3, d3, rfl, hne, hof, hbf⟩
  have hlf : Later w2 wf := Later.trans (Later.au : Later w2 (World.drew w2)) hbf
  have hzf := hlf.blk Hz.out
  have c0' := hzf.cell 0
  have c1' := hzf.cell 1
  have f0' := hzf.frozen 0
  have f1' := hzf.frozen 1
  simp at c0' c1'
  have Hne := Lib.hid hne
  have Hof := Lib.hid hof
  have Hzf := Lib.hid hzf
  have Hlf := Lib.hid hlf
  clear hne hof hzf hlf
  try go_wp2_with fail
  refine hK.out _ _ (KF.out _ Later.au) (fun hHeld => ?_)
  clear hK K
  try simp only [ga, gs, gz, Act.put, sa, sz, ss]
  refine tk 10 ?_
  refine tk 11 ?_
  refine rd 12 fun K hK => ?_
  simp only [ga, gs, gz]
  go_simp
  refine hK.out _ _ ?_ (fun hHeld => ?_)
  ·(try dsimp only); (refine ⟨?_, ?_, ?_, ?_, ?_⟩ <;> (repeat (refine cell_setfar ?_ (by first | omega | (simp; done) | (simp; omega)))) <;> (refine Later.cell (Later.au : Later w2 _) ?_) <;> assumption)
  clear hK K
  try simp only [ga, gs, gz, Act.put, sa, sz, ss]
  refine tk 13 ?_
  clear KF
  refine wpAnyH_done (by kernel_rfl) ?_ _
  refine NoPanic.normal ?_
  have hz4 := (Hzf.out.set_ 0 (.slice S3 R.1.s.length c3)).set_ 1 (.slice C3 R.1.c.length d3)
  have e0 := hz4.cell 0
  have e1 := hz4.cell 1
  simp at e0 e1
  have Hz4 := Lib.hid hz4
  clear hz4
  go_wp2_with fail
  refine bodyPost_ret (v := .tuple #[.agg #[.slice S3 R.1.s.length c3, .slice C3 R.1.c.length d3], .int .i64 R.2]) (by simp [results, Tryz.results42, go_sem, e0, e1]) rfl ?_
  rw [HE.out]
  exact gop_fin Hne.out Hof.out (HH.out.trans Hlf.out) Hzf.out (by simp) (by have := HH.out.size; simp; omega)
 ·have hR0 : Ly.lay o p x = Ly.turn (Ly.got x 0) o.s := Ly.lay15 hk
  have hno : (Ly.turn (Ly.got x 0) o.s).2 ≠ 0 → (Ly.turn (Ly.got x 0) o.s).1 = Ly.none_ := Ly.turn_none
  have hun := (Ly.counts_ok hc)
  unfold Od.least Od.most Od.params at hun
  have hpl : p.length = 0 := by have := hun.1; have h3 := hun.2.2.2; rw [if_pos this] at h3; simp [hk] at h3; omega
  have hxl : x.length = 1 := by have := hun.1; have h1 := hun.2.1; have h2 := hun.2.2.1; rw [if_pos this] at h1 h2; simp [hk] at h1 h2; omega
  clear hun hc
  obtain ⟨bx, xo, S2, c2, C2, d2, rfl, lbx, x00, x01, hT2⟩ := HX.out.at_ (j := 0) (by omega)
  have hcall := fun (W : World) (h : Later w2 W) => calls_goU (move_turn S2 C2 S c2 d2 c (Ly.got x 0) o.s W (hT2.later (HH.out.trans h)) (HI.out.below (HH.out.trans h) (Nat.le_refl _)) ho) hno
  obtain ⟨R, hR⟩ : ∃ R, Ly.turn (Ly.got x 0) o.s = R := ⟨_, rfl⟩
  rw [hR] at hcall
  rw [hR] at hR0
  have HE := Lib.hid (hg0.trans hR0)
  clear hno
  have q1 : w2.cell? ⟨bx, xo, none⟩ = some (.slice S2 (Ly.got x 0).s.length c2) := HH.out.cell (by simpa using x00)
  have q2 : w2.cell? ⟨bx, xo + 1, none⟩ = some (.slice C2 (Ly.got x 0).c.length d2) := HH.out.cell (by simpa using x01)
  have q3 : w2.cell? ⟨w.heap.size, 7, none⟩ = some (.slice S o.s.length c) := by rw [Hko.out.cell]; rfl
  have x0 : w2.cell? ⟨w.heap.size, 0, none⟩ = some (.int .i64 15) := by rw [Hko.out.cell, ← hk]; rfl
  rw [hxl]
  have Hcall := Lib.hid hcall
  have HR := Lib.hid hR
  clear hcall hR hR0 hT2
  have lx1 : bx < w2.heap.size := Nat.lt_of_lt_of_le lbx HH.out.size
  go_upto_region 20 with fail
  clear x0 hk
  have KF := Lib.hid (show ∀ Xw, Later w2 Xw → Xw.cell? ⟨bx, xo, none⟩ = some (.slice S2 (Ly.got x 0).s.length c2) ∧ Xw.cell? ⟨bx, xo + 1, none⟩ = some (.slice C2 (Ly.got x 0).c.length d2) ∧ Xw.cell? ⟨w.heap.size, 7, none⟩ = some (.slice S o.s.length c) from fun Xw h => ⟨h.cell q1, h.cell q2, h.cell q3⟩)
  refine wp_region_noPanic ?_
  refine wp_region_held_drew (S := fun Xw => Xw.cell? ⟨bx, xo, none⟩ = some (.slice S2 (Ly.got x 0).s.length c2) ∧ Xw.cell? ⟨bx, xo + 1, none⟩ = some (.slice C2 (Ly.got x 0).c.length d2) ∧ Xw.cell? ⟨w.heap.size, 7, none⟩ = some (.slice S o.s.length c)) (by kernel_rfl) (KF.out _ Later.au) (fun hHeld => ?_)
  refine tk 0 ?_
  refine tk 1 ?_
  refine tk 2 ?_
  refine tk 3 ?_
  refine tk 4 ?_
  refine rd 5 fun K hK => ?_
  simp only [ga, gs, gz]
  go_simp
  go_at_call 100
  (with_reducible refine (Hcall.out _ (Later.au : Later w2 _)).mono ?_)
  rintro e wf ⟨S3, c3, C3, d3, rfl, hne, hof, hbf⟩
  have hlf : Later w2 wf := Later.trans (Later.au : Later w2 (World.drew w2)) hbf
  have hzf := hlf.blk Hz.out
  have c0' := hzf.cell 0
  have c1' := hzf.cell 1
  have f0' := hzf.frozen 0
  have f1' := hzf.frozen 1
  simp at c0' c1'
  have Hne := Lib.hid hne
  have Hof := Lib.hid hof
  have Hzf := Lib.hid hzf
  have Hlf := Lib.hid hlf
  clear hne hof hzf hlf
  try go_wp2_with fail
  refine hK.out _ _ (KF.out _ Later.au) (fun hHeld => ?_)
  clear hK K
  try simp only [ga, gs, gz, Act.put, sa, sz, ss]
  refine tk 6 ?_
  refine tk 7 ?_
  refine rd 8 fun K hK => ?_
  simp only [ga, gs, gz]
  go_simp
  refine hK.out _ _ ?_ (fun hHeld => ?_)
  ·(try dsimp only); (refine ⟨?_, ?_, ?_⟩ <;> (repeat (refine cell_setfar ?_ (by first | omega | (simp; done) | (simp; omega)))) <;> (refine Later.cell (Later.au : Later w2 _) ?_) <;> assumption)
  clear hK K
  try simp only [ga, gs, gz, Act.put, sa, sz, ss]
  refine tk 9 ?_
  clear KF
  refine wpAnyH_done (by kernel_rfl) ?_ _
  refine NoPanic.normal ?_
  have hz4 := (Hzf.out.set_ 0 (.slice S3 R.1.s.length c3)).set_ 1 (.slice C3 R.1.c.length d3)
  have e0 := hz4.cell 0
  have e1 := hz4.cell 1
  simp at e0 e1
  have Hz4 := Lib.hid hz4
  clear hz4
  go_wp2_with fail
  refine bodyPost_ret (v := .tuple #[.agg #[.slice S3 R.1.s.length c3, .slice C3 R.1.c.length d3], .int .i64 R.2]) (by simp [results, Tryz.results42, go_sem, e0, e1]) rfl ?_
  rw [HE.out]
  exact gop_fin Hne.out Hof.out (HH.out.trans Hlf.out) Hzf.out (by simp) (by have := HH.out.size; simp; omega)
end Go.Proofs.YtbnnpkcfifejmaaGreat
namespace Go.Proofs.YtbnnpkcfifejmaaGreat
open Go.RowKit
set_option maxHeartbeats 4000000 in
theorem ref03_same (A A' : Option Addr) (c c' : Nat) (xs ys : List Int) (w : World) (hl : xs.length ≤ 9223372036854775807) (hl' : ys.length ≤ 9223372036854775807) (hI : Ints .i64 w A xs) (hI' : Ints .i64 w A' ys) :
  Calls Tryz.prog 31 #[.slice A xs.length c, .slice A' ys.length c'] w fun e w' => e = .returned (.bool (decide (xs = ys))) ∧ ∃ q, w' = w.drewN q := by
 by_cases hlen : xs.length = ys.length
 ·have hlen2 : ys.length = xs.length := hlen.symm
  rw [hlen2]
  have HI := Lib.hid hI
  have HI' := Lib.hid hI'
  have Hlen := Lib.hid hlen
  have Hlen2 := Lib.hid hlen2
  clear hI hI' hlen hlen2
  go_enter Tryz.func31, Tryz.ntmps31
  go_wp2_with fail
  go_loopw [5] (fun i wr => ∃ k q : Nat, k ≤ xs.length ∧ i = .int .i64 k ∧ xs.take k = ys.take k ∧ wr = w.drewN q) (fun i _ => xs.length - (intOf i).toNat)
  case atStart => exact ⟨0, 0, Nat.zero_le _, rfl, rfl, rfl⟩
  case round =>
   obtain ⟨k, q, hk, rfl, htk, rfl⟩ := hrel
   by_cases hlt : k < xs.length
   ·have hlt2 : k < ys.length := by have := Hlen.out; omega
    obtain ⟨b, off, rfl, -, hc⟩ := HI.out k hlt
    obtain ⟨b', off', rfl, -, hc'⟩ := HI'.out k hlt2
    rw [getD_at hlt] at hc
    rw [getD_at hlt2] at hc'
    have hd : w.drewN q = w.drewN q := rfl
    have k0 : (0 : Int) ≤ (k : Int) := by omega
    have k1 : (k : Int) < (xs.length : Int) := by omega
    have hnx : xs[k] = ys[k] → xs.take (k + 1) = ys.take (k + 1) := fun e => by rw [List.take_succ_eq_append_getElem hlt, List.take_succ_eq_append_getElem hlt2, htk, e]
    have hno : xs[k] ≠ ys[k] → decide (xs = ys) = false := fun e => by simp; intro h; subst h; exact e rfl
    generalize xs[k] = x at *
    generalize ys[k] = y at *
    by_cases hxy : x = y
    ·have e1 : (x != y) = false := by simp [hxy]
     have HX := Lib.hid (hnx hxy)
     clear hnx hno htk hxy hd
     go_wp2_with fail
     go_quiet (fail)
     go_wp2_with fail
     go_roundw
     case rel => exact ⟨k + 1, _, by omega, by go_num, HX.out, by first | rfl | exact World.drewN_drewN _ _ _⟩
     case measure => simp [intOf]; omega
    ·have e1 : (x != y) = true := by simp [hxy]
     have HX := Lib.hid (hno hxy)
     clear hnx hno htk hxy hd
     go_wp2_with fail
     go_quiet (fail)
     go_wp2_with fail
     go_ret
     exact ⟨by rw [HX.out]; rfl, _, by first | rfl | exact World.drewN_drewN _ _ _⟩
   ·obtain rfl : k = xs.length := by omega
    have HX := Lib.hid (show decide (xs = ys) = true by
     rw [List.take_length] at htk
     rw [htk, Hlen.out, List.take_length]; simp)
    clear htk
    go_wp2_with fail
    go_ret
    exact ⟨by rw [HX.out]; rfl, _, rfl⟩
 ·have HX := Lib.hid (show decide (xs = ys) = false by simp; intro h; exact hlen (by rw [h]))
  have e1 : ((xs.length : Int) != (ys.length : Int)) = true := by rw [bne_iff_ne]; omega
  have e2 : (xs.length != ys.length) = true := by rw [bne_iff_ne]; omega
  have HI := Lib.hid hI
  have HI' := Lib.hid hI'
  have Hlen := Lib.hid hlen
  clear hI hI' hlen
  go_enter Tryz.func31, Tryz.ntmps31
  go_wp2_with fail
  go_ret
  exact ⟨by rw [HX.out]; rfl, 0, rfl⟩
theorem prod_snoc (l : List Int) (x : Int) : Safe.prod (l ++ [x]) = Safe.prod l * x := by
 induction l with
 | nil => simp [Safe.prod]
 | cons a r ih => simp only [List.cons_append, Safe.prod, ih]; rw [Int.mul_assoc]
theorem prod_pos1 {l : List Int} (h : ∀ x ∈ l, 1 ≤ x) : 1 ≤ Safe.prod l := by
 induction l with
 | nil => simp [Safe.prod]
 | cons a r ih =>
  have h1 := h a (by simp)
  have h2 := ih fun x hx => h x (by simp [hx])
  simp only [Safe.prod]
  have := Int.mul_pos (show 0 < a by omega) (show 0 < Safe.prod r by omega)
  omega
set_option maxHeartbeats 4000000 in
theorem ref03_size (A : Option Addr) (c : Nat) (zs : List Int) (w : World) (hr : Sh.right zs = true) (hI : Ints .i64 w A zs) :
  Calls Tryz.prog 125 #[.slice A zs.length c] w fun e w' => e = .returned (.int .i64 (Safe.prod zs)) ∧ w = w' := by
 obtain ⟨-, h1, h2, h3, h4, h5⟩ := Sh.right_mul hr
 have hp : ∀ k, 1 ≤ Safe.prod (zs.take k) ∧ Safe.prod (zs.take k) ≤ 1099511627776 := fun k => by
  refine ⟨?_, Sh.prod_le (fun x hx => h3 x (List.mem_of_mem_take hx)) (by simp; omega)⟩
  exact prod_pos1 fun x hx => (h3 x (List.mem_of_mem_take hx)).1
 have HI := Lib.hid hI
 have Hr := Lib.hid hr
 have Hp := Lib.hid hp
 have H3 := Lib.hid h3
 clear hI hr hp h3
 go_enter Tryz.func125, Tryz.ntmps125
 go_wp2_with fail
 go_loop [3, 4] (fun t i => ∃ k : Nat, k ≤ zs.length ∧ i = .int .i64 k ∧ t = .int .i64 (Safe.prod (zs.take k))) (fun _ i => zs.length - (intOf i).toNat)
 case atStart => exact ⟨0, Nat.zero_le _, rfl, rfl⟩
 case round =>
  obtain ⟨k, hk, rfl, rfl⟩ := hrel
  by_cases hlt : k < zs.length
  ·obtain ⟨b, off, rfl, -, hc⟩ := HI.out k hlt
   rw [getD_at hlt] at hc
   have hq := Hp.out (k + 1)
   have hs : Safe.prod (zs.take (k + 1)) = Safe.prod (zs.take k) * zs[k] := by rw [List.take_succ_eq_append_getElem hlt, prod_snoc]
   rw [hs] at hq
   generalize Safe.prod (zs.take k) = p at *
   generalize zs[k] = z at *
   obtain ⟨q1, q2⟩ := hq
   have hw : IntKind.i64.wrap (p * z) = p * z := IntWalk.i64_in _ (by omega)
   have Hs := Lib.hid hs
   clear hs
   go_wp2_with fail
   go_round
   case rel => exact ⟨k + 1, by omega, by go_num, by rw [Hs.out]⟩
   case measure => simp [intOf]; omega
  ·obtain rfl : k = zs.length := by omega
   rw [List.take_length]
   go_wp2_with fail
   go_ret
   exact ⟨rfl, rfl⟩
set_option maxHeartbeats 4000000 in
theorem ref03_right (A : Option Addr) (c : Nat) (zs : List Int) (w : World) (hl : zs.length ≤ 9223372036854775807) (hI : Ints .i64 w A zs) :
  Calls Tryz.prog 122 #[.slice A zs.length c] w fun e w' => e = .returned (.bool (Sh.right zs)) ∧ w = w' := by
 by_cases hlen : 1 ≤ zs.length ∧ zs.length ≤ 4
 ·obtain ⟨l1, l2⟩ := hlen
  have d1 : decide ((zs.length : Int) < 1) = false := by simp; omega
  have d2 : decide ((4 : Int) < (zs.length : Int)) = false := by simp; omega
  have HI := Lib.hid hI
  clear hI
  go_enter Tryz.func122, Tryz.ntmps122
  go_wp2_with fail
  go_loop [3, 4] (fun t i => ∃ k : Nat, k ≤ zs.length ∧ i = .int .i64 k ∧ (zs.take k).all Sh.side = true ∧ t = .int .i64 (Safe.prod (zs.take k))) (fun _ i => zs.length - (intOf i).toNat)
  case atStart => exact ⟨0, Nat.zero_le _, rfl, rfl, rfl⟩
  case round =>
   obtain ⟨k, hk, rfl, hall, rfl⟩ := hrel
   by_cases hlt : k < zs.length
   ·obtain ⟨b, off, rfl, -, hc⟩ := HI.out k hlt
    rw [getD_at hlt] at hc
    have hs : Safe.prod (zs.take (k + 1)) = Safe.prod (zs.take k) * zs[k] := by rw [List.take_succ_eq_append_getElem hlt, prod_snoc]
    by_cases hz : 1 ≤ zs[k] ∧ zs[k] ≤ 1024
    ·have hall2 : (zs.take (k + 1)).all Sh.side = true := by
      rw [List.take_succ_eq_append_getElem hlt, List.all_append, hall]
      simp [Sh.side, hz]
     have hb2 : ∀ x ∈ zs.take (k + 1), 1 ≤ x ∧ x ≤ 1024 := Sh.all_iff hall2
     have hq : Safe.prod (zs.take (k + 1)) ≤ 1099511627776 := Sh.prod_le hb2 (by simp; omega)
     have hq1 : 1 ≤ Safe.prod (zs.take (k + 1)) := by
      exact prod_pos1 fun x hx => (hb2 x hx).1
     rw [hs] at hq hq1
     generalize Safe.prod (zs.take k) = p at *
     generalize zs[k] = z at *
     have hw : IntKind.i64.wrap (p * z) = p * z := IntWalk.i64_in _ (by omega)
     have e1 : decide (z < 1) = false := by simp; omega
     have e2 : decide (1024 < z) = false := by simp; omega
     clear hz hall hb2
     have Hs := Lib.hid hs
     have Hall2 := Lib.hid hall2
     clear hs hall2
     go_wp2_with fail
     go_round
     case rel => exact ⟨k + 1, by omega, by go_num, Hall2.out, by rw [Hs.out]⟩
     case measure => simp [intOf]; omega
    ·have hno : Sh.right zs = false := Sh.right_side (by
      rw [List.all_eq_false]
      exact ⟨zs[k], List.getElem_mem hlt, by rw [Sh.side_iff]; exact hz⟩)
     generalize zs[k] = z at *
     have Hno := Lib.hid hno
     have Hall := Lib.hid hall
     have Hs := Lib.hid hs
     clear hno hall hs
     by_cases hz1 : z < 1
     ·have e1 : decide (z < 1) = true := by simpa using hz1
      clear hz
      go_wp2_with fail
      go_ret
      exact ⟨by rw [Hno.out]; rfl, rfl⟩
     ·have e1 : decide (z < 1) = false := by simpa using hz1
      have e2 : decide (1024 < z) = true := by simp; omega
      clear hz
      go_wp2_with fail
      go_ret
      exact ⟨by rw [Hno.out]; rfl, rfl⟩
   ·obtain rfl : k = zs.length := by omega
    rw [List.take_length] at hall ⊢
    have HR := Lib.hid (Sh.right_prod ⟨l1, l2⟩ hall)
    clear hall
    go_wp2_with fail
    go_ret
    exact ⟨by rw [HR.out]; rfl, rfl⟩
 ·have HR := Lib.hid (Sh.right_len hlen)
  have HI := Lib.hid hI
  clear hI
  by_cases h1 : zs.length < 1
  ·have d1 : decide ((zs.length : Int) < 1) = true := by simp; omega
   clear hlen
   go_enter Tryz.func122, Tryz.ntmps122
   go_wp2_with fail
   go_ret
   exact ⟨by rw [HR.out]; rfl, rfl⟩
  ·have d1 : decide ((zs.length : Int) < 1) = false := by simp; omega
   have d2 : decide ((4 : Int) < (zs.length : Int)) = true := by simp; omega
   clear hlen
   go_enter Tryz.func122, Tryz.ntmps122
   go_wp2_with fail
   go_ret
   exact ⟨by rw [HR.out]; rfl, rfl⟩
set_option maxHeartbeats 4000000 in
theorem ref05_ins (k : Int) (w : World) : Calls Tryz.prog 85 #[.int .i64 k] w fun e w' => e = .returned (.int .i64 (Od.ptIns k)) ∧ w = w' := by
 by_cases h1 : 1 ≤ k ∧ k ≤ 5
 ·have HX := Lib.hid (show Od.ptIns k = 1 by unfold Od.ptIns; rw [if_pos h1])
  obtain ⟨a, b⟩ := h1
  go_enter Tryz.func85, Tryz.ntmps85
  go_wp2_with fail
  go_ret
  exact ⟨by rw [HX.out]; rfl, rfl⟩
 ·by_cases h2 : k = 6 ∨ k = 7
  ·have HX := Lib.hid (show Od.ptIns k = 2 by unfold Od.ptIns; rw [if_neg h1, if_pos h2])
   clear h1
   rcases h2 with rfl | rfl
   all_goals
    go_enter Tryz.func85, Tryz.ntmps85
    go_wp2_with fail
    go_ret
    exact ⟨by rw [HX.out]; rfl, rfl⟩
  ·have HX := Lib.hid (show Od.ptIns k = 0 by unfold Od.ptIns; rw [if_neg h1, if_neg h2])
   have e6 : (k == 6) = false := by simp; omega
   have e7 : (k == 7) = false := by simp; omega
   by_cases h3 : 1 ≤ k
   ·have d2 : decide (k ≤ 5) = false := by simp; omega
    clear h1 h2
    go_enter Tryz.func85, Tryz.ntmps85
    go_wp2_with fail
    go_ret
    exact ⟨by rw [HX.out]; rfl, rfl⟩
   ·have d2 : decide (1 ≤ k) = false := by simp; omega
    clear h1 h2
    go_enter Tryz.func85, Tryz.ntmps85
    go_wp2_with fail
    go_ret
    exact ⟨by rw [HX.out]; rfl, rfl⟩
def refIns (k : Int) : Int × Int := if 1 ≤ k ∧ k ≤ 7 then (Od.ptIns k, Od.ptIns k) else if k = 13 then (1, 8) else if 8 ≤ k ∧ k ≤ 15 then (1, 1) else (0, 0)
theorem refIns_right {o : OpD} (h : Od.right o = true) : refIns o.kind = (Od.least o, Od.most o) := by
 have hk := Od.right_kind h
 unfold refIns Od.least Od.most
 rw [if_pos h, if_pos h]
 by_cases h7 : o.kind ≤ 7
 ·rw [if_pos ⟨hk.1, h7⟩, if_pos h7, if_pos h7]
 ·rw [if_neg (by omega), if_neg h7, if_neg h7]
  by_cases h13 : o.kind = 13
  ·rw [if_pos h13, if_pos h13]
  ·rw [if_neg h13, if_neg h13, if_pos (by omega)]
def refPar (k : Int) : Int := if k = 8 then 2 else if k = 9 ∨ k = 10 then 1 else 0
theorem refPar_right {o : OpD} (h : Od.right o = true) : refPar o.kind = Od.params o := by unfold refPar Od.params; rw [if_pos h]
set_option maxHeartbeats 4000000 in
theorem ref10_ins (k : Int) (w : World) (hk : 1 ≤ k ∧ k ≤ 15) : Calls Tryz.prog 37 #[.int .i64 k] w fun e w' => e = .returned (.tuple #[.int .i64 (refIns k).1, .int .i64 (refIns k).2]) ∧ w = w' := by
 by_cases h1 : k ≤ 7
 ·have HX := Lib.hid (show refIns k = (Od.ptIns k, Od.ptIns k) by unfold refIns; rw [if_pos ⟨hk.1, h1⟩])
  obtain ⟨a, b⟩ := hk
  go_enter Tryz.func37, Tryz.ntmps37
  go_wp2_with fail
  refine (ref05_ins k _).mono ?_
  rintro e w1 ⟨rfl, rfl⟩
  go_wp2_with fail
  go_ret2
  exact ⟨by rw [HX.out]; rfl, rfl⟩
 ·have d7 : decide (k ≤ 7) = false := by simp; omega
  by_cases h13 : k = 13
  ·have HX := Lib.hid (show refIns k = (1, 8) by unfold refIns; rw [if_neg (by omega), if_pos h13])
   subst h13
   clear hk
   go_enter Tryz.func37, Tryz.ntmps37
   go_wp2_with fail
   go_ret2
   exact ⟨by rw [HX.out]; rfl, rfl⟩
  ·have HX := Lib.hid (show refIns k = (1, 1) by unfold refIns; rw [if_neg (by omega), if_neg h13, if_pos (by omega)])
   have e13 : (k == 13) = false := by simp; omega
   have g8 : 8 ≤ k := by omega
   obtain ⟨a, b⟩ := hk
   clear h13
   go_enter Tryz.func37, Tryz.ntmps37
   go_wp2_with fail
   go_ret2
   exact ⟨by rw [HX.out]; rfl, rfl⟩
set_option maxHeartbeats 4000000 in
theorem ref10_params (k : Int) (w : World) : Calls Tryz.prog 38 #[.int .i64 k] w fun e w' => e = .returned (.int .i64 (refPar k)) ∧ w = w' := by
 by_cases h8 : k = 8
 ·subst h8
  go_enter Tryz.func38, Tryz.ntmps38
  go_wp2_with fail
  go_ret
  exact ⟨rfl, rfl⟩
 ·by_cases h9 : k = 9
  ·subst h9
   clear h8
   go_enter Tryz.func38, Tryz.ntmps38
   go_wp2_with fail
   go_ret
   exact ⟨rfl, rfl⟩
  ·by_cases h10 : k = 10
   ·subst h10
    clear h8 h9
    go_enter Tryz.func38, Tryz.ntmps38
    go_wp2_with fail
    go_ret
    exact ⟨rfl, rfl⟩
   ·have HX := Lib.hid (show refPar k = 0 by unfold refPar; rw [if_neg h8, if_neg (by omega)])
    have e8 : (k == 8) = false := by simp; omega
    have e9 : (k == 9) = false := by simp; omega
    have e10 : (k == 10) = false := by simp; omega
    clear h8 h9 h10
    go_enter Tryz.func38, Tryz.ntmps38
    go_wp2_with fail
    go_ret
    exact ⟨by rw [HX.out]; rfl, rfl⟩
theorem window_steps {side width step : Int} (h1 : 1 ≤ step) (h2 : width ≤ side) (h3 : 1 ≤ width) (h4 : side ≤ 1024) {k : Int} (hk : 0 ≤ k) (hw : (k - 1) * step + width ≤ side) (hs : ¬ k * step + width ≤ side) : k = 1 + (side - width).tdiv step := by
 rw [Int.tdiv_eq_ediv_of_nonneg (by omega)]
 have e1 : (k - 1) * step ≤ side - width := by omega
 have e2 : side - width < k * step := by omega
 have h5 := Int.le_ediv_of_mul_le (show 0 < step by omega) e1
 have h6 := Int.ediv_lt_of_lt_mul (show 0 < step by omega) e2
 omega
set_option maxHeartbeats 4000000 in
theorem ref07_window (side width step : Int) (w : World) : Calls Tryz.prog 159 #[.int .i64 side, .int .i64 width, .int .i64 step] w fun e w' => e = .returned (.int .i64 (Od.window side width step).1) ∧ w = w' := by
 by_cases h1 : 1 ≤ side ∧ side ≤ 1024 ∧ 1 ≤ width ∧ width ≤ 1024 ∧ 1 ≤ step ∧ step ≤ 1024 ∧ width ≤ side
 ·have HX := Lib.hid (show (Od.window side width step).1 = 1 + (side - width).tdiv step by
   unfold Od.window; rw [if_pos (by simp only [Sh.side_iff]; omega)])
  obtain ⟨a1, a2, a3, a4, a5, a6, a7⟩ := h1
  have c1 : decide (side < 1) = false := by simp; omega
  have c2 : decide (width < 1) = false := by simp; omega
  have c3 : decide (step < 1) = false := by simp; omega
  have c4 : decide (1024 < side) = false := by simp; omega
  have c5 : decide (1024 < width) = false := by simp; omega
  have c6 : decide (1024 < step) = false := by simp; omega
  have c7 : decide (side < width) = false := by simp; omega
  go_enter Tryz.func159, Tryz.ntmps159
  go_wp2_with fail
  go_loop [7, 8] (fun t i => ∃ k : Int, 0 ≤ k ∧ i = .int .i64 (k * step) ∧ t = .int .i64 k ∧ (k - 1) * step + width ≤ side) (fun _ i => (side + 1 - intOf i).toNat)
  case atStart => exact ⟨0, by omega, by rw [Int.zero_mul], rfl, by rw [Int.zero_sub, Int.neg_mul, Int.one_mul]; omega⟩
  case round =>
   obtain ⟨k, hk, rfl, rfl, hle⟩ := hrel
   have b1 : (k - 1) * step = k * step - step := by rw [Int.sub_mul, Int.one_mul]
   have b0 : 0 ≤ k * step := Int.mul_nonneg hk (by omega)
   have b3 : k ≤ k * step + 1 := by
    have := Int.mul_le_mul_of_nonneg_left (show 1 ≤ step from a5) hk
    omega
   have b2 : (k + 1) * step = k * step + step := by rw [Int.add_mul, Int.one_mul]
   have hst := @window_steps side width step a5 a7 a3 a2 k hk hle
   rw [b1] at hle
   have hle2 : k * step + width ≤ side → (k + 1 - 1) * step + width ≤ side := fun h => by rw [Int.add_sub_cancel]; exact h
   generalize k * step = m at *
   by_cases hc : m + width ≤ side
   ·have HL := Lib.hid (hle2 hc)
    have Hb1 := Lib.hid b1
    have Hb2 := Lib.hid b2
    have Hst := Lib.hid hst
    have Hle2 := Lib.hid hle2
    clear b1 b2 hst hle2
    go_wp2_with fail
    go_round
    case rel => exact ⟨k + 1, by omega, by rw [Hb2.out], rfl, HL.out⟩
    case measure => simp [intOf]; omega
   ·have HK := Lib.hid (hst hc)
    have Hb1 := Lib.hid b1
    have Hb2 := Lib.hid b2
    have Hst := Lib.hid hst
    have Hle2 := Lib.hid hle2
    clear b1 b2 hst hle2
    go_wp2_with fail
    go_ret
    exact ⟨by rw [HX.out, ← HK.out]; rfl, rfl⟩
 ·have HX := Lib.hid (show (Od.window side width step).1 = 0 by
   unfold Od.window; rw [if_neg (by simp only [Sh.side_iff]; omega)])
  by_cases c1 : side < 1
  ·have d1 : decide (side < 1) = true := by simpa using c1
   clear h1
   go_enter Tryz.func159, Tryz.ntmps159
   go_wp2_with fail
   go_ret
   exact ⟨by rw [HX.out]; rfl, rfl⟩
  ·have d1 : decide (side < 1) = false := by simpa using c1
   by_cases c2 : width < 1
   ·have d2 : decide (width < 1) = true := by simpa using c2
    clear h1
    go_enter Tryz.func159, Tryz.ntmps159
    go_wp2_with fail
    go_ret
    exact ⟨by rw [HX.out]; rfl, rfl⟩
   ·have d2 : decide (width < 1) = false := by simpa using c2
    by_cases c3 : step < 1
    ·have d3 : decide (step < 1) = true := by simpa using c3
     clear h1
     go_enter Tryz.func159, Tryz.ntmps159
     go_wp2_with fail
     go_ret
     exact ⟨by rw [HX.out]; rfl, rfl⟩
    ·have d3 : decide (step < 1) = false := by simpa using c3
     by_cases c4 : 1024 < side
     ·have d4 : decide (1024 < side) = true := by simpa using c4
      clear h1
      go_enter Tryz.func159, Tryz.ntmps159
      go_wp2_with fail
      go_ret
      exact ⟨by rw [HX.out]; rfl, rfl⟩
     ·have d4 : decide (1024 < side) = false := by simpa using c4
      by_cases c5 : 1024 < width
      ·have d5 : decide (1024 < width) = true := by simpa using c5
       clear h1
       go_enter Tryz.func159, Tryz.ntmps159
       go_wp2_with fail
       go_ret
       exact ⟨by rw [HX.out]; rfl, rfl⟩
      ·have d5 : decide (1024 < width) = false := by simpa using c5
       by_cases c6 : 1024 < step
       ·have d6 : decide (1024 < step) = true := by simpa using c6
        clear h1
        go_enter Tryz.func159, Tryz.ntmps159
        go_wp2_with fail
        go_ret
        exact ⟨by rw [HX.out]; rfl, rfl⟩
       ·have d6 : decide (1024 < step) = false := by simpa using c6
        have d7 : decide (side < width) = true := by simp; omega
        clear h1
        go_enter Tryz.func159, Tryz.ntmps159
        go_wp2_with fail
        go_ret
        exact ⟨by rw [HX.out]; rfl, rfl⟩
end Go.Proofs.YtbnnpkcfifejmaaGreat
namespace Go.Proofs.YtbnnpkcfifejmaaGreat
open Go.RowKit
set_option maxHeartbeats 8000000 in
set_option maxRecDepth 20000 in
theorem ref10_right (o : OpD) (S : Option Addr) (c : Nat) (w : World) (hl : o.s.length ≤ 9223372036854775807) :
  Calls Tryz.prog 35 #[.agg #[.int .i64 o.kind, .int .i64 o.k, .int .i64 o.width, .int .i64 o.step, .int .i64 o.side, .int .i64 o.frm, .int .i64 o.to, .slice S o.s.length c]] w fun e w' => e = .returned (.bool (Od.refRight o)) ∧ Below w.heap.size w w' := by
 have hb0 : Below w.heap.size w (w.alloc (.cells #[.int .i64 o.kind, .int .i64 o.k, .int .i64 o.width, .int .i64 o.step, .int .i64 o.side, .int .i64 o.frm, .int .i64 o.to, .slice S o.s.length c] 87)) := (Below.refl _ _).alloc (Nat.le_refl _) _
 have hk0 := Blk.new w 87 #[.int .i64 o.kind, .int .i64 o.k, .int .i64 o.width, .int .i64 o.step, .int .i64 o.side, .int .i64 o.frm, .int .i64 o.to, .slice S o.s.length c]
 obtain ⟨y0, y1, y2, y3, y4, y5, y6, y7⟩ := op_cells hk0
 have HB := Lib.hid hb0
 clear hk0 hb0
 go_enter Tryz.func35, Tryz.ntmps35
 go_upto_region 1 with fail
 generalize (w.alloc (.cells #[.int .i64 o.kind, .int .i64 o.k, .int .i64 o.width, .int .i64 o.step, .int .i64 o.side, .int .i64 o.frm, .int .i64 o.to, .slice S o.s.length c] 87)) = w1 at *
 go_cut [10] (fun v wx => v = .bool (decide (o.kind < 1 ∨ 15 < o.kind)) ∧ w1 = wx)
 case first =>
  by_cases c1 : o.kind < 1
  ·have e1 : decide (o.kind < 1) = true := by simp; omega
   have HX := Lib.hid (show decide (o.kind < 1 ∨ 15 < o.kind) = true by simp; omega)
   clear c1
   go_wp2_with fail
   go_meet
   exact ⟨by rw [HX.out], rfl⟩
  ·have e1 : decide (o.kind < 1) = false := by simp; omega
   by_cases c2 : 15 < o.kind
   ·have e2 : decide (15 < o.kind) = true := by simp; omega
    have HX := Lib.hid (show decide (o.kind < 1 ∨ 15 < o.kind) = true by simp; omega)
    clear c1 c2
    go_wp2_with fail
    go_meet
    exact ⟨by rw [HX.out], rfl⟩
   ·have e2 : decide (15 < o.kind) = false := by simp; omega
    have HX := Lib.hid (show decide (o.kind < 1 ∨ 15 < o.kind) = false by simp; omega)
    clear c1 c2
    go_wp2_with fail
    go_meet
    exact ⟨by rw [HX.out], rfl⟩
 case rest =>
  obtain ⟨rfl, rfl⟩ := hcut
  by_cases f0 : o.kind < 1 ∨ 15 < o.kind
  ·have q0 : decide (o.kind < 1 ∨ 15 < o.kind) = true := decide_eq_true f0
   have HX := Lib.hid (show Od.refRight o = false by unfold Od.refRight; rw [if_pos f0])
   clear f0
   rw [q0]
   clear q0
   go_wp2_with fail
   go_ret
   exact ⟨by rw [HX.out]; rfl, HB.out⟩
  ·have q0 : decide (o.kind < 1 ∨ 15 < o.kind) = false := decide_eq_false f0
   rw [q0]
   clear q0
   go_upto_region 3 with fail
   go_cut [23] (fun v wx => v = .bool (decide (o.k ≠ 0 ∧ o.kind ≠ 2 ∧ o.kind ≠ 5)) ∧ w1 = wx)
   case first =>
    by_cases c1 : o.k = 0
    ·have e1 : (o.k != 0) = false := by simp; omega
     have HX := Lib.hid (show decide (o.k ≠ 0 ∧ o.kind ≠ 2 ∧ o.kind ≠ 5) = false by simp; omega)
     clear c1
     go_wp2_with fail
     go_meet
     exact ⟨by rw [HX.out], rfl⟩
    ·have e1 : (o.k != 0) = true := by simp; omega
     by_cases c2 : o.kind = 2
     ·have e2 : (o.kind != 2) = false := by simp; omega
      have HX := Lib.hid (show decide (o.k ≠ 0 ∧ o.kind ≠ 2 ∧ o.kind ≠ 5) = false by simp; omega)
      clear c1 c2
      go_wp2_with fail
      go_meet
      exact ⟨by rw [HX.out], rfl⟩
     ·have e2 : (o.kind != 2) = true := by simp; omega
      by_cases c3 : o.kind = 5
      ·have e3 : (o.kind != 5) = false := by simp; omega
       have HX := Lib.hid (show decide (o.k ≠ 0 ∧ o.kind ≠ 2 ∧ o.kind ≠ 5) = false by simp; omega)
       clear c1 c2 c3
       go_wp2_with fail
       go_meet
       exact ⟨by rw [HX.out], rfl⟩
      ·have e3 : (o.kind != 5) = true := by simp; omega
       have HX := Lib.hid (show decide (o.k ≠ 0 ∧ o.kind ≠ 2 ∧ o.kind ≠ 5) = true by simp; omega)
       clear c1 c2 c3
       go_wp2_with fail
       go_meet
       exact ⟨by rw [HX.out], rfl⟩
   case rest =>
    obtain ⟨rfl, rfl⟩ := hcut
    by_cases f1 : o.k ≠ 0 ∧ o.kind ≠ 2 ∧ o.kind ≠ 5
    ·have q1 : decide (o.k ≠ 0 ∧ o.kind ≠ 2 ∧ o.kind ≠ 5) = true := decide_eq_true f1
     have HX := Lib.hid (show Od.refRight o = false by unfold Od.refRight; rw [if_neg f0, if_pos f1])
     clear f0 f1
     rw [q1]
     clear q1
     go_wp2_with fail
     go_ret
     exact ⟨by rw [HX.out]; rfl, HB.out⟩
    ·have q1 : decide (o.k ≠ 0 ∧ o.kind ≠ 2 ∧ o.kind ≠ 5) = false := decide_eq_false f1
     rw [q1]
     clear q1
     go_upto_region 5 with fail
     go_cut [36] (fun v wx => v = .bool (decide (o.width ≠ 0 ∧ o.kind ≠ 11 ∧ o.kind ≠ 12)) ∧ w1 = wx)
     case first =>
      by_cases c1 : o.width = 0
      ·have e1 : (o.width != 0) = false := by simp; omega
       have HX := Lib.hid (show decide (o.width ≠ 0 ∧ o.kind ≠ 11 ∧ o.kind ≠ 12) = false by simp; omega)
       clear c1
       go_wp2_with fail
       go_meet
       exact ⟨by rw [HX.out], rfl⟩
      ·have e1 : (o.width != 0) = true := by simp; omega
       by_cases c2 : o.kind = 11
       ·have e2 : (o.kind != 11) = false := by simp; omega
        have HX := Lib.hid (show decide (o.width ≠ 0 ∧ o.kind ≠ 11 ∧ o.kind ≠ 12) = false by simp; omega)
        clear c1 c2
        go_wp2_with fail
        go_meet
        exact ⟨by rw [HX.out], rfl⟩
       ·have e2 : (o.kind != 11) = true := by simp; omega
        by_cases c3 : o.kind = 12
        ·have e3 : (o.kind != 12) = false := by simp; omega
         have HX := Lib.hid (show decide (o.width ≠ 0 ∧ o.kind ≠ 11 ∧ o.kind ≠ 12) = false by simp; omega)
         clear c1 c2 c3
         go_wp2_with fail
         go_meet
         exact ⟨by rw [HX.out], rfl⟩
        ·have e3 : (o.kind != 12) = true := by simp; omega
         have HX := Lib.hid (show decide (o.width ≠ 0 ∧ o.kind ≠ 11 ∧ o.kind ≠ 12) = true by simp; omega)
         clear c1 c2 c3
         go_wp2_with fail
         go_meet
         exact ⟨by rw [HX.out], rfl⟩
     case rest =>
      obtain ⟨rfl, rfl⟩ := hcut
      by_cases f2 : o.width ≠ 0 ∧ o.kind ≠ 11 ∧ o.kind ≠ 12
      ·have q2 : decide (o.width ≠ 0 ∧ o.kind ≠ 11 ∧ o.kind ≠ 12) = true := decide_eq_true f2
       have HX := Lib.hid (show Od.refRight o = false by unfold Od.refRight; rw [if_neg f0, if_neg f1, if_pos f2])
       clear f0 f1 f2
       rw [q2]
       clear q2
       go_wp2_with fail
       go_ret
       exact ⟨by rw [HX.out]; rfl, HB.out⟩
      ·have q2 : decide (o.width ≠ 0 ∧ o.kind ≠ 11 ∧ o.kind ≠ 12) = false := decide_eq_false f2
       rw [q2]
       clear q2
       go_upto_region 7 with fail
       go_cut [49] (fun v wx => v = .bool (decide (o.step ≠ 0 ∧ (o.kind < 10 ∨ 12 < o.kind))) ∧ w1 = wx)
       case first =>
        by_cases c1 : o.step = 0
        ·have e1 : (o.step != 0) = false := by simp; omega
         have HX := Lib.hid (show decide (o.step ≠ 0 ∧ (o.kind < 10 ∨ 12 < o.kind)) = false by simp; omega)
         clear c1
         go_wp2_with fail
         go_meet
         exact ⟨by rw [HX.out], rfl⟩
        ·have e1 : (o.step != 0) = true := by simp; omega
         by_cases c2 : o.kind < 10
         ·have e2 : decide (o.kind < 10) = true := by simp; omega
          have HX := Lib.hid (show decide (o.step ≠ 0 ∧ (o.kind < 10 ∨ 12 < o.kind)) = true by simp; omega)
          clear c1 c2
          go_wp2_with fail
          go_meet
          exact ⟨by rw [HX.out], rfl⟩
         ·have e2 : decide (o.kind < 10) = false := by simp; omega
          by_cases c3 : 12 < o.kind
          ·have e3 : decide (12 < o.kind) = true := by simp; omega
           have HX := Lib.hid (show decide (o.step ≠ 0 ∧ (o.kind < 10 ∨ 12 < o.kind)) = true by simp; omega)
           clear c1 c2 c3
           go_wp2_with fail
           go_meet
           exact ⟨by rw [HX.out], rfl⟩
          ·have e3 : decide (12 < o.kind) = false := by simp; omega
           have HX := Lib.hid (show decide (o.step ≠ 0 ∧ (o.kind < 10 ∨ 12 < o.kind)) = false by simp; omega)
           clear c1 c2 c3
           go_wp2_with fail
           go_meet
           exact ⟨by rw [HX.out], rfl⟩
       case rest =>
        obtain ⟨rfl, rfl⟩ := hcut
        by_cases f3 : o.step ≠ 0 ∧ (o.kind < 10 ∨ 12 < o.kind)
        ·have q3 : decide (o.step ≠ 0 ∧ (o.kind < 10 ∨ 12 < o.kind)) = true := decide_eq_true f3
         have HX := Lib.hid (show Od.refRight o = false by unfold Od.refRight; rw [if_neg f0, if_neg f1, if_neg f2, if_pos f3])
         clear f0 f1 f2 f3
         rw [q3]
         clear q3
         go_wp2_with fail
         go_ret
         exact ⟨by rw [HX.out]; rfl, HB.out⟩
        ·have q3 : decide (o.step ≠ 0 ∧ (o.kind < 10 ∨ 12 < o.kind)) = false := decide_eq_false f3
         rw [q3]
         clear q3
         go_upto_region 9 with fail
         go_cut [62] (fun v wx => v = .bool (decide (o.side ≠ 0 ∧ o.kind ≠ 13 ∧ o.kind ≠ 14)) ∧ w1 = wx)
         case first =>
          by_cases c1 : o.side = 0
          ·have e1 : (o.side != 0) = false := by simp; omega
           have HX := Lib.hid (show decide (o.side ≠ 0 ∧ o.kind ≠ 13 ∧ o.kind ≠ 14) = false by simp; omega)
           clear c1
           go_wp2_with fail
           go_meet
           exact ⟨by rw [HX.out], rfl⟩
          ·have e1 : (o.side != 0) = true := by simp; omega
           by_cases c2 : o.kind = 13
           ·have e2 : (o.kind != 13) = false := by simp; omega
            have HX := Lib.hid (show decide (o.side ≠ 0 ∧ o.kind ≠ 13 ∧ o.kind ≠ 14) = false by simp; omega)
            clear c1 c2
            go_wp2_with fail
            go_meet
            exact ⟨by rw [HX.out], rfl⟩
           ·have e2 : (o.kind != 13) = true := by simp; omega
            by_cases c3 : o.kind = 14
            ·have e3 : (o.kind != 14) = false := by simp; omega
             have HX := Lib.hid (show decide (o.side ≠ 0 ∧ o.kind ≠ 13 ∧ o.kind ≠ 14) = false by simp; omega)
             clear c1 c2 c3
             go_wp2_with fail
             go_meet
             exact ⟨by rw [HX.out], rfl⟩
            ·have e3 : (o.kind != 14) = true := by simp; omega
             have HX := Lib.hid (show decide (o.side ≠ 0 ∧ o.kind ≠ 13 ∧ o.kind ≠ 14) = true by simp; omega)
             clear c1 c2 c3
             go_wp2_with fail
             go_meet
             exact ⟨by rw [HX.out], rfl⟩
         case rest =>
          obtain ⟨rfl, rfl⟩ := hcut
          by_cases f4 : o.side ≠ 0 ∧ o.kind ≠ 13 ∧ o.kind ≠ 14
          ·have q4 : decide (o.side ≠ 0 ∧ o.kind ≠ 13 ∧ o.kind ≠ 14) = true := decide_eq_true f4
           have HX := Lib.hid (show Od.refRight o = false by unfold Od.refRight; rw [if_neg f0, if_neg f1, if_neg f2, if_neg f3, if_pos f4])
           clear f0 f1 f2 f3 f4
           rw [q4]
           clear q4
           go_wp2_with fail
           go_ret
           exact ⟨by rw [HX.out]; rfl, HB.out⟩
          ·have q4 : decide (o.side ≠ 0 ∧ o.kind ≠ 13 ∧ o.kind ≠ 14) = false := decide_eq_false f4
           rw [q4]
           clear q4
           go_upto_region 11 with fail
           go_cut [75] (fun v wx => v = .bool (decide ((o.frm ≠ 0 ∨ o.to ≠ 0) ∧ o.kind ≠ 14)) ∧ w1 = wx)
           case first =>
            by_cases c1 : o.frm = 0
            ·have e1 : (o.frm != 0) = false := by simp; omega
             by_cases c2 : o.to = 0
             ·have e2 : (o.to != 0) = false := by simp; omega
              have HX := Lib.hid (show decide ((o.frm ≠ 0 ∨ o.to ≠ 0) ∧ o.kind ≠ 14) = false by simp; omega)
              clear c1 c2
              go_wp2_with fail
              go_meet
              exact ⟨by rw [HX.out], rfl⟩
             ·have e2 : (o.to != 0) = true := by simp; omega
              by_cases c3 : o.kind = 14
              ·have e3 : (o.kind != 14) = false := by simp; omega
               have HX := Lib.hid (show decide ((o.frm ≠ 0 ∨ o.to ≠ 0) ∧ o.kind ≠ 14) = false by simp; omega)
               clear c1 c2 c3
               go_wp2_with fail
               go_meet
               exact ⟨by rw [HX.out], rfl⟩
              ·have e3 : (o.kind != 14) = true := by simp; omega
               have HX := Lib.hid (show decide ((o.frm ≠ 0 ∨ o.to ≠ 0) ∧ o.kind ≠ 14) = true by simp; omega)
               clear c1 c2 c3
               go_wp2_with fail
               go_meet
               exact ⟨by rw [HX.out], rfl⟩
            ·have e1 : (o.frm != 0) = true := by simp; omega
             by_cases c2 : o.kind = 14
             ·have e2 : (o.kind != 14) = false := by simp; omega
              have HX := Lib.hid (show decide ((o.frm ≠ 0 ∨ o.to ≠ 0) ∧ o.kind ≠ 14) = false by simp; omega)
              clear c1 c2
              go_wp2_with fail
              go_meet
              exact ⟨by rw [HX.out], rfl⟩
             ·have e2 : (o.kind != 14) = true := by simp; omega
              have HX := Lib.hid (show decide ((o.frm ≠ 0 ∨ o.to ≠ 0) ∧ o.kind ≠ 14) = true by simp; omega)
              clear c1 c2
              go_wp2_with fail
              go_meet
              exact ⟨by rw [HX.out], rfl⟩
           case rest =>
            obtain ⟨rfl, rfl⟩ := hcut
            by_cases f5 : (o.frm ≠ 0 ∨ o.to ≠ 0) ∧ o.kind ≠ 14
            ·have q5 : decide ((o.frm ≠ 0 ∨ o.to ≠ 0) ∧ o.kind ≠ 14) = true := decide_eq_true f5
             have HX := Lib.hid (show Od.refRight o = false by unfold Od.refRight; rw [if_neg f0, if_neg f1, if_neg f2, if_neg f3, if_neg f4, if_pos f5])
             clear f0 f1 f2 f3 f4 f5
             rw [q5]
             clear q5
             go_wp2_with fail
             go_ret
             exact ⟨by rw [HX.out]; rfl, HB.out⟩
            ·have q5 : decide ((o.frm ≠ 0 ∨ o.to ≠ 0) ∧ o.kind ≠ 14) = false := decide_eq_false f5
             rw [q5]
             clear q5
             have HF := Lib.hid (show Od.refRight o = decide (o.s = [] ∨ o.kind = 15) by unfold Od.refRight; rw [if_neg f0, if_neg f1, if_neg f2, if_neg f3, if_neg f4, if_neg f5])
             clear f0 f1 f2 f3 f4 f5
             by_cases h1 : o.s = []
             ·have HX := Lib.hid (show decide (o.s = [] ∨ o.kind = 15) = true by simp [h1])
              have e1 : ((o.s.length : Int) == 0) = true := by simp [h1]
              have e2 : o.s.length = 0 := by simp [h1]
              rw [e2] at *
              clear h1
              go_wp2_with fail
              go_ret
              exact ⟨by rw [HF.out, HX.out]; rfl, HB.out⟩
             ·have e1 : ((o.s.length : Int) == 0) = false := by simp [h1]
              have e2 : (o.s.length == 0) = false := by simp [h1]
              by_cases h2 : o.kind = 15
              ·have HX := Lib.hid (show decide (o.s = [] ∨ o.kind = 15) = true by simp [h2])
               have e3 : (o.kind == 15) = true := by simp [h2]
               clear h1 h2
               go_wp2_with fail
               go_ret
               exact ⟨by rw [HF.out, HX.out]; rfl, HB.out⟩
              ·have HX := Lib.hid (show decide (o.s = [] ∨ o.kind = 15) = false by simp [h1, h2])
               have e3 : (o.kind == 15) = false := by simp [h2]
               clear h1 h2
               go_wp2_with fail
               go_ret
               exact ⟨by rw [HF.out, HX.out]; rfl, HB.out⟩
end Go.Proofs.YtbnnpkcfifejmaaGreat
namespace Go.Proofs.YtbnnpkcfifejmaaGreat
open Go.RowKit
set_option maxHeartbeats 4000000 in
theorem ref10_ins_any (k : Int) (w : World) : Calls Tryz.prog 37 #[.int .i64 k] w fun e w' => e = .returned (.tuple #[.int .i64 (refIns k).1, .int .i64 (refIns k).2]) ∧ w = w' := by
 by_cases hk : 1 ≤ k ∧ k ≤ 15
 ·exact ref10_ins k w hk
 ·have HX := Lib.hid (show refIns k = (0, 0) by unfold refIns; rw [if_neg (by omega), if_neg (by omega), if_neg (by omega)])
  by_cases h1 : k < 1
  ·have d1 : decide (1 ≤ k) = false := by simp; omega
   have d8 : decide (8 ≤ k) = false := by simp; omega
   have e13 : (k == 13) = false := by simp; omega
   clear hk
   go_enter Tryz.func37, Tryz.ntmps37
   go_wp2_with fail
   go_ret2
   exact ⟨by rw [HX.out]; rfl, rfl⟩
  ·have g1 : 15 < k := by omega
   have d7 : decide (k ≤ 7) = false := by simp; omega
   have d15 : decide (k ≤ 15) = false := by simp; omega
   have e13 : (k == 13) = false := by simp; omega
   clear hk h1
   go_enter Tryz.func37, Tryz.ntmps37
   go_wp2_with fail
   go_ret2
   exact ⟨by rw [HX.out]; rfl, rfl⟩
set_option maxHeartbeats 4000000 in
theorem law10_ref (o : OpD) (S : Option Addr) (c : Nat) (w : World) :
  Calls Tryz.prog 36 #[.agg #[.int .i64 o.kind, .int .i64 o.k, .int .i64 o.width, .int .i64 o.step, .int .i64 o.side, .int .i64 o.frm, .int .i64 o.to, .slice S o.s.length c]] w fun e w' => e = .returned (.agg #[.int .i64 o.kind, .int .i64 o.k, .int .i64 o.width, .int .i64 o.step, .int .i64 o.side, .int .i64 o.frm, .int .i64 o.to, .slice S o.s.length c]) ∧ Below w.heap.size w w' := by
 have hb0 := below2 w (.cells #[.int .i64 o.kind, .int .i64 o.k, .int .i64 o.width, .int .i64 o.step, .int .i64 o.side, .int .i64 o.frm, .int .i64 o.to, .slice S o.s.length c] 26) (.cells #[.int .i64 o.kind, .int .i64 o.k, .int .i64 o.width, .int .i64 o.step, .int .i64 o.side, .int .i64 o.frm, .int .i64 o.to, .slice S o.s.length c] 87)
 have hk0 := Blk.new w 26 #[.int .i64 o.kind, .int .i64 o.k, .int .i64 o.width, .int .i64 o.step, .int .i64 o.side, .int .i64 o.frm, .int .i64 o.to, .slice S o.s.length c]
 have hk1 := Blk.new (w.alloc (.cells #[.int .i64 o.kind, .int .i64 o.k, .int .i64 o.width, .int .i64 o.step, .int .i64 o.side, .int .i64 o.frm, .int .i64 o.to, .slice S o.s.length c] 26)) 87 #[.int .i64 o.kind, .int .i64 o.k, .int .i64 o.width, .int .i64 o.step, .int .i64 o.side, .int .i64 o.frm, .int .i64 o.to, .slice S o.s.length c]
 rw [World.size_alloc] at hk1
 obtain ⟨d0, d1, d2, d3, d4, d5, d6, d7⟩ := op_cells hk1
 have Hb0 := Lib.hid hb0
 clear hb0
 clear hk0 hk1
 go_enter Tryz.func36, Tryz.ntmps36
 go_wp2_with fail
 refine bodyPost_ret (v := .agg #[.int .i64 o.kind, .int .i64 o.k, .int .i64 o.width, .int .i64 o.step, .int .i64 o.side, .int .i64 o.frm, .int .i64 o.to, .slice S o.s.length c]) (by simp [results, Tryz.results36, go_sem, d0, d1, d2, d3, d4, d5, d6, d7]) rfl ?_
 exact ⟨rfl, Hb0.out⟩
end Go.Proofs.YtbnnpkcfifejmaaGreat

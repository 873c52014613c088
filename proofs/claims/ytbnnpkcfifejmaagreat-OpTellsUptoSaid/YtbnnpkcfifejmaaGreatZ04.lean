/- Lemmas for the statements of this seat: contracts of functions and the plain laws. -/
import Derived.Deep.RegionHeld3
import Derived.Test.YtbnnpkcfifejmaaGreatZ03
set_option linter.unusedVariables false
namespace Go.Proofs.YtbnnpkcfifejmaaGreat
open Go.RowKit
namespace Ly
theorem alike_a {a b : Ten} (h : Tn.right a = false) : alike a b = false := by simp [alike, h]
theorem alike_b {a b : Ten} (h : Tn.right b = false) : alike a b = false := by simp [alike, h]
theorem alike_s {a b : Ten} (h : Tn.right a = true) (h2 : Tn.right b = true) : alike a b = (a.s == b.s) := by simp [alike, h, h2]; rw [Bool.eq_iff_iff]; simp
theorem alike_yes {a b : Ten} (h : alike a b = true) : Tn.right a = true ∧ Tn.right b = true ∧ a.s = b.s := by simpa [alike, and_assoc] using h
theorem add_err {a b : Ten} (h : alike a b = false) : add a b = (none_, 20) := by simp [add, h]
theorem add_ok {a b : Ten} (h : alike a b = true) : add a b = (⟨a.s, tab a.c.length fun i => Fx.add (at_ a.c i) (at_ b.c i)⟩, 0) := by simp [add, h]
end Ly
theorem two_boxes (w : World) (t t' : TypeId) (a b : Array Value) : Blk ((w.alloc (.cells a t)).alloc (.cells b t')) w.heap.size t a ∧ Blk ((w.alloc (.cells a t)).alloc (.cells b t')) (w.heap.size + 1) t' b ∧ Later w ((w.alloc (.cells a t)).alloc (.cells b t')) := by
 refine ⟨(Blk.new w t a).alloc _, ?_, ((Later.refl w).alloc _).alloc _⟩
 have := Blk.new (w.alloc (.cells a t)) t' b
 rwa [World.size_alloc] at this
set_option maxHeartbeats 4000000 in
theorem tensor_alike (S C S' C' : Option Addr) (c d c' d' : Nat) (a b : Ten) (w : World) (ha : TenIn w S C c d a) (hb : TenIn w S' C' c' d' b) :
  Calls Tryz.prog 84 #[.agg #[.slice S a.s.length c, .slice C a.c.length d], .agg #[.slice S' b.s.length c', .slice C' b.c.length d']] w fun e w' => e = .returned (.bool (Ly.alike a b)) ∧ Below w.heap.size w w' := by
 obtain ⟨hk0, hk1, h02⟩ := two_boxes w 30 30 #[.slice S a.s.length c, .slice C a.c.length d] #[.slice S' b.s.length c', .slice C' b.c.length d']
 have la := ha.l1
 have lb := hb.l1
 have la2 := ha.l2
 have lb2 := hb.l2
 have Hk0 := Lib.hid hk0
 have Hk1 := Lib.hid hk1
 have H02 := Lib.hid h02
 have Ha := Lib.hid ha
 have Hb := Lib.hid hb
 clear hk0 hk1 h02 ha hb
 go_enter Tryz.func84, Tryz.ntmps84
 go_wp2_with fail
 generalize (w.alloc (.cells #[.slice S a.s.length c, .slice C a.c.length d] 30)).alloc (.cells #[.slice S' b.s.length c', .slice C' b.c.length d'] 30) = w2 at *
 have x0 : w2.cell? ⟨w.heap.size, 0, none⟩ = some (.slice S a.s.length c) := by rw [Hk0.out.cell]; rfl
 have x1 : w2.cell? ⟨w.heap.size, 1, none⟩ = some (.slice C a.c.length d) := by rw [Hk0.out.cell]; rfl
 have x2 : w2.cell? ⟨w.heap.size + 1, 0, none⟩ = some (.slice S' b.s.length c') := by rw [Hk1.out.cell]; rfl
 have x3 : w2.cell? ⟨w.heap.size + 1, 1, none⟩ = some (.slice C' b.c.length d') := by rw [Hk1.out.cell]; rfl
 have hA := (Ha.out.later H02.out)
 have hB := (Hb.out.later H02.out)
 have hc1 := fun (V : World) (h : Later w2 V) => tensor_right S C c d a V (by omega) (by omega) (hA.later h).r.1
 have hc2 := fun (V : World) (h : Later w2 V) => tensor_right S' C' c' d' b V (by omega) (by omega) (hB.later h).r.1
 have hc3 := fun (V : World) (h : Later w2 V) => shape_equal S S' c c' a.s b.s V (by omega) (by omega) (hA.later h).r.1 (hB.later h).r.1
 clear hA hB
 have Hc1 := Lib.hid hc1
 have Hc2 := Lib.hid hc2
 have Hc3 := Lib.hid hc3
 clear hc1 hc2 hc3
 refine (Hc1.out w2 (Later.refl _)).mono ?_
 rintro e w3 ⟨rfl, hb3⟩
 have h23 : Later w2 w3 := hb3
 have y2 := h23.cell x2
 have y0 := h23.cell x0
 have y3 := h23.cell x3
 clear x0 x1 x2 x3 hb3
 cases hr : Tn.right a
 ·have HE := Lib.hid (Ly.alike_a (b := b) hr)
  clear hr
  have H23 := Lib.hid h23
  clear h23
  go_wp2_with fail
  go_ret
  exact ⟨by rw [HE.out]; rfl, H02.out.trans H23.out⟩
 ·have h02 := Hc2.out w3 h23
  have hc3 := Hc3.out
  have H23 := Lib.hid h23
  have Hq := Lib.hid h02
  have Hq3 := Lib.hid hc3
  clear h23 h02 hc3
  go_wp2_with fail
  refine (Hq.out).mono ?_
  rintro e w4 ⟨rfl, hb4⟩
  have h34 : Later w3 w4 := hb4
  have z2 := h34.cell y2
  have z0 := h34.cell y0
  clear y0 y2 y3 hb4
  cases hr2 : Tn.right b
  ·have HE := Lib.hid (Ly.alike_b (a := a) hr2)
   clear hr hr2
   have H34 := Lib.hid h34
   clear h34
   go_wp2_with fail
   go_ret
   exact ⟨by rw [HE.out]; rfl, (H02.out.trans H23.out).trans H34.out⟩
  ·have HE := Lib.hid (Ly.alike_s hr hr2)
   clear hr hr2
   have H34 := Lib.hid h34
   clear h34
   go_wp2_with fail
   refine (Hq3.out w4 (H23.out.trans H34.out)).mono ?_
   rintro e w5 ⟨rfl, q, rfl⟩
   go_wp2_with fail
   go_ret
   exact ⟨by rw [HE.out]; rfl, ((H02.out.trans H23.out).trans H34.out).drewN q⟩
namespace Ly
theorem mid_at (C L : List Int) {k : Nat} (hk : k < L.length) (hn : C.length = L.length) : ∃ h : k < (C.take k ++ L.drop k).length, (C.take k ++ L.drop k)[k] = L[k] := by
 have h1 : (C.take k).length = k := by simp; omega
 refine ⟨by simp; omega, ?_⟩
 rw [List.getElem_append_right (by omega)]
 simp [h1]
end Ly
theorem three_boxes (w : World) (t t' t2 : TypeId) (a b z : Array Value) : Blk (((w.alloc (.cells a t)).alloc (.cells b t')).alloc (.cells z t2)) w.heap.size t a ∧ Blk (((w.alloc (.cells a t)).alloc (.cells b t')).alloc (.cells z t2)) (w.heap.size + 1) t' b ∧ Blk (((w.alloc (.cells a t)).alloc (.cells b t')).alloc (.cells z t2)) (w.heap.size + 2) t2 z ∧ Later w (((w.alloc (.cells a t)).alloc (.cells b t')).alloc (.cells z t2)) := by
 obtain ⟨h1, h2, h3⟩ := two_boxes w t t' a b
 refine ⟨h1.alloc _, h2.alloc _, ?_, h3.alloc _⟩
 have := Blk.new ((w.alloc (.cells a t)).alloc (.cells b t')) t2 z
 rwa [World.size_alloc, World.size_alloc] at this
theorem rows_apart {w : World} {g h : Nat} {s c : List Int} (hG : Blk w g 3 (s.map (Value.int .i64)).toArray) (hH : Blk w h 22 (c.map (Value.int .i64)).toArray) : g ≠ h := by
 intro e
 subst e
 have h1 : (Obj.cells (s.map (Value.int .i64)).toArray 3 (0, 0)) = _ := Option.some.inj (hG.symm.trans hH)
 injection h1 with _ h2 _
 exact absurd h2 (by decide)
set_option maxHeartbeats 8000000 in
theorem tensor_add (S C S' C' : Option Addr) (c d c' d' : Nat) (a b : Ten) (w : World) (ha : TenIn w S C c d a) (hb : TenIn w S' C' c' d' b) :
  Calls Tryz.prog 34 #[.agg #[.slice S a.s.length c, .slice C a.c.length d], .agg #[.slice S' b.s.length c', .slice C' b.c.length d']] w (GoP (Ly.add a b) w) := by
 obtain ⟨hk0, hk1, hz, h01⟩ := three_boxes w 30 30 30 #[.slice S a.s.length c, .slice C a.c.length d] #[.slice S' b.s.length c', .slice C' b.c.length d'] #[.slice none 0 0, .slice none 0 0]
 have Hk0 := Lib.hid hk0
 have Hk1 := Lib.hid hk1
 have Hz := Lib.hid hz
 have H01 := Lib.hid h01
 have Ha := Lib.hid ha
 have Hb := Lib.hid hb
 clear hk0 hk1 hz h01 ha hb
 go_enter Tryz.func34, Tryz.ntmps34
 go_wp2_with fail
 generalize ((w.alloc (.cells #[.slice S a.s.length c, .slice C a.c.length d] 30)).alloc (.cells #[.slice S' b.s.length c', .slice C' b.c.length d'] 30)).alloc (.cells #[.slice none 0 0, .slice none 0 0] 30) = w1 at *
 refine (tensor_alike S C S' C' c d c' d' a b w1 (Ha.out.later H01.out) (Hb.out.later H01.out)).mono ?_
 rintro e w2 ⟨rfl, hb2⟩
 have h12 : Later w1 w2 := hb2
 have h02 := H01.out.trans h12
 have hz2 := h12.blk Hz.out
 have ha2 := h12.blk Hk0.out
 have hb2' := h12.blk Hk1.out
 clear hb2 Hz H01 Hk0 Hk1 h12
 cases hg : Ly.alike a b
 ·have HE := Lib.hid (Ly.add_err hg)
  clear hg
  have c0 := hz2.cell 0
  have c1 := hz2.cell 1
  have f0 := hz2.frozen 0
  have f1 := hz2.frozen 1
  simp at c0 c1
  have H02 := Lib.hid h02
  have Hz2 := Lib.hid hz2
  have Ha2 := Lib.hid ha2
  have Hb2' := Lib.hid hb2'
  clear h02 hz2 ha2 hb2'
  go_wp2_with fail
  refine bodyPost_ret (v := .tuple #[.agg #[.slice none 0 0, .slice none 0 0], .int .i64 20]) (by simp [results, Tryz.results34, go_sem, c0, c1]) rfl ?_
  exact GoP.fail HE.out (by decide) ((H02.out.set (p := ⟨w.heap.size + 2, 0, none⟩) (by simp) _).set (p := ⟨w.heap.size + 2, 1, none⟩) (by simp) _)
 obtain ⟨hra, hrb, hs⟩ := Ly.alike_yes hg
 have HE := Lib.hid (Ly.add_ok hg)
 have hlen : b.c.length = a.c.length := (Ly.same_len hra hrb hs).symm
 obtain ⟨r1, r2⟩ := Ly.right_ok hra
 generalize hR : (Ly.tab a.c.length fun i => Fx.add (Ly.at_ a.c i) (Ly.at_ b.c i)) = R at *
 have hRl : R.length = a.c.length := by rw [← hR, Ly.tab_len]
 have hRg : ∀ i (hi : i < R.length), R[i] = Fx.add (Ly.at_ a.c i) (Ly.at_ b.c i) := fun i hi => by subst hR; exact Ly.tab_get hi
 have hRin : ∀ z ∈ R, Fx.In z := by rw [← hR]; exact Ly.tab_in fun i _ => Fx.add_in _ _
 have x0 := ha2.cell 0
 have x1 := ha2.cell 1
 have x2 := hb2'.cell 0
 have x3 := hb2'.cell 1
 simp at x0 x1 x2 x3
 have HL := Lib.hid hlen
 have HRl := Lib.hid hRl
 have hna := Ha.out.num
 have hnb := Hb.out.num
 clear hR hg hra hrb hs hlen hRl
 have H02 := Lib.hid h02
 have Hz2 := Lib.hid hz2
 have Ha2 := Lib.hid ha2
 have Hb2' := Lib.hid hb2'
 have HRg := Lib.hid hRg
 have HRin := Lib.hid hRin
 have Hna := Lib.hid hna
 have Hnb := Lib.hid hnb
 clear h02 hz2 ha2 hb2' hRg hRin hna hnb
 go_wp2_with fail
 have X3 := Lib.hid x3
 clear x0 x1 x2 x3
 refine (tensor_copy S C c d a w2 (by omega) (by omega) (Ha.out.later H02.out).r).mono ?_
 rintro e w3 ⟨v, rfl, ⟨g, h, rfl, hg, hh, hG, hH⟩, hb3⟩
 have h23 : Later w2 w3 := hb3
 have h3a : Later w3 (w3.alloc (.cells #[.slice (some ⟨g, 0, none⟩) a.s.length a.s.length, .slice (some ⟨h, 0, none⟩) a.c.length a.c.length] 30)) := (Later.refl w3).alloc _
 have ho := Blk.new w3 30 #[.slice (some ⟨g, 0, none⟩) a.s.length a.s.length, .slice (some ⟨h, 0, none⟩) a.c.length a.c.length]
 have h24 := h23.trans h3a
 have h04 := H02.out.trans h24
 have hz4 := h24.blk Hz2.out
 have hG4 := h3a.blk hG
 have hH4 := h3a.blk hH
 have hs2 := H02.out.size
 have hs3 := h23.size
 have hhl := hH.lt
 have hgl := hG.lt
 have hzl := Hz2.out.lt
 have hgne := rows_apart hG hH
 have x3 := h24.cell X3.out
 clear hb3 Hz2 hG hH X3
 have X3 := Lib.hid x3
 clear x3
 have H23 := Lib.hid h23
 have H3a := Lib.hid h3a
 have Ho := Lib.hid ho
 have H24 := Lib.hid h24
 have H04 := Lib.hid h04
 have Hz4 := Lib.hid hz4
 have HG4 := Lib.hid hG4
 have HH4 := Lib.hid hH4
 clear h23 h3a ho h24 h04 hz4 hG4 hH4
 go_upto_region 4 with fail
 generalize w3.alloc (.cells #[.slice (some ⟨g, 0, none⟩) a.s.length a.s.length, .slice (some ⟨h, 0, none⟩) a.c.length a.c.length] 30) = w4 at *
 generalize hpe : w3.heap.size = p at *
 have hph : h < p := by omega
 have hpz : w.heap.size + 2 < p := by omega
 have x3 := X3.out
 clear X3 H3a H23 hpe
 go_wp2_with fail
 clear x3
 have hI0 : Blk w4 h 22 ((R.take 0 ++ a.c.drop 0).map (Value.int .i64)).toArray := by simpa using HH4.out
 have HI0 := Lib.hid hI0
 clear hI0
 go_loopw [19] (fun i wx => ∃ k : Nat, k ≤ b.c.length ∧ i = .int .i64 (k : Int) ∧ Blk wx h 22 ((R.take k ++ a.c.drop k).map (Value.int .i64)).toArray ∧ Blk wx p 30 #[.slice (some ⟨g, 0, none⟩) a.s.length a.s.length, .slice (some ⟨h, 0, none⟩) a.c.length a.c.length] ∧ Blk wx (w.heap.size + 2) 30 #[.slice none 0 0, .slice none 0 0] ∧ Blk wx g 3 (a.s.map (Value.int .i64)).toArray ∧ Later w wx) (fun i _ => b.c.length - (intOf i).toNat)
 case atStart => exact ⟨0, Nat.zero_le _, rfl, HI0.out, Ho.out, Hz4.out, HG4.out, H04.out⟩
 case round =>
  obtain ⟨k, hk, rfl, hm, hox, hzx, hgx, hlw⟩ := hrel
  clear HI0
  have hal : b.c.length ≤ a.c.length := Nat.le_of_eq HL.out
  by_cases hlt : k < b.c.length
  ·obtain ⟨b2, off2, rfl, -, hc2⟩ := (Hb.out.later hlw).cell hlt
   have hltR : k < R.length := by have := HRl.out; omega
   have hst := Ly.mid_step R a.c hltR HRl.out
   have hlen := Ly.mid_len R a.c k (by omega) HRl.out
   obtain ⟨hq1, hq2⟩ := Ly.mid_at R a.c (k := k) (by omega) HRl.out
   have hcur := hm.row_get hq1
   rw [hq2, ← Ly.at_get (show k < a.c.length by omega)] at hcur
   have hRk := HRg.out k hltR
   have hxin := Ly.at_in Hna.out k
   have hyin := Ly.at_in Hnb.out k
   have hc1 := fun (V : World) => fix_add (Ly.at_ a.c k) (Ly.at_ b.c k) V hxin hyin
   rw [hRk] at hst
   generalize Ly.at_ a.c k = xk at *
   generalize Ly.at_ b.c k = yk at *
   have o1 : wr.cell? ⟨p, 1, none⟩ = some (.slice (some ⟨h, 0, none⟩) a.c.length a.c.length) := by rw [hox.cell]; rfl
   have fu := hm.frozen k
   have hm2 : Blk (wr.setCell ⟨h, k, none⟩ (.int .i64 (Fx.add xk yk))) h 22 ((R.take (k + 1) ++ a.c.drop (k + 1)).map (Value.int .i64)).toArray := by
    have := hm.set_ k (.int .i64 (Fx.add xk yk))
    rw [← hst, List.map_set]
    simpa using this
   have hox2 := hox.far (p := ⟨h, k, none⟩) (by simp; omega) (.int .i64 (Fx.add xk yk))
   have hzx2 := hzx.far (p := ⟨h, k, none⟩) (by simp; omega) (.int .i64 (Fx.add xk yk))
   have hgx2 : Blk (wr.setCell ⟨h, k, none⟩ (.int .i64 (Fx.add xk yk))) g 3 (a.s.map (Value.int .i64)).toArray := hgx.far (p := ⟨h, k, none⟩) hgne (.int .i64 (Fx.add xk yk))
   have hlw2 := hlw.set (p := ⟨h, k, none⟩) (by simp; omega) (.int .i64 (Fx.add xk yk))
   have kk1 : (k : Int) < (a.c.length : Int) := by omega
   have kk2 : (0 : Int) ≤ (k : Int) := by omega
   have kk3 : (k : Int) < (b.c.length : Int) := by omega
   clear hlen hRk hxin hyin hltR hq1 hq2
   have Hm := Lib.hid hm
   have Hox := Lib.hid hox
   have Hzx := Lib.hid hzx
   have Hgx := Lib.hid hgx
   have Hm2 := Lib.hid hm2
   have Hox2 := Lib.hid hox2
   have Hzx2 := Lib.hid hzx2
   have Hgx2 := Lib.hid hgx2
   have Hlw2 := Lib.hid hlw2
   have Hst := Lib.hid hst
   have Hc1 := Lib.hid hc1
   have Hlw := Lib.hid hlw
   clear hm hox hzx hgx hm2 hox2 hzx2 hgx2 hlw2 hst hc1 hlw
   go_wp2_with fail
   go_region_law ((first
    | (go_simp; go_at_call 55; (with_reducible refine (Hc1.out _).mono ?_); rintro e wa ⟨rfl, rfl⟩)))
   all_goals
    go_wp2_with fail
    go_roundw
    case rel => exact ⟨k + 1, by omega, by go_num, Hm2.out.drew, Hox2.out.drew, Hzx2.out.drew, Hgx2.out.drew, Hlw2.out.drew⟩
    case measure => simp [intOf]; omega
  ·have hke : k = a.c.length := by have := HL.out; omega
   rw [Ly.mid_end R a.c _ (by rw [hke]; exact HRl.out.symm) HRl.out] at hm
   obtain rfl : k = b.c.length := by omega
   have HKE := Lib.hid hke
   clear hke
   have o0 : wr.cell? ⟨p, 0, none⟩ = some (.slice (some ⟨g, 0, none⟩) a.s.length a.s.length) := by rw [hox.cell]; rfl
   have o1 : wr.cell? ⟨p, 1, none⟩ = some (.slice (some ⟨h, 0, none⟩) a.c.length a.c.length) := by rw [hox.cell]; rfl
   have c0 := hzx.cell 0
   have c1 := hzx.cell 1
   have f0 := hzx.frozen 0
   have f1 := hzx.frozen 1
   simp at c0 c1
   have hz3 := (hzx.set_ 0 (.slice (some ⟨g, 0, none⟩) a.s.length a.s.length)).set_ 1 (.slice (some ⟨h, 0, none⟩) a.c.length a.c.length)
   have d0 := hz3.cell 0
   have d1 := hz3.cell 1
   simp at d0 d1
   have hgz : g ≠ w.heap.size + 2 := by omega
   have hhz : h ≠ w.heap.size + 2 := by omega
   have Hm := Lib.hid hm
   have Hox := Lib.hid hox
   have Hzx := Lib.hid hzx
   have Hgx := Lib.hid hgx
   have Hlw := Lib.hid hlw
   have Hz3 := Lib.hid hz3
   clear hm hox hzx hgx hlw hz3
   go_wp2_with fail
   refine bodyPost_ret (v := .tuple #[.agg #[.slice (some ⟨g, 0, none⟩) a.s.length a.s.length, .slice (some ⟨h, 0, none⟩) a.c.length a.c.length], .int .i64 0]) (by simp [results, Tryz.results34, go_sem, d0, d1]) rfl ?_
   refine GoP.ok HE.out (TenN.o ⟨g, h, by simp [HRl.out], by omega, by omega, (Hgx.out.far (p := ⟨w.heap.size + 2, 0, none⟩) hgz _).far (p := ⟨w.heap.size + 2, 1, none⟩) hgz _, (Hm.out.far (p := ⟨w.heap.size + 2, 0, none⟩) hhz _).far (p := ⟨w.heap.size + 2, 1, none⟩) hhz _⟩ (by show a.s.length ≤ _; omega) (by have := HRl.out; show R.length ≤ _; omega) HRin.out) ((Hlw.out.set (p := ⟨w.heap.size + 2, 0, none⟩) (by simp) _).set (p := ⟨w.heap.size + 2, 1, none⟩) (by simp) _)
theorem dense_bias (S C S' C' : Option Addr) (c d c' d' : Nat) (b x : Ten) (w : World) (hb : TenIn w S C c d b) (hx : TenIn w S' C' c' d' x) :
  Calls Tryz.prog 95 #[.agg #[.slice S b.s.length c, .slice C b.c.length d], .agg #[.slice S' x.s.length c', .slice C' x.c.length d']] w (GoP (Ly.add x b) w) := by
 obtain ⟨hk0, hk1, hz, h01⟩ := three_boxes w 30 30 30 #[.slice S b.s.length c, .slice C b.c.length d] #[.slice S' x.s.length c', .slice C' x.c.length d'] #[.slice none 0 0, .slice none 0 0]
 have Hk0 := Lib.hid hk0
 have Hk1 := Lib.hid hk1
 have Hz := Lib.hid hz
 have H01 := Lib.hid h01
 have Hb := Lib.hid hb
 have Hx := Lib.hid hx
 clear hk0 hk1 hz h01 hb hx
 go_enter Tryz.func95, Tryz.ntmps95
 go_wp2_with fail
 generalize ((w.alloc (.cells #[.slice S b.s.length c, .slice C b.c.length d] 30)).alloc (.cells #[.slice S' x.s.length c', .slice C' x.c.length d'] 30)).alloc (.cells #[.slice none 0 0, .slice none 0 0] 30) = w1 at *
 refine (tensor_add S' C' S C c' d' c d x b w1 (Hx.out.later H01.out) (Hb.out.later H01.out)).mono ?_
 rintro e wf hgo
 have hlf : Later w1 wf := hgo.2
 have hzf := hlf.blk Hz.out
 have h0f := H01.out.trans hlf
 have f0 := hzf.frozen 0
 have f1 := hzf.frozen 1
 have hpz : w.heap.size ≤ w.heap.size + 2 := by first | exact Nat.le_refl _ | simp | omega
 rcases hgo.1 with ⟨hne, rfl⟩ | ⟨hn0, v, rfl, hten⟩
 ·have c0 := hzf.cell 0
  have c1 := hzf.cell 1
  simp at c0 c1
  have Hne0 := hne
  generalize hge : (Ly.add x b).2 = ge at *
  have Hge := Lib.hid hge
  have Hne := Lib.hid Hne0
  clear Hne0
  clear hgo hne hlf hge
  have HZf := Lib.hid hzf
  have HLf := Lib.hid h0f
  clear hzf h0f
  go_wp2_with fail
  refine bodyPost_ret (v := .tuple #[.agg #[.slice none 0 0, .slice none 0 0], .int .i64 ge]) (by simp [results, Tryz.results95, go_sem, c0, c1]) rfl ?_
  exact GoP.fail2 Hge.out Hne.out ((HLf.out.set (p := ⟨w.heap.size + 2, 0, none⟩) hpz _).set (p := ⟨w.heap.size + 2, 1, none⟩) hpz _)
 ·have hto := hten.base (H01.out.size)
  clear hgo hten
  obtain ⟨S2, c2, C2, d2, rfl, hti, hs2, hc2⟩ := hto
  have hz3 := (hzf.set_ 0 (.slice S2 (Ly.add x b).1.s.length c2)).set_ 1 (.slice C2 (Ly.add x b).1.c.length d2)
  have d0 := hz3.cell 0
  have d1 := hz3.cell 1
  simp at d0 d1
  have c0 := hzf.cell 0
  have c1 := hzf.cell 1
  simp at c0 c1
  have Hn0 := Lib.hid hn0
  have HZ3 := Lib.hid hz3
  have HZf := Lib.hid hzf
  have HLf := Lib.hid h0f
  have HLF := Lib.hid hlf
  have HTI := Lib.hid hti
  have HS2 := Lib.hid hs2
  have HC2 := Lib.hid hc2
  clear hz3 hzf h0f hlf hti hs2 hc2 hn0
  go_wp2_with fail
  refine bodyPost_ret (v := .tuple #[.agg #[.slice S2 (Ly.add x b).1.s.length c2, .slice C2 (Ly.add x b).1.c.length d2], .int .i64 0]) (by simp [results, Tryz.results95, go_sem, d0, d1]) rfl ?_
  exact ⟨.inr ⟨Hn0.out, _, rfl, TenO.box ⟨S2, c2, C2, d2, rfl, HTI.out, HS2.out, HC2.out⟩ HZf.out⟩, (HLf.out.set (p := ⟨w.heap.size + 2, 0, none⟩) hpz _).set (p := ⟨w.heap.size + 2, 1, none⟩) hpz _⟩
end Go.Proofs.YtbnnpkcfifejmaaGreat
namespace Go.Proofs.YtbnnpkcfifejmaaGreat
open Go.RowKit
namespace Ly
def flat (w : Ten) : Bool := Tn.right w && decide (w.s.length = 2)
theorem flat_yes {w : Ten} (h : flat w = true) : Tn.right w = true ∧ w.s.length = 2 := by simpa [flat] using h
theorem dense_w {w b x : Ten} (h : flat w = false) : denseOk w b x = false := by unfold flat at h; unfold denseOk; rw [h]; simp
theorem dense_b {w b x : Ten} (h : Tn.right b = false) : denseOk w b x = false := by unfold denseOk; rw [h]; simp
theorem dense_x {w b x : Ten} (h : Tn.right x = false) : denseOk w b x = false := by unfold denseOk; rw [h]; simp
theorem dense_s {w b x : Ten} (h : (b.s == [at_ w.s 0]) = false) : denseOk w b x = false := by
 have : ¬ b.s = [at_ w.s 0] := by simpa using h
 unfold denseOk; simp [this]
theorem dense_all {w b x : Ten} (h1 : flat w = true) (h2 : Tn.right b = true) (h3 : Tn.right x = true) (h4 : (b.s == [at_ w.s 0]) = true) : denseOk w b x = ((x.c.length : Int) == at_ w.s 1) := by
 obtain ⟨a, c⟩ := flat_yes h1
 have : b.s = [at_ w.s 0] := by simpa using h4
 unfold denseOk
 rw [a, h2, h3, decide_eq_true c, decide_eq_true this]
 simp
 rw [Bool.eq_iff_iff]; simp
theorem dense_yes {w b x : Ten} (h : denseOk w b x = true) : Tn.right w = true ∧ w.s.length = 2 ∧ Tn.right b = true ∧ Tn.right x = true ∧ b.s = [at_ w.s 0] ∧ (x.c.length : Int) = at_ w.s 1 := by simpa [denseOk, and_assoc] using h
end Ly
theorem dense_flat (S C : Option Addr) (c d : Nat) (t : Ten) (w : World) (ht : TenIn w S C c d t) :
  Calls Tryz.prog 106 #[.agg #[.slice S t.s.length c, .slice C t.c.length d]] w fun e w' => e = .returned (.bool (Ly.flat t)) ∧ Below w.heap.size w w' := by
 have h01 : Later w (w.alloc (.cells #[.slice S t.s.length c, .slice C t.c.length d] 30)) := (Later.refl w).alloc _
 have hk := Blk.new w 30 #[.slice S t.s.length c, .slice C t.c.length d]
 have l1 := ht.l1
 have l2 := ht.l2
 have H01 := Lib.hid h01
 have Hk := Lib.hid hk
 have Ht := Lib.hid ht
 clear h01 hk ht
 go_enter Tryz.func106, Tryz.ntmps106
 go_wp2_with fail
 generalize w.alloc (.cells #[.slice S t.s.length c, .slice C t.c.length d] 30) = w1 at *
 refine (tensor_right S C c d t w1 (by omega) (by omega) (Ht.out.later H01.out).r.1).mono ?_
 rintro e w2 ⟨rfl, hb2⟩
 have h12 : Later w1 w2 := hb2
 have hk2 := h12.blk Hk.out
 have c0 := hk2.cell 0
 simp at c0
 clear hb2
 cases hr : Tn.right t
 ·have HE := Lib.hid (show Ly.flat t = false by simp [Ly.flat, hr])
  clear hr
  have H12 := Lib.hid h12
  have Hk2 := Lib.hid hk2
  clear h12 hk2
  go_wp2_with fail
  go_ret
  exact ⟨by rw [HE.out]; rfl, H01.out.trans H12.out⟩
 ·by_cases h : t.s.length = 2
  ·have HE := Lib.hid (show Ly.flat t = true by simp [Ly.flat, hr, h])
   have d1 : ((t.s.length : Int) == 2) = true := by simp; omega
   clear hr h
   have H12 := Lib.hid h12
   have Hk2 := Lib.hid hk2
   clear h12 hk2
   go_wp2_with fail
   go_ret
   exact ⟨by rw [HE.out]; rfl, H01.out.trans H12.out⟩
  ·have HE := Lib.hid (show Ly.flat t = false by simp [Ly.flat, h])
   have d1 : ((t.s.length : Int) == 2) = false := by simp; omega
   clear hr h
   have H12 := Lib.hid h12
   have Hk2 := Lib.hid hk2
   clear h12 hk2
   go_wp2_with fail
   go_ret
   exact ⟨by rw [HE.out]; rfl, H01.out.trans H12.out⟩
set_option maxHeartbeats 8000000 in
theorem dense_agree (S C S' C' S2 C2 : Option Addr) (c d c' d' c2 d2 : Nat) (t b x : Ten) (w : World) (ht : TenIn w S C c d t) (hb : TenIn w S' C' c' d' b) (hx : TenIn w S2 C2 c2 d2 x) :
  Calls Tryz.prog 50 #[.agg #[.slice S t.s.length c, .slice C t.c.length d], .agg #[.slice S' b.s.length c', .slice C' b.c.length d'], .agg #[.slice S2 x.s.length c2, .slice C2 x.c.length d2]] w fun e w' => e = .returned (.bool (Ly.denseOk t b x)) ∧ Below w.heap.size w w' := by
 obtain ⟨hk0, hk1, hk2, h02⟩ := three_boxes w 30 30 30 #[.slice S t.s.length c, .slice C t.c.length d] #[.slice S' b.s.length c', .slice C' b.c.length d'] #[.slice S2 x.s.length c2, .slice C2 x.c.length d2]
 have lt1 := ht.l1
 have lb1 := hb.l1
 have lx1 := hx.l1
 have lt2 := ht.l2
 have lb2 := hb.l2
 have lx2 := hx.l2
 have Hk0 := Lib.hid hk0
 have Hk1 := Lib.hid hk1
 have Hk2 := Lib.hid hk2
 have H02 := Lib.hid h02
 have Ht := Lib.hid ht
 have Hb := Lib.hid hb
 have Hx := Lib.hid hx
 clear hk0 hk1 hk2 h02 ht hb hx
 go_enter Tryz.func50, Tryz.ntmps50
 go_wp2_with fail
 generalize ((w.alloc (.cells #[.slice S t.s.length c, .slice C t.c.length d] 30)).alloc (.cells #[.slice S' b.s.length c', .slice C' b.c.length d'] 30)).alloc (.cells #[.slice S2 x.s.length c2, .slice C2 x.c.length d2] 30) = w2 at *
 have x0 : w2.cell? ⟨w.heap.size, 0, none⟩ = some (.slice S t.s.length c) := by rw [Hk0.out.cell]; rfl
 have x1 : w2.cell? ⟨w.heap.size, 1, none⟩ = some (.slice C t.c.length d) := by rw [Hk0.out.cell]; rfl
 have x2 : w2.cell? ⟨w.heap.size + 1, 0, none⟩ = some (.slice S' b.s.length c') := by rw [Hk1.out.cell]; rfl
 have x3 : w2.cell? ⟨w.heap.size + 1, 1, none⟩ = some (.slice C' b.c.length d') := by rw [Hk1.out.cell]; rfl
 have x4 : w2.cell? ⟨w.heap.size + 2, 0, none⟩ = some (.slice S2 x.s.length c2) := by rw [Hk2.out.cell]; rfl
 have x5 : w2.cell? ⟨w.heap.size + 2, 1, none⟩ = some (.slice C2 x.c.length d2) := by rw [Hk2.out.cell]; rfl
 have hT := (Ht.out.later H02.out)
 have hB := (Hb.out.later H02.out)
 have hX := (Hx.out.later H02.out)
 have hc1 := fun (V : World) (h : Later w2 V) => dense_flat S C c d t V (hT.later h)
 have hc2 := fun (V : World) (h : Later w2 V) => tensor_right S' C' c' d' b V (by omega) (by omega) (hB.later h).r.1
 have hc3 := fun (V : World) (h : Later w2 V) => tensor_right S2 C2 c2 d2 x V (by omega) (by omega) (hX.later h).r.1
 have Hc1 := Lib.hid hc1
 have Hc2 := Lib.hid hc2
 have Hc3 := Lib.hid hc3
 clear hc1 hc2 hc3
 cases hf : Ly.flat t
 ·have HE := Lib.hid (Ly.dense_w (b := b) (x := x) hf)
  have hc1 := Hc1.out
  rw [hf] at hc1
  have Hd1 := Lib.hid hc1
  clear hf hc1
  have KF := Lib.hid (show ∀ Xw, Later w2 Xw → Xw.cell? ⟨w.heap.size, 0, none⟩ = some (.slice S t.s.length c) ∧ Xw.cell? ⟨w.heap.size, 1, none⟩ = some (.slice C t.c.length d) ∧ Xw.cell? ⟨w.heap.size + 1, 0, none⟩ = some (.slice S' b.s.length c') ∧ Xw.cell? ⟨w.heap.size + 1, 1, none⟩ = some (.slice C' b.c.length d') ∧ Xw.cell? ⟨w.heap.size + 2, 0, none⟩ = some (.slice S2 x.s.length c2) ∧ Xw.cell? ⟨w.heap.size + 2, 1, none⟩ = some (.slice C2 x.c.length d2) from fun Xw h => ⟨h.cell x0, h.cell x1, h.cell x2, h.cell x3, h.cell x4, h.cell x5⟩)
  refine wp_region_noPanic ?_
  refine wp_region_held_drew (S := fun Xw => Xw.cell? ⟨w.heap.size, 0, none⟩ = some (.slice S t.s.length c) ∧ Xw.cell? ⟨w.heap.size, 1, none⟩ = some (.slice C t.c.length d) ∧ Xw.cell? ⟨w.heap.size + 1, 0, none⟩ = some (.slice S' b.s.length c') ∧ Xw.cell? ⟨w.heap.size + 1, 1, none⟩ = some (.slice C' b.c.length d') ∧ Xw.cell? ⟨w.heap.size + 2, 0, none⟩ = some (.slice S2 x.s.length c2) ∧ Xw.cell? ⟨w.heap.size + 2, 1, none⟩ = some (.slice C2 x.c.length d2)) (by kernel_rfl) (KF.out _ Later.au) (fun hHeld => ?_)
  refine tk 0 ?_
  refine rd 1 fun K hK => ?_
  simp only [ga, gs, gz]
  go_simp
  go_at_call 106; (with_reducible refine (Hd1.out _ (Later.au : Later w2 _)).mono ?_); rintro e wa ⟨rfl, hba⟩
  try go_wp2_with fail
  refine hK.out _ _ (KF.out _ Later.au) (fun hHeld => ?_)
  clear hK K
  try simp only [ga, gs, gz, Act.put, sa, sz, ss]
  refine tk 2 ?_
  refine tn 3 ?_
  refine tn 4 ?_
  refine tk 5 ?_
  refine tk 6 ?_
  refine tn 7 ?_
  refine tn 8 ?_
  refine tk 9 ?_
  refine tk 10 ?_
  refine tn 11 ?_
  refine tn 12 ?_
  refine tn 13 ?_
  refine tn 14 ?_
  refine tn 15 ?_
  refine tn 16 ?_
  refine tn 17 ?_
  refine tn 18 ?_
  refine tk 19 ?_
  refine tk 20 ?_
  refine tn 21 ?_
  refine tn 22 ?_
  refine tn 23 ?_
  refine tn 24 ?_
  refine tn 25 ?_
  refine tn 26 ?_
  refine tn 27 ?_
  refine tn 28 ?_
  refine tk 29 ?_
  refine tk 30 ?_
  clear KF
  refine wpAnyH_done (by kernel_rfl) ?_ _
  refine NoPanic.normal ?_
  have hle := H02.out.trans (Later.au : Later w2 wa)
  have Hle := Lib.hid hle
  clear hle
  go_wp2_with fail
  go_ret
  exact ⟨by rw [HE.out]; rfl, Hle.out⟩
 obtain ⟨hrt, hl⟩ := Ly.flat_yes hf
 have hc1 := Hc1.out
 rw [hf] at hc1
 have Hd1 := Lib.hid hc1
 clear hc1
 cases hrb : Tn.right b
 ·have HE := Lib.hid (Ly.dense_b (w := t) (x := x) hrb)
  have hc2 := Hc2.out
  rw [hrb] at hc2
  have Hd2 := Lib.hid hc2
  clear hf hc2 hrt hl hrb
  have KF := Lib.hid (show ∀ Xw, Later w2 Xw → Xw.cell? ⟨w.heap.size, 0, none⟩ = some (.slice S t.s.length c) ∧ Xw.cell? ⟨w.heap.size, 1, none⟩ = some (.slice C t.c.length d) ∧ Xw.cell? ⟨w.heap.size + 1, 0, none⟩ = some (.slice S' b.s.length c') ∧ Xw.cell? ⟨w.heap.size + 1, 1, none⟩ = some (.slice C' b.c.length d') ∧ Xw.cell? ⟨w.heap.size + 2, 0, none⟩ = some (.slice S2 x.s.length c2) ∧ Xw.cell? ⟨w.heap.size + 2, 1, none⟩ = some (.slice C2 x.c.length d2) from fun Xw h => ⟨h.cell x0, h.cell x1, h.cell x2, h.cell x3, h.cell x4, h.cell x5⟩)
  refine wp_region_noPanic ?_
  refine wp_region_held_drew (S := fun Xw => Xw.cell? ⟨w.heap.size, 0, none⟩ = some (.slice S t.s.length c) ∧ Xw.cell? ⟨w.heap.size, 1, none⟩ = some (.slice C t.c.length d) ∧ Xw.cell? ⟨w.heap.size + 1, 0, none⟩ = some (.slice S' b.s.length c') ∧ Xw.cell? ⟨w.heap.size + 1, 1, none⟩ = some (.slice C' b.c.length d') ∧ Xw.cell? ⟨w.heap.size + 2, 0, none⟩ = some (.slice S2 x.s.length c2) ∧ Xw.cell? ⟨w.heap.size + 2, 1, none⟩ = some (.slice C2 x.c.length d2)) (by kernel_rfl) (KF.out _ Later.au) (fun hHeld => ?_)
  refine tk 0 ?_
  refine rd 1 fun K hK => ?_
  simp only [ga, gs, gz]
  go_simp
  go_at_call 106; (with_reducible refine (Hd1.out _ (Later.au : Later w2 _)).mono ?_); rintro e wa ⟨rfl, hba⟩
  try go_wp2_with fail
  refine hK.out _ _ (KF.out _ Later.au) (fun hHeld => ?_)
  clear hK K
  try simp only [ga, gs, gz, Act.put, sa, sz, ss]
  refine tk 2 ?_
  refine tk 3 ?_
  refine rd 4 fun K hK => ?_
  simp only [ga, gs, gz]
  go_simp
  go_at_call 51; (with_reducible refine (Hd2.out _ (Later.au : Later w2 _)).mono ?_); rintro e wb ⟨rfl, hbb⟩
  try go_wp2_with fail
  refine hK.out _ _ (KF.out _ Later.au) (fun hHeld => ?_)
  clear hK K
  try simp only [ga, gs, gz, Act.put, sa, sz, ss]
  refine tk 5 ?_
  refine tk 6 ?_
  refine tn 7 ?_
  refine tn 8 ?_
  refine tk 9 ?_
  refine tk 10 ?_
  refine tn 11 ?_
  refine tn 12 ?_
  refine tn 13 ?_
  refine tn 14 ?_
  refine tn 15 ?_
  refine tn 16 ?_
  refine tn 17 ?_
  refine tn 18 ?_
  refine tk 19 ?_
  refine tk 20 ?_
  refine tn 21 ?_
  refine tn 22 ?_
  refine tn 23 ?_
  refine tn 24 ?_
  refine tn 25 ?_
  refine tn 26 ?_
  refine tn 27 ?_
  refine tn 28 ?_
  refine tk 29 ?_
  refine tk 30 ?_
  clear KF
  refine wpAnyH_done (by kernel_rfl) ?_ _
  refine NoPanic.normal ?_
  have hle := H02.out.trans (Later.au : Later w2 wb)
  have Hle := Lib.hid hle
  clear hle
  go_wp2_with fail
  go_ret
  exact ⟨by rw [HE.out]; rfl, Hle.out⟩
 have hc2 := Hc2.out
 rw [hrb] at hc2
 have Hd2 := Lib.hid hc2
 clear hc2
 cases hrx : Tn.right x
 ·have HE := Lib.hid (Ly.dense_x (w := t) (b := b) hrx)
  have hc3 := Hc3.out
  rw [hrx] at hc3
  have Hd3 := Lib.hid hc3
  clear hf hc3 hrt hl hrb hrx
  have KF := Lib.hid (show ∀ Xw, Later w2 Xw → Xw.cell? ⟨w.heap.size, 0, none⟩ = some (.slice S t.s.length c) ∧ Xw.cell? ⟨w.heap.size, 1, none⟩ = some (.slice C t.c.length d) ∧ Xw.cell? ⟨w.heap.size + 1, 0, none⟩ = some (.slice S' b.s.length c') ∧ Xw.cell? ⟨w.heap.size + 1, 1, none⟩ = some (.slice C' b.c.length d') ∧ Xw.cell? ⟨w.heap.size + 2, 0, none⟩ = some (.slice S2 x.s.length c2) ∧ Xw.cell? ⟨w.heap.size + 2, 1, none⟩ = some (.slice C2 x.c.length d2) from fun Xw h => ⟨h.cell x0, h.cell x1, h.cell x2, h.cell x3, h.cell x4, h.cell x5⟩)
  refine wp_region_noPanic ?_
  refine wp_region_held_drew (S := fun Xw => Xw.cell? ⟨w.heap.size, 0, none⟩ = some (.slice S t.s.length c) ∧ Xw.cell? ⟨w.heap.size, 1, none⟩ = some (.slice C t.c.length d) ∧ Xw.cell? ⟨w.heap.size + 1, 0, none⟩ = some (.slice S' b.s.length c') ∧ Xw.cell? ⟨w.heap.size + 1, 1, none⟩ = some (.slice C' b.c.length d') ∧ Xw.cell? ⟨w.heap.size + 2, 0, none⟩ = some (.slice S2 x.s.length c2) ∧ Xw.cell? ⟨w.heap.size + 2, 1, none⟩ = some (.slice C2 x.c.length d2)) (by kernel_rfl) (KF.out _ Later.au) (fun hHeld => ?_)
  refine tk 0 ?_
  refine rd 1 fun K hK => ?_
  simp only [ga, gs, gz]
  go_simp
  go_at_call 106; (with_reducible refine (Hd1.out _ (Later.au : Later w2 _)).mono ?_); rintro e wa ⟨rfl, hba⟩
  try go_wp2_with fail
  refine hK.out _ _ (KF.out _ Later.au) (fun hHeld => ?_)
  clear hK K
  try simp only [ga, gs, gz, Act.put, sa, sz, ss]
  refine tk 2 ?_
  refine tk 3 ?_
  refine rd 4 fun K hK => ?_
  simp only [ga, gs, gz]
  go_simp
  go_at_call 51; (with_reducible refine (Hd2.out _ (Later.au : Later w2 _)).mono ?_); rintro e wb ⟨rfl, hbb⟩
  try go_wp2_with fail
  refine hK.out _ _ (KF.out _ Later.au) (fun hHeld => ?_)
  clear hK K
  try simp only [ga, gs, gz, Act.put, sa, sz, ss]
  refine tk 5 ?_
  refine tk 6 ?_
  refine tk 7 ?_
  refine rd 8 fun K hK => ?_
  simp only [ga, gs, gz]
  go_simp
  go_at_call 51; (with_reducible refine (Hd3.out _ (Later.au : Later w2 _)).mono ?_); rintro e wc ⟨rfl, hbc⟩
  try go_wp2_with fail
  refine hK.out _ _ (KF.out _ Later.au) (fun hHeld => ?_)
  clear hK K
  try simp only [ga, gs, gz, Act.put, sa, sz, ss]
  refine tk 9 ?_
  refine tk 10 ?_
  refine tn 11 ?_
  refine tn 12 ?_
  refine tn 13 ?_
  refine tn 14 ?_
  refine tn 15 ?_
  refine tn 16 ?_
  refine tn 17 ?_
  refine tn 18 ?_
  refine tk 19 ?_
  refine tk 20 ?_
  refine tn 21 ?_
  refine tn 22 ?_
  refine tn 23 ?_
  refine tn 24 ?_
  refine tn 25 ?_
  refine tn 26 ?_
  refine tn 27 ?_
  refine tn 28 ?_
  refine tk 29 ?_
  refine tk 30 ?_
  clear KF
  refine wpAnyH_done (by kernel_rfl) ?_ _
  refine NoPanic.normal ?_
  have hle := H02.out.trans (Later.au : Later w2 wc)
  have Hle := Lib.hid hle
  clear hle
  go_wp2_with fail
  go_ret
  exact ⟨by rw [HE.out]; rfl, Hle.out⟩
 have hc3 := Hc3.out
 rw [hrx] at hc3
 have Hd3 := Lib.hid hc3
 clear hc3
 obtain ⟨bs, os, rfl, -, y0⟩ := hT.r.1 0 (by omega)
 obtain ⟨bs', os', e', -, y1⟩ := hT.r.1 1 (by omega)
 injection e' with e'
 injection e' with e1 e2
 subst e1 e2
 have x6 : w2.cell? ⟨bs, os, none⟩ = some (.int .i64 (Ly.at_ t.s 0)) := y0
 have x7 : w2.cell? ⟨bs, os + 1, none⟩ = some (.int .i64 (Ly.at_ t.s 1)) := y1
 have k1 : (0 : Int) < (t.s.length : Int) := by omega
 have k2 : (1 : Int) < (t.s.length : Int) := by omega
 have k3 : 0 < t.s.length := by omega
 have k4 : 1 < t.s.length := by omega
 have hc4 := fun (V : World) (g : Nat) (hk : Blk V g 3 #[.int .i64 (Ly.at_ t.s 0)]) (h : Later w2 V) => (show Calls Tryz.prog 43 #[.slice S' b.s.length c', .slice (some ⟨g, 0, none⟩) 1 1] V fun e w' => e = .returned (.bool (b.s == [Ly.at_ t.s 0])) ∧ ∃ n, w' = V.drewN n from shape_equal S' (some ⟨g, 0, none⟩) c' 1 b.s [Ly.at_ t.s 0] V (by omega) (by simp) (hB.later h).r.1 (Blk.intsL [Ly.at_ t.s 0] hk))
 clear y0 y1
 cases hs : (b.s == [Ly.at_ t.s 0])
 ·have HE := Lib.hid (Ly.dense_s (w := t) (x := x) hs)
  rw [hs] at hc4
  have Hd4 := Lib.hid hc4
  clear hf hc4 hrt hl hrb hrx hs hT hB hX
  have KF := Lib.hid (show ∀ Xw, Later w2 Xw → Xw.cell? ⟨w.heap.size, 0, none⟩ = some (.slice (some ⟨bs, os, none⟩) t.s.length c) ∧ Xw.cell? ⟨w.heap.size, 1, none⟩ = some (.slice C t.c.length d) ∧ Xw.cell? ⟨w.heap.size + 1, 0, none⟩ = some (.slice S' b.s.length c') ∧ Xw.cell? ⟨w.heap.size + 1, 1, none⟩ = some (.slice C' b.c.length d') ∧ Xw.cell? ⟨w.heap.size + 2, 0, none⟩ = some (.slice S2 x.s.length c2) ∧ Xw.cell? ⟨w.heap.size + 2, 1, none⟩ = some (.slice C2 x.c.length d2) ∧ Xw.cell? ⟨bs, os, none⟩ = some (.int .i64 (Ly.at_ t.s 0)) ∧ Xw.cell? ⟨bs, os + 1, none⟩ = some (.int .i64 (Ly.at_ t.s 1)) from fun Xw h => ⟨h.cell x0, h.cell x1, h.cell x2, h.cell x3, h.cell x4, h.cell x5, h.cell x6, h.cell x7⟩)
  refine wp_region_noPanic ?_
  refine wp_region_held_drew (S := fun Xw => Xw.cell? ⟨w.heap.size, 0, none⟩ = some (.slice (some ⟨bs, os, none⟩) t.s.length c) ∧ Xw.cell? ⟨w.heap.size, 1, none⟩ = some (.slice C t.c.length d) ∧ Xw.cell? ⟨w.heap.size + 1, 0, none⟩ = some (.slice S' b.s.length c') ∧ Xw.cell? ⟨w.heap.size + 1, 1, none⟩ = some (.slice C' b.c.length d') ∧ Xw.cell? ⟨w.heap.size + 2, 0, none⟩ = some (.slice S2 x.s.length c2) ∧ Xw.cell? ⟨w.heap.size + 2, 1, none⟩ = some (.slice C2 x.c.length d2) ∧ Xw.cell? ⟨bs, os, none⟩ = some (.int .i64 (Ly.at_ t.s 0)) ∧ Xw.cell? ⟨bs, os + 1, none⟩ = some (.int .i64 (Ly.at_ t.s 1))) (by kernel_rfl) (KF.out _ Later.au) (fun hHeld => ?_)
  refine tk 0 ?_
  refine rd 1 fun K hK => ?_
  simp only [ga, gs, gz]
  go_simp
  go_at_call 106; (with_reducible refine (Hd1.out _ (Later.au : Later w2 _)).mono ?_); rintro e wa ⟨rfl, hba⟩
  try go_wp2_with fail
  refine hK.out _ _ (KF.out _ Later.au) (fun hHeld => ?_)
  clear hK K
  try simp only [ga, gs, gz, Act.put, sa, sz, ss]
  refine tk 2 ?_
  refine tk 3 ?_
  refine rd 4 fun K hK => ?_
  simp only [ga, gs, gz]
  go_simp
  go_at_call 51; (with_reducible refine (Hd2.out _ (Later.au : Later w2 _)).mono ?_); rintro e wb ⟨rfl, hbb⟩
  try go_wp2_with fail
  refine hK.out _ _ (KF.out _ Later.au) (fun hHeld => ?_)
  clear hK K
  try simp only [ga, gs, gz, Act.put, sa, sz, ss]
  refine tk 5 ?_
  refine tk 6 ?_
  refine tk 7 ?_
  refine rd 8 fun K hK => ?_
  simp only [ga, gs, gz]
  go_simp
  go_at_call 51; (with_reducible refine (Hd3.out _ (Later.au : Later w2 _)).mono ?_); rintro e wc ⟨rfl, hbc⟩
  try go_wp2_with fail
  refine hK.out _ _ (KF.out _ Later.au) (fun hHeld => ?_)
  clear hK K
  try simp only [ga, gs, gz, Act.put, sa, sz, ss]
  refine tk 9 ?_
  refine tk 10 ?_
  refine tk 11 ?_
  refine tk 12 ?_
  refine tk 13 ?_
  refine tk 14 ?_
  refine tk 15 ?_
  refine tk 16 ?_
  refine rd 17 fun K hK => ?_
  simp only [ga, gs, gz]
  go_simp
  refine hK.out _ _ (KF.out _ Later.au) (fun hHeld => ?_)
  clear hK K
  try simp only [ga, gs, gz, Act.put, sa, sz, ss]
  refine rd 18 fun K hK => ?_
  simp only [ga, gs, gz]
  go_simp
  go_at_call 43; (with_reducible refine (Hd4.out _ _ (Blk.new wc 3 #[.int .i64 (Ly.at_ t.s 0)]) (Later.au : Later w2 _)).mono ?_); rintro e we ⟨rfl, qd, rfl⟩
  try go_wp2_with fail
  refine hK.out _ _ (KF.out _ Later.au) (fun hHeld => ?_)
  clear hK K
  try simp only [ga, gs, gz, Act.put, sa, sz, ss]
  refine tk 19 ?_
  refine tk 20 ?_
  refine tn 21 ?_
  refine tn 22 ?_
  refine tn 23 ?_
  refine tn 24 ?_
  refine tn 25 ?_
  refine tn 26 ?_
  refine tn 27 ?_
  refine tn 28 ?_
  refine tk 29 ?_
  refine tk 30 ?_
  clear KF
  refine wpAnyH_done (by kernel_rfl) ?_ _
  refine NoPanic.normal ?_
  have hle := H02.out.trans (Later.au : Later w2 ((wc.alloc (.cells #[.int .i64 (Ly.at_ t.s 0)] 3)).drewN qd))
  have Hle := Lib.hid hle
  clear hle
  go_wp2_with fail
  go_ret
  exact ⟨by rw [HE.out]; rfl, Hle.out⟩
 ·have HE := Lib.hid (Ly.dense_all hf hrb hrx hs)
  rw [hs] at hc4
  have Hd4 := Lib.hid hc4
  clear hf hc4 hrt hl hrb hrx hs hT hB hX
  generalize hq : ((x.c.length : Int) == Ly.at_ t.s 1) = q at HE
  have hq1 : ((x.c.length : Int) == Ly.at_ t.s 1) = q := hq
  clear hq
  have KF := Lib.hid (show ∀ Xw, Later w2 Xw → Xw.cell? ⟨w.heap.size, 0, none⟩ = some (.slice (some ⟨bs, os, none⟩) t.s.length c) ∧ Xw.cell? ⟨w.heap.size, 1, none⟩ = some (.slice C t.c.length d) ∧ Xw.cell? ⟨w.heap.size + 1, 0, none⟩ = some (.slice S' b.s.length c') ∧ Xw.cell? ⟨w.heap.size + 1, 1, none⟩ = some (.slice C' b.c.length d') ∧ Xw.cell? ⟨w.heap.size + 2, 0, none⟩ = some (.slice S2 x.s.length c2) ∧ Xw.cell? ⟨w.heap.size + 2, 1, none⟩ = some (.slice C2 x.c.length d2) ∧ Xw.cell? ⟨bs, os, none⟩ = some (.int .i64 (Ly.at_ t.s 0)) ∧ Xw.cell? ⟨bs, os + 1, none⟩ = some (.int .i64 (Ly.at_ t.s 1)) from fun Xw h => ⟨h.cell x0, h.cell x1, h.cell x2, h.cell x3, h.cell x4, h.cell x5, h.cell x6, h.cell x7⟩)
  refine wp_region_noPanic ?_
  refine wp_region_held_drew (S := fun Xw => Xw.cell? ⟨w.heap.size, 0, none⟩ = some (.slice (some ⟨bs, os, none⟩) t.s.length c) ∧ Xw.cell? ⟨w.heap.size, 1, none⟩ = some (.slice C t.c.length d) ∧ Xw.cell? ⟨w.heap.size + 1, 0, none⟩ = some (.slice S' b.s.length c') ∧ Xw.cell? ⟨w.heap.size + 1, 1, none⟩ = some (.slice C' b.c.length d') ∧ Xw.cell? ⟨w.heap.size + 2, 0, none⟩ = some (.slice S2 x.s.length c2) ∧ Xw.cell? ⟨w.heap.size + 2, 1, none⟩ = some (.slice C2 x.c.length d2) ∧ Xw.cell? ⟨bs, os, none⟩ = some (.int .i64 (Ly.at_ t.s 0)) ∧ Xw.cell? ⟨bs, os + 1, none⟩ = some (.int .i64 (Ly.at_ t.s 1))) (by kernel_rfl) (KF.out _ Later.au) (fun hHeld => ?_)
  refine tk 0 ?_
  refine rd 1 fun K hK => ?_
  simp only [ga, gs, gz]
  go_simp
  go_at_call 106; (with_reducible refine (Hd1.out _ (Later.au : Later w2 _)).mono ?_); rintro e wa ⟨rfl, hba⟩
  try go_wp2_with fail
  refine hK.out _ _ (KF.out _ Later.au) (fun hHeld => ?_)
  clear hK K
  try simp only [ga, gs, gz, Act.put, sa, sz, ss]
  refine tk 2 ?_
  refine tk 3 ?_
  refine rd 4 fun K hK => ?_
  simp only [ga, gs, gz]
  go_simp
  go_at_call 51; (with_reducible refine (Hd2.out _ (Later.au : Later w2 _)).mono ?_); rintro e wb ⟨rfl, hbb⟩
  try go_wp2_with fail
  refine hK.out _ _ (KF.out _ Later.au) (fun hHeld => ?_)
  clear hK K
  try simp only [ga, gs, gz, Act.put, sa, sz, ss]
  refine tk 5 ?_
  refine tk 6 ?_
  refine tk 7 ?_
  refine rd 8 fun K hK => ?_
  simp only [ga, gs, gz]
  go_simp
  go_at_call 51; (with_reducible refine (Hd3.out _ (Later.au : Later w2 _)).mono ?_); rintro e wc ⟨rfl, hbc⟩
  try go_wp2_with fail
  refine hK.out _ _ (KF.out _ Later.au) (fun hHeld => ?_)
  clear hK K
  try simp only [ga, gs, gz, Act.put, sa, sz, ss]
  refine tk 9 ?_
  refine tk 10 ?_
  refine tk 11 ?_
  refine tk 12 ?_
  refine tk 13 ?_
  refine tk 14 ?_
  refine tk 15 ?_
  refine tk 16 ?_
  refine rd 17 fun K hK => ?_
  simp only [ga, gs, gz]
  go_simp
  refine hK.out _ _ (KF.out _ Later.au) (fun hHeld => ?_)
  clear hK K
  try simp only [ga, gs, gz, Act.put, sa, sz, ss]
  refine rd 18 fun K hK => ?_
  simp only [ga, gs, gz]
  go_simp
  go_at_call 43; (with_reducible refine (Hd4.out _ _ (Blk.new wc 3 #[.int .i64 (Ly.at_ t.s 0)]) (Later.au : Later w2 _)).mono ?_); rintro e we ⟨rfl, qd, rfl⟩
  try go_wp2_with fail
  refine hK.out _ _ (KF.out _ Later.au) (fun hHeld => ?_)
  clear hK K
  try simp only [ga, gs, gz, Act.put, sa, sz, ss]
  refine tk 19 ?_
  refine tk 20 ?_
  refine tk 21 ?_
  refine tk 22 ?_
  refine tk 23 ?_
  refine tk 24 ?_
  refine tk 25 ?_
  refine tk 26 ?_
  refine tk 27 ?_
  refine tk 28 ?_
  refine tk 29 ?_
  refine tk 30 ?_
  clear KF
  refine wpAnyH_done (by kernel_rfl) ?_ _
  refine NoPanic.normal ?_
  have hle := H02.out.trans (Later.au : Later w2 ((wc.alloc (.cells #[.int .i64 (Ly.at_ t.s 0)] 3)).drewN qd))
  have Hle := Lib.hid hle
  clear hle
  go_wp2_with fail
  go_ret
  exact ⟨by rw [HE.out]; rfl, Hle.out⟩
end Go.Proofs.YtbnnpkcfifejmaaGreat
namespace Go.Proofs.YtbnnpkcfifejmaaGreat
open Go.RowKit
theorem mat_facts {t : Ten} (h : Tn.right t = true) (h2 : t.s.length = 2) : ∃ m n : Nat, Ly.at_ t.s 0 = (m : Int) ∧ Ly.at_ t.s 1 = (n : Int) ∧ 1 ≤ m ∧ 1 ≤ n ∧ m ≤ 1024 ∧ n ≤ 1024 ∧ t.c.length = m * n ∧ m * n ≤ 65536 := by
 obtain ⟨s, c⟩ := t
 simp only at h2
 match s, h2 with
 | [a, b], _ =>
  simp only [Tn.right, Bool.and_eq_true, decide_eq_true_eq] at h
  obtain ⟨_, _, _, hall, _, hp⟩ := Sh.right_mul h.1
  have ha := hall a (by simp)
  have hb := hall b (by simp)
  simp only [Safe.prod, Int.mul_one] at hp h
  have e : (a.toNat * b.toNat : Nat) = a * b := by rw [Int.natCast_mul]; rw [Int.toNat_of_nonneg (by omega), Int.toNat_of_nonneg (by omega)]
  refine ⟨a.toNat, b.toNat, by show a = _; omega, by show b = _; omega, by omega, by omega, by omega, by omega, ?_, ?_⟩
  ·show c.length = _; omega
  ·omega
set_option maxHeartbeats 1000000 in
theorem dense_line (S : Option Addr) (b off : Nat) (c d : Nat) (t : Ten) (m n i : Nat) (w : World) (ht : TenIn w S (some ⟨b, off, none⟩) c d t) (h2 : 2 ≤ t.s.length) (hn : Ly.at_ t.s 1 = (n : Int)) (hc : t.c.length = m * n) (hi : i < m) (hn1 : 1 ≤ n) (hm : m * n ≤ 65536) :
  Calls Tryz.prog 53 #[.agg #[.slice S t.s.length c, .slice (some ⟨b, off, none⟩) t.c.length d], .int .i64 i] w fun e w' => e = .returned (.slice (some ⟨b, off + i * n, none⟩) n n) ∧ Below w.heap.size w w' := by
 have h01 : Later w (w.alloc (.cells #[.slice S t.s.length c, .slice (some ⟨b, off, none⟩) t.c.length d] 30)) := (Later.refl w).alloc _
 have hk := Blk.new w 30 #[.slice S t.s.length c, .slice (some ⟨b, off, none⟩) t.c.length d]
 have hT := ht.later h01
 have hcd := ht.c1
 have hdd := ht.c2
 have hin : (i + 1) * n ≤ m * n := Nat.mul_le_mul_right _ hi
 rw [Nat.succ_mul] at hin
 obtain ⟨p, hp⟩ : ∃ p, p = i * n := ⟨_, rfl⟩
 rw [← hp] at hin ⊢
 have e1 : (i : Int) * (n : Int) = (p : Int) := by rw [hp]; simp
 have e2 : ((i : Int) + 1) * (n : Int) = (p : Int) + (n : Int) := by rw [hp, Int.add_mul]; simp
 have b1 : p + n ≤ t.c.length := by omega
 have k2 : (1 : Int) < (t.s.length : Int) := by omega
 have k4 : 1 < t.s.length := by omega
 have q1 : (0 : Int) ≤ (p : Int) := by omega
 have q2 : (p : Int) ≤ 65536 := by omega
 have q3 : (p : Int) + (n : Int) ≤ (d : Int) := by omega
 have q4 : (p : Int) + (n : Int) ≤ 65536 := by omega
 have q5 : (n : Int) ≤ 65536 := by omega
 have q6 : (i : Int) ≤ 65536 := by
  have : i * 1 ≤ i * n := Nat.mul_le_mul_left _ hn1
  omega
 have HT := Lib.hid hT
 have HN := Lib.hid hn
 clear ht hn hc hp hin hT
 have H01 := Lib.hid h01
 have Hk := Lib.hid hk
 clear h01 hk
 go_enter Tryz.func53, Tryz.ntmps53
 go_upto_region 1 with fail
 generalize w.alloc (.cells #[.slice S t.s.length c, .slice (some ⟨b, off, none⟩) t.c.length d] 30) = w1 at *
 have c0 : w1.cell? ⟨w.heap.size, 0, none⟩ = some (.slice S t.s.length c) := by rw [Hk.out.cell]; rfl
 have c1 : w1.cell? ⟨w.heap.size, 1, none⟩ = some (.slice (some ⟨b, off, none⟩) t.c.length d) := by rw [Hk.out.cell]; rfl
 obtain ⟨bs, os, rfl, -, y0⟩ := HT.out.r.1 1 (by omega)
 have y1 : w1.cell? ⟨bs, os + 1, none⟩ = some (.int .i64 n) := by rw [y0]; exact congrArg (fun z => some (Value.int .i64 z)) HN.out
 clear y0
 go_upto_region 2 with fail
 go_wp2_with fail
 rw [Nat.add_sub_cancel_left]
 go_ret
 exact ⟨rfl, H01.out⟩
namespace Ly
theorem dense_err {w b x : Ten} (h : denseOk w b x = false) : dense w b x = (none_, 20) := by simp [dense, h]
theorem dense_ok {w b x : Ten} (h : denseOk w b x = true) : dense w b x = (⟨b.s, tab b.c.length fun i => Fx.add (Fx.dot (rowOf w.c x.c.length i) x.c) (at_ b.c i)⟩, 0) := by simp [dense, h]
theorem row_len {w : List Int} {m n i : Nat} (h : w.length = m * n) (hi : i < m) : (rowOf w n i).length = n := by
 have : (i + 1) * n ≤ m * n := Nat.mul_le_mul_right _ hi
 rw [Nat.succ_mul] at this
 unfold rowOf
 rw [List.length_take, List.length_drop]
 omega
theorem row_in {w : List Int} {n i : Nat} (h : ∀ z ∈ w, Fx.In z) : ∀ z ∈ rowOf w n i, Fx.In z := fun z hz => h z (List.mem_of_mem_drop (List.mem_of_mem_take hz))
theorem row_at {w : List Int} {n i j : Nat} (hj : j < n) : (rowOf w n i).getD j 0 = w.getD (i * n + j) 0 := by
 unfold rowOf
 simp only [List.getD_eq_getElem?_getD]
 rw [List.getElem?_take, if_pos hj, List.getElem?_drop]
end Ly
theorem TenIn.row {w : World} {S : Option Addr} {b off c d : Nat} {t : Ten} (h : TenIn w S (some ⟨b, off, none⟩) c d t) {m n i : Nat} (hc : t.c.length = m * n) (hi : i < m) : Ints .i64 w (some ⟨b, off + i * n, none⟩) (Ly.rowOf t.c n i) := Ints.of_row fun j hj => by
 rw [Ly.row_len hc hi] at hj
 have h1 : (i + 1) * n ≤ m * n := Nat.mul_le_mul_right _ hi
 rw [Nat.succ_mul] at h1
 obtain ⟨b', off', e, -, hcell⟩ := h.r.2 (i * n + j) (by omega)
 injection e with e; injection e with e1 e2; subst e1 e2
 rw [Nat.add_assoc, hcell, Ly.row_at hj]
theorem one_side {b : Ten} {m : Int} (h : Tn.right b = true) (hs : b.s = [m]) : (b.c.length : Int) = m := by
 simp only [Tn.right, Bool.and_eq_true, decide_eq_true_eq] at h
 rw [h.2, hs]; simp [Safe.prod]
theorem four_boxes (w : World) (t t' t2 t3 : TypeId) (a b z y : Array Value) : Blk ((((w.alloc (.cells a t)).alloc (.cells b t')).alloc (.cells z t2)).alloc (.cells y t3)) w.heap.size t a ∧ Blk ((((w.alloc (.cells a t)).alloc (.cells b t')).alloc (.cells z t2)).alloc (.cells y t3)) (w.heap.size + 1) t' b ∧ Blk ((((w.alloc (.cells a t)).alloc (.cells b t')).alloc (.cells z t2)).alloc (.cells y t3)) (w.heap.size + 2) t2 z ∧ Blk ((((w.alloc (.cells a t)).alloc (.cells b t')).alloc (.cells z t2)).alloc (.cells y t3)) (w.heap.size + 3) t3 y ∧ Later w ((((w.alloc (.cells a t)).alloc (.cells b t')).alloc (.cells z t2)).alloc (.cells y t3)) := by
 obtain ⟨h1, h2, h3, h4⟩ := three_boxes w t t' t2 a b z
 refine ⟨h1.alloc _, h2.alloc _, h3.alloc _, ?_, h4.alloc _⟩
 have := Blk.new (((w.alloc (.cells a t)).alloc (.cells b t')).alloc (.cells z t2)) t3 y
 rwa [World.size_alloc, World.size_alloc, World.size_alloc] at this
set_option maxHeartbeats 8000000 in
theorem dense_go (S C S' C' S2 C2 : Option Addr) (c d c' d' c2 d2 : Nat) (t b x : Ten) (w : World) (ht : TenIn w S C c d t) (hb : TenIn w S' C' c' d' b) (hx : TenIn w S2 C2 c2 d2 x) :
  Calls Tryz.prog 94 #[.agg #[.slice S t.s.length c, .slice C t.c.length d], .agg #[.slice S' b.s.length c', .slice C' b.c.length d'], .agg #[.slice S2 x.s.length c2, .slice C2 x.c.length d2]] w (GoP (Ly.dense t b x) w) := by
 obtain ⟨hk0, hk1, hk2, hz, h01⟩ := four_boxes w 30 30 30 30 #[.slice S t.s.length c, .slice C t.c.length d] #[.slice S' b.s.length c', .slice C' b.c.length d'] #[.slice S2 x.s.length c2, .slice C2 x.c.length d2] #[.slice none 0 0, .slice none 0 0]
 have Hk0 := Lib.hid hk0
 have Hk1 := Lib.hid hk1
 have Hk2 := Lib.hid hk2
 have Hz := Lib.hid hz
 have H01 := Lib.hid h01
 have Ht := Lib.hid ht
 have Hb := Lib.hid hb
 have Hx := Lib.hid hx
 clear hk0 hk1 hk2 hz h01 ht hb hx
 go_enter Tryz.func94, Tryz.ntmps94
 go_wp2_with fail
 generalize (((w.alloc (.cells #[.slice S t.s.length c, .slice C t.c.length d] 30)).alloc (.cells #[.slice S' b.s.length c', .slice C' b.c.length d'] 30)).alloc (.cells #[.slice S2 x.s.length c2, .slice C2 x.c.length d2] 30)).alloc (.cells #[.slice none 0 0, .slice none 0 0] 30) = w1 at *
 refine (dense_agree S C S' C' S2 C2 c d c' d' c2 d2 t b x w1 (Ht.out.later H01.out) (Hb.out.later H01.out) (Hx.out.later H01.out)).mono ?_
 rintro e w2 ⟨rfl, hb2⟩
 have h12 : Later w1 w2 := hb2
 have h02 := H01.out.trans h12
 have hz2 := h12.blk Hz.out
 have hka := h12.blk Hk0.out
 have hkb := h12.blk Hk1.out
 have hkc := h12.blk Hk2.out
 clear hb2 Hz H01 Hk0 Hk1 Hk2 h12
 cases hg : Ly.denseOk t b x
 ·have HE := Lib.hid (Ly.dense_err hg)
  clear hg
  have c0 := hz2.cell 0
  have c1 := hz2.cell 1
  have f0 := hz2.frozen 0
  have f1 := hz2.frozen 1
  simp at c0 c1
  have H02 := Lib.hid h02
  have Hz2 := Lib.hid hz2
  have Hka := Lib.hid hka
  have Hkb := Lib.hid hkb
  have Hkc := Lib.hid hkc
  clear h02 hz2 hka hkb hkc
  go_wp2_with fail
  refine bodyPost_ret (v := .tuple #[.agg #[.slice none 0 0, .slice none 0 0], .int .i64 20]) (by simp [results, Tryz.results94, go_sem, c0, c1]) rfl ?_
  exact GoP.fail HE.out (by decide) ((H02.out.set (p := ⟨w.heap.size + 3, 0, none⟩) (by simp) _).set (p := ⟨w.heap.size + 3, 1, none⟩) (by simp) _)
 obtain ⟨hrt, hl2, hrb, hrx, hbs, hxn⟩ := Ly.dense_yes hg
 obtain ⟨m, n, hm0, hn0, hm1, hn1, hm2, hn2, htc, hmn⟩ := mat_facts hrt hl2
 have HE := Lib.hid (Ly.dense_ok hg)
 have hbl : b.c.length = m := by have := one_side hrb hbs; omega
 have hxl : x.c.length = n := by omega
 obtain ⟨r1, r2⟩ := Ly.right_ok hrb
 rw [hxl] at HE
 generalize hR : (Ly.tab b.c.length fun i => Fx.add (Fx.dot (Ly.rowOf t.c n i) x.c) (Ly.at_ b.c i)) = R at *
 have hRl : R.length = b.c.length := by rw [← hR, Ly.tab_len]
 have hRg : ∀ i (hi : i < R.length), R[i] = Fx.add (Fx.dot (Ly.rowOf t.c n i) x.c) (Ly.at_ b.c i) := fun i hi => by subst hR; exact Ly.tab_get hi
 have hRin : ∀ z ∈ R, Fx.In z := by rw [← hR]; exact Ly.tab_in fun i _ => Fx.add_in _ _
 have x2 := hkb.cell 0
 have x3 := hkb.cell 1
 simp at x2 x3
 have HRl := Lib.hid hRl
 have Hbl := Lib.hid hbl
 have Hxl := Lib.hid hxl
 have Htc := Lib.hid htc
 have Hn0 := Lib.hid hn0
 have Hl2 := Lib.hid hl2
 clear hR hg hrt hrb hrx hbs hxn hm0 hn0 hbl hxl htc hl2 hRl
 have H02 := Lib.hid h02
 have Hz2 := Lib.hid hz2
 have Hka := Lib.hid hka
 have Hkb := Lib.hid hkb
 have Hkc := Lib.hid hkc
 have HRg := Lib.hid hRg
 have HRin := Lib.hid hRin
 clear h02 hz2 hka hkb hkc hRg hRin
 go_wp2_with fail
 have X3 := Lib.hid x3
 clear x2 x3
 refine (tensor_copy S' C' c' d' b w2 (by omega) (by omega) (Hb.out.later H02.out).r).mono ?_
 rintro e w3 ⟨v, rfl, ⟨g, h, rfl, hg, hh, hG, hH⟩, hb3⟩
 have h23 : Later w2 w3 := hb3
 have h3a : Later w3 (w3.alloc (.cells #[.slice (some ⟨g, 0, none⟩) b.s.length b.s.length, .slice (some ⟨h, 0, none⟩) b.c.length b.c.length] 30)) := (Later.refl w3).alloc _
 have ho := Blk.new w3 30 #[.slice (some ⟨g, 0, none⟩) b.s.length b.s.length, .slice (some ⟨h, 0, none⟩) b.c.length b.c.length]
 have h24 := h23.trans h3a
 have h04 := H02.out.trans h24
 have hz4 := h24.blk Hz2.out
 have hka4 := h24.blk Hka.out
 have hkc4 := h24.blk Hkc.out
 have hG4 := h3a.blk hG
 have hH4 := h3a.blk hH
 have hs2 := H02.out.size
 have hs3 := h23.size
 have hhl := hH.lt
 have hgl := hG.lt
 have hzl := Hz2.out.lt
 have hgne := rows_apart hG hH
 have x3 := h24.cell X3.out
 clear hb3 Hz2 Hka Hkb Hkc hG hH X3
 have X3 := Lib.hid x3
 clear x3
 have H23 := Lib.hid h23
 have H3a := Lib.hid h3a
 have Ho := Lib.hid ho
 have H24 := Lib.hid h24
 have H04 := Lib.hid h04
 have Hz4 := Lib.hid hz4
 have Hka4 := Lib.hid hka4
 have Hkc4 := Lib.hid hkc4
 have HG4 := Lib.hid hG4
 have HH4 := Lib.hid hH4
 clear h23 h3a ho h24 h04 hz4 hka4 hkc4 hG4 hH4
 go_upto_region 4 with fail
 generalize w3.alloc (.cells #[.slice (some ⟨g, 0, none⟩) b.s.length b.s.length, .slice (some ⟨h, 0, none⟩) b.c.length b.c.length] 30) = w4 at *
 generalize hpe : w3.heap.size = p at *
 have hph : h < p := by omega
 have hpz : w.heap.size + 3 < p := by omega
 have hhz : w.heap.size + 3 < h := by omega
 have x3 := X3.out
 clear X3 H3a H23 hpe
 go_wp2_with fail
 clear x3
 have hI0 : Blk w4 h 22 ((R.take 0 ++ b.c.drop 0).map (Value.int .i64)).toArray := by simpa using HH4.out
 have HI0 := Lib.hid hI0
 clear hI0
 go_loopw [22] (fun i wx => ∃ k : Nat, k ≤ b.c.length ∧ i = .int .i64 (k : Int) ∧ Blk wx h 22 ((R.take k ++ b.c.drop k).map (Value.int .i64)).toArray ∧ Blk wx p 30 #[.slice (some ⟨g, 0, none⟩) b.s.length b.s.length, .slice (some ⟨h, 0, none⟩) b.c.length b.c.length] ∧ Blk wx (w.heap.size + 3) 30 #[.slice none 0 0, .slice none 0 0] ∧ Blk wx w.heap.size 30 #[.slice S t.s.length c, .slice C t.c.length d] ∧ Blk wx (w.heap.size + 2) 30 #[.slice S2 x.s.length c2, .slice C2 x.c.length d2] ∧ Blk wx g 3 (b.s.map (Value.int .i64)).toArray ∧ Later w wx) (fun i _ => b.c.length - (intOf i).toNat)
 case atStart => exact ⟨0, Nat.zero_le _, rfl, HI0.out, Ho.out, Hz4.out, Hka4.out, Hkc4.out, HG4.out, H04.out⟩
 case round =>
  obtain ⟨k, hk, rfl, hm, hox, hzx, hkx, hxx, hgx, hlw⟩ := hrel
  clear HI0
  by_cases hlt : k < b.c.length
  ·have hkm : k < m := by have := Hbl.out; omega
   have hltR : k < R.length := by have := HRl.out; omega
   obtain ⟨b2, off2, rfl, -, hc2⟩ := (Hb.out.later hlw).cell hlt
   obtain ⟨bt, ot, rfl, -, -⟩ := Ht.out.cell (k := 0) (by have := Htc.out; have : 1 * 1 ≤ m * n := Nat.mul_le_mul hm1 hn1; omega)
   have hst := Ly.mid_step R b.c hltR HRl.out
   have hlen := Ly.mid_len R b.c k (by omega) HRl.out
   have hRk := HRg.out k hltR
   have hbin := Ly.at_in Hb.out.num k
   have hrl := Ly.row_len Htc.out hkm
   have hri := Ly.row_in (n := n) (i := k) Ht.out.num
   have hc1 := fun (V : World) (hV : Later wr V) => dense_line S bt ot c d t m n k V (Ht.out.later (hlw.trans hV)) (by have := Hl2.out; omega) Hn0.out Htc.out hkm hn1 hmn
   have hcd := fun (V : World) (hV : Later wr V) => (show Calls Tryz.prog 142 #[.slice (some ⟨bt, ot + k * n, none⟩) n n, .slice C2 x.c.length d2] V fun e w' => e = .returned (.int .i64 (Fx.dot (Ly.rowOf t.c n k) x.c)) ∧ ∃ q, w' = V.drewN q from by
    have hd := fix_dot (some ⟨bt, ot + k * n, none⟩) C2 n d2 (Ly.rowOf t.c n k) x.c V (by omega) (by have := Hxl.out; omega) ((Ht.out.later (hlw.trans hV)).row Htc.out hkm) (Hx.out.later (hlw.trans hV)).r.2 hri Hx.out.num
    rw [hrl] at hd
    rw [show x.c.length = n from Hxl.out]
    exact hd)
   have hc3 := fun (V : World) => fix_add (Fx.dot (Ly.rowOf t.c n k) x.c) (Ly.at_ b.c k) V (Fx.dot_in _ _) hbin
   rw [hRk] at hst
   generalize Fx.dot (Ly.rowOf t.c n k) x.c = dk at *
   generalize Ly.at_ b.c k = bk at *
   have o1 : wr.cell? ⟨p, 1, none⟩ = some (.slice (some ⟨h, 0, none⟩) b.c.length b.c.length) := by rw [hox.cell]; rfl
   have t0 : wr.cell? ⟨w.heap.size, 0, none⟩ = some (.slice S t.s.length c) := by rw [hkx.cell]; rfl
   have t1 : wr.cell? ⟨w.heap.size, 1, none⟩ = some (.slice (some ⟨bt, ot, none⟩) t.c.length d) := by rw [hkx.cell]; rfl
   have xx1 : wr.cell? ⟨w.heap.size + 2, 1, none⟩ = some (.slice C2 x.c.length d2) := by rw [hxx.cell]; rfl
   obtain ⟨u, hu⟩ : ∃ u, wr.cell? ⟨h, k, none⟩ = some u := ⟨_, hm.row_get (by rw [hlen]; exact hltR)⟩
   have kk1 : (k : Int) < (b.c.length : Int) := by omega
   have kk2 : (0 : Int) ≤ (k : Int) := by omega
   clear hlen hRk hbin hltR hrl hri
   have Hm := Lib.hid hm
   have Hox := Lib.hid hox
   have Hzx := Lib.hid hzx
   have Hkx := Lib.hid hkx
   have Hxx := Lib.hid hxx
   have Hgx := Lib.hid hgx
   have Hst := Lib.hid hst
   have Hc1 := Lib.hid hc1
   have Hcd := Lib.hid hcd
   have Hc3 := Lib.hid hc3
   have Hlw := Lib.hid hlw
   clear hm hox hzx hkx hxx hgx hst hc1 hcd hc3 hlw
   go_wp2_with fail
   have KF := Lib.hid (show ∀ Xw, Later wr Xw → Xw.cell? ⟨p, 1, none⟩ = some (.slice (some ⟨h, 0, none⟩) b.c.length b.c.length) ∧ Xw.cell? ⟨w.heap.size, 0, none⟩ = some (.slice S t.s.length c) ∧ Xw.cell? ⟨w.heap.size, 1, none⟩ = some (.slice (some ⟨bt, ot, none⟩) t.c.length d) ∧ Xw.cell? ⟨w.heap.size + 2, 1, none⟩ = some (.slice C2 x.c.length d2) from fun Xw h => ⟨h.cell o1, h.cell t0, h.cell t1, h.cell xx1⟩)
   refine wp_region_noPanic ?_
   refine wp_region_held_drew (S := fun Xw => Xw.cell? ⟨p, 1, none⟩ = some (.slice (some ⟨h, 0, none⟩) b.c.length b.c.length) ∧ Xw.cell? ⟨w.heap.size, 0, none⟩ = some (.slice S t.s.length c) ∧ Xw.cell? ⟨w.heap.size, 1, none⟩ = some (.slice (some ⟨bt, ot, none⟩) t.c.length d) ∧ Xw.cell? ⟨w.heap.size + 2, 1, none⟩ = some (.slice C2 x.c.length d2)) (by kernel_rfl) (KF.out _ Later.au) (fun hHeld => ?_)
   refine tk 0 ?_
   refine tk 1 ?_
   refine tk 2 ?_
   refine tk 3 ?_
   refine tk 4 ?_
   refine tk 6 ?_
   refine tk 7 ?_
   refine tk 9 ?_
   refine rd 5 fun K hK => ?_
   simp only [ga, gs, gz]
   go_simp
   go_at_call 53; (with_reducible refine (Hc1.out _ (Later.au : Later wr _)).mono ?_); rintro e wa ⟨rfl, hba⟩
   try go_wp2_with fail
   refine hK.out _ _ (KF.out _ Later.au) (fun hHeld => ?_)
   clear hK K
   try simp only [ga, gs, gz, Act.put, sa, sz, ss]
   refine rd 8 fun K hK => ?_
   simp only [ga, gs, gz]
   go_simp
   go_at_call 142; (with_reducible refine (Hcd.out _ (Later.au : Later wr _)).mono ?_); rintro e wb ⟨rfl, qd, rfl⟩
   try go_wp2_with fail
   refine hK.out _ _ (KF.out _ Later.au) (fun hHeld => ?_)
   clear hK K
   try simp only [ga, gs, gz, Act.put, sa, sz, ss]
   refine rd 10 fun K hK => ?_
   simp only [ga, gs, gz]
   go_simp
   go_at_call 55; (with_reducible refine (Hc3.out _).mono ?_); rintro e wc ⟨rfl, rfl⟩; have hu2 := Later.cell (Later.au : Later wr (wa.drewN qd)) hu; have fu2 := (Later.blk (Later.au : Later wr (wa.drewN qd)) Hm.out).frozen k
   try go_wp2_with fail
   refine hK.out _ _ (KF.out _ Later.au) (fun hHeld => ?_)
   clear hK K
   try simp only [ga, gs, gz, Act.put, sa, sz, ss]
   refine tk 11 ?_
   refine rd 12 fun K hK => ?_
   simp only [ga, gs, gz]
   go_simp
   refine hK.out _ _ ?_ (fun hHeld => ?_)
   ·(try dsimp only); (refine ⟨?_, ?_, ?_, ?_⟩ <;> (repeat (refine cell_setfar ?_ (by first | omega | (simp; done) | (simp; omega)))) <;> (refine Later.cell (Later.au : Later wr _) ?_) <;> assumption)
   clear hK K
   try simp only [ga, gs, gz, Act.put, sa, sz, ss]
   clear KF
   refine wpAnyH_done (by kernel_rfl) ?_ _
   refine NoPanic.normal ?_
   have hlx : Later wr (wa.drewN qd) := (Later.au : Later wr (wa.drewN qd))
   have hm2 : Blk ((wa.drewN qd).setCell ⟨h, k, none⟩ (.int .i64 (Fx.add dk bk))) h 22 ((R.take (k + 1) ++ b.c.drop (k + 1)).map (Value.int .i64)).toArray := by
    have := (hlx.blk Hm.out).set_ k (.int .i64 (Fx.add dk bk))
    rw [← Hst.out, List.map_set]
    simpa using this
   have hox2 := (hlx.blk Hox.out).far (p := ⟨h, k, none⟩) (by simp; omega) (.int .i64 (Fx.add dk bk))
   have hzx2 := (hlx.blk Hzx.out).far (p := ⟨h, k, none⟩) (by simp; omega) (.int .i64 (Fx.add dk bk))
   have hkx2 := (hlx.blk Hkx.out).far (p := ⟨h, k, none⟩) (by simp; omega) (.int .i64 (Fx.add dk bk))
   have hxx2 := (hlx.blk Hxx.out).far (p := ⟨h, k, none⟩) (by simp; omega) (.int .i64 (Fx.add dk bk))
   have hgx2 : Blk ((wa.drewN qd).setCell ⟨h, k, none⟩ (.int .i64 (Fx.add dk bk))) g 3 (b.s.map (Value.int .i64)).toArray := (hlx.blk Hgx.out).far (p := ⟨h, k, none⟩) hgne (.int .i64 (Fx.add dk bk))
   have hlw2 := (Hlw.out.trans hlx).set (p := ⟨h, k, none⟩) (by simp; omega) (.int .i64 (Fx.add dk bk))
   have Hm2 := Lib.hid hm2
   have Hox2 := Lib.hid hox2
   have Hzx2 := Lib.hid hzx2
   have Hkx2 := Lib.hid hkx2
   have Hxx2 := Lib.hid hxx2
   have Hgx2 := Lib.hid hgx2
   have Hlw2 := Lib.hid hlw2
   clear hm2 hox2 hzx2 hkx2 hxx2 hgx2 hlw2
   go_wp2_with fail
   go_roundw
   case rel => exact ⟨k + 1, by omega, by go_num, Hm2.out, Hox2.out, Hzx2.out, Hkx2.out, Hxx2.out, Hgx2.out, Hlw2.out⟩
   case measure => simp [intOf]; omega
  ·obtain rfl : k = b.c.length := by omega
   rw [Ly.mid_end R b.c _ HRl.out.symm HRl.out] at hm
   have o0 : wr.cell? ⟨p, 0, none⟩ = some (.slice (some ⟨g, 0, none⟩) b.s.length b.s.length) := by rw [hox.cell]; rfl
   have o1 : wr.cell? ⟨p, 1, none⟩ = some (.slice (some ⟨h, 0, none⟩) b.c.length b.c.length) := by rw [hox.cell]; rfl
   have c0 := hzx.cell 0
   have c1 := hzx.cell 1
   have f0 := hzx.frozen 0
   have f1 := hzx.frozen 1
   simp at c0 c1
   have hz3 := (hzx.set_ 0 (.slice (some ⟨g, 0, none⟩) b.s.length b.s.length)).set_ 1 (.slice (some ⟨h, 0, none⟩) b.c.length b.c.length)
   have d0 := hz3.cell 0
   have d1 := hz3.cell 1
   simp at d0 d1
   have hgz : g ≠ w.heap.size + 3 := by omega
   have hhz : h ≠ w.heap.size + 3 := by omega
   have Hm := Lib.hid hm
   have Hox := Lib.hid hox
   have Hzx := Lib.hid hzx
   have Hkx := Lib.hid hkx
   have Hxx := Lib.hid hxx
   have Hgx := Lib.hid hgx
   have Hlw := Lib.hid hlw
   have Hz3 := Lib.hid hz3
   clear hm hox hzx hkx hxx hgx hlw hz3
   go_wp2_with fail
   refine bodyPost_ret (v := .tuple #[.agg #[.slice (some ⟨g, 0, none⟩) b.s.length b.s.length, .slice (some ⟨h, 0, none⟩) b.c.length b.c.length], .int .i64 0]) (by simp [results, Tryz.results94, go_sem, d0, d1]) rfl ?_
   refine GoP.ok HE.out (TenN.o ⟨g, h, by simp [HRl.out], by omega, by omega, (Hgx.out.far (p := ⟨w.heap.size + 3, 0, none⟩) hgz _).far (p := ⟨w.heap.size + 3, 1, none⟩) hgz _, (Hm.out.far (p := ⟨w.heap.size + 3, 0, none⟩) hhz _).far (p := ⟨w.heap.size + 3, 1, none⟩) hhz _⟩ (by show b.s.length ≤ _; omega) (by have := HRl.out; show R.length ≤ _; omega) HRin.out) ((Hlw.out.set (p := ⟨w.heap.size + 3, 0, none⟩) (by simp) _).set (p := ⟨w.heap.size + 3, 1, none⟩) (by simp) _)
end Go.Proofs.YtbnnpkcfifejmaaGreat
namespace Go.Proofs.YtbnnpkcfifejmaaGreat
open Go.RowKit
def ShPost (r : List Int × Int) (w : World) (e : Ending) (w' : World) : Prop :=
 ∃ S c, e = .returned (.tuple #[.slice S r.1.length c, .int .i64 r.2]) ∧ Ints .i64 w' S r.1 ∧ r.1.length ≤ c ∧ c ≤ 9223372036854775807 ∧ (∀ a, S = some a → w.heap.size ≤ a.block) ∧ Below w.heap.size w w'
theorem ShPost.fail {r : List Int × Int} {w w' : World} {n : Int} (hr : r = ([], n)) (hb : Below w.heap.size w w') : ShPost r w (.returned (.tuple #[.slice none 0 0, .int .i64 n])) w' := by
 subst hr
 exact ⟨_, _, rfl, Ints.nil, by simp, by omega, (fun a h => by cases h), hb⟩
theorem ShPost.fresh {r : List Int × Int} {w w' : World} {g c n : Nat} {l : List Int} {t : TypeId} (hr : r = (l, 0)) (hn : n = l.length) (hg : w.heap.size ≤ g) (hk : Blk w' g t (l.map (Value.int .i64)).toArray) (hc : l.length ≤ c) (hm : c ≤ 9223372036854775807) (hb : Below w.heap.size w w') :
  ShPost r w (.returned (.tuple #[.slice (some ⟨g, 0, none⟩) n c, .int .i64 0])) w' := by
 subst hr hn
 refine ⟨_, _, rfl, Ints.of_row fun j hj => ?_, hc, hm, (fun a h => by injection h with h; subst h; exact hg), hb⟩
 rw [hk.cell]
 simp [hj]
theorem ShPost.mk' {r : List Int × Int} {w w' : World} {S : Option Addr} {c n : Nat} {l : List Int} (hr : r = (l, 0)) (hn : n = l.length) (hI : Ints .i64 w' S l) (hc : l.length ≤ c) (hm : c ≤ 9223372036854775807) (hS : ∀ a, S = some a → w.heap.size ≤ a.block) (hb : Below w.heap.size w w') :
  ShPost r w (.returned (.tuple #[.slice S n c, .int .i64 0])) w' := by
 subst hr hn
 exact ⟨_, _, rfl, hI, hc, hm, hS, hb⟩
theorem Blk.ints_set {w : World} {g i : Nat} {t : TypeId} {l : List Int} {n : Int} (h : Blk w g t (l.map (Value.int .i64)).toArray) : Blk (w.setCell ⟨g, i, none⟩ (.int .i64 n)) g t ((l.set i n).map (Value.int .i64)).toArray := by
 have := h.set_ i (.int .i64 n)
 simpa using this
theorem types_of {P : Program} {t : TypeId} {i : TypeInfo} (hi : P.info? t = some i) (h : t < P.types.size) : P.types[t] = i := by
 unfold Tables.info? at hi
 rw [Array.getElem?_eq_getElem h, if_pos h] at hi
 exact Option.some.inj hi
theorem int_cells (h : 3 < Tryz.prog.types.size) : (Tryz.prog.types[3]'h).size = 1 := by
 obtain ⟨i0, hi, h0, h1, h2⟩ := info_parts int_info
 rw [types_of hi h]
 exact h1
theorem run_index3_0 (w : World) (a b c : Int) : (Instr.index 114 (.agg #[.int .i64 a, .int .i64 b, .int .i64 c]) (.int .i64 0)).run Tryz.prog w = .ok (.int .i64 a) w := by
 simp [Instr.index, run_underlying Tryz.underlying114, asIntOf, go_sem]
theorem run_index3_1 (w : World) (a b c : Int) : (Instr.index 114 (.agg #[.int .i64 a, .int .i64 b, .int .i64 c]) (.int .i64 1)).run Tryz.prog w = .ok (.int .i64 b) w := by
 simp [Instr.index, run_underlying Tryz.underlying114, asIntOf, go_sem]
theorem run_index3_2 (w : World) (a b c : Int) : (Instr.index 114 (.agg #[.int .i64 a, .int .i64 b, .int .i64 c]) (.int .i64 2)).run Tryz.prog w = .ok (.int .i64 c) w := by
 simp [Instr.index, run_underlying Tryz.underlying114, asIntOf, go_sem]
set_option maxHeartbeats 2000000 in
set_option maxRecDepth 100000 in
theorem shape_window (side width step : Int) (w : World) :
  Calls Tryz.prog 112 #[.int .i64 side, .int .i64 width, .int .i64 step] w fun e w' => e = .returned (.tuple #[.int .i64 (Od.window side width step).1, .int .i64 (Od.window side width step).2]) ∧ w = w' := by
 have bad : ¬ (Sh.side side = true ∧ Sh.side width = true ∧ Sh.side step = true ∧ width ≤ side) → Hid (Od.window side width step = (0, 11)) := fun h => Lib.hid (by unfold Od.window; rw [if_neg h])
 have r0 := fun W => run_index3_0 W side width step
 have r1 := fun W => run_index3_1 W side width step
 have r2 := fun W => run_index3_2 W side width step
 go_enter Tryz.func112, Tryz.ntmps112
 go_wp2_with fail
 go_loopw [14] (fun i wr => wr = w ∧ ∃ k : Nat, k ≤ 3 ∧ i = .int .i64 k ∧ (0 < k → Sh.side side = true) ∧ (1 < k → Sh.side width = true) ∧ (2 < k → Sh.side step = true)) (fun i _ => 3 - (intOf i).toNat)
 case atStart => exact ⟨rfl, 0, by omega, rfl, by omega, by omega, by omega⟩
 case round =>
  obtain ⟨rfl, k, hk, rfl, h1, h2, h3⟩ := hrel
  have hkk : k = 0 ∨ k = 1 ∨ k = 2 ∨ k = 3 := by omega
  rcases hkk with rfl | rfl | rfl | rfl
  ·by_cases a1 : side < 1
   ·have HB := bad (by rw [Sh.side_iff]; omega)
    clear bad h1 h2 h3
    go_wp2_with fail
    go_ret2
    exact ⟨by rw [HB.out]; rfl, rfl⟩
   ·by_cases a2 : 1024 < side
    ·have HB := bad (by rw [Sh.side_iff]; omega)
     clear bad h1 h2 h3
     go_wp2_with fail
     go_ret2
     exact ⟨by rw [HB.out]; rfl, rfl⟩
    ·clear bad h1 h2 h3
     go_wp2_with fail
     go_roundw
     case rel => exact ⟨trivial, 1, by omega, by go_num, fun _ => (Sh.side_iff _).2 (by omega), by omega, by omega⟩
     case measure => simp [intOf]
  ·by_cases a1 : width < 1
   ·have HB := bad (by rw [Sh.side_iff, Sh.side_iff]; omega)
    clear bad h1 h2 h3
    go_wp2_with fail
    go_ret2
    exact ⟨by rw [HB.out]; rfl, rfl⟩
   ·by_cases a2 : 1024 < width
    ·have HB := bad (by rw [Sh.side_iff, Sh.side_iff]; omega)
     clear bad h1 h2 h3
     go_wp2_with fail
     go_ret2
     exact ⟨by rw [HB.out]; rfl, rfl⟩
    ·have H1 := Lib.hid (h1 (by omega))
     clear bad h1 h2 h3
     go_wp2_with fail
     go_roundw
     case rel => exact ⟨trivial, 2, by omega, by go_num, fun _ => H1.out, fun _ => (Sh.side_iff _).2 (by omega), by omega⟩
     case measure => simp [intOf]
  ·by_cases a1 : step < 1
   ·have HB := bad (by rw [Sh.side_iff, Sh.side_iff, Sh.side_iff]; omega)
    clear bad h1 h2 h3
    go_wp2_with fail
    go_ret2
    exact ⟨by rw [HB.out]; rfl, rfl⟩
   ·by_cases a2 : 1024 < step
    ·have HB := bad (by rw [Sh.side_iff, Sh.side_iff, Sh.side_iff]; omega)
     clear bad h1 h2 h3
     go_wp2_with fail
     go_ret2
     exact ⟨by rw [HB.out]; rfl, rfl⟩
    ·have H1 := Lib.hid (h1 (by omega))
     have H2 := Lib.hid (h2 (by omega))
     clear bad h1 h2 h3
     go_wp2_with fail
     go_roundw
     case rel => exact ⟨trivial, 3, by omega, by go_num, fun _ => H1.out, fun _ => H2.out, fun _ => (Sh.side_iff _).2 (by omega)⟩
     case measure => simp [intOf]
  ·have h1 := h1 (by omega)
   have h2 := h2 (by omega)
   have h3 := h3 (by omega)
   by_cases hw : side < width
   ·have HB := bad (by omega)
    clear bad h1 h2 h3
    go_wp2_with fail
    go_ret2
    exact ⟨by rw [HB.out]; rfl, rfl⟩
   ·have HG := Lib.hid (show Od.window side width step = (1 + (side - width).tdiv step, 0) by unfold Od.window; rw [if_pos ⟨h1, h2, h3, by omega⟩])
    rw [Sh.side_iff] at h1 h2 h3
    have q1 : 0 ≤ (side - width).tdiv step := Int.tdiv_nonneg (by omega) (by omega)
    have q2 : (side - width).tdiv step ≤ side - width := Int.tdiv_le_self _ (by omega)
    clear bad
    go_wp2_with fail
    go_ret2
    exact ⟨by rw [HG.out]; rfl, rfl⟩
end Go.Proofs.YtbnnpkcfifejmaaGreat
namespace Go.Proofs.YtbnnpkcfifejmaaGreat
open Go.RowKit
theorem getD_at {l : List Int} {k : Nat} (h : k < l.length) : l.getD k 0 = l[k] := by rw [List.getD_eq_getElem?_getD, List.getElem?_eq_getElem h]; rfl
theorem Ints.cell_at {w : World} {k : IntKind} {b off j : Nat} {zs : List Int} (h : Ints k w (some ⟨b, off, none⟩) zs) (hj : j < zs.length) : w.cell? ⟨b, off + j, none⟩ = some (.int k zs[j]) := by
 obtain ⟨b1, o1, e, _, hc⟩ := h j hj
 injection e with e
 injection e with e1 e2
 subst e1 e2
 rw [getD_at hj] at hc
 exact hc
set_option maxHeartbeats 2000000 in
theorem shape_cut (A : Option Addr) (c : Nat) (zs : List Int) (side frm tz : Int) (w : World) (hl : zs.length ≤ 17592186043904) (hI : Ints .i64 w A zs) :
  Calls Tryz.prog 65 #[.slice A zs.length c, .int .i64 side, .int .i64 frm, .int .i64 tz] w (ShPost (Od.cut zs side frm tz) w) := by
 have hcall := shape_right A c zs w (by omega) hI
 cases hr : Sh.right zs
 ·have HE := Lib.hid (show Od.cut zs side frm tz = ([], 20) by simp [Od.cut, hr])
  rw [hr] at hcall
  have Hr := Lib.hid hr
  have HI := Lib.hid hI
  have Hcall := Lib.hid hcall
  clear hr hI hcall
  go_enter Tryz.func65, Tryz.ntmps65
  go_wp2_with fail
  refine (Hcall.out).mono ?_
  rintro e w1 ⟨rfl, h1⟩
  go_wp2_with fail
  go_ret2
  exact ShPost.fail HE.out h1
 ·have fail : ¬ (0 ≤ side ∧ side < zs.length ∧ 0 ≤ frm ∧ tz ≤ Od.at_ zs side ∧ frm < tz) → Od.cut zs side frm tz = ([], 11) := fun h => by
   unfold Od.cut
   rw [if_pos hr, if_neg]
   simp [Od.inR]
   omega
  have good : (0 ≤ side ∧ side < zs.length ∧ 0 ≤ frm ∧ tz ≤ Od.at_ zs side ∧ frm < tz) → Od.cut zs side frm tz = (zs.set side.toNat (tz - frm), 0) := fun h => by
   unfold Od.cut
   rw [if_pos hr, if_pos]
   simp [Od.inR]
   omega
  obtain ⟨_, a1, a2, a3, -⟩ := Sh.right_mul hr
  rw [hr] at hcall
  have Hr := Lib.hid hr
  have HI := Lib.hid hI
  have Hcall := Lib.hid hcall
  have Ha3 := Lib.hid a3
  clear hr hI hcall a3
  by_cases c1 : side < 0
  ·have HE := Lib.hid (fail (by omega))
   clear fail good
   go_enter Tryz.func65, Tryz.ntmps65
   go_wp2_with fail
   refine (Hcall.out).mono ?_
   rintro e w1 ⟨rfl, h1⟩
   go_wp2_with fail
   go_ret2
   exact ShPost.fail HE.out h1
  obtain ⟨k, rfl⟩ : ∃ k : Nat, side = k := ⟨side.toNat, by omega⟩
  by_cases c2 : zs.length ≤ k
  ·have HE := Lib.hid (fail (by omega))
   clear fail good
   go_enter Tryz.func65, Tryz.ntmps65
   go_wp2_with fail
   refine (Hcall.out).mono ?_
   rintro e w1 ⟨rfl, h1⟩
   go_wp2_with fail
   go_ret2
   exact ShPost.fail HE.out h1
  have hk : k < zs.length := by omega
  have hat : Od.at_ zs k = zs[k] := by unfold Od.at_; rw [show ((k : Int)).toNat = k by omega, getD_at hk]
  rw [hat] at fail good
  have hz := Ha3.out _ (List.getElem_mem hk)
  clear hat
  by_cases c3 : frm < 0
  ·have HE := Lib.hid (fail (by omega))
   clear fail good
   go_enter Tryz.func65, Tryz.ntmps65
   go_wp2_with fail
   refine (Hcall.out).mono ?_
   rintro e w1 ⟨rfl, h1⟩
   go_wp2_with fail
   go_ret2
   exact ShPost.fail HE.out h1
  obtain ⟨b, off, rfl, hb, -⟩ := HI.out k hk
  by_cases c4 : zs[k] < tz
  ·have HE := Lib.hid (fail (by omega))
   clear fail good
   go_enter Tryz.func65, Tryz.ntmps65
   go_wp2_with fail
   refine (Hcall.out).mono ?_
   rintro e w1 ⟨rfl, h1⟩
   obtain ⟨b', off', e, _, hc⟩ := HI.out.below h1 (Nat.le_refl _) k hk
   injection e with e; injection e with e1 e2; subst e1 e2
   rw [getD_at hk] at hc
   go_wp2_with fail
   go_ret2
   exact ShPost.fail HE.out h1
  by_cases c5 : tz ≤ frm
  ·have HE := Lib.hid (fail (by omega))
   clear fail good
   go_enter Tryz.func65, Tryz.ntmps65
   go_wp2_with fail
   refine (Hcall.out).mono ?_
   rintro e w1 ⟨rfl, h1⟩
   obtain ⟨b', off', e, _, hc⟩ := HI.out.below h1 (Nat.le_refl _) k hk
   injection e with e; injection e with e1 e2; subst e1 e2
   rw [getD_at hk] at hc
   go_wp2_with fail
   go_ret2
   exact ShPost.fail HE.out h1
  have HE := Lib.hid (good (by omega))
  clear fail good
  go_enter Tryz.func65, Tryz.ntmps65
  go_wp2_with fail
  refine (Hcall.out).mono ?_
  rintro e w1 ⟨rfl, h1⟩
  obtain ⟨b', off', e, _, hc⟩ := HI.out.below h1 (Nat.le_refl _) k hk
  injection e with e; injection e with e1 e2; subst e1 e2
  rw [getD_at hk] at hc
  go_wp2_with fail
  refine (shape_copy _ c zs _ hl (HI.out.below h1 (Nat.le_refl _))).mono ?_
  rintro e w2 ⟨g, rfl, hg, hB, h2⟩
  have hbb := h1.trans (h2.mono h1.size)
  have hB' : Blk w2 g 3 (zs.map (Value.int .i64)).toArray := hB
  have hcg := hB'.cell k
  have hfg := hB'.frozen k
  simp [hk] at hcg
  have HB := Lib.hid hB'
  have hgs := h1.size
  clear hB hB' hc
  go_wp2_with fail
  go_ret2
  refine ShPost.fresh HE.out (by simp) (by omega) HB.out.ints_set (by simp) (by omega) ?_
  exact hbb.setCell (by simp; omega) _
set_option maxHeartbeats 2000000 in
theorem pool_shape (A : Option Addr) (c : Nat) (zs : List Int) (width step : Int) (w : World) (hl : zs.length ≤ 17592186043904) (hI : Ints .i64 w A zs) :
  Calls Tryz.prog 89 #[.slice A zs.length c, .int .i64 width, .int .i64 step] w (ShPost (Od.pool zs width step) w) := by
 have hcall := shape_right A c zs w (by omega) hI
 cases hr : Sh.right zs
 ·have HE := Lib.hid (show Od.pool zs width step = ([], 20) by simp [Od.pool, hr])
  rw [hr] at hcall
  have Hr := Lib.hid hr
  have HI := Lib.hid hI
  have Hcall := Lib.hid hcall
  clear hr hI hcall
  go_enter Tryz.func89, Tryz.ntmps89
  go_wp2_with fail
  refine (Hcall.out).mono ?_
  rintro e w1 ⟨rfl, h1⟩
  go_wp2_with fail
  go_ret2
  exact ShPost.fail HE.out h1
 ·obtain ⟨_, a1, a2, a3, -⟩ := Sh.right_mul hr
  obtain ⟨k, hk⟩ : ∃ k : Nat, zs.length = k + 1 := ⟨zs.length - 1, by omega⟩
  have hk1 : k < zs.length := by omega
  have hgd : zs.getD (zs.length - 1) 0 = zs[k] := by rw [show zs.length - 1 = k by omega, getD_at hk1]
  have hp : Od.pool zs width step = if (Od.window zs[k] width step).2 = 0 then (zs.set k (Od.window zs[k] width step).1, 0) else ([], 11) := by
   unfold Od.pool
   rw [if_pos hr, hgd, show zs.length - 1 = k by omega]
  rw [hr] at hcall
  obtain ⟨b, off, rfl, hb, -⟩ := hI k hk1
  have e1 : IntKind.i64.wrap ((zs.length : Int) - 1) = k := by have := IntWalk.i64_in ((zs.length : Int) - 1) (by omega); omega
  have Hr := Lib.hid hr
  have HI := Lib.hid hI
  have Hcall := Lib.hid hcall
  have Ha3 := Lib.hid a3
  have Hgd := Lib.hid hgd
  clear hr hI hcall a3 hgd
  clear hk
  by_cases hw : (Od.window zs[k] width step).2 = 0
  ·have HE := Lib.hid (show Od.pool zs width step = (zs.set k (Od.window zs[k] width step).1, 0) by rw [hp, if_pos hw])
   have HW := Lib.hid hw
   clear hp hw
   go_enter Tryz.func89, Tryz.ntmps89
   go_wp2_with fail
   refine (Hcall.out).mono ?_
   rintro e w1 ⟨rfl, h1⟩
   obtain ⟨b', off', e, _, hc⟩ := HI.out.below h1 (Nat.le_refl _) k hk1
   injection e with e; injection e with e2 e3; subst e2 e3
   rw [getD_at hk1] at hc
   go_wp2_with fail
   refine (shape_window zs[k] width step _).mono ?_
   rintro e w2 ⟨rfl, rfl⟩
   rw [HW.out]
   go_wp2_with fail
   refine (shape_copy _ c zs _ hl (HI.out.below h1 (Nat.le_refl _))).mono ?_
   rintro e w2 ⟨g, rfl, hg, hB, h2⟩
   have hbb := h1.trans (h2.mono h1.size)
   have hB' : Blk w2 g 3 (zs.map (Value.int .i64)).toArray := hB
   have hcg := hB'.cell k
   have hfg := hB'.frozen k
   simp [hk1] at hcg
   have HB := Lib.hid hB'
   have hgs := h1.size
   clear hB hB' hc
   go_wp2_with fail
   go_ret2
   refine ShPost.fresh HE.out (by simp) (by omega) HB.out.ints_set (by simp) (by omega) ?_
   exact hbb.setCell (by simp; omega) _
  ·have HE := Lib.hid (show Od.pool zs width step = ([], 11) by rw [hp, if_neg hw])
   have HW := Lib.hid (Od.window_err hw)
   clear hp hw
   go_enter Tryz.func89, Tryz.ntmps89
   go_wp2_with fail
   refine (Hcall.out).mono ?_
   rintro e w1 ⟨rfl, h1⟩
   obtain ⟨b', off', e, _, hc⟩ := HI.out.below h1 (Nat.le_refl _) k hk1
   injection e with e; injection e with e2 e3; subst e2 e3
   rw [getD_at hk1] at hc
   go_wp2_with fail
   refine (shape_window zs[k] width step _).mono ?_
   rintro e w2 ⟨rfl, rfl⟩
   rw [HW.out]
   go_wp2_with fail
   go_ret2
   exact ShPost.fail HE.out h1
end Go.Proofs.YtbnnpkcfifejmaaGreat
namespace Go.Proofs.YtbnnpkcfifejmaaGreat
open Go.RowKit
namespace Od
def jMid (s t : List Int) (side : Nat) (k : Nat) : List Int := if side < k then joinL s t side else s
theorem jMid_len (s t : List Int) (side k : Nat) : (jMid s t side k).length = s.length := by unfold jMid joinL; split <;> simp
theorem join_bad {s t : List Int} {side : Int} {k : Nat} (h1 : Sh.right s = true) (h2 : Sh.right t = true) (h3 : s.length = t.length) (h4 : 0 ≤ side ∧ side < s.length) (hk : k < s.length) (hk2 : k < t.length) (hs : (k : Int) ≠ side) (hne : s[k] ≠ t[k]) : join s t side = ([], 20) := by
 unfold join
 rw [if_pos (by simp [h1, h2, h3]), if_pos (by simp [inR, h4]), if_neg]
 rw [Bool.and_eq_true, not_and]
 intro h
 exfalso
 unfold joinOk at h
 rw [List.all_eq_true] at h
 have := h k (List.mem_range.2 hk)
 rw [getD_at hk, getD_at hk2] at this
 simp [hs, hne] at this
theorem joinOk_of {s t : List Int} {side : Nat} (h : ∀ j (h1 : j < s.length) (h2 : j < t.length), j ≠ side → s[j] = t[j]) (hl : s.length = t.length) : joinOk s t side = true := by
 unfold joinOk
 rw [List.all_eq_true]
 intro j hj
 have hj := List.mem_range.1 hj
 by_cases e : j = side
 ·simp [e]
 ·rw [getD_at hj, getD_at (by omega : j < t.length)]
  simp [h j hj (by omega) e]
end Od
set_option maxHeartbeats 4000000 in
theorem shape_join (A B : Option Addr) (c d : Nat) (s t : List Int) (side : Int) (w : World) (hl : s.length ≤ 17592186043904) (hl' : t.length ≤ 17592186043904) (hI : Ints .i64 w A s) (hJ : Ints .i64 w B t) :
  Calls Tryz.prog 117 #[.slice A s.length c, .slice B t.length d, .int .i64 side] w (ShPost (Od.join s t side) w) := by
 have hcall := shape_right A c s w (by omega) hI
 have hcall2 := fun w1 (h1 : Below w.heap.size w w1) => shape_right B d t w1 (by omega) (hJ.below h1 (Nat.le_refl _))
 cases hr : Sh.right s
 ·have HE := Lib.hid (show Od.join s t side = ([], 20) by simp [Od.join, hr])
  rw [hr] at hcall
  have Hr := Lib.hid hr
  have HI := Lib.hid hI
  have HJ := Lib.hid hJ
  have Hcall := Lib.hid hcall
  have Hcall2 := Lib.hid hcall2
  clear hr hI hJ hcall hcall2
  go_enter Tryz.func117, Tryz.ntmps117
  go_wp2_with fail
  refine (Hcall.out).mono ?_
  rintro e w1 ⟨rfl, h1⟩
  go_wp2_with fail
  go_ret2
  exact ShPost.fail HE.out h1
 rw [hr] at hcall
 cases hq : Sh.right t
 ·have HE := Lib.hid (show Od.join s t side = ([], 20) by simp [Od.join, hq])
  rw [hq] at hcall2
  have Hr := Lib.hid hr
  have Hq := Lib.hid hq
  have HI := Lib.hid hI
  have HJ := Lib.hid hJ
  have Hcall := Lib.hid hcall
  have Hcall2 := Lib.hid hcall2
  clear hr hq hI hJ hcall hcall2
  go_enter Tryz.func117, Tryz.ntmps117
  go_wp2_with fail
  refine (Hcall.out).mono ?_
  rintro e w1 ⟨rfl, h1⟩
  go_wp2_with fail
  refine (Hcall2.out _ h1).mono ?_
  rintro e w2 ⟨rfl, h2⟩
  go_wp2_with fail
  go_ret2
  exact ShPost.fail HE.out (h1.trans (h2.mono h1.size))
 rw [hq] at hcall2
 obtain ⟨_, a1, a2, a3, -⟩ := Sh.right_mul hr
 obtain ⟨_, b1, b2, b3, -⟩ := Sh.right_mul hq
 by_cases hlen : s.length = t.length
 case neg =>
  have HE := Lib.hid (show Od.join s t side = ([], 20) by simp [Od.join, hlen])
  have hn : ((s.length : Int) != t.length) = true := by simp; omega
  have Hr := Lib.hid hr
  have Hq := Lib.hid hq
  have HI := Lib.hid hI
  have HJ := Lib.hid hJ
  have Hcall := Lib.hid hcall
  have Hcall2 := Lib.hid hcall2
  have Ha3 := Lib.hid a3
  have Hb3 := Lib.hid b3
  clear hr hq hI hJ hcall hcall2 a3 b3
  clear hlen
  go_enter Tryz.func117, Tryz.ntmps117
  go_wp2_with fail
  refine (Hcall.out).mono ?_
  rintro e w1 ⟨rfl, h1⟩
  go_wp2_with fail
  refine (Hcall2.out _ h1).mono ?_
  rintro e w2 ⟨rfl, h2⟩
  go_wp2_with fail
  go_ret2
  exact ShPost.fail HE.out (h1.trans (h2.mono h1.size))
 have hn : ((s.length : Int) != t.length) = false := by simp [hlen]
 by_cases c1 : side < 0
 ·have HE := Lib.hid (show Od.join s t side = ([], 11) by unfold Od.join; rw [if_pos (by simp [hr, hq, hlen]), if_neg]; simp [Od.inR]; omega)
  have Hr := Lib.hid hr
  have Hq := Lib.hid hq
  have HI := Lib.hid hI
  have HJ := Lib.hid hJ
  have Hcall := Lib.hid hcall
  have Hcall2 := Lib.hid hcall2
  have Ha3 := Lib.hid a3
  have Hb3 := Lib.hid b3
  have Hlen := Lib.hid hlen
  clear hr hq hI hJ hcall hcall2 a3 b3 hlen
  go_enter Tryz.func117, Tryz.ntmps117
  go_wp2_with fail
  refine (Hcall.out).mono ?_
  rintro e w1 ⟨rfl, h1⟩
  go_wp2_with fail
  refine (Hcall2.out _ h1).mono ?_
  rintro e w2 ⟨rfl, h2⟩
  go_wp2_with fail
  go_ret2
  exact ShPost.fail HE.out (h1.trans (h2.mono h1.size))
 obtain ⟨sd, rfl⟩ : ∃ k : Nat, side = k := ⟨side.toNat, by omega⟩
 by_cases c2 : s.length ≤ sd
 ·have HE := Lib.hid (show Od.join s t sd = ([], 11) by unfold Od.join; rw [if_pos (by simp [hr, hq, hlen]), if_neg]; simp [Od.inR]; omega)
  have Hr := Lib.hid hr
  have Hq := Lib.hid hq
  have HI := Lib.hid hI
  have HJ := Lib.hid hJ
  have Hcall := Lib.hid hcall
  have Hcall2 := Lib.hid hcall2
  have Ha3 := Lib.hid a3
  have Hb3 := Lib.hid b3
  have Hlen := Lib.hid hlen
  clear hr hq hI hJ hcall hcall2 a3 b3 hlen
  go_enter Tryz.func117, Tryz.ntmps117
  go_wp2_with fail
  refine (Hcall.out).mono ?_
  rintro e w1 ⟨rfl, h1⟩
  go_wp2_with fail
  refine (Hcall2.out _ h1).mono ?_
  rintro e w2 ⟨rfl, h2⟩
  go_wp2_with fail
  go_ret2
  exact ShPost.fail HE.out (h1.trans (h2.mono h1.size))
 have hbad := fun (k : Nat) (hk : k < s.length) (hk2 : k < t.length) (hs : (k : Int) ≠ sd) (hne : s[k] ≠ t[k]) => Od.join_bad hr hq hlen (by omega) hk hk2 hs hne
 have hgood : Od.joinOk s t sd = true → Od.join s t sd = if Sh.right (Od.joinL s t sd) = true then (Od.joinL s t sd, 0) else ([], 20) := fun h => by
  unfold Od.join
  rw [if_pos (by simp [hr, hq, hlen]), if_pos (by simp [Od.inR]; omega), h, Bool.true_and]
 have hLen := Lib.hid hlen
 have Hr := Lib.hid hr
 have Hq := Lib.hid hq
 have HI := Lib.hid hI
 have HJ := Lib.hid hJ
 have Hcall := Lib.hid hcall
 have Hcall2 := Lib.hid hcall2
 have Ha3 := Lib.hid a3
 have Hb3 := Lib.hid b3
 have Hbad := Lib.hid hbad
 have Hgood := Lib.hid hgood
 clear hr hq hI hJ hcall hcall2 a3 b3 hbad hgood
 clear hlen
 go_enter Tryz.func117, Tryz.ntmps117
 go_wp2_with fail
 refine (Hcall.out).mono ?_
 rintro e w1 ⟨rfl, h1⟩
 go_wp2_with fail
 refine (Hcall2.out _ h1).mono ?_
 rintro e w2 ⟨rfl, h2⟩
 have hb2 := h1.trans (h2.mono h1.size)
 go_wp2_with fail
 refine (shape_copy _ c s _ hl (HI.out.below hb2 (Nat.le_refl _))).mono ?_
 rintro e w3 ⟨g, rfl, hg, hB, h3⟩
 have hb3 := hb2.trans (h3.mono hb2.size)
 have hgw : w.heap.size ≤ g := Nat.le_trans hb2.size hg
 have HB := Lib.hid hB
 clear hB h1 h2 h3 hg
 go_wp2_with fail
 go_loopw [37] (fun i wr => ∃ k : Nat, k ≤ s.length ∧ i = .int .i64 k ∧ Blk wr g 3 ((Od.jMid s t sd k).map (Value.int .i64)).toArray ∧ Below w.heap.size w wr ∧ ∀ j (h1 : j < s.length) (h2 : j < t.length), j < k → j ≠ sd → s[j] = t[j]) (fun i _ => s.length - (intOf i).toNat)
 case atStart => exact ⟨0, Nat.zero_le _, rfl, by rw [show Od.jMid s t sd 0 = s by simp [Od.jMid]]; exact HB.out, hb3, fun j _ _ h => by omega⟩
 case round =>
  obtain ⟨k, hk, rfl, hblk, hbw, hall⟩ := hrel
  have HA := Lib.hid hall
  clear hall HB hb3 hb2
  by_cases hlt : k < s.length
  ·have hlt' : k < t.length := by have := hLen.out; omega
   obtain ⟨b, off, rfl, hbl, hc⟩ := HI.out.below hbw (Nat.le_refl _) k hlt
   obtain ⟨b', off', rfl, hbl', hc'⟩ := HJ.out.below hbw (Nat.le_refl _) k hlt'
   rw [getD_at hlt] at hc
   rw [getD_at hlt'] at hc'
   have hx := Ha3.out _ (List.getElem_mem hlt)
   have hy := Hb3.out _ (List.getElem_mem hlt')
   have k0 : (0 : Int) ≤ k := by omega
   have k1 : (k : Int) < s.length := by omega
   have k2 : (k : Int) < t.length := by omega
   by_cases hs : k = sd
   ·subst hs
    have hm : Od.jMid s t k k = s := by simp [Od.jMid]
    rw [hm] at hblk
    have hcg := hblk.cell k
    have hfg := hblk.frozen k
    simp [hlt] at hcg
    have hm2 : Od.jMid s t k (k + 1) = s.set k (s[k] + t[k]) := by
     simp [Od.jMid, Od.joinL, Od.at_, hlt, hlt']
    have HM := Lib.hid hm2
    have HB := Lib.hid hblk
    have hwr : IntKind.i64.wrap (s[k] + t[k]) = s[k] + t[k] := IntWalk.i64_in _ (by omega)
    clear hblk hm hm2
    go_wp2_with fail
    go_region_with (fail)
    all_goals
     go_wp2_with fail
     go_roundw
     case rel => exact ⟨k + 1, by omega, by go_num, by rw [HM.out]; exact HB.out.ints_set, (hbw.setCell (by simpa using hgw) _).drew, fun j h1 h2 h3 h4 => HA.out j h1 h2 (by omega) h4⟩
     case measure => simp [intOf]; omega
   ·have hne : ((k : Int) == (sd : Int)) = false := by simp; omega
    by_cases hxy : s[k] = t[k]
    ·have hb : (s[k] != t[k]) = false := by simp [hxy]
     have HX := Lib.hid hxy
     have HM := Lib.hid (show Od.jMid s t sd (k + 1) = Od.jMid s t sd k by unfold Od.jMid; simp only [show (sd < k + 1) = (sd < k) by simp; omega])
     have HB := Lib.hid hblk
     clear hxy hblk
     go_wp2_with fail
     go_quiet (fail)
     go_wp2_with fail
     go_roundw
     case rel => exact ⟨k + 1, by omega, by go_num, by rw [HM.out]; exact HB.out, Bdrawn hbw _, fun j h1 h2 h3 h4 => by
      by_cases e : j = k
      ·subst e; exact HX.out
      ·exact HA.out j h1 h2 (by omega) h4⟩
     case measure => simp [intOf]; omega
    ·have hb : (s[k] != t[k]) = true := by simp [hxy]
     have HE := Lib.hid (Hbad.out k hlt hlt' (by omega) hxy)
     clear hxy hblk
     go_wp2_with fail
     go_quiet (fail)
     go_wp2_with fail
     go_ret2
     exact ShPost.fail HE.out (Bdrawn hbw _)
  ·obtain rfl : k = s.length := by omega
   have hj : Od.joinOk s t sd = true := Od.joinOk_of (fun j h1 h2 h3 => HA.out j h1 h2 h1 h3) hLen.out
   have hm : Od.jMid s t sd s.length = Od.joinL s t sd := by unfold Od.jMid; rw [if_pos (by omega)]
   have hlj : (Od.joinL s t sd).length = s.length := by simp [Od.joinL]
   rw [hm] at hblk
   have hI2 : Ints .i64 wr (some ⟨g, 0, none⟩) (Od.joinL s t sd) := Ints.of_row fun j hj => by rw [hblk.cell]; simp [hj]
   have hcall3 := shape_right (some ⟨g, 0, none⟩) s.length (Od.joinL s t sd) wr (by omega) hI2
   rw [hlj] at hcall3
   have hg2 := Hgood.out hj
   cases h5 : Sh.right (Od.joinL s t sd)
   ·have HE := Lib.hid (show Od.join s t sd = ([], 20) by rw [hg2, if_neg (by simp [h5])])
    rw [h5] at hcall3
    have Hcall3 := Lib.hid hcall3
    have HI2 := Lib.hid hI2
    have Hblk := Lib.hid hblk
    have Hlj := Lib.hid hlj
    have Hm := Lib.hid hm
    have Hg2 := Lib.hid hg2
    have Hj := Lib.hid hj
    have H5 := Lib.hid h5
    clear hcall3 hI2 hblk hlj hm hg2 hj h5
    go_wp2_with fail
    refine (Hcall3.out).mono ?_
    rintro e w4 ⟨rfl, h4⟩
    go_wp2_with fail
    go_ret2
    exact ShPost.fail HE.out (hbw.trans (h4.mono hbw.size))
   ·have HE := Lib.hid (show Od.join s t sd = (Od.joinL s t sd, 0) by rw [hg2, if_pos h5])
    rw [h5] at hcall3
    have Hcall3 := Lib.hid hcall3
    have HI2 := Lib.hid hI2
    have Hblk := Lib.hid hblk
    have Hlj := Lib.hid hlj
    have Hm := Lib.hid hm
    have Hg2 := Lib.hid hg2
    have Hj := Lib.hid hj
    have H5 := Lib.hid h5
    clear hcall3 hI2 hblk hlj hm hg2 hj h5
    go_wp2_with fail
    refine (Hcall3.out).mono ?_
    rintro e w4 ⟨rfl, h4⟩
    go_wp2_with fail
    go_ret2
    exact ShPost.fresh HE.out Hlj.out.symm hgw (Hblk.out.below h4 Hblk.out.lt) (by rw [Hlj.out]; exact Nat.le_refl _) (by omega) (hbw.trans (h4.mono hbw.size))
end Go.Proofs.YtbnnpkcfifejmaaGreat
namespace Go.Proofs.YtbnnpkcfifejmaaGreat
open Go.RowKit
theorem shp_info : (Tryz.prog.info? 3).map (fun i => (i.zero, i.size, i.bytes)) = some (some (.int .i64 0), 1, 8) := int_info
theorem Od.outs_succ (w x : List Int) (step : Int) (k : Nat) : Od.outs w x step (k + 1) = Od.outs w x step k ++ [(Od.wn w x step k).1] := by simp [Od.outs, List.range_succ]
theorem Od.outs_len (w x : List Int) (step : Int) (k : Nat) : (Od.outs w x step k).length = k + 1 := by simp [Od.outs]
theorem one_row (w : World) (t : TypeId) (n : Int) : (w.alloc (.cells #[.int .i64 n] t)).ownsRow w.heap.size t 1 (.slice (some ⟨w.heap.size, 0, none⟩) 1 1) 1 [.int .i64 n] :=
 ⟨by simp, .inr ⟨w.heap.size, 1, #[.int .i64 n], rfl, Nat.le_refl _, heap_alloc_new w _, Nat.le_refl _, by unfold maxLen; omega, by simp, by simp⟩⟩
theorem own_base {w : World} {B B' e size n : Nat} {v : Value} {xs : List Value} (h : w.ownsRow B e size v n xs) (hB : B' ≤ B) : w.ownsRow B' e size v n xs := by
 refine ⟨h.1, ?_⟩
 rcases h.2 with h1 | ⟨g, cap, cur, h1, h2, h3⟩
 ·exact .inl h1
 ·exact .inr ⟨g, cap, cur, h1, Nat.le_trans hB h2, h3⟩
theorem own_slice {w : World} {B e n : Nat} {v : Value} {zs : List Int} (h : w.ownsRow B e 1 v n (zs.map (Value.int .i64))) (hn : n = zs.length) (h0 : 0 < n) :
  ∃ g c, v = .slice (some ⟨g, 0, none⟩) n c ∧ B ≤ g ∧ g < w.heap.size ∧ Ints .i64 w (some ⟨g, 0, none⟩) zs ∧ (zs.length ≤ c ∧ c ≤ 9223372036854775807) := by
 subst hn
 rcases h.2 with ⟨rfl, h1⟩ | ⟨g, cap, cur, rfl, hb, hh, r1, r2, r3, r4⟩
 ·omega
 ·refine ⟨g, cap, rfl, hb, lt_of_block hh, Ints.of_row fun j hj => ?_, r1, by unfold maxLen at r2; omega⟩
  rw [Nat.zero_add, h.cellAt j (by simpa using hj)]
  simp [hj]
set_option maxHeartbeats 4000000 in
theorem conv_shape (A B : Option Addr) (c d : Nat) (ws xs : List Int) (step : Int) (w : World) (hl : ws.length ≤ 17592186043904) (hl' : xs.length ≤ 17592186043904) (hd : xs.length ≤ d) (hd' : d ≤ 9223372036854775807) (hI : Ints .i64 w A ws) (hJ : Ints .i64 w B xs) :
  Calls Tryz.prog 56 #[.slice A ws.length c, .slice B xs.length d, .int .i64 step] w (ShPost (Od.conv ws xs step) w) := by
 obtain ⟨i0, hi, hz0, hz1, hz2⟩ := info_parts int_info
 have hcall := shape_right A c ws w (by omega) hI
 have hcall2 := fun w1 (h1 : Below w.heap.size w w1) => shape_right B d xs w1 (by omega) (hJ.below h1 (Nat.le_refl _))
 cases hr : Sh.right ws
 ·have HE := Lib.hid (show Od.conv ws xs step = ([], 20) by simp [Od.conv, hr])
  rw [hr] at hcall
  have Hr := Lib.hid hr
  have HI := Lib.hid hI
  have HJ := Lib.hid hJ
  have Hcall := Lib.hid hcall
  have Hcall2 := Lib.hid hcall2
  clear hr hI hJ hcall hcall2
  go_enter Tryz.func56, Tryz.ntmps56
  go_wp2_with fail
  refine (Hcall.out).mono ?_
  rintro e w1 ⟨rfl, h1⟩
  go_wp2_with fail
  go_ret2
  exact ShPost.fail HE.out h1
 rw [hr] at hcall
 cases hq : Sh.right xs
 ·have HE := Lib.hid (show Od.conv ws xs step = ([], 20) by simp [Od.conv, hq])
  rw [hq] at hcall2
  have Hr := Lib.hid hr
  have Hq := Lib.hid hq
  have HI := Lib.hid hI
  have HJ := Lib.hid hJ
  have Hcall := Lib.hid hcall
  have Hcall2 := Lib.hid hcall2
  clear hr hq hI hJ hcall hcall2
  go_enter Tryz.func56, Tryz.ntmps56
  go_wp2_with fail
  refine (Hcall.out).mono ?_
  rintro e w1 ⟨rfl, h1⟩
  go_wp2_with fail
  refine (Hcall2.out _ h1).mono ?_
  rintro e w2 ⟨rfl, h2⟩
  go_wp2_with fail
  go_ret2
  exact ShPost.fail HE.out (h1.trans (h2.mono h1.size))
 rw [hq] at hcall2
 obtain ⟨_, a1, a2, a3, -⟩ := Sh.right_mul hr
 obtain ⟨_, b1, b2, b3, -⟩ := Sh.right_mul hq
 have bad : ¬ (2 ≤ xs.length ∧ xs.length ≤ 3 ∧ ws.length = xs.length + 1 ∧ ws.getD 1 0 = xs.getD 0 0) → Od.conv ws xs step = ([], 20) := fun h => by
  unfold Od.conv
  rw [if_neg (by simpa [hr, hq] using h)]
 have good : (2 ≤ xs.length ∧ xs.length ≤ 3 ∧ ws.length = xs.length + 1 ∧ ws.getD 1 0 = xs.getD 0 0) → Od.conv ws xs step = (if (List.range (xs.length - 1)).all (fun i => decide ((Od.wn ws xs step i).2 = 0)) then
   (if Sh.right (Od.outs ws xs step (xs.length - 1)) then (Od.outs ws xs step (xs.length - 1), 0) else ([], 20)) else ([], 11)) := fun h => by
  unfold Od.conv
  rw [if_pos (by simpa [hr, hq] using h)]
 have Hr := Lib.hid hr
 have Hq := Lib.hid hq
 have HI := Lib.hid hI
 have HJ := Lib.hid hJ
 have Hcall := Lib.hid hcall
 have Hcall2 := Lib.hid hcall2
 have Ha3 := Lib.hid a3
 have Hb3 := Lib.hid b3
 have Hgood := Lib.hid good
 clear hr hq hI hJ hcall hcall2 a3 b3 good
 by_cases c1 : xs.length < 2
 ·have HE := Lib.hid (bad (by omega))
  clear bad
  go_enter Tryz.func56, Tryz.ntmps56
  go_wp2_with fail
  refine (Hcall.out).mono ?_
  rintro e w1 ⟨rfl, h1⟩
  go_wp2_with fail
  refine (Hcall2.out _ h1).mono ?_
  rintro e w2 ⟨rfl, h2⟩
  have d1 : decide ((xs.length : Int) < 2) = true := by simp; omega
  go_wp2_with fail
  go_quiet (fail)
  go_wp2_with fail
  go_ret2
  exact ShPost.fail HE.out (Bdrawn (h1.trans (h2.mono h1.size)) _)
 by_cases c2 : 3 < xs.length
 ·have HE := Lib.hid (bad (by omega))
  clear bad
  go_enter Tryz.func56, Tryz.ntmps56
  go_wp2_with fail
  refine (Hcall.out).mono ?_
  rintro e w1 ⟨rfl, h1⟩
  go_wp2_with fail
  refine (Hcall2.out _ h1).mono ?_
  rintro e w2 ⟨rfl, h2⟩
  have d1 : decide ((xs.length : Int) < 2) = false := by simp; omega
  have d2 : decide (3 < (xs.length : Int)) = true := by simp; omega
  go_wp2_with fail
  go_quiet (fail)
  go_wp2_with fail
  go_ret2
  exact ShPost.fail HE.out (Bdrawn (h1.trans (h2.mono h1.size)) _)
 by_cases c3 : ws.length = xs.length + 1
 case neg =>
  have HE := Lib.hid (bad (by omega))
  clear bad
  go_enter Tryz.func56, Tryz.ntmps56
  go_wp2_with fail
  refine (Hcall.out).mono ?_
  rintro e w1 ⟨rfl, h1⟩
  go_wp2_with fail
  refine (Hcall2.out _ h1).mono ?_
  rintro e w2 ⟨rfl, h2⟩
  have d1 : decide ((xs.length : Int) < 2) = false := by simp; omega
  have d2 : decide (3 < (xs.length : Int)) = false := by simp; omega
  have d0 : IntKind.i64.wrap ((xs.length : Int) + 1) = (xs.length : Int) + 1 := IntWalk.i64_in _ (by omega)
  have d3 : ((ws.length : Int) != (xs.length : Int) + 1) = true := by simp; omega
  clear c3
  go_wp2_with fail
  go_quiet (fail)
  go_wp2_with fail
  go_ret2
  exact ShPost.fail HE.out (Bdrawn (h1.trans (h2.mono h1.size)) _)
 have d1 : decide ((xs.length : Int) < 2) = false := by simp; omega
 have d2 : decide (3 < (xs.length : Int)) = false := by simp; omega
 have d0 : IntKind.i64.wrap ((xs.length : Int) + 1) = (xs.length : Int) + 1 := IntWalk.i64_in _ (by omega)
 have d3 : ((ws.length : Int) != (xs.length : Int) + 1) = false := by simp; omega
 have e1 : (1 : Int) < ws.length := by omega
 have e0 : (0 : Int) < ws.length := by omega
 have f0 : (0 : Int) < xs.length := by omega
 obtain ⟨b, off, rfl, hb, -⟩ := HI.out 0 (by omega)
 obtain ⟨b', off', rfl, hb', -⟩ := HJ.out 0 (by omega)
 have HL := Lib.hid c3
 have n1 : 1 < ws.length := by omega
 have n0 : 0 < ws.length := by omega
 have m0 : 0 < xs.length := by omega
 have hcw : ∀ W, Below w.heap.size w W → ∀ k (hk : k < ws.length), W.cell? ⟨b, off + k, none⟩ = some (.int .i64 ws[k]) := fun W hW k hk => by
  exact (HI.out.below hW (Nat.le_refl _)).cell_at hk
 have hcx : ∀ W, Below w.heap.size w W → ∀ k (hk : k < xs.length), W.cell? ⟨b', off' + k, none⟩ = some (.int .i64 xs[k]) := fun W hW k hk => by
  exact (HJ.out.below hW (Nat.le_refl _)).cell_at hk
 have Hcw := Lib.hid hcw
 have Hcx := Lib.hid hcx
 clear hcw hcx
 clear c3
 by_cases c4 : ws[1] = xs[0]
 case neg =>
  have HE := Lib.hid (bad (by rw [getD_at n1, getD_at m0]; have := HL.out; omega))
  have d4 : (ws[1] != xs[0]) = true := by simp [c4]
  clear bad c4
  go_enter Tryz.func56, Tryz.ntmps56
  go_wp2_with fail
  refine (Hcall.out).mono ?_
  rintro e w1 ⟨rfl, h1⟩
  go_wp2_with fail
  refine (Hcall2.out _ h1).mono ?_
  rintro e w2 ⟨rfl, h2⟩
  have hb2 := h1.trans (h2.mono h1.size)
  have x1 := Hcw.out _ hb2 1 n1
  have y0 := Hcx.out _ hb2 0 m0
  rw [Nat.add_zero] at y0
  go_wp2_with fail
  go_quiet (fail)
  go_wp2_with fail
  go_ret2
  exact ShPost.fail HE.out (Bdrawn hb2 _)
 have d4 : (ws[1] != xs[0]) = false := by simp [c4]
 have hgood := Hgood.out ⟨by omega, by omega, HL.out, by rw [getD_at n1, getD_at m0]; exact c4⟩
 have HG := Lib.hid hgood
 clear bad c4 hgood Hgood
 go_enter Tryz.func56, Tryz.ntmps56
 go_wp2_with fail
 refine (Hcall.out).mono ?_
 rintro e w1 ⟨rfl, h1⟩
 go_wp2_with fail
 refine (Hcall2.out _ h1).mono ?_
 rintro e w2 ⟨rfl, h2⟩
 have hb2 := h1.trans (h2.mono h1.size)
 have x1 := Hcw.out _ hb2 1 n1
 have y0 := Hcx.out _ hb2 0 m0
 have x0 := Hcw.out _ hb2 0 n0
 rw [Nat.add_zero] at y0 x0
 go_wp2_with fail
 go_quiet (fail)
 have hb3 : Below w.heap.size w (w2.drewN nq) := Bdrawn hb2 _
 generalize w2.drewN nq = w3 at *
 have x0 := Hcw.out _ hb3 0 n0
 rw [Nat.add_zero] at x0
 go_wp2_with fail
 clear x1 y0 x0
 have hown : (w3.alloc (.cells #[.int .i64 ws[0]] 3)).ownsRow w.heap.size 3 1 (.slice (some ⟨w3.heap.size, 0, none⟩) 1 1) (0 + 1) ((Od.outs ws xs step 0).map (Value.int .i64)) := by
  have h := one_row w3 3 ws[0]
  rw [show (Od.outs ws xs step 0).map (Value.int .i64) = [.int .i64 ws[0]] by simp [Od.outs, n0]]
  exact own_base h hb3.size
 have HO := Lib.hid hown
 have hb4 : Below w.heap.size w (w3.alloc (.cells #[.int .i64 ws[0]] 3)) := hb3.alloc hb3.size _
 clear hown
 go_loopw [8, 53] (fun v i wr => ∃ k : Nat, k ≤ xs.length - 1 ∧ i = .int .i64 k ∧ wr.ownsRow w.heap.size 3 1 v (k + 1) ((Od.outs ws xs step k).map (Value.int .i64)) ∧ Below w.heap.size w wr ∧ ∀ j, j < k → (Od.wn ws xs step j).2 = 0) (fun _ i _ => xs.length - (intOf i).toNat)
 case atStart => exact ⟨0, Nat.zero_le _, rfl, HO.out, hb4, fun j h => by omega⟩
 case round =>
  obtain ⟨k, hk, rfl, hown, hbw, hall⟩ := hrel
  have HA := Lib.hid hall
  clear hall HO hb4 hb3 hb2
  by_cases hlt : k < xs.length - 1
  ·have k0 : (0 : Int) ≤ k := by omega
   have p1 : k + 1 < xs.length := by omega
   have p2 : k + 2 < ws.length := by have := HL.out; omega
   have k1 : (k : Int) < ((xs.length - 1 : Nat) : Int) := by omega
   have k2 : ((k : Int) + 2) < (ws.length : Int) := by omega
   have w2 : IntKind.i64.wrap ((k : Int) + 2) = (k : Int) + 2 := IntWalk.i64_in _ (by omega)
   have t2 : ((k : Int) + 2).toNat = k + 2 := by omega
   have x1 := Hcx.out _ hbw (k + 1) p1
   have y1 := Hcw.out _ hbw (k + 2) p2
   rw [show off' + (k + 1) = off' + 1 + k by omega] at x1
   have hwn : Od.wn ws xs step k = Od.window xs[k + 1] ws[k + 2] step := by unfold Od.wn; rw [getD_at p1, getD_at p2]
   have HN := Lib.hid hwn
   have hcall := shape_window xs[k + 1] ws[k + 2] step
   rw [← hwn] at hcall
   have Hc := Lib.hid hcall
   clear hcall hwn
   have HW := Lib.hid hown
   clear hown
   by_cases hz : (Od.wn ws xs step k).2 = 0
   ·have HZ := Lib.hid hz
    clear hz
    go_wp2_with fail
    refine (Hc.out _).mono ?_
    rintro e w5 ⟨rfl, rfl⟩
    rw [HZ.out]
    have hown := HW.out
    go_wp2_with (at_builtin; refine wpList_append_own _ rfl _ _ 24 rfl w.heap.size 3 i0 (.int .i64 0) 1 8 Tryz.underlying24 hi hz0 hz1 hz2 rfl (by decide) _ _ _ rfl (hown.alloc _) ⟨wr.heap.size, 0, none⟩ 1 1 [.int .i64 (Od.wn ws xs step k).1] rfl rfl (one_new _ _ _) (by intro u hu; simp at hu; subst hu; rfl) (by unfold maxLen; omega) (by omega) (by have := hbw.size; simp; omega) ?_)
    intro v' w6 hown' hgrow _
    have hb6 : Below w.heap.size w w6 := (hbw.alloc hbw.size _).grown hgrow (by have := hbw.size; simp; omega) (fun j hj => (HW.out.lt j hj).1)
    have HW' := Lib.hid hown'
    clear hown hown' hgrow
    go_wp2_with fail
    go_roundw
    case rel => exact ⟨k + 1, by omega, by go_num, by rw [Od.outs_succ, List.map_append]; exact HW'.out, hb6, fun j hj => by
     by_cases e : j = k
     ·subst e; exact HZ.out
     ·exact HA.out j (by omega)⟩
    case measure => simp [intOf]; omega
   ·have HE := Lib.hid (show Od.conv ws xs step = ([], 11) by
     rw [HG.out, if_neg]
     rw [List.all_eq_true]
     intro h
     have := h k (List.mem_range.2 hlt)
     simp [hz] at this)
    have HZ := Lib.hid (show Od.wn ws xs step k = (0, 11) by rw [HN.out]; exact Od.window_err (by rw [← HN.out]; exact hz))
    clear hz
    go_wp2_with fail
    refine (Hc.out _).mono ?_
    rintro e w5 ⟨rfl, rfl⟩
    rw [HZ.out]
    go_wp2_with fail
    go_ret2
    exact ShPost.fail HE.out hbw
  ·obtain rfl : k = xs.length - 1 := by omega
   have k1 : ¬ (((xs.length - 1 : Nat) : Int) < ((xs.length - 1 : Nat) : Int)) := by omega
   have hgo : Od.conv ws xs step = if Sh.right (Od.outs ws xs step (xs.length - 1)) then (Od.outs ws xs step (xs.length - 1), 0) else ([], 20) := by
    rw [HG.out, if_pos]
    rw [List.all_eq_true]
    intro j hj
    simp [HA.out j (List.mem_range.1 hj)]
   have hol := Od.outs_len ws xs step (xs.length - 1)
   rw [show xs.length - 1 + 1 = xs.length by omega] at hown hol
   generalize Od.outs ws xs step (xs.length - 1) = os at *
   obtain ⟨g, c2, rfl, hbg, hgc, hIg, hcc⟩ := own_slice hown hol.symm (by omega)
   have hcall3 := shape_right (some ⟨g, 0, none⟩) c2 os wr (by omega) hIg
   cases h5 : Sh.right os
   ·have HE := Lib.hid (show Od.conv ws xs step = ([], 20) by rw [hgo, if_neg (by simp [h5])])
    rw [h5] at hcall3
    have Hcall3 := Lib.hid hcall3
    have HIg := Lib.hid hIg
    have Hgo := Lib.hid hgo
    have Hown := Lib.hid hown
    clear hcall3 hIg hgo hown
    rw [hol] at Hcall3
    clear hol h5
    go_wp2_with fail
    refine (Hcall3.out).mono ?_
    rintro e w4 ⟨rfl, h4⟩
    go_wp2_with fail
    go_ret2
    exact ShPost.fail HE.out (hbw.trans (h4.mono hbw.size))
   ·have HE := Lib.hid (show Od.conv ws xs step = (os, 0) by rw [hgo, if_pos h5])
    rw [h5] at hcall3
    have Hcall3 := Lib.hid hcall3
    have HIg := Lib.hid hIg
    have Hgo := Lib.hid hgo
    have Hown := Lib.hid hown
    clear hcall3 hIg hgo hown
    rw [hol] at Hcall3
    have HOL := Lib.hid hol
    clear hol h5
    go_wp2_with fail
    refine (Hcall3.out).mono ?_
    rintro e w4 ⟨rfl, h4⟩
    go_wp2_with fail
    go_ret2
    exact ShPost.mk' HE.out HOL.out.symm (HIg.out.below h4 (Nat.le_refl _)) hcc.1 hcc.2 (fun a h => by injection h with h; subst h; exact hbg) (hbw.trans (h4.mono hbw.size))
end Go.Proofs.YtbnnpkcfifejmaaGreat

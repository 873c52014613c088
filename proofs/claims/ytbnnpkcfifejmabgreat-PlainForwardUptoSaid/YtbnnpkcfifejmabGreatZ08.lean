/- Lemmas for the statements of this seat: contracts of functions and the plain laws. -/
import Derived.Test.YtbnnpkcfifejmabGreatZ07
set_option linter.unusedVariables false
namespace Go.Proofs.YtbnnpkcfifejmabGreat
open Go.RowKit
theorem mat_facts {t : Ten} (h : Tn.right t = true) (h2 : t.s.length = 2) : ∃ m n : Nat, Ly.at_ t.s 0 = (m : Int) ∧ Ly.at_ t.s 1 = (n : Int) ∧ 1 ≤ m ∧ 1 ≤ n ∧ m ≤ 1024 ∧ n ≤ 1024 ∧ t.c.length = m * n ∧ m * n ≤ 65536 := by
 obtain ⟨s, c⟩ := t
 simp only at h2
 match s, h2 with
 | [a, b], _ =>
  simp only [Tn.right, Bool.and_eq_true, decide_eq_true_eq] at h
  obtain ⟨_, _, _, hall, _, hp⟩ := Sh.right_mul h.1
  have ha := hall a (by simp)
  have hb := hall b (by simp)
  simp only [Safe.prod, Int.mul_one] at hp h
  have e : (a.toNat * b.toNat : Nat) = a * b := by rw [Int.natCast_mul]; rw [Int.toNat_of_nonneg (by omega), Int.toNat_of_nonneg (by omega)]
  refine ⟨a.toNat, b.toNat, by show a = _; omega, by show b = _; omega, by omega, by omega, by omega, by omega, ?_, ?_⟩
  ·show c.length = _; omega
  ·omega
set_option maxHeartbeats 1000000 in
theorem dense_line (S : Option Addr) (b off : Nat) (c d : Nat) (t : Ten) (m n i : Nat) (w : World) (ht : TenIn w S (some ⟨b, off, none⟩) c d t) (h2 : 2 ≤ t.s.length) (hn : Ly.at_ t.s 1 = (n : Int)) (hc : t.c.length = m * n) (hi : i < m) (hn1 : 1 ≤ n) (hm : m * n ≤ 65536) :
  Calls Tryz.prog 62 #[.agg #[.slice S t.s.length c, .slice (some ⟨b, off, none⟩) t.c.length d], .int .i64 i] w fun e w' => e = .returned (.slice (some ⟨b, off + i * n, none⟩) n n) ∧ Below w.heap.size w w' := by
 have h01 : Later w (w.alloc (.cells #[.slice S t.s.length c, .slice (some ⟨b, off, none⟩) t.c.length d] 30)) := (Later.refl w).alloc _
 have hk := Blk.new w 30 #[.slice S t.s.length c, .slice (some ⟨b, off, none⟩) t.c.length d]
 have hT := ht.later h01
 have hcd := ht.c1
 have hdd := ht.c2
 have hin : (i + 1) * n ≤ m * n := Nat.mul_le_mul_right _ hi
 rw [Nat.succ_mul] at hin
 obtain ⟨p, hp⟩ : ∃ p, p = i * n := ⟨_, rfl⟩
 rw [← hp] at hin ⊢
 have e1 : (i : Int) * (n : Int) = (p : Int) := by rw [hp]; simp
 have e2 : ((i : Int) + 1) * (n : Int) = (p : Int) + (n : Int) := by rw [hp, Int.add_mul]; simp
 have b1 : p + n ≤ t.c.length := by omega
 have k2 : (1 : Int) < (t.s.length : Int) := by omega
 have k4 : 1 < t.s.length := by omega
 have q1 : (0 : Int) ≤ (p : Int) := by omega
 have q2 : (p : Int) ≤ 65536 := by omega
 have q3 : (p : Int) + (n : Int) ≤ (d : Int) := by omega
 have q4 : (p : Int) + (n : Int) ≤ 65536 := by omega
 have q5 : (n : Int) ≤ 65536 := by omega
 have q6 : (i : Int) ≤ 65536 := by
  have : i * 1 ≤ i * n := Nat.mul_le_mul_left _ hn1
  omega
 have HT := Lib.hid hT
 have HN := Lib.hid hn
 clear ht hn hc hp hin hT
 have H01 := Lib.hid h01
 have Hk := Lib.hid hk
 clear h01 hk
 go_enter Tryz.func62, Tryz.ntmps62
 go_upto_region 1 with fail
 generalize w.alloc (.cells #[.slice S t.s.length c, .slice (some ⟨b, off, none⟩) t.c.length d] 30) = w1 at *
 have c0 : w1.cell? ⟨w.heap.size, 0, none⟩ = some (.slice S t.s.length c) := by rw [Hk.out.cell]; rfl
 have c1 : w1.cell? ⟨w.heap.size, 1, none⟩ = some (.slice (some ⟨b, off, none⟩) t.c.length d) := by rw [Hk.out.cell]; rfl
 obtain ⟨bs, os, rfl, -, y0⟩ := HT.out.r.1 1 (by omega)
 have y1 : w1.cell? ⟨bs, os + 1, none⟩ = some (.int .i64 n) := by rw [y0]; exact congrArg (fun z => some (Value.int .i64 z)) HN.out
 clear y0
 go_upto_region 2 with fail
 go_wp2_with fail
 rw [Nat.add_sub_cancel_left]
 go_ret
 exact ⟨rfl, H01.out⟩
namespace Ly
theorem dense_err {w b x : Ten} (h : denseOk w b x = false) : dense w b x = (none_, 20) := by simp [dense, h]
theorem dense_ok {w b x : Ten} (h : denseOk w b x = true) : dense w b x = (⟨b.s, tab b.c.length fun i => Fx.add (Fx.dot (rowOf w.c x.c.length i) x.c) (at_ b.c i)⟩, 0) := by simp [dense, h]
theorem row_len {w : List Int} {m n i : Nat} (h : w.length = m * n) (hi : i < m) : (rowOf w n i).length = n := by
 have : (i + 1) * n ≤ m * n := Nat.mul_le_mul_right _ hi
 rw [Nat.succ_mul] at this
 unfold rowOf
 rw [List.length_take, List.length_drop]
 omega
theorem row_in {w : List Int} {n i : Nat} (h : ∀ z ∈ w, Fx.In z) : ∀ z ∈ rowOf w n i, Fx.In z := fun z hz => h z (List.mem_of_mem_drop (List.mem_of_mem_take hz))
theorem row_at {w : List Int} {n i j : Nat} (hj : j < n) : (rowOf w n i).getD j 0 = w.getD (i * n + j) 0 := by
 unfold rowOf
 simp only [List.getD_eq_getElem?_getD]
 rw [List.getElem?_take, if_pos hj, List.getElem?_drop]
end Ly
theorem TenIn.row {w : World} {S : Option Addr} {b off c d : Nat} {t : Ten} (h : TenIn w S (some ⟨b, off, none⟩) c d t) {m n i : Nat} (hc : t.c.length = m * n) (hi : i < m) : Ints .i64 w (some ⟨b, off + i * n, none⟩) (Ly.rowOf t.c n i) := Ints.of_row fun j hj => by
 rw [Ly.row_len hc hi] at hj
 have h1 : (i + 1) * n ≤ m * n := Nat.mul_le_mul_right _ hi
 rw [Nat.succ_mul] at h1
 obtain ⟨b', off', e, -, hcell⟩ := h.r.2 (i * n + j) (by omega)
 injection e with e; injection e with e1 e2; subst e1 e2
 rw [Nat.add_assoc, hcell, Ly.row_at hj]
theorem one_side {b : Ten} {m : Int} (h : Tn.right b = true) (hs : b.s = [m]) : (b.c.length : Int) = m := by
 simp only [Tn.right, Bool.and_eq_true, decide_eq_true_eq] at h
 rw [h.2, hs]; simp [Safe.prod]
theorem four_boxes (w : World) (t t' t2 t3 : TypeId) (a b z y : Array Value) : Blk ((((w.alloc (.cells a t)).alloc (.cells b t')).alloc (.cells z t2)).alloc (.cells y t3)) w.heap.size t a ∧ Blk ((((w.alloc (.cells a t)).alloc (.cells b t')).alloc (.cells z t2)).alloc (.cells y t3)) (w.heap.size + 1) t' b ∧ Blk ((((w.alloc (.cells a t)).alloc (.cells b t')).alloc (.cells z t2)).alloc (.cells y t3)) (w.heap.size + 2) t2 z ∧ Blk ((((w.alloc (.cells a t)).alloc (.cells b t')).alloc (.cells z t2)).alloc (.cells y t3)) (w.heap.size + 3) t3 y ∧ Later w ((((w.alloc (.cells a t)).alloc (.cells b t')).alloc (.cells z t2)).alloc (.cells y t3)) := by
 obtain ⟨h1, h2, h3, h4⟩ := three_boxes w t t' t2 a b z
 refine ⟨h1.alloc _, h2.alloc _, h3.alloc _, ?_, h4.alloc _⟩
 have := Blk.new (((w.alloc (.cells a t)).alloc (.cells b t')).alloc (.cells z t2)) t3 y
 rwa [World.size_alloc, World.size_alloc, World.size_alloc] at this
set_option maxHeartbeats 8000000 in
theorem dense_go (S C S' C' S2 C2 : Option Addr) (c d c' d' c2 d2 : Nat) (t b x : Ten) (w : World) (ht : TenIn w S C c d t) (hb : TenIn w S' C' c' d' b) (hx : TenIn w S2 C2 c2 d2 x) :
  Calls Tryz.prog 27 #[.agg #[.slice S t.s.length c, .slice C t.c.length d], .agg #[.slice S' b.s.length c', .slice C' b.c.length d'], .agg #[.slice S2 x.s.length c2, .slice C2 x.c.length d2]] w (GoP (Ly.dense t b x) w) := by
 obtain ⟨hk0, hk1, hk2, hz, h01⟩ := four_boxes w 30 30 30 30 #[.slice S t.s.length c, .slice C t.c.length d] #[.slice S' b.s.length c', .slice C' b.c.length d'] #[.slice S2 x.s.length c2, .slice C2 x.c.length d2] #[.slice none 0 0, .slice none 0 0]
 have Hk0 := Lib.hid hk0
 have Hk1 := Lib.hid hk1
 have Hk2 := Lib.hid hk2
 have Hz := Lib.hid hz
 have H01 := Lib.hid h01
 have Ht := Lib.hid ht
 have Hb := Lib.hid hb
 have Hx := Lib.hid hx
 clear hk0 hk1 hk2 hz h01 ht hb hx
 go_enter Tryz.func27, Tryz.ntmps27
 go_wp2_with fail
 generalize (((w.alloc (.cells #[.slice S t.s.length c, .slice C t.c.length d] 30)).alloc (.cells #[.slice S' b.s.length c', .slice C' b.c.length d'] 30)).alloc (.cells #[.slice S2 x.s.length c2, .slice C2 x.c.length d2] 30)).alloc (.cells #[.slice none 0 0, .slice none 0 0] 30) = w1 at *
 refine (dense_agree S C S' C' S2 C2 c d c' d' c2 d2 t b x w1 (Ht.out.later H01.out) (Hb.out.later H01.out) (Hx.out.later H01.out)).mono ?_
 rintro e w2 ⟨rfl, hb2⟩
 have h12 : Later w1 w2 := hb2
 have h02 := H01.out.trans h12
 have hz2 := h12.blk Hz.out
 have hka := h12.blk Hk0.out
 have hkb := h12.blk Hk1.out
 have hkc := h12.blk Hk2.out
 clear hb2 Hz H01 Hk0 Hk1 Hk2 h12
 cases hg : Ly.denseOk t b x
 ·have HE := Lib.hid (Ly.dense_err hg)
  clear hg
  have c0 := hz2.cell 0
  have c1 := hz2.cell 1
  have f0 := hz2.frozen 0
  have f1 := hz2.frozen 1
  simp at c0 c1
  have H02 := Lib.hid h02
  have Hz2 := Lib.hid hz2
  have Hka := Lib.hid hka
  have Hkb := Lib.hid hkb
  have Hkc := Lib.hid hkc
  clear h02 hz2 hka hkb hkc
  go_wp2_with fail
  refine bodyPost_ret (v := .tuple #[.agg #[.slice none 0 0, .slice none 0 0], .int .i64 20]) (by simp [results, Tryz.results27, go_sem, c0, c1]) rfl ?_
  exact GoP.fail HE.out (by decide) ((H02.out.set (p := ⟨w.heap.size + 3, 0, none⟩) (by simp) _).set (p := ⟨w.heap.size + 3, 1, none⟩) (by simp) _)
 obtain ⟨hrt, hl2, hrb, hrx, hbs, hxn⟩ := Ly.dense_yes hg
 obtain ⟨m, n, hm0, hn0, hm1, hn1, hm2, hn2, htc, hmn⟩ := mat_facts hrt hl2
 have HE := Lib.hid (Ly.dense_ok hg)
 have hbl : b.c.length = m := by have := one_side hrb hbs; omega
 have hxl : x.c.length = n := by omega
 obtain ⟨r1, r2⟩ := Ly.right_ok hrb
 rw [hxl] at HE
 generalize hR : (Ly.tab b.c.length fun i => Fx.add (Fx.dot (Ly.rowOf t.c n i) x.c) (Ly.at_ b.c i)) = R at *
 have hRl : R.length = b.c.length := by rw [← hR, Ly.tab_len]
 have hRg : ∀ i (hi : i < R.length), R[i] = Fx.add (Fx.dot (Ly.rowOf t.c n i) x.c) (Ly.at_ b.c i) := fun i hi => by subst hR; exact Ly.tab_get hi
 have hRin : ∀ z ∈ R, Fx.In z := by rw [← hR]; exact Ly.tab_in fun i _ => Fx.add_in _ _
 have x2 := hkb.cell 0
 have x3 := hkb.cell 1
 simp at x2 x3
 have HRl := Lib.hid hRl
 have Hbl := Lib.hid hbl
 have Hxl := Lib.hid hxl
 have Htc := Lib.hid htc
 have Hn0 := Lib.hid hn0
 have Hl2 := Lib.hid hl2
 clear hR hg hrt hrb hrx hbs hxn hm0 hn0 hbl hxl htc hl2 hRl
 have H02 := Lib.hid h02
 have Hz2 := Lib.hid hz2
 have Hka := Lib.hid hka
 have Hkb := Lib.hid hkb
 have Hkc := Lib.hid hkc
 have HRg := Lib.hid hRg
 have HRin := Lib.hid hRin
 clear h02 hz2 hka hkb hkc hRg hRin
 go_wp2_with fail
 have X3 := Lib.hid x3
 clear x2 x3
 refine (tensor_copy S' C' c' d' b w2 (by omega) (by omega) (Hb.out.later H02.out).r).mono ?_
 rintro e w3 ⟨v, rfl, ⟨g, h, rfl, hg, hh, hG, hH⟩, hb3⟩
 have h23 : Later w2 w3 := hb3
 have h3a : Later w3 (w3.alloc (.cells #[.slice (some ⟨g, 0, none⟩) b.s.length b.s.length, .slice (some ⟨h, 0, none⟩) b.c.length b.c.length] 30)) := (Later.refl w3).alloc _
 have ho := Blk.new w3 30 #[.slice (some ⟨g, 0, none⟩) b.s.length b.s.length, .slice (some ⟨h, 0, none⟩) b.c.length b.c.length]
 have h24 := h23.trans h3a
 have h04 := H02.out.trans h24
 have hz4 := h24.blk Hz2.out
 have hka4 := h24.blk Hka.out
 have hkc4 := h24.blk Hkc.out
 have hG4 := h3a.blk hG
 have hH4 := h3a.blk hH
 have hs2 := H02.out.size
 have hs3 := h23.size
 have hhl := hH.lt
 have hgl := hG.lt
 have hzl := Hz2.out.lt
 have hgne := rows_apart hG hH
 have x3 := h24.cell X3.out
 clear hb3 Hz2 Hka Hkb Hkc hG hH X3
 have X3 := Lib.hid x3
 clear x3
 have H23 := Lib.hid h23
 have H3a := Lib.hid h3a
 have Ho := Lib.hid ho
 have H24 := Lib.hid h24
 have H04 := Lib.hid h04
 have Hz4 := Lib.hid hz4
 have Hka4 := Lib.hid hka4
 have Hkc4 := Lib.hid hkc4
 have HG4 := Lib.hid hG4
 have HH4 := Lib.hid hH4
 clear h23 h3a ho h24 h04 hz4 hka4 hkc4 hG4 hH4
 go_upto_region 4 with fail
 generalize w3.alloc (.cells #[.slice (some ⟨g, 0, none⟩) b.s.length b.s.length, .slice (some ⟨h, 0, none⟩) b.c.length b.c.length] 30) = w4 at *
 generalize hpe : w3.heap.size = p at *
 have hph : h < p := by omega
 have hpz : w.heap.size + 3 < p := by omega
 have hhz : w.heap.size + 3 < h := by omega
 have x3 := X3.out
 clear X3 H3a H23 hpe
 go_wp2_with fail
 clear x3
 have hI0 : Blk w4 h 43 ((R.take 0 ++ b.c.drop 0).map (Value.int .i64)).toArray := by simpa using HH4.out
 have HI0 := Lib.hid hI0
 clear hI0
 go_loopw [22] (fun i wx => ∃ k : Nat, k ≤ b.c.length ∧ i = .int .i64 (k : Int) ∧ Blk wx h 43 ((R.take k ++ b.c.drop k).map (Value.int .i64)).toArray ∧ Blk wx p 30 #[.slice (some ⟨g, 0, none⟩) b.s.length b.s.length, .slice (some ⟨h, 0, none⟩) b.c.length b.c.length] ∧ Blk wx (w.heap.size + 3) 30 #[.slice none 0 0, .slice none 0 0] ∧ Blk wx w.heap.size 30 #[.slice S t.s.length c, .slice C t.c.length d] ∧ Blk wx (w.heap.size + 2) 30 #[.slice S2 x.s.length c2, .slice C2 x.c.length d2] ∧ Blk wx g 3 (b.s.map (Value.int .i64)).toArray ∧ Later w wx) (fun i _ => b.c.length - (intOf i).toNat)
 case atStart => exact ⟨0, Nat.zero_le _, rfl, HI0.out, Ho.out, Hz4.out, Hka4.out, Hkc4.out, HG4.out, H04.out⟩
 case round =>
  obtain ⟨k, hk, rfl, hm, hox, hzx, hkx, hxx, hgx, hlw⟩ := hrel
  clear HI0
  by_cases hlt : k < b.c.length
  ·have hkm : k < m := by have := Hbl.out; omega
   have hltR : k < R.length := by have := HRl.out; omega
   obtain ⟨b2, off2, rfl, -, hc2⟩ := (Hb.out.later hlw).cell hlt
   obtain ⟨bt, ot, rfl, -, -⟩ := Ht.out.cell (k := 0) (by have := Htc.out; have : 1 * 1 ≤ m * n := Nat.mul_le_mul hm1 hn1; omega)
   have hst := Ly.mid_step R b.c hltR HRl.out
   have hlen := Ly.mid_len R b.c k (by omega) HRl.out
   have hRk := HRg.out k hltR
   have hbin := Ly.at_in Hb.out.num k
   have hrl := Ly.row_len Htc.out hkm
   have hri := Ly.row_in (n := n) (i := k) Ht.out.num
   have hc1 := fun (V : World) (hV : Later wr V) => dense_line S bt ot c d t m n k V (Ht.out.later (hlw.trans hV)) (by have := Hl2.out; omega) Hn0.out Htc.out hkm hn1 hmn
   have hcd := fun (V : World) (hV : Later wr V) => (show Calls Tryz.prog 61 #[.slice (some ⟨bt, ot + k * n, none⟩) n n, .slice C2 x.c.length d2] V fun e w' => e = .returned (.int .i64 (Fx.dot (Ly.rowOf t.c n k) x.c)) ∧ ∃ q, w' = V.drewN q from by
    have hd := fix_dot (some ⟨bt, ot + k * n, none⟩) C2 n d2 (Ly.rowOf t.c n k) x.c V (by omega) (by have := Hxl.out; omega) ((Ht.out.later (hlw.trans hV)).row Htc.out hkm) (Hx.out.later (hlw.trans hV)).r.2 hri Hx.out.num
    rw [hrl] at hd
    rw [show x.c.length = n from Hxl.out]
    exact hd)
   have hc3 := fun (V : World) => fix_add (Fx.dot (Ly.rowOf t.c n k) x.c) (Ly.at_ b.c k) V (Fx.dot_in _ _) hbin
   rw [hRk] at hst
   generalize Fx.dot (Ly.rowOf t.c n k) x.c = dk at *
   generalize Ly.at_ b.c k = bk at *
   have o1 : wr.cell? ⟨p, 1, none⟩ = some (.slice (some ⟨h, 0, none⟩) b.c.length b.c.length) := by rw [hox.cell]; rfl
   have t0 : wr.cell? ⟨w.heap.size, 0, none⟩ = some (.slice S t.s.length c) := by rw [hkx.cell]; rfl
   have t1 : wr.cell? ⟨w.heap.size, 1, none⟩ = some (.slice (some ⟨bt, ot, none⟩) t.c.length d) := by rw [hkx.cell]; rfl
   have xx1 : wr.cell? ⟨w.heap.size + 2, 1, none⟩ = some (.slice C2 x.c.length d2) := by rw [hxx.cell]; rfl
   obtain ⟨u, hu⟩ : ∃ u, wr.cell? ⟨h, k, none⟩ = some u := ⟨_, hm.row_get (by rw [hlen]; exact hltR)⟩
   have kk1 : (k : Int) < (b.c.length : Int) := by omega
   have kk2 : (0 : Int) ≤ (k : Int) := by omega
   clear hlen hRk hbin hltR hrl hri
   have Hm := Lib.hid hm
   have Hox := Lib.hid hox
   have Hzx := Lib.hid hzx
   have Hkx := Lib.hid hkx
   have Hxx := Lib.hid hxx
   have Hgx := Lib.hid hgx
   have Hst := Lib.hid hst
   have Hc1 := Lib.hid hc1
   have Hcd := Lib.hid hcd
   have Hc3 := Lib.hid hc3
   have Hlw := Lib.hid hlw
   clear hm hox hzx hkx hxx hgx hst hc1 hcd hc3 hlw
   go_wp2_with fail
   have KF := Lib.hid (show ∀ Xw, Later wr Xw → Xw.cell? ⟨p, 1, none⟩ = some (.slice (some ⟨h, 0, none⟩) b.c.length b.c.length) ∧ Xw.cell? ⟨w.heap.size, 0, none⟩ = some (.slice S t.s.length c) ∧ Xw.cell? ⟨w.heap.size, 1, none⟩ = some (.slice (some ⟨bt, ot, none⟩) t.c.length d) ∧ Xw.cell? ⟨w.heap.size + 2, 1, none⟩ = some (.slice C2 x.c.length d2) from fun Xw h => ⟨h.cell o1, h.cell t0, h.cell t1, h.cell xx1⟩)
   refine wp_region_noPanic ?_
   refine wp_region_held_drew (S := fun Xw => Xw.cell? ⟨p, 1, none⟩ = some (.slice (some ⟨h, 0, none⟩) b.c.length b.c.length) ∧ Xw.cell? ⟨w.heap.size, 0, none⟩ = some (.slice S t.s.length c) ∧ Xw.cell? ⟨w.heap.size, 1, none⟩ = some (.slice (some ⟨bt, ot, none⟩) t.c.length d) ∧ Xw.cell? ⟨w.heap.size + 2, 1, none⟩ = some (.slice C2 x.c.length d2)) (by kernel_rfl) (KF.out _ Later.au) (fun hHeld => ?_)
   refine tk 0 ?_
   refine tk 1 ?_
   refine tk 2 ?_
   refine tk 3 ?_
   refine tk 4 ?_
   refine tk 6 ?_
   refine tk 7 ?_
   refine tk 9 ?_
   refine rd 5 fun K hK => ?_
   simp only [ga, gs, gz]
   go_simp
   go_at_call 62; (with_reducible refine (Hc1.out _ (Later.au : Later wr _)).mono ?_); rintro e wa ⟨rfl, hba⟩
   try go_wp2_with fail
   refine hK.out _ _ (KF.out _ Later.au) (fun hHeld => ?_)
   clear hK K
   try simp only [ga, gs, gz, Act.put, sa, sz, ss]
   refine rd 8 fun K hK => ?_
   simp only [ga, gs, gz]
   go_simp
   go_at_call 61; (with_reducible refine (Hcd.out _ (Later.au : Later wr _)).mono ?_); rintro e wb ⟨rfl, qd, rfl⟩
   try go_wp2_with fail
   refine hK.out _ _ (KF.out _ Later.au) (fun hHeld => ?_)
   clear hK K
   try simp only [ga, gs, gz, Act.put, sa, sz, ss]
   refine rd 10 fun K hK => ?_
   simp only [ga, gs, gz]
   go_simp
   go_at_call 63; (with_reducible refine (Hc3.out _).mono ?_); rintro e wc ⟨rfl, rfl⟩; have hu2 := Later.cell (Later.au : Later wr (wa.drewN qd)) hu; have fu2 := (Later.blk (Later.au : Later wr (wa.drewN qd)) Hm.out).frozen k
   try go_wp2_with fail
   refine hK.out _ _ (KF.out _ Later.au) (fun hHeld => ?_)
   clear hK K
   try simp only [ga, gs, gz, Act.put, sa, sz, ss]
   refine tk 11 ?_
   refine rd 12 fun K hK => ?_
   simp only [ga, gs, gz]
   go_simp
   refine hK.out _ _ ?_ (fun hHeld => ?_)
   ·(try dsimp only); (refine ⟨?_, ?_, ?_, ?_⟩ <;> (repeat (refine cell_setfar ?_ (by first | omega | (simp; done) | (simp; omega)))) <;> (refine Later.cell (Later.au : Later wr _) ?_) <;> assumption)
   clear hK K
   try simp only [ga, gs, gz, Act.put, sa, sz, ss]
   clear KF
   refine wpAnyH_done (by kernel_rfl) ?_ _
   refine NoPanic.normal ?_
   have hlx : Later wr (wa.drewN qd) := (Later.au : Later wr (wa.drewN qd))
   have hm2 : Blk ((wa.drewN qd).setCell ⟨h, k, none⟩ (.int .i64 (Fx.add dk bk))) h 43 ((R.take (k + 1) ++ b.c.drop (k + 1)).map (Value.int .i64)).toArray := by
    have := (hlx.blk Hm.out).set_ k (.int .i64 (Fx.add dk bk))
    rw [← Hst.out, List.map_set]
    simpa using this
   have hox2 := (hlx.blk Hox.out).far (p := ⟨h, k, none⟩) (by simp; omega) (.int .i64 (Fx.add dk bk))
   have hzx2 := (hlx.blk Hzx.out).far (p := ⟨h, k, none⟩) (by simp; omega) (.int .i64 (Fx.add dk bk))
   have hkx2 := (hlx.blk Hkx.out).far (p := ⟨h, k, none⟩) (by simp; omega) (.int .i64 (Fx.add dk bk))
   have hxx2 := (hlx.blk Hxx.out).far (p := ⟨h, k, none⟩) (by simp; omega) (.int .i64 (Fx.add dk bk))
   have hgx2 : Blk ((wa.drewN qd).setCell ⟨h, k, none⟩ (.int .i64 (Fx.add dk bk))) g 3 (b.s.map (Value.int .i64)).toArray := (hlx.blk Hgx.out).far (p := ⟨h, k, none⟩) hgne (.int .i64 (Fx.add dk bk))
   have hlw2 := (Hlw.out.trans hlx).set (p := ⟨h, k, none⟩) (by simp; omega) (.int .i64 (Fx.add dk bk))
   have Hm2 := Lib.hid hm2
   have Hox2 := Lib.hid hox2
   have Hzx2 := Lib.hid hzx2
   have Hkx2 := Lib.hid hkx2
   have Hxx2 := Lib.hid hxx2
   have Hgx2 := Lib.hid hgx2
   have Hlw2 := Lib.hid hlw2
   clear hm2 hox2 hzx2 hkx2 hxx2 hgx2 hlw2
   go_wp2_with fail
   go_roundw
   case rel => exact ⟨k + 1, by omega, by go_num, Hm2.out, Hox2.out, Hzx2.out, Hkx2.out, Hxx2.out, Hgx2.out, Hlw2.out⟩
   case measure => simp [intOf]; omega
  ·obtain rfl : k = b.c.length := by omega
   rw [Ly.mid_end R b.c _ HRl.out.symm HRl.out] at hm
   have o0 : wr.cell? ⟨p, 0, none⟩ = some (.slice (some ⟨g, 0, none⟩) b.s.length b.s.length) := by rw [hox.cell]; rfl
   have o1 : wr.cell? ⟨p, 1, none⟩ = some (.slice (some ⟨h, 0, none⟩) b.c.length b.c.length) := by rw [hox.cell]; rfl
   have c0 := hzx.cell 0
   have c1 := hzx.cell 1
   have f0 := hzx.frozen 0
   have f1 := hzx.frozen 1
   simp at c0 c1
   have hz3 := (hzx.set_ 0 (.slice (some ⟨g, 0, none⟩) b.s.length b.s.length)).set_ 1 (.slice (some ⟨h, 0, none⟩) b.c.length b.c.length)
   have d0 := hz3.cell 0
   have d1 := hz3.cell 1
   simp at d0 d1
   have hgz : g ≠ w.heap.size + 3 := by omega
   have hhz : h ≠ w.heap.size + 3 := by omega
   have Hm := Lib.hid hm
   have Hox := Lib.hid hox
   have Hzx := Lib.hid hzx
   have Hkx := Lib.hid hkx
   have Hxx := Lib.hid hxx
   have Hgx := Lib.hid hgx
   have Hlw := Lib.hid hlw
   have Hz3 := Lib.hid hz3
   clear hm hox hzx hkx hxx hgx hlw hz3
   go_wp2_with fail
   refine bodyPost_ret (v := .tuple #[.agg #[.slice (some ⟨g, 0, none⟩) b.s.length b.s.length, .slice (some ⟨h, 0, none⟩) b.c.length b.c.length], .int .i64 0]) (by simp [results, Tryz.results27, go_sem, d0, d1]) rfl ?_
   refine GoP.ok HE.out (TenN.o ⟨g, h, by simp [HRl.out], by omega, by omega, (Hgx.out.far (p := ⟨w.heap.size + 3, 0, none⟩) hgz _).far (p := ⟨w.heap.size + 3, 1, none⟩) hgz _, (Hm.out.far (p := ⟨w.heap.size + 3, 0, none⟩) hhz _).far (p := ⟨w.heap.size + 3, 1, none⟩) hhz _⟩ (by show b.s.length ≤ _; omega) (by have := HRl.out; show R.length ≤ _; omega) HRin.out) ((Hlw.out.set (p := ⟨w.heap.size + 3, 0, none⟩) (by simp) _).set (p := ⟨w.heap.size + 3, 1, none⟩) (by simp) _)
end Go.Proofs.YtbnnpkcfifejmabGreat
namespace Go.Proofs.YtbnnpkcfifejmabGreat
open Go.RowKit
namespace Ly
theorem prod_append (a b : List Int) : Safe.prod (a ++ b) = Safe.prod a * Safe.prod b := by
 induction a with
 | nil => simp [Safe.prod]
 | cons x r ih => simp only [List.cons_append, Safe.prod, ih, Int.mul_assoc]
def poolR (x : Ten) (width step : Int) : List Int × Int := if Tn.right x then Od.pool x.s width step else ([], 20)
theorem poolR_err (x : Ten) (width step : Int) : (poolR x width step).2 = poolErr x width step := by unfold poolR poolErr; split <;> rfl
theorem list_last {l : List Int} (h : 1 ≤ l.length) : ∃ r a, l = r ++ [a] := ⟨l.dropLast, l.getLast (by intro e; subst e; simp at h), (List.dropLast_concat_getLast _).symm⟩
theorem pool_facts {x : Ten} {width step : Int} (h : poolErr x width step = 0) :
  ∃ sd n wd st pre : Nat, lastOf x.s = sd ∧ x.s.getD (x.s.length - 1) 0 = (sd : Int) ∧ lastOf (poolS x width step) = n ∧ (poolS x width step).getD (x.s.length - 1) 0 = (n : Int) ∧ width = (wd : Int) ∧ step = (st : Int) ∧ 1 ≤ wd ∧ wd ≤ sd ∧ 1 ≤ st ∧ 1 ≤ n ∧ (n - 1) * st + wd ≤ sd ∧ x.c.length = pre * sd ∧ span (poolS x width step) = pre * n ∧ (poolS x width step).length = x.s.length ∧ 1 ≤ x.s.length ∧ x.s.length ≤ 4 ∧ Sh.right (poolS x width step) = true ∧ x.c.length ≤ 65536 ∧ pre * n ≤ 65536 ∧ sd ≤ 1024 ∧ n ≤ 1024 ∧ st ≤ 1024 ∧ poolR x width step = (poolS x width step, 0) ∧ (Safe.prod (poolS x width step)) = ((pre * n : Nat) : Int) := by
 unfold poolErr at h
 by_cases hr : Tn.right x = true
 case neg => rw [if_neg hr] at h; omega
 rw [if_pos hr] at h
 have hrr := hr
 simp only [Tn.right, Bool.and_eq_true, decide_eq_true_eq] at hr
 obtain ⟨_, l4, l1, hall, hp1, hp2⟩ := Sh.right_mul hr.1
 obtain ⟨r, a, hra⟩ := list_last l1
 have hR : poolR x width step = Od.pool x.s width step := by unfold poolR; rw [if_pos hrr]
 have hlen : x.s.length = r.length + 1 := by rw [hra]; simp
 have hlast : x.s.getD (x.s.length - 1) 0 = a := by rw [hlen, hra]; simp [List.getD_eq_getElem?_getD]
 have ha := hall a (by rw [hra]; simp)
 unfold Od.pool at h hR
 rw [if_pos hr.1] at h hR
 by_cases hw : (Od.window (x.s.getD (x.s.length - 1) 0) width step).2 = 0
 case neg => rw [if_neg hw] at h; simp at h
 rw [if_pos hw] at hR
 have hS : poolS x width step = x.s.set (x.s.length - 1) (Od.window (x.s.getD (x.s.length - 1) 0) width step).1 := by
  unfold poolS Od.pool
  rw [if_pos hr.1, if_pos hw]
 have hok := Od.window_ok hw
 have hset : poolS x width step = r ++ [(Od.window a width step).1] := by
  rw [hS, hlast, hlen, hra, Nat.add_sub_cancel]
  simp
 have hright : Sh.right (poolS x width step) = true := by
  rw [hS]
  have hi : x.s.length - 1 < x.s.length := by omega
  refine Od.right_set hr.1 hi hok.1 ?_
  have : x.s[x.s.length - 1] = x.s.getD (x.s.length - 1) 0 := by rw [List.getD_eq_getElem?_getD, List.getElem?_eq_getElem hi]; rfl
  rw [this]; exact hok.2
 rw [hlast] at hw hok
 generalize hv : (Od.window a width step).1 = v at *
 have hcond : Sh.side a ∧ Sh.side width ∧ Sh.side step ∧ width ≤ a ∧ v = 1 + (a - width).tdiv step := by
  unfold Od.window at hw hv
  split at hw
  ·rename_i hc
   rw [if_pos hc] at hv
   exact ⟨hc.1, hc.2.1, hc.2.2.1, hc.2.2.2, hv.symm⟩
  ·simp at hw
 obtain ⟨q1, q2, q3, q4, q5⟩ := hcond
 have q1 := (Sh.side_iff _).1 q1
 have q2 := (Sh.side_iff _).1 q2
 have q3 := (Sh.side_iff _).1 q3
 have hv1 : 1 ≤ v ∧ v ≤ a := hok
 have hpre : 1 ≤ Safe.prod r := Safe.prod_pos r (fun z hz => (hall z (by rw [hra]; simp [hz])).1)
 have ha2 : Safe.prod [a] = a := by simp [Safe.prod]
 have hv2 : Safe.prod [v] = v := by simp [Safe.prod]
 have hprod : Safe.prod x.s = Safe.prod r * a := by rw [hra, prod_append, ha2]
 have hprod2 : Safe.prod (poolS x width step) = Safe.prod r * v := by rw [hset, prod_append, hv2]
 obtain ⟨sd, rfl⟩ := Int.eq_ofNat_of_zero_le (show 0 ≤ a by omega)
 obtain ⟨n, rfl⟩ := Int.eq_ofNat_of_zero_le (show 0 ≤ v by omega)
 obtain ⟨wd, rfl⟩ := Int.eq_ofNat_of_zero_le (show 0 ≤ width by omega)
 obtain ⟨st, rfl⟩ := Int.eq_ofNat_of_zero_le (show 0 ≤ step by omega)
 obtain ⟨pre, hpe⟩ := Int.eq_ofNat_of_zero_le (show 0 ≤ Safe.prod r by omega)
 rw [hpe] at hprod hprod2 hpre
 rw [← Int.natCast_mul] at hprod hprod2
 have hns : (n - 1) * st + wd ≤ sd := by
  have h3 : (n : Int) - 1 = ((sd : Int) - (wd : Int)) / (st : Int) := by rw [q5, Int.tdiv_eq_ediv_of_nonneg (by omega)]; omega
  have h4 := Int.ediv_mul_le ((sd : Int) - (wd : Int)) (show (st : Int) ≠ 0 by omega)
  rw [← h3] at h4
  have h5 : (((n - 1) * st : Nat) : Int) = ((n : Int) - 1) * (st : Int) := by rw [Int.natCast_mul]; congr 1; omega
  omega
 have hpn : pre * n ≤ pre * sd := Nat.mul_le_mul_left _ (by omega)
 have hlast2 : (poolS x wd st).getD (x.s.length - 1) 0 = (n : Int) := by rw [hset, hlen, Nat.add_sub_cancel]; simp [List.getD_eq_getElem?_getD]
 have hlen2 : (poolS x wd st).length = x.s.length := by rw [hset, hlen]; simp
 refine ⟨sd, n, wd, st, pre, ?_, hlast, ?_, hlast2, rfl, rfl, by omega, by omega, by omega, by omega, hns, by omega, ?_, hlen2, l1, l4, hright, by omega, by omega, by omega, by omega, by omega, ?_, hprod2⟩
 ·show (x.s.getD (x.s.length - 1) 0).toNat = sd
  rw [hlast]; simp
 ·show ((poolS x wd st).getD ((poolS x wd st).length - 1) 0).toNat = n
  rw [hlen2, hlast2]; simp
 ·unfold span; rw [hprod2]; exact Int.toNat_natCast _
 ·rw [hS]; exact hR
theorem from_bd {sd n wd st pre i : Nat} (hn : 1 ≤ n) (hns : (n - 1) * st + wd ≤ sd) (hi : i < pre * n) : from_ sd n st i + wd ≤ pre * sd := by
 unfold from_
 have h1 : i / n < pre := by rw [Nat.div_lt_iff_lt_mul (by omega)]; exact hi
 have h2 : i % n ≤ n - 1 := by have := Nat.mod_lt i (show 0 < n by omega); omega
 have h3 : i % n * st ≤ (n - 1) * st := Nat.mul_le_mul_right _ h2
 have h4 : (i / n + 1) * sd ≤ pre * sd := Nat.mul_le_mul_right _ h1
 rw [Nat.succ_mul] at h4
 omega
end Ly
set_option maxHeartbeats 1000000 in
theorem pool_agree (kind : Int) (S C : Option Addr) (c d : Nat) (x : Ten) (width step : Int) (w : World) (hk : kind = 1 ∨ kind = 2) (hx : TenIn w S C c d x) :
  Calls Tryz.prog 68 #[.int .i64 kind, .agg #[.slice S x.s.length c, .slice C x.c.length d], .int .i64 width, .int .i64 step] w (ShPost (Ly.poolR x width step) w) := by
 have h01 : Later w (w.alloc (.cells #[.slice S x.s.length c, .slice C x.c.length d] 30)) := (Later.refl w).alloc _
 have hkb := Blk.new w 30 #[.slice S x.s.length c, .slice C x.c.length d]
 have l1 := hx.l1
 have l2 := hx.l2
 have H01 := Lib.hid h01
 have Hkb := Lib.hid hkb
 have Hx := Lib.hid hx
 clear h01 hkb hx
 rcases hk with rfl | rfl
 all_goals
  go_enter Tryz.func68, Tryz.ntmps68
  go_wp2_with fail
  generalize w.alloc (.cells #[.slice S x.s.length c, .slice C x.c.length d] 30) = w1 at *
  refine (tensor_right S C c d x w1 (by omega) (by omega) (Hx.out.later H01.out).r.1).mono ?_
  rintro e w2 ⟨rfl, hb2⟩
  have h12 : Later w1 w2 := hb2
  have hk2 := h12.blk Hkb.out
  have c0 := hk2.cell 0
  simp at c0
  have h02 := H01.out.trans h12
  clear hb2 h12
  cases hr : Tn.right x
  ·have HE := Lib.hid (show Ly.poolR x width step = ([], 20) by unfold Ly.poolR; rw [hr]; rfl)
   clear hr
   have H02 := Lib.hid h02
   have Hk2 := Lib.hid hk2
   clear h02 hk2
   go_wp2_with fail
   go_ret2
   exact ShPost.fail HE.out H02.out
  ·have HE := Lib.hid (show Ly.poolR x width step = Od.pool x.s width step by unfold Ly.poolR; rw [hr]; rfl)
   clear hr
   have H02 := Lib.hid h02
   have Hk2 := Lib.hid hk2
   clear h02 hk2
   go_wp2_with fail
   refine (pool_shape S c x.s width step w2 (by omega) (Hx.out.later H02.out).r.1).mono ?_
   rintro e w3 ⟨A, ac, rfl, hI, hc1, hc2, hf, hb⟩
   have HI := Lib.hid hI
   have HF := Lib.hid hf
   have HB := Lib.hid hb
   clear hI hf hb
   go_wp2_with fail
   go_ret2
   exact ShPost.pass HE.out H02.out HI.out hc1 hc2 HF.out HB.out
set_option maxHeartbeats 1000000 in
theorem pool_window (b off d len : Nat) (sd n wd st pre i : Nat) (w : World) (hd : len ≤ d) (hd2 : d ≤ 9223372036854775807) (hlen : len = pre * sd) (hl : len ≤ 65536) (hn : 1 ≤ n) (hw : 1 ≤ wd) (hns : (n - 1) * st + wd ≤ sd) (hi : i < pre * n) (hpn : pre * n ≤ 65536) (hst : st ≤ 1024) (hn2 : n ≤ 1024) :
  Calls Tryz.prog 69 #[.slice (some ⟨b, off, none⟩) len d, .int .i64 i, .int .i64 sd, .int .i64 n, .int .i64 wd, .int .i64 st] w fun e w' => e = .returned (.slice (some ⟨b, off + Ly.from_ sd n st i, none⟩) wd (d - Ly.from_ sd n st i)) ∧ ∃ q, w' = w.drewN q := by
 have hbd := Ly.from_bd hn hns hi
 rw [← hlen] at hbd
 have hf : Ly.from_ sd n st i = i / n * sd + i % n * st := rfl
 have q1 : i / n ≤ i := Nat.div_le_self _ _
 have q2 := Nat.mod_lt i (show 0 < n by omega)
 have e0 : (i : Int) / (n : Int) = ((i / n : Nat) : Int) := by simp
 have e1 : (i : Int) % (n : Int) = ((i % n : Nat) : Int) := by simp
 rw [hf] at hbd ⊢
 clear hf
 generalize i / n = q at *
 generalize i % n = r at *
 obtain ⟨a, ha⟩ : ∃ a, a = q * sd := ⟨_, rfl⟩
 obtain ⟨z, hz⟩ : ∃ z, z = r * st := ⟨_, rfl⟩
 rw [← ha, ← hz] at hbd ⊢
 have e2 : (q : Int) * (sd : Int) = (a : Int) := by rw [ha]; simp
 have e3 : (r : Int) * (st : Int) = (z : Int) := by rw [hz]; simp
 have k0 : (q : Int) ≤ 65536 := by omega
 have kr : (r : Int) ≤ 1024 := by omega
 have k1 : (0 : Int) ≤ (i : Int) := by omega
 have k2 : (1 : Int) ≤ (n : Int) := by omega
 have k3 : (0 : Int) ≤ (a : Int) + (z : Int) := by omega
 have k4 : (a : Int) + (z : Int) ≤ 131072 := by omega
 have ka : (a : Int) ≤ 65536 := by omega
 have kz : (z : Int) ≤ 65536 := by omega
 have k5 : (a : Int) + (z : Int) + (wd : Int) ≤ (d : Int) := by omega
 have k6 : (wd : Int) ≤ 65536 := by omega
 have k7 : a + z + wd ≤ d := by omega
 have k8 : a + z < d := by omega
 clear ha hz hlen hns hi hpn
 go_enter Tryz.func69, Tryz.ntmps69
 go_wp2_with fail
 go_quiet (fail)
 go_wp2_with fail
 rw [Nat.add_sub_cancel_left]
 go_ret
 exact ⟨rfl, nq, rfl⟩
theorem best_lt {l : List Int} : ∀ {k : Nat}, 1 ≤ k → 0 ≤ Ly.best l k ∧ Ly.best l k < k
 | 0, h => by omega
 | k + 1, _ => by
  unfold Ly.best
  split
  ·omega
  ·rename_i h
   by_cases hk : 1 ≤ k
   ·have := best_lt (l := l) hk
    omega
   ·have : k = 0 := by omega
    subst this
    exact absurd (.inl (show (-1 : Int) < 0 by decide)) h
set_option maxHeartbeats 1000000 in
theorem pool_best (A : Option Addr) (c : Nat) (l : List Int) (w : World) (hl : l.length ≤ 1048576) (hI : Ints .i64 w A l) :
  Calls Tryz.prog 70 #[.slice A l.length c] w fun e w' => e = .returned (.int .i64 (Ly.best l l.length)) ∧ w = w' := by
 have HI := Lib.hid hI
 clear hI
 go_enter Tryz.func70, Tryz.ntmps70
 go_wp2_with fail
 go_loop [3, 8] (fun s i => ∃ k : Nat, k ≤ l.length ∧ i = .int .i64 k ∧ s = .int .i64 (Ly.best l k)) (fun _ i => l.length - (intOf i).toNat)
 case atStart => exact ⟨0, Nat.zero_le _, rfl, rfl⟩
 case round =>
  obtain ⟨k, hk, rfl, rfl⟩ := hrel
  by_cases hlt : k < l.length
  ·obtain ⟨b, off, rfl, -, hc⟩ := HI.out k hlt
   rw [show l.getD k 0 = Ly.at_ l k from rfl] at hc
   by_cases hk0 : k = 0
   ·subst hk0
    have E := Lib.hid (show Ly.best l (0 + 1) = 0 by simp [Ly.best])
    rw [show Ly.best l 0 = -1 from rfl]
    simp only [Nat.add_zero] at hc
    go_wp2_with fail
    go_round
    case rel => exact ⟨0 + 1, by omega, by go_num, by rw [E.out]; rfl⟩
    case measure => simp [intOf]; omega
   ·have hb := best_lt (l := l) (show 1 ≤ k by omega)
    obtain ⟨m, hm⟩ : ∃ m : Nat, Ly.best l k = (m : Int) := ⟨_, (Int.toNat_of_nonneg hb.1).symm⟩
    have hstep : Ly.best l (k + 1) = if Ly.at_ l m < Ly.at_ l k then (k : Int) else (m : Int) := by
     unfold Ly.best
     rw [hm]
     by_cases h2 : Ly.at_ l m < Ly.at_ l k
     ·rw [if_pos (.inr (by simpa using h2)), if_pos h2]
     ·rw [if_neg (by simp only [Int.toNat_natCast]; omega), if_neg h2]
    have hml : m < l.length := by omega
    obtain ⟨b', off', e', -, hc'⟩ := HI.out m hml
    injection e' with e'; injection e' with e1 e2; subst e1 e2
    rw [show l.getD m 0 = Ly.at_ l m from rfl] at hc'
    have km : (m : Int) < (l.length : Int) := by omega
    have km0 : (0 : Int) ≤ (m : Int) := by omega
    rw [hm]
    generalize Ly.at_ l k = x at *
    generalize Ly.at_ l m = y at *
    have HS := Lib.hid hstep
    clear hstep hm hb
    by_cases hxy : y < x
    ·have E := Lib.hid (HS.out.trans (if_pos hxy))
     go_wp2_with fail
     go_round
     case rel => exact ⟨k + 1, by omega, by go_num, by rw [E.out]⟩
     case measure => simp [intOf]; omega
    ·have E := Lib.hid (HS.out.trans (if_neg hxy))
     go_wp2_with fail
     go_round
     case rel => exact ⟨k + 1, by omega, by go_num, by rw [E.out]⟩
     case measure => simp [intOf]; omega
  ·obtain rfl : k = l.length := by omega
   go_wp2_with fail
   go_ret
   exact ⟨rfl, rfl⟩
end Go.Proofs.YtbnnpkcfifejmabGreat
namespace Go.Proofs.YtbnnpkcfifejmabGreat
open Go.RowKit
namespace Ly
theorem pool_err {top : Bool} {x : Ten} {width step : Int} (h : poolErr x width step ≠ 0) : pool top x width step = (none_, poolErr x width step) := by unfold pool; rw [if_neg h]
theorem pool_ok {top : Bool} {x : Ten} {width step : Int} (h : poolErr x width step = 0) : pool top x width step = (⟨poolS x width step, tab (span (poolS x width step)) fun i => poolCell top (win x.c (lastOf x.s) (lastOf (poolS x width step)) width.toNat step.toNat i) width⟩, 0) := by unfold pool; rw [if_pos h]
theorem win_len {c : List Int} {sd n wd st i : Nat} (h : from_ sd n st i + wd ≤ c.length) : (win c sd n wd st i).length = wd := by unfold win; rw [List.length_take, List.length_drop]; omega
theorem win_in {c : List Int} {sd n wd st i : Nat} (h : ∀ z ∈ c, Fx.In z) : ∀ z ∈ win c sd n wd st i, Fx.In z := fun z hz => h z (List.mem_of_mem_drop (List.mem_of_mem_take hz))
theorem win_at {c : List Int} {sd n wd st i j : Nat} (hj : j < wd) : (win c sd n wd st i).getD j 0 = c.getD (from_ sd n st i + j) 0 := by
 unfold win
 simp only [List.getD_eq_getElem?_getD]
 rw [List.getElem?_take, if_pos hj, List.getElem?_drop]
theorem poolCell_in {top : Bool} {l : List Int} {width : Int} (h : ∀ z ∈ l, Fx.In z) : Fx.In (poolCell top l width) := by
 unfold poolCell
 split
 ·exact at_in h _
 ·exact Fx.div_in _ _
theorem poolCell_top (l : List Int) (width : Int) : poolCell true l width = at_ l (best l l.length).toNat := rfl
theorem poolCell_mean (l : List Int) (width : Int) : poolCell false l width = Fx.div (Fx.sum l) (width * 4294967296) := rfl
theorem zeros_len (n : Nat) : (zeros n).length = n := by simp [zeros]
end Ly
theorem TenIn.win {w : World} {S : Option Addr} {b off c d : Nat} {t : Ten} (h : TenIn w S (some ⟨b, off, none⟩) c d t) {sd n wd st i : Nat} (hb : Ly.from_ sd n st i + wd ≤ t.c.length) : Ints .i64 w (some ⟨b, off + Ly.from_ sd n st i, none⟩) (Ly.win t.c sd n wd st i) := Ints.of_row fun j hj => by
 rw [Ly.win_len hb] at hj
 obtain ⟨b', off', e, -, hcell⟩ := h.r.2 (Ly.from_ sd n st i + j) (by omega)
 injection e with e; injection e with e1 e2; subst e1 e2
 rw [Nat.add_assoc, hcell, Ly.win_at hj]
set_option maxHeartbeats 8000000 in
theorem pool_go (top : Bool) (kind : Int) (S C : Option Addr) (c d : Nat) (x : Ten) (width step : Int) (w : World) (hkt : (kind = 1 ∧ top = true) ∨ (kind = 2 ∧ top = false)) (hx : TenIn w S C c d x) :
  Calls Tryz.prog 30 #[.int .i64 kind, .agg #[.slice S x.s.length c, .slice C x.c.length d], .int .i64 width, .int .i64 step] w (GoP (Ly.pool top x width step) w) := by
 obtain ⟨hkx, hz, h01⟩ := two_boxes w 30 30 #[.slice S x.s.length c, .slice C x.c.length d] #[.slice none 0 0, .slice none 0 0]
 have Hkx := Lib.hid hkx
 have Hz := Lib.hid hz
 have H01 := Lib.hid h01
 have Hx := Lib.hid hx
 have Hkt := Lib.hid hkt
 clear hkx hz h01 hx hkt
 go_enter Tryz.func30, Tryz.ntmps30
 go_wp2_with fail
 generalize (w.alloc (.cells #[.slice S x.s.length c, .slice C x.c.length d] 30)).alloc (.cells #[.slice none 0 0, .slice none 0 0] 30) = w1 at *
 refine (pool_agree kind S C c d x width step w1 (by rcases Hkt.out with h | h <;> omega) (Hx.out.later H01.out)).mono ?_
 rintro e w2 ⟨A, ac, rfl, hI, hc1, hc2, hf, hb2⟩
 have h12 : Later w1 w2 := hb2
 have h02 := H01.out.trans h12
 have hz2 := h12.blk Hz.out
 have hkx2 := h12.blk Hkx.out
 clear hb2 Hz H01 Hkx h12 hf
 rw [Ly.poolR_err]
 by_cases hg : Ly.poolErr x width step = 0
 case neg =>
  have HE := Lib.hid (Ly.pool_err (top := top) hg)
  have d1 : (Ly.poolErr x width step == 0) = false := by simpa using hg
  have d2 : (Ly.poolErr x width step != 0) = true := by simpa using hg
  have Hg := Lib.hid hg
  clear hg
  generalize Ly.poolErr x width step = g at *
  generalize (Ly.poolR x width step).1.length = sl at *
  have c0 := hz2.cell 0
  have c1 := hz2.cell 1
  have f0 := hz2.frozen 0
  have f1 := hz2.frozen 1
  simp at c0 c1
  have H02 := Lib.hid h02
  have Hz2 := Lib.hid hz2
  have Hkx2 := Lib.hid hkx2
  have HI := Lib.hid hI
  clear h02 hz2 hkx2 hI
  go_wp2_with fail
  refine bodyPost_ret (v := .tuple #[.agg #[.slice none 0 0, .slice none 0 0], .int .i64 g]) (by simp [results, Tryz.results30, go_sem, c0, c1]) rfl ?_
  exact GoP.fail HE.out Hg.out ((H02.out.set (p := ⟨w.heap.size + 1, 0, none⟩) (by simp) _).set (p := ⟨w.heap.size + 1, 1, none⟩) (by simp) _)
 have HE := Lib.hid (Ly.pool_ok (top := top) hg)
 obtain ⟨sd, n, wd, st, pre, h1, h2, h3, h4, rfl, rfl, h5, h6, h7, h8, h9, h10, h11, h12, h13, h14, h15, h16, h17, h18, h19, h20, h21, h22⟩ := Ly.pool_facts hg
 rw [hg]
 rw [h21] at hI hc1 ⊢
 rw [h1, h3, h11, Int.toNat_natCast, Int.toNat_natCast] at HE
 generalize Ly.poolS x wd st = os at *
 generalize hR : (Ly.tab (pre * n) fun i => Ly.poolCell top (Ly.win x.c sd n wd st i) wd) = R at *
 have hRl : R.length = pre * n := by rw [← hR, Ly.tab_len]
 have hRg : ∀ i (hi : i < R.length), R[i] = Ly.poolCell top (Ly.win x.c sd n wd st i) wd := fun i hi => by subst hR; exact Ly.tab_get hi
 have hxin := Hx.out.num
 have hRin : ∀ z ∈ R, Fx.In z := by rw [← hR]; exact Ly.tab_in fun i _ => Ly.poolCell_in (Ly.win_in hxin)
 have hsp : (Safe.prod os).toNat = pre * n := by rw [h22]; exact Int.toNat_natCast _
 have hol : os.length ≤ 4 := by omega
 obtain ⟨bs, os', rfl, -, y0⟩ := (Hx.out.later h02).r.1 (x.s.length - 1) (by omega)
 obtain ⟨ba, oa, rfl, -, y1⟩ := hI (x.s.length - 1) (by show _ < os.length; omega)
 have HRl := Lib.hid hRl
 have Hsp := Lib.hid hsp
 have H10 := Lib.hid h10
 have H15 := Lib.hid h15
 have H2 := Lib.hid h2
 have H4 := Lib.hid h4
 have H12 := Lib.hid h12
 have y0 : w2.cell? ⟨bs, os' + (x.s.length - 1), none⟩ = some (.int .i64 sd) := by rw [y0, h2]
 have y1 : w2.cell? ⟨ba, oa + (x.s.length - 1), none⟩ = some (.int .i64 n) := by rw [y1]; exact congrArg (fun z => some (Value.int .i64 z)) h4
 have Y0 := Lib.hid y0
 have Y1 := Lib.hid y1
 clear hR hg h1 h2 h3 h4 h10 h11 h12 h15 h21 h22 hRl hsp y0 y1
 have H02 := Lib.hid h02
 have Hz2 := Lib.hid hz2
 have Hkx2 := Lib.hid hkx2
 have HRg := Lib.hid hRg
 have HRin := Lib.hid hRin
 have HI := Lib.hid hI
 have Hxin := Lib.hid hxin
 clear h02 hz2 hkx2 hRg hRin hI hxin
 go_wp2_with fail
 refine (tensor_make (some ⟨ba, oa, none⟩) ac os 0 w2 (by omega) HI.out).mono ?_
 rintro e w3 ⟨hmk, hb3⟩
 rcases hmk with ⟨hbad, -⟩ | ⟨-, v, rfl, g, h, rfl, hg, hh, hG, hH⟩
 ·exact absurd H15.out (by rw [hbad]; decide)
 have h23 : Later w2 w3 := hb3
 have hHb : Blk w3 h 43 ((Ly.zeros (pre * n)).map (Value.int .i64)).toArray := by have := hH; rw [Hsp.out] at this; exact this
 have hln : (List.replicate (Safe.prod os).toNat (0 : Int)).length = pre * n := by rw [Hsp.out, List.length_replicate]
 rw [show ((⟨os, List.replicate (Safe.prod os).toNat 0⟩ : Ten).c.length) = pre * n from hln]
 have h3a : Later w3 (w3.alloc (.cells #[.slice (some ⟨g, 0, none⟩) os.length os.length, .slice (some ⟨h, 0, none⟩) (pre * n) (pre * n)] 30)) := (Later.refl w3).alloc _
 have ho := Blk.new w3 30 #[.slice (some ⟨g, 0, none⟩) os.length os.length, .slice (some ⟨h, 0, none⟩) (pre * n) (pre * n)]
 have h24 := h23.trans h3a
 have h04 := H02.out.trans h24
 have hz4 := h24.blk Hz2.out
 have hkx4 := h24.blk Hkx2.out
 have hG4 := h3a.blk hG
 have hH4 := h3a.blk hHb
 have hs2 := H02.out.size
 have hs3 := h23.size
 have hhl := hHb.lt
 have hgl := hG.lt
 have hzl := Hz2.out.lt
 have hgne := rows_apart hG hHb
 have y0 := h24.cell Y0.out
 have y1 := h24.cell Y1.out
 clear hb3 Hz2 Hkx2 hG hH hHb hln Y0 Y1
 have Y0 := Lib.hid y0
 have Y1 := Lib.hid y1
 clear y0 y1
 have H23 := Lib.hid h23
 have H3a := Lib.hid h3a
 have Ho := Lib.hid ho
 have H24 := Lib.hid h24
 have H04 := Lib.hid h04
 have Hz4 := Lib.hid hz4
 have Hkx4 := Lib.hid hkx4
 have HG4 := Lib.hid hG4
 have HH4 := Lib.hid hH4
 clear h23 h3a ho h24 h04 hz4 hkx4 hG4 hH4
 go_upto_region 5 with fail
 generalize w3.alloc (.cells #[.slice (some ⟨g, 0, none⟩) os.length os.length, .slice (some ⟨h, 0, none⟩) (pre * n) (pre * n)] 30) = w4 at *
 generalize hpe : w3.heap.size = p at *
 have hph : h < p := by omega
 have hpz : w.heap.size + 1 < p := by omega
 have hhz : w.heap.size + 1 < h := by omega
 clear H3a H23 hpe
 rw [show (⟨os, List.replicate (Safe.prod os).toNat 0⟩ : Ten).s.length = os.length from rfl]
 rw [H12.out]
 go_upto_region 7 with fail
 have b0 : w4.cell? ⟨w.heap.size, 0, none⟩ = some (.slice (some ⟨bs, os', none⟩) x.s.length c) := by rw [Hkx4.out.cell]; rfl
 have y0 := Y0.out
 have y1 := Y1.out
 have e1 : IntKind.i64.wrap ((x.s.length : Int) - 1) = (x.s.length : Int) - 1 := IntWalk.i64_in _ (by omega)
 have e2 : (0 : Int) ≤ (x.s.length : Int) - 1 := by omega
 have e3 : (x.s.length : Int) - 1 < (x.s.length : Int) := by omega
 have e4 : ((x.s.length : Int) - 1).toNat = x.s.length - 1 := by omega
 clear Y0 Y1
 go_quiet (fail)
 clear e1 e2 e3 e4 b0 y0 y1
 have o1 : (w4.drewN nq).cell? ⟨p, 1, none⟩ = some (.slice (some ⟨h, 0, none⟩) (pre * n) (pre * n)) := by rw [(Ho.out.drewN nq).cell]; rfl
 have hI0 : Blk w4 h 43 ((R.take 0 ++ (Ly.zeros (pre * n)).drop 0).map (Value.int .i64)).toArray := by simpa using HH4.out
 have hxl4 : x.c.length ≤ d := Hx.out.c1
 have hd2 : d ≤ 9223372036854775807 := Hx.out.c2
 obtain ⟨N, hN⟩ : ∃ N, N = pre * n := ⟨_, rfl⟩
 have HNe := Lib.hid hN
 rw [← hN] at o1 h17 hI0 ⊢
 have hRlN : R.length = N := by rw [hN]; exact HRl.out
 have HRlN := Lib.hid hRlN
 have Hzl := Lib.hid (Ly.zeros_len N)
 have hoN : Blk w4 p 30 #[.slice (some ⟨g, 0, none⟩) os.length os.length, .slice (some ⟨h, 0, none⟩) N N] := by rw [hN]; exact Ho.out
 clear hN hRlN
 have HI0 := Lib.hid hI0
 have HoN := Lib.hid hoN
 clear hI0 hoN
 go_wp2_with fail
 clear o1
 go_loopw [54] (fun i wx => ∃ k : Nat, k ≤ N ∧ i = .int .i64 (k : Int) ∧ Blk wx h 43 ((R.take k ++ (Ly.zeros N).drop k).map (Value.int .i64)).toArray ∧ Blk wx p 30 #[.slice (some ⟨g, 0, none⟩) os.length os.length, .slice (some ⟨h, 0, none⟩) N N] ∧ Blk wx (w.heap.size + 1) 30 #[.slice none 0 0, .slice none 0 0] ∧ Blk wx w.heap.size 30 #[.slice (some ⟨bs, os', none⟩) x.s.length c, .slice C x.c.length d] ∧ Blk wx g 3 (os.map (Value.int .i64)).toArray ∧ Later w wx) (fun i _ => N - (intOf i).toNat)
 case atStart => exact ⟨0, Nat.zero_le _, rfl, HI0.out.drewN _, HoN.out.drewN _, Hz4.out.drewN _, Hkx4.out.drewN _, HG4.out.drewN _, H04.out.drewN _⟩
 case round =>
  obtain ⟨k, hk, rfl, hm, hox, hzx, hkx, hgx, hlw⟩ := hrel
  clear HI0 HoN
  by_cases hlt : k < N
  ·have hltR : k < R.length := by have := HRlN.out; omega
   have hkn : k < pre * n := by have := HNe.out; omega
   have hst := Ly.mid_step R (Ly.zeros N) hltR (HRlN.out.trans Hzl.out.symm)
   have hlen := Ly.mid_len R (Ly.zeros N) k (by omega) (HRlN.out.trans Hzl.out.symm)
   have hRk := HRg.out k hltR
   have hbd := Ly.from_bd (pre := pre) (sd := sd) h8 h9 hkn
   rw [← H10.out] at hbd
   have hwl := Ly.win_len (c := x.c) (sd := sd) (n := n) (wd := wd) (st := st) (i := k) hbd
   have hwi := Ly.win_in (sd := sd) (n := n) (wd := wd) (st := st) (i := k) Hxin.out
   obtain ⟨bc, oc, rfl, hbc, -⟩ := Hx.out.cell (k := 0) (by omega)
   have hWI := fun (V : World) (hV : Later wr V) => (Hx.out.later (hlw.trans hV)).win (sd := sd) (n := n) (st := st) (i := k) (wd := wd) hbd
   have hcw := fun (V : World) => pool_window bc oc d x.c.length sd n wd st pre k V hxl4 hd2 H10.out h16 h8 h5 h9 hkn (by have := HNe.out; omega) h20 h19
   rw [hRk] at hst
   have hyin : Fx.In (Ly.poolCell top (Ly.win x.c sd n wd st k) wd) := Ly.poolCell_in hwi
   have c0 : wr.cell? ⟨w.heap.size, 1, none⟩ = some (.slice (some ⟨bc, oc, none⟩) x.c.length d) := by rw [hkx.cell]; rfl
   have o1 : wr.cell? ⟨p, 1, none⟩ = some (.slice (some ⟨h, 0, none⟩) N N) := by rw [hox.cell]; rfl
   obtain ⟨u, hu⟩ : ∃ u, wr.cell? ⟨h, k, none⟩ = some u := ⟨_, hm.row_get (by rw [hlen]; exact hltR)⟩
   have hfd : Ly.from_ sd n st k + wd ≤ d := by omega
   generalize Ly.from_ sd n st k = fr at *
   generalize Ly.win x.c sd n wd st k = wn at *
   have kk1 : (k : Int) < (N : Int) := by omega
   have kk2 : (0 : Int) ≤ (k : Int) := by omega
   have HU := Lib.hid hu
   have HO1 := Lib.hid o1
   have HWL := Lib.hid hwl
   clear hlen hRk hltR hbd hu o1 hwl
   have Hm := Lib.hid hm
   have Hox := Lib.hid hox
   have Hzx := Lib.hid hzx
   have Hkx := Lib.hid hkx
   have Hgx := Lib.hid hgx
   have Hst := Lib.hid hst
   have Hcw := Lib.hid hcw
   have Hlw := Lib.hid hlw
   have HWI := Lib.hid hWI
   have Hwi := Lib.hid hwi
   have Hyin := Lib.hid hyin
   clear hm hox hzx hkx hgx hst hcw hlw hWI hwi hyin
   go_wp2_with fail
   refine (Hcw.out _).mono ?_
   rintro e wa ⟨rfl, q, rfl⟩
   have hlx : Later wr (wr.drewN q) := (Later.refl wr).drewN q
   have o1 := hlx.cell HO1.out
   have hu := hlx.cell HU.out
   have hWa := HWI.out _ hlx
   have fu := (hlx.blk Hm.out).frozen k
   have hmA := hlx.blk Hm.out
   have hoxA := hlx.blk Hox.out
   have hzxA := hlx.blk Hzx.out
   have hkxA := hlx.blk Hkx.out
   have hgxA := hlx.blk Hgx.out
   have hlwA := Hlw.out.trans hlx
   clear c0 hlx HO1 HU HWI Hm Hox Hzx Hkx Hgx Hlw
   generalize wr.drewN q = wq at *
   have HmA := Lib.hid hmA
   have HoxA := Lib.hid hoxA
   have HzxA := Lib.hid hzxA
   have HkxA := Lib.hid hkxA
   have HgxA := Lib.hid hgxA
   have HlwA := Lib.hid hlwA
   have HWa := Lib.hid hWa
   clear hmA hoxA hzxA hkxA hgxA hlwA hWa
   rcases Hkt.out with ⟨rfl, rfl⟩ | ⟨rfl, rfl⟩
   ·have hbl := best_lt (l := wn) (k := wn.length) (by have := HWL.out; omega)
    obtain ⟨m, hm⟩ : ∃ m : Nat, Ly.best wn wn.length = (m : Int) := ⟨_, (Int.toNat_of_nonneg hbl.1).symm⟩
    have hmw : m < wd := by have := HWL.out; omega
    have hcb := fun (V : World) (hV : Later wq V) => (show Calls Tryz.prog 70 #[.slice (some ⟨bc, oc + fr, none⟩) wd (d - fr)] V fun e w' => e = .returned (.int .i64 (m : Int)) ∧ V = w' from by
     have hd := pool_best (some ⟨bc, oc + fr, none⟩) (d - fr) wn V (by have := HWL.out; omega) (HWa.out.below hV (Nat.le_refl _))
     rw [hm, HWL.out] at hd
     exact hd)
    obtain ⟨bb, ob, e', -, yv⟩ := HWa.out m (by have := HWL.out; omega)
    injection e' with e'; injection e' with e1 e2; subst e1 e2
    have hst2 := Hst.out
    rw [Ly.poolCell_top, hm, Int.toNat_natCast] at hst2
    rw [show wn.getD m 0 = Ly.at_ wn m from rfl] at yv
    generalize Ly.at_ wn m = y at *
    have k3 : (m : Int) < (wd : Int) := by omega
    have k4 : (0 : Int) ≤ (m : Int) := by omega
    have Hst2 := Lib.hid hst2
    clear hst2 hm hbl
    have Hcb := Lib.hid hcb
    clear hcb
    go_wp2_with fail
    have KF := Lib.hid (show ∀ Xw, Later wq Xw → Xw.cell? ⟨p, 1, none⟩ = some (.slice (some ⟨h, 0, none⟩) N N) ∧ Xw.cell? ⟨bc, oc + fr + m, none⟩ = some (.int .i64 y) from fun Xw h => ⟨h.cell o1, h.cell yv⟩)
    refine wp_region_noPanic ?_
    refine wp_region_held_drew (S := fun Xw => Xw.cell? ⟨p, 1, none⟩ = some (.slice (some ⟨h, 0, none⟩) N N) ∧ Xw.cell? ⟨bc, oc + fr + m, none⟩ = some (.int .i64 y)) (by kernel_rfl) (KF.out _ Later.au) (fun hHeld => ?_)
    refine tk 0 ?_
    refine tk 1 ?_
    refine tk 2 ?_
    refine tk 3 ?_
    refine tk 4 ?_
    refine rd 5 fun K hK => ?_
    simp only [ga, gs, gz]
    go_simp
    go_at_call 70; (with_reducible refine (Hcb.out _ (Later.au : Later wq _)).mono ?_); rintro e wb ⟨rfl, rfl⟩
    try go_wp2_with fail
    refine hK.out _ _ (KF.out _ Later.au) (fun hHeld => ?_)
    clear hK K
    try simp only [ga, gs, gz, Act.put, sa, sz, ss]
    refine tk 6 ?_
    refine tk 7 ?_
    refine tk 8 ?_
    refine rd 9 fun K hK => ?_
    simp only [ga, gs, gz]
    go_simp
    refine hK.out _ _ ?_ (fun hHeld => ?_)
    ·(try dsimp only); (refine ⟨?_, ?_⟩ <;> (repeat (refine cell_setfar ?_ (by first | omega | (simp; done) | (simp; omega)))) <;> (refine Later.cell (Later.au : Later wq _) ?_) <;> assumption)
    clear hK K
    try simp only [ga, gs, gz, Act.put, sa, sz, ss]
    clear KF
    refine wpAnyH_done (by kernel_rfl) ?_ _
    refine NoPanic.normal ?_
    have hm2 : Blk (wq.drew.setCell ⟨h, k, none⟩ (.int .i64 y)) h 43 ((R.take (k + 1) ++ (Ly.zeros N).drop (k + 1)).map (Value.int .i64)).toArray := by
     have := (((Later.refl wq).drew).blk HmA.out).set_ k (.int .i64 y)
     rw [← Hst2.out, List.map_set]
     simpa using this
    have hox2 := (((Later.refl wq).drew).blk HoxA.out).far (p := ⟨h, k, none⟩) (by simp; omega) (.int .i64 y)
    have hzx2 := (((Later.refl wq).drew).blk HzxA.out).far (p := ⟨h, k, none⟩) (by simp; omega) (.int .i64 y)
    have hkx2 := (((Later.refl wq).drew).blk HkxA.out).far (p := ⟨h, k, none⟩) (by simp; omega) (.int .i64 y)
    have hgx2 : Blk (wq.drew.setCell ⟨h, k, none⟩ (.int .i64 y)) g 3 (os.map (Value.int .i64)).toArray := (((Later.refl wq).drew).blk HgxA.out).far (p := ⟨h, k, none⟩) hgne (.int .i64 y)
    have hlw2 := (HlwA.out.trans ((Later.refl wq).drew)).set (p := ⟨h, k, none⟩) (by simp; omega) (.int .i64 y)
    have Hm2 := Lib.hid hm2
    have Hox2 := Lib.hid hox2
    have Hzx2 := Lib.hid hzx2
    have Hkx2 := Lib.hid hkx2
    have Hgx2 := Lib.hid hgx2
    have Hlw2 := Lib.hid hlw2
    clear hm2 hox2 hzx2 hkx2 hgx2 hlw2
    go_wp2_with fail
    go_roundw
    case rel => exact ⟨k + 1, by omega, by go_num, Hm2.out, Hox2.out, Hzx2.out, Hkx2.out, Hgx2.out, Hlw2.out⟩
    case measure => simp [intOf]; omega
   ·have hsum := fun (V : World) (hV : Later wq V) => (show Calls Tryz.prog 71 #[.slice (some ⟨bc, oc + fr, none⟩) wd (d - fr)] V fun e w' => e = .returned (.int .i64 (Fx.sum wn)) ∧ V = w' from by
     have hd := fix_sum (some ⟨bc, oc + fr, none⟩) (d - fr) wn V (by have := HWL.out; omega) (HWa.out.below hV (Nat.le_refl _)) Hwi.out
     rw [HWL.out] at hd
     exact hd)
    have hint := fun (V : World) => fix_int (wd : Int) V (by omega) (by omega)
    have hwin : Fx.In ((wd : Int) * 4294967296) := by unfold Fx.In; omega
    have hdiv := fun (V : World) => fix_div (Fx.sum wn) ((wd : Int) * 4294967296) V (Fx.sum_in _) hwin
    have hst2 := Hst.out
    rw [Ly.poolCell_mean] at hst2
    generalize Fx.sum wn = sm at *
    generalize Fx.div sm ((wd : Int) * 4294967296) = y at *
    have Hst2 := Lib.hid hst2
    clear hst2 hwin
    have Hsum := Lib.hid hsum
    have Hint := Lib.hid hint
    have Hdiv := Lib.hid hdiv
    clear hsum hint hdiv
    go_wp2_with fail
    have KF := Lib.hid (show ∀ Xw, Later wq Xw → Xw.cell? ⟨p, 1, none⟩ = some (.slice (some ⟨h, 0, none⟩) N N) from fun Xw h => h.cell o1)
    refine wp_region_noPanic ?_
    refine wp_region_held_drew (S := fun Xw => Xw.cell? ⟨p, 1, none⟩ = some (.slice (some ⟨h, 0, none⟩) N N)) (by kernel_rfl) (KF.out _ Later.au) (fun hHeld => ?_)
    refine tk 0 ?_
    refine tk 1 ?_
    refine tk 2 ?_
    refine tk 3 ?_
    refine tk 5 ?_
    refine rd 4 fun K hK => ?_
    simp only [ga, gs, gz]
    go_simp
    go_at_call 71; (with_reducible refine (Hsum.out _ (Later.au : Later wq _)).mono ?_); rintro e wb ⟨rfl, rfl⟩
    try go_wp2_with fail
    refine hK.out _ _ (KF.out _ Later.au) (fun hHeld => ?_)
    clear hK K
    try simp only [ga, gs, gz, Act.put, sa, sz, ss]
    refine rd 6 fun K hK => ?_
    simp only [ga, gs, gz]
    go_simp
    go_at_call 16; (with_reducible refine (Hint.out _).mono ?_); rintro e wb2 ⟨rfl, rfl⟩
    try go_wp2_with fail
    refine hK.out _ _ (KF.out _ Later.au) (fun hHeld => ?_)
    clear hK K
    try simp only [ga, gs, gz, Act.put, sa, sz, ss]
    refine rd 7 fun K hK => ?_
    simp only [ga, gs, gz]
    go_simp
    go_at_call 72; (with_reducible refine (Hdiv.out _).mono ?_); rintro e wc ⟨rfl, qd, rfl⟩; have hu := Later.cell (Later.au : Later wq (wq.drew.drewN qd)) hu; have fu := (Later.blk (Later.au : Later wq (wq.drew.drewN qd)) HmA.out).frozen k
    try go_wp2_with fail
    refine hK.out _ _ (KF.out _ Later.au) (fun hHeld => ?_)
    clear hK K
    try simp only [ga, gs, gz, Act.put, sa, sz, ss]
    refine tk 8 ?_
    refine rd 9 fun K hK => ?_
    simp only [ga, gs, gz]
    go_simp
    refine hK.out _ _ ?_ (fun hHeld => ?_)
    ·(try dsimp only); ((repeat (refine cell_setfar ?_ (by first | omega | (simp; done) | (simp; omega)))) <;> (refine Later.cell (Later.au : Later wq _) ?_) <;> assumption)
    clear hK K
    try simp only [ga, gs, gz, Act.put, sa, sz, ss]
    clear KF
    refine wpAnyH_done (by kernel_rfl) ?_ _
    refine NoPanic.normal ?_
    have hm2 : Blk ((wq.drewN (1 + qd)).setCell ⟨h, k, none⟩ (.int .i64 y)) h 43 ((R.take (k + 1) ++ (Ly.zeros N).drop (k + 1)).map (Value.int .i64)).toArray := by
     have := (((Later.refl wq).drewN (1 + qd)).blk HmA.out).set_ k (.int .i64 y)
     rw [← Hst2.out, List.map_set]
     simpa using this
    have hox2 := (((Later.refl wq).drewN (1 + qd)).blk HoxA.out).far (p := ⟨h, k, none⟩) (by simp; omega) (.int .i64 y)
    have hzx2 := (((Later.refl wq).drewN (1 + qd)).blk HzxA.out).far (p := ⟨h, k, none⟩) (by simp; omega) (.int .i64 y)
    have hkx2 := (((Later.refl wq).drewN (1 + qd)).blk HkxA.out).far (p := ⟨h, k, none⟩) (by simp; omega) (.int .i64 y)
    have hgx2 : Blk ((wq.drewN (1 + qd)).setCell ⟨h, k, none⟩ (.int .i64 y)) g 3 (os.map (Value.int .i64)).toArray := (((Later.refl wq).drewN (1 + qd)).blk HgxA.out).far (p := ⟨h, k, none⟩) hgne (.int .i64 y)
    have hlw2 := (HlwA.out.trans ((Later.refl wq).drewN (1 + qd))).set (p := ⟨h, k, none⟩) (by simp; omega) (.int .i64 y)
    have Hm2 := Lib.hid hm2
    have Hox2 := Lib.hid hox2
    have Hzx2 := Lib.hid hzx2
    have Hkx2 := Lib.hid hkx2
    have Hgx2 := Lib.hid hgx2
    have Hlw2 := Lib.hid hlw2
    clear hm2 hox2 hzx2 hkx2 hgx2 hlw2
    go_wp2_with fail
    go_roundw
    case rel => exact ⟨k + 1, by omega, by go_num, Hm2.out, Hox2.out, Hzx2.out, Hkx2.out, Hgx2.out, Hlw2.out⟩
    case measure => simp [intOf]; omega
  ·obtain rfl : k = N := by omega
   rw [Ly.mid_end R (Ly.zeros k) k HRlN.out.symm (HRlN.out.trans Hzl.out.symm)] at hm
   have o0 : wr.cell? ⟨p, 0, none⟩ = some (.slice (some ⟨g, 0, none⟩) os.length os.length) := by rw [hox.cell]; rfl
   have o1 : wr.cell? ⟨p, 1, none⟩ = some (.slice (some ⟨h, 0, none⟩) k k) := by rw [hox.cell]; rfl
   have c0 := hzx.cell 0
   have c1 := hzx.cell 1
   have f0 := hzx.frozen 0
   have f1 := hzx.frozen 1
   simp at c0 c1
   have hz3 := (hzx.set_ 0 (.slice (some ⟨g, 0, none⟩) os.length os.length)).set_ 1 (.slice (some ⟨h, 0, none⟩) k k)
   have d0 := hz3.cell 0
   have d1 := hz3.cell 1
   simp at d0 d1
   have hgz : g ≠ w.heap.size + 1 := by omega
   have hhz : h ≠ w.heap.size + 1 := by omega
   have Hm := Lib.hid hm
   have Hox := Lib.hid hox
   have Hzx := Lib.hid hzx
   have Hkx := Lib.hid hkx
   have Hgx := Lib.hid hgx
   have Hlw := Lib.hid hlw
   have Hz3 := Lib.hid hz3
   clear hm hox hzx hkx hgx hlw hz3
   go_wp2_with fail
   refine bodyPost_ret (v := .tuple #[.agg #[.slice (some ⟨g, 0, none⟩) os.length os.length, .slice (some ⟨h, 0, none⟩) k k], .int .i64 0]) (by simp [results, Tryz.results30, go_sem, d0, d1]) rfl ?_
   refine GoP.ok HE.out (TenN.o ⟨g, h, by simp [HRlN.out], by omega, by omega, (Hgx.out.far (p := ⟨w.heap.size + 1, 0, none⟩) hgz _).far (p := ⟨w.heap.size + 1, 1, none⟩) hgz _, (Hm.out.far (p := ⟨w.heap.size + 1, 0, none⟩) hhz _).far (p := ⟨w.heap.size + 1, 1, none⟩) hhz _⟩ (by show os.length ≤ _; omega) (by have := HRlN.out; show R.length ≤ _; omega) HRin.out) ((Hlw.out.set (p := ⟨w.heap.size + 1, 0, none⟩) (by simp) _).set (p := ⟨w.heap.size + 1, 1, none⟩) (by simp) _)
end Go.Proofs.YtbnnpkcfifejmabGreat
namespace Go.Proofs.YtbnnpkcfifejmabGreat
open Go.RowKit
theorem TenIn.val {w : World} {S C : Option Addr} {c d : Nat} {t : Ten} (h : TenIn w S C c d t) (hr : Tn.right t = true) : t.s.length ≤ 4 ∧ t.c.length ≤ 65536 := Ly.right_ok hr
theorem of_gop {t : Ten} {w w' : World} {e : Ending} (h : OfP t w e w') (hn : Ly.In t) : GoP (Ly.of_ t.s t.c) w e w' := by
 obtain ⟨h1, h2⟩ := h
 refine ⟨?_, h2⟩
 rcases h1 with ⟨h3, rfl⟩ | ⟨h3, v, rfl, h4⟩
 ·left
  have : Ly.of_ t.s t.c = (Ly.none_, 20) := by unfold Ly.of_; rw [show (⟨t.s, t.c⟩ : Ten) = t from rfl, if_neg (by rw [h3]; simp)]
  rw [this]
  exact ⟨by decide, rfl⟩
 ·right
  have : Ly.of_ t.s t.c = (t, 0) := by unfold Ly.of_; rw [show (⟨t.s, t.c⟩ : Ten) = t from rfl, if_pos h3]
  rw [this]
  obtain ⟨q1, q2⟩ := Ly.right_ok h3
  exact ⟨rfl, v, rfl, h4.o (by omega) (by omega) hn⟩
set_option maxHeartbeats 2000000 in
theorem move_turn (S C A : Option Addr) (c d ac : Nat) (x : Ten) (s : List Int) (w : World) (hx : TenIn w S C c d x) (hA : Ints .i64 w A s) (hs : s.length ≤ 1048576) :
  Calls Tryz.prog 33 #[.agg #[.slice S x.s.length c, .slice C x.c.length d], .slice A s.length ac] w (GoP (Ly.turn x s) w) := by
 obtain ⟨hkx, hz, h01⟩ := two_boxes w 30 30 #[.slice S x.s.length c, .slice C x.c.length d] #[.slice none 0 0, .slice none 0 0]
 have l1 := hx.l1
 have l2 := hx.l2
 have Hkx := Lib.hid hkx
 have Hz := Lib.hid hz
 have H01 := Lib.hid h01
 have Hx := Lib.hid hx
 have HA := Lib.hid hA
 clear hkx hz h01 hx hA
 go_enter Tryz.func33, Tryz.ntmps33
 go_wp2_with fail
 generalize (w.alloc (.cells #[.slice S x.s.length c, .slice C x.c.length d] 30)).alloc (.cells #[.slice none 0 0, .slice none 0 0] 30) = w1 at *
 refine (tensor_right S C c d x w1 (by omega) (by omega) (Hx.out.later H01.out).r.1).mono ?_
 rintro e w2 ⟨rfl, hb2⟩
 have h12 : Later w1 w2 := hb2
 have h02 := H01.out.trans h12
 have hz2 := h12.blk Hz.out
 have hkx2 := h12.blk Hkx.out
 clear hb2 Hz H01 Hkx h12
 cases hr : Tn.right x
 ·have HE := Lib.hid (show Ly.turn x s = (Ly.none_, 20) by unfold Ly.turn; rw [hr]; rfl)
  clear hr
  have c0 := hz2.cell 0
  have c1 := hz2.cell 1
  have f0 := hz2.frozen 0
  have f1 := hz2.frozen 1
  simp at c0 c1
  have H02 := Lib.hid h02
  have Hz2 := Lib.hid hz2
  have Hkx2 := Lib.hid hkx2
  clear h02 hz2 hkx2
  go_wp2_with fail
  refine bodyPost_ret (v := .tuple #[.agg #[.slice none 0 0, .slice none 0 0], .int .i64 20]) (by simp [results, Tryz.results33, go_sem, c0, c1]) rfl ?_
  exact GoP.fail HE.out (by decide) ((H02.out.set (p := ⟨w.heap.size + 1, 0, none⟩) (by simp) _).set (p := ⟨w.heap.size + 1, 1, none⟩) (by simp) _)
 ·have HE := Lib.hid (show Ly.turn x s = Ly.of_ s x.c by unfold Ly.turn; rw [hr]; rfl)
  clear hr
  have x1 := hkx2.cell 1
  simp at x1
  have hn := Hx.out.num
  have hTA : TenR w2 A C ⟨s, x.c⟩ := ⟨HA.out.below h02 (Nat.le_refl _), (Hx.out.later h02).r.2⟩
  have hcall := (tensor_of A C ac d ⟨s, x.c⟩ w2 hs l2 hTA).mono (fun e w' h => of_gop h hn)
  rw [← show Ly.turn x s = Ly.of_ s x.c from HE.out] at hcall
  have Hz2 := Lib.hid hz2
  have Hkx2 := Lib.hid hkx2
  have H02 := Lib.hid h02
  have Hcall := Lib.hid hcall
  clear hz2 hkx2 h02 hcall hTA hn
  go_wp2_with fail
  clear x1
  refine (Hcall.out).mono ?_
  rintro e wf hgo
  have hlf : Later w2 wf := hgo.2
  have hzf := hlf.blk Hz2.out
  have h0f := H02.out.trans hlf
  have f0 := hzf.frozen 0
  have f1 := hzf.frozen 1
  have hpz : w.heap.size ≤ w.heap.size + 1 := by first | exact Nat.le_refl _ | simp | omega
  rcases hgo.1 with ⟨hne, rfl⟩ | ⟨hn0, v, rfl, hten⟩
  ·have c0 := hzf.cell 0
   have c1 := hzf.cell 1
   simp at c0 c1
   have Hne0 := hne
   generalize hge : (Ly.turn x s).2 = ge at *
   have Hge := Lib.hid hge
   have Hne := Lib.hid Hne0
   clear Hne0
   clear hgo hne hlf hge
   have HZf := Lib.hid hzf
   have HLf := Lib.hid h0f
   clear hzf h0f
   go_wp2_with fail
   refine bodyPost_ret (v := .tuple #[.agg #[.slice none 0 0, .slice none 0 0], .int .i64 ge]) (by simp [results, Tryz.results33, go_sem, c0, c1]) rfl ?_
   exact GoP.fail2 Hge.out Hne.out ((HLf.out.set (p := ⟨w.heap.size + 1, 0, none⟩) hpz _).set (p := ⟨w.heap.size + 1, 1, none⟩) hpz _)
  ·have hto := hten.base (H02.out.size)
   clear hgo hten
   obtain ⟨S2, c2, C2, d2, rfl, hti, hs2, hc2⟩ := hto
   have hz3 := (hzf.set_ 0 (.slice S2 (Ly.turn x s).1.s.length c2)).set_ 1 (.slice C2 (Ly.turn x s).1.c.length d2)
   have d0 := hz3.cell 0
   have d1 := hz3.cell 1
   simp at d0 d1
   have c0 := hzf.cell 0
   have c1 := hzf.cell 1
   simp at c0 c1
   have Hn0 := Lib.hid hn0
   have HZ3 := Lib.hid hz3
   have HZf := Lib.hid hzf
   have HLf := Lib.hid h0f
   have HLF := Lib.hid hlf
   have HTI := Lib.hid hti
   have HS2 := Lib.hid hs2
   have HC2 := Lib.hid hc2
   clear hz3 hzf h0f hlf hti hs2 hc2 hn0
   go_wp2_with fail
   refine bodyPost_ret (v := .tuple #[.agg #[.slice S2 (Ly.turn x s).1.s.length c2, .slice C2 (Ly.turn x s).1.c.length d2], .int .i64 0]) (by simp [results, Tryz.results33, go_sem, d0, d1]) rfl ?_
   exact ⟨.inr ⟨Hn0.out, _, rfl, TenO.box ⟨S2, c2, C2, d2, rfl, HTI.out, HS2.out, HC2.out⟩ HZf.out⟩, (HLf.out.set (p := ⟨w.heap.size + 1, 0, none⟩) hpz _).set (p := ⟨w.heap.size + 1, 1, none⟩) hpz _⟩
end Go.Proofs.YtbnnpkcfifejmabGreat
namespace Go.Proofs.YtbnnpkcfifejmabGreat
open Go.RowKit
namespace Ly
theorem cut_facts {x : Ten} {sd frm til : Int} (hr : Tn.right x = true) (h : (Od.cut x.s sd frm til).2 = 0) :
  ∃ k S f t inner pre : Nat, sd = (k : Int) ∧ frm = (f : Int) ∧ til = (t : Int) ∧ k < x.s.length ∧ x.s.getD k 0 = (S : Int) ∧ f < t ∧ t ≤ S ∧ S ≤ 1024 ∧ 1 ≤ inner ∧ 1 ≤ pre ∧ (Od.cut x.s sd frm til).1 = x.s.set k ((t - f : Nat) : Int) ∧ Safe.prod ((x.s.set k ((t - f : Nat) : Int)).drop (k + 1)) = (inner : Int) ∧ Safe.prod (x.s.set k ((t - f : Nat) : Int)) = ((pre * ((t - f) * inner) : Nat) : Int) ∧ x.c.length = pre * (S * inner) ∧ x.c.length ≤ 65536 ∧ x.s.length ≤ 4 ∧ (∀ z ∈ x.s.set k ((t - f : Nat) : Int), 1 ≤ z ∧ z ≤ 1024) := by
 simp only [Tn.right, Bool.and_eq_true, decide_eq_true_eq] at hr
 obtain ⟨_, l4, l1, hall, hp1, hp2⟩ := Sh.right_mul hr.1
 unfold Od.cut at h ⊢
 rw [if_pos hr.1] at h ⊢
 by_cases hc : (Od.inR sd x.s && decide (0 ≤ frm ∧ til ≤ Od.at_ x.s sd ∧ frm < til)) = true
 case neg => rw [if_neg hc] at h; simp at h
 rw [if_pos hc]
 simp only [Od.inR, Bool.and_eq_true, decide_eq_true_eq] at hc
 obtain ⟨⟨h1, h2⟩, h3, h4, h5⟩ := hc
 obtain ⟨k, rfl⟩ := Int.eq_ofNat_of_zero_le h1
 obtain ⟨f, rfl⟩ := Int.eq_ofNat_of_zero_le h3
 obtain ⟨t, rfl⟩ := Int.eq_ofNat_of_zero_le (show 0 ≤ til by omega)
 have hk : k < x.s.length := by omega
 have hat : Od.at_ x.s (k : Int) = x.s[k] := by unfold Od.at_; rw [Int.toNat_natCast, List.getD_eq_getElem?_getD, List.getElem?_eq_getElem hk]; rfl
 have hkb := hall _ (List.getElem_mem hk)
 rw [hat] at h4
 obtain ⟨S, hS⟩ := Int.eq_ofNat_of_zero_le (show 0 ≤ x.s[k] by omega)
 have hsplit : x.s = x.s.take k ++ (x.s[k] :: x.s.drop (k + 1)) := by rw [← List.drop_eq_getElem_cons hk, List.take_append_drop]
 have hset : ∀ v : Int, x.s.set k v = x.s.take k ++ (v :: x.s.drop (k + 1)) := fun v => by rw [List.set_eq_take_append_cons_drop, if_pos hk]
 have hpre : 1 ≤ Safe.prod (x.s.take k) := Safe.prod_pos _ (fun z hz => (hall z (List.mem_of_mem_take hz)).1)
 have hin : 1 ≤ Safe.prod (x.s.drop (k + 1)) := Safe.prod_pos _ (fun z hz => (hall z (List.mem_of_mem_drop hz)).1)
 obtain ⟨pre, hpe⟩ := Int.eq_ofNat_of_zero_le (show 0 ≤ Safe.prod (x.s.take k) by omega)
 obtain ⟨inner, hie⟩ := Int.eq_ofNat_of_zero_le (show 0 ≤ Safe.prod (x.s.drop (k + 1)) by omega)
 have hpr : ∀ v : Int, Safe.prod (x.s.set k v) = (pre : Int) * (v * (inner : Int)) := fun v => by rw [hset, prod_append, hpe]; simp only [Safe.prod, hie]
 have hsub : (t : Int) - (f : Int) = ((t - f : Nat) : Int) := by omega
 have hx : Safe.prod x.s = (pre : Int) * ((S : Int) * (inner : Int)) := by
  have h7 := hpr x.s[k]
  rw [List.set_getElem_self, hS] at h7
  exact h7
 refine ⟨k, S, f, t, inner, pre, rfl, rfl, rfl, hk, ?_, by omega, by omega, by omega, by omega, by omega, ?_, ?_, ?_, ?_, by omega, l4, ?_⟩
 ·rw [List.getD_eq_getElem?_getD, List.getElem?_eq_getElem hk]; exact hS
 ·rw [Int.toNat_natCast, hsub]
 ·rw [List.drop_set_of_lt (by omega)]; exact hie
 ·rw [hpr, Int.natCast_mul, Int.natCast_mul]
 ·have : ((pre * (S * inner) : Nat) : Int) = Safe.prod x.s := by rw [hx, Int.natCast_mul, Int.natCast_mul]
  omega
 ·intro z hz
  rcases List.mem_or_eq_of_mem_set hz with h | h
  ·exact hall z h
  ·omega
theorem cut_right {x : Ten} {sd frm til : Int} (h : Tn.right x = false) : cut x sd frm til = (none_, 20) := by unfold cut; rw [h]; rfl
theorem cut_err {x : Ten} {sd frm til : Int} (h : Tn.right x = true) (h2 : (Od.cut x.s sd frm til).2 ≠ 0) : cut x sd frm til = (none_, (Od.cut x.s sd frm til).2) := by unfold cut; rw [if_pos h, if_neg h2]
theorem cut_ok {x : Ten} {sd frm til : Int} (h : Tn.right x = true) (h2 : (Od.cut x.s sd frm til).2 = 0) : cut x sd frm til = (⟨(Od.cut x.s sd frm til).1, cutRows x.c (side x.s sd.toNat * span ((Od.cut x.s sd frm til).1.drop (sd.toNat + 1))) (frm.toNat * span ((Od.cut x.s sd frm til).1.drop (sd.toNat + 1))) ((til.toNat - frm.toNat) * span ((Od.cut x.s sd frm til).1.drop (sd.toNat + 1))) (x.c.length / (side x.s sd.toNat * span ((Od.cut x.s sd frm til).1.drop (sd.toNat + 1))))⟩, 0) := by unfold cut; rw [if_pos h, if_pos h2]
theorem rows_succ (c : List Int) (row a n k : Nat) : cutRows c row a n (k + 1) = cutRows c row a n k ++ (c.drop (k * row + a)).take n := by
 unfold cutRows
 rw [List.range_succ, List.flatMap_append]
 simp
theorem rows_len {c : List Int} {row a n k : Nat} (h : ∀ i, i < k → i * row + a + n ≤ c.length) : (cutRows c row a n k).length = k * n := by
 induction k with
 | zero => simp [cutRows]
 | succ k ih =>
  rw [rows_succ, List.length_append, ih (fun i hi => h i (by omega)), List.length_take, List.length_drop, Nat.succ_mul]
  have := h k (by omega)
  omega
theorem rows_in {c : List Int} {row a n k : Nat} (h : ∀ z ∈ c, Fx.In z) : ∀ z ∈ cutRows c row a n k, Fx.In z := fun z hz => by
 unfold cutRows at hz
 obtain ⟨i, _, hz⟩ := List.mem_flatMap.1 hz
 exact h z (List.mem_of_mem_drop (List.mem_of_mem_take hz))
end Ly
theorem tensor_span (A : Option Addr) (c : Nat) (l : List Int) (w : World) (hl : l.length ≤ 1048576) (hI : Ints .i64 w A l) (h1 : ∀ z ∈ l, 1 ≤ z ∧ z ≤ 1024) (hp : Safe.prod l ≤ 65536) :
  Calls Tryz.prog 115 #[.slice A l.length c] w fun e w' => e = .returned (.int .i64 (Safe.prod l)) ∧ w = w' := by
 have hpos := fun k => Safe.prod_pos (l.take k) (fun z hz => (h1 z (List.mem_of_mem_take hz)).1)
 have hle := fun k => Safe.prod_take_le l k (fun z hz => (h1 z hz).1)
 have hsu := fun k hk => Safe.prod_take_succ l k hk
 have HI := Lib.hid hI
 have Hpos := Lib.hid hpos
 have Hle := Lib.hid hle
 have Hsu := Lib.hid hsu
 clear hI hpos hle hsu
 clear h1
 go_enter Tryz.func115, Tryz.ntmps115
 go_wp2_with fail
 go_loop [3, 8] (fun s i => ∃ k : Nat, k ≤ l.length ∧ i = .int .i64 k ∧ s = .int .i64 (Safe.prod (l.take k))) (fun _ i => l.length - (intOf i).toNat)
 case atStart => exact ⟨0, Nat.zero_le _, rfl, rfl⟩
 case round =>
  obtain ⟨k, hk, rfl, rfl⟩ := hrel
  by_cases hlt : k < l.length
  ·obtain ⟨b, off, rfl, -, hc⟩ := HI.out k hlt
   rw [get_at hlt] at hc
   have q1 := Hpos.out k
   have q2 := Hle.out k
   have q3 := Hpos.out (k + 1)
   have q4 := Hle.out (k + 1)
   have q5 := Hsu.out k hlt
   obtain ⟨P', hP⟩ : ∃ P', P' = Safe.prod (l.take (k + 1)) := ⟨_, rfl⟩
   rw [← hP] at q3 q4 q5
   have HP := Lib.hid hP
   clear hP
   generalize Safe.prod (l.take k) = P at *
   have e1 : P * l[k] = P' := q5.symm
   generalize l[k] = z at *
   clear q5
   go_wp2_with fail
   go_round
   case rel => exact ⟨k + 1, by omega, by go_num, by rw [← HP.out]⟩
   case measure => simp [intOf]; omega
  ·obtain rfl : k = l.length := by omega
   rw [List.take_length]
   go_wp2_with fail
   go_ret
   exact ⟨rfl, rfl⟩
end Go.Proofs.YtbnnpkcfifejmabGreat
namespace Go.Proofs.YtbnnpkcfifejmabGreat
open Go.RowKit
theorem Later.grown {w w1 w2 : World} {row : Option Nat} (h : Later w w1) (hg : w1.grownBy w2 row) (hs : w.heap.size ≤ w1.heap.size) (hr : ∀ b, row = some b → w.heap.size ≤ b) : Later w w2 := Below.grown h hg hs hr
theorem TenO.of_row {B : Nat} {w : World} {S : Option Addr} {c : Nat} {v : Value} {s l : List Int} {e : TypeId} (hown : w.ownsRow B e 1 v l.length (l.map (Value.int .i64))) (hS : Ints .i64 w S s) (h1 : s.length ≤ c) (h2 : c ≤ 9223372036854775807) (hb : ∀ a, S = some a → B ≤ a.block) (l1 : s.length ≤ 1048576) (l2 : l.length ≤ 1048576) (hpos : 0 < l.length) (hin : ∀ z ∈ l, Fx.In z) :
  ∃ C d, v = .slice C l.length d ∧ TenO B w (.agg #[.slice S s.length c, v]) ⟨s, l⟩ := by
 rcases hown.2 with ⟨_, h0⟩ | ⟨g, cap, cur, rfl, hg, hh, hc, hm, hr⟩
 ·omega
 ·obtain ⟨A, c', hv, -, hI⟩ := Ints.of_own hown
  injection hv with e1 e2 e3
  subst e1 e3
  refine ⟨_, _, rfl, S, c, _, _, rfl, ⟨⟨hS, hI⟩, h1, h2, hc, by unfold maxLen at hm; omega, l1, l2, hin⟩, hb, fun a e => ?_⟩
  injection e with e
  subst e
  exact ⟨hg, lt_of_block hh, fun j => by simp [World.frozen?, hh]⟩
theorem Ints.drop_ {w : World} {b off : Nat} {l : List Int} (h : Ints .i64 w (some ⟨b, off, none⟩) l) (k : Nat) : Ints .i64 w (some ⟨b, off + k, none⟩) (l.drop k) := Ints.of_row fun j hj => by
 rw [List.length_drop] at hj
 obtain ⟨b', o', e', -, hc⟩ := h (k + j) (by omega)
 injection e' with e'; injection e' with e1 e2; subst e1 e2
 rw [Nat.add_assoc, hc]
 simp [List.getD_eq_getElem?_getD]
set_option maxRecDepth 4000 in
set_option maxHeartbeats 8000000 in
theorem tensor_cut (S C : Option Addr) (c d : Nat) (x : Ten) (sd frm til : Int) (w : World) (hx : TenIn w S C c d x) :
  Calls Tryz.prog 74 #[.agg #[.slice S x.s.length c, .slice C x.c.length d], .int .i64 sd, .int .i64 frm, .int .i64 til] w (GoP (Ly.cut x sd frm til) w) := by
 obtain ⟨i0, hi, hz0, hz1, hz2⟩ := info_parts fix_info
 obtain ⟨hkx, hz, h01⟩ := two_boxes w 30 30 #[.slice S x.s.length c, .slice C x.c.length d] #[.slice none 0 0, .slice none 0 0]
 have l1 := hx.l1
 have l2 := hx.l2
 have Hkx := Lib.hid hkx
 have Hz := Lib.hid hz
 have H01 := Lib.hid h01
 have Hx := Lib.hid hx
 clear hkx hz h01 hx
 go_enter Tryz.func74, Tryz.ntmps74
 go_wp2_with fail
 generalize (w.alloc (.cells #[.slice S x.s.length c, .slice C x.c.length d] 30)).alloc (.cells #[.slice none 0 0, .slice none 0 0] 30) = w1 at *
 refine (tensor_right S C c d x w1 (by omega) (by omega) (Hx.out.later H01.out).r.1).mono ?_
 rintro e w2 ⟨rfl, hb2⟩
 have h12 : Later w1 w2 := hb2
 have h02 := H01.out.trans h12
 have hz2 := h12.blk Hz.out
 have hkx2 := h12.blk Hkx.out
 clear hb2 Hz H01 Hkx h12
 cases hr : Tn.right x
 ·have HE := Lib.hid (Ly.cut_right (sd := sd) (frm := frm) (til := til) hr)
  clear hr
  have c0 := hz2.cell 0
  have c1 := hz2.cell 1
  have f0 := hz2.frozen 0
  have f1 := hz2.frozen 1
  simp at c0 c1
  have H02 := Lib.hid h02
  have Hz2 := Lib.hid hz2
  have Hkx2 := Lib.hid hkx2
  clear h02 hz2 hkx2
  go_wp2_with fail
  refine bodyPost_ret (v := .tuple #[.agg #[.slice none 0 0, .slice none 0 0], .int .i64 20]) (by simp [results, Tryz.results74, go_sem, c0, c1]) rfl ?_
  exact GoP.fail HE.out (by decide) ((H02.out.set (p := ⟨w.heap.size + 1, 0, none⟩) (by simp) _).set (p := ⟨w.heap.size + 1, 1, none⟩) (by simp) _)
 have x0 := hkx2.cell 0
 simp at x0
 have H02 := Lib.hid h02
 have Hz2 := Lib.hid hz2
 have Hkx2 := Lib.hid hkx2
 clear h02 hz2 hkx2
 go_wp2_with fail
 clear x0
 refine (shape_cut S c x.s sd frm til w2 (by omega) (Hx.out.later H02.out).r.1).mono ?_
 rintro e w3 ⟨A, ac, rfl, hI, hc1, hc2, hf, hb3⟩
 have h23 : Later w2 w3 := hb3
 have h03 := H02.out.trans h23
 have hz3 := h23.blk Hz2.out
 have hkx3 := h23.blk Hkx2.out
 clear hb3 Hz2 Hkx2
 by_cases hg : (Od.cut x.s sd frm til).2 = 0
 case neg =>
  have HE := Lib.hid (Ly.cut_err hr hg)
  have Hg := Lib.hid hg
  have d1 : ((Od.cut x.s sd frm til).2 == 0) = false := by simpa using hg
  have d2 : ((Od.cut x.s sd frm til).2 != 0) = true := by simpa using hg
  clear hg hr hf
  generalize (Od.cut x.s sd frm til).2 = ge at *
  generalize (Od.cut x.s sd frm til).1 = os at *
  have c0 := hz3.cell 0
  have c1 := hz3.cell 1
  have f0 := hz3.frozen 0
  have f1 := hz3.frozen 1
  simp at c0 c1
  have H03 := Lib.hid h03
  have Hz3 := Lib.hid hz3
  have Hkx3 := Lib.hid hkx3
  have HI := Lib.hid hI
  have H23 := Lib.hid h23
  clear h03 hz3 hkx3 hI h23
  go_wp2_with fail
  refine bodyPost_ret (v := .tuple #[.agg #[.slice none 0 0, .slice none 0 0], .int .i64 ge]) (by simp [results, Tryz.results74, go_sem, c0, c1]) rfl ?_
  exact GoP.fail HE.out Hg.out ((H03.out.set (p := ⟨w.heap.size + 1, 0, none⟩) (by simp) _).set (p := ⟨w.heap.size + 1, 1, none⟩) (by simp) _)
 have HE := Lib.hid (Ly.cut_ok hr hg)
 obtain ⟨k, S', f, t, inner, pre, rfl, rfl, rfl, hk, hS, hft, htS, hS2, hin, hpre, hcs, hci, hcp, hxl, hxl2, hsl, hsb⟩ := Ly.cut_facts hr hg
 rw [hg]
 rw [hcs] at hI hc1 HE ⊢
 have hol : (x.s.set k ((t - f : Nat) : Int)).length = x.s.length := List.length_set
 rw [Int.toNat_natCast, Int.toNat_natCast, Int.toNat_natCast] at HE
 have hsd : Ly.side x.s k = S' := by show (x.s.getD k 0).toNat = S'; rw [hS]; exact Int.toNat_natCast _
 have hspn : Ly.span ((x.s.set k ((t - f : Nat) : Int)).drop (k + 1)) = inner := by unfold Ly.span; rw [hci]; exact Int.toNat_natCast _
 rw [hsd, hspn] at HE
 obtain ⟨bs, os', rfl, -, y00⟩ := (Hx.out.later h03).r.1 k hk
 have y0 : w3.cell? ⟨bs, os' + k, none⟩ = some (.int .i64 S') := by rw [y00, hS]
 clear y00
 generalize x.s.set k ((t - f : Nat) : Int) = os at *
 obtain ⟨row, hrow⟩ : ∃ row, row = S' * inner := ⟨_, rfl⟩
 obtain ⟨a, ha⟩ : ∃ a, a = f * inner := ⟨_, rfl⟩
 obtain ⟨b, hb⟩ : ∃ b, b = t * inner := ⟨_, rfl⟩
 have hpart : (t - f) * inner = b - a := by rw [ha, hb, Nat.sub_mul]
 have hab : a < b := by rw [ha, hb]; exact Nat.mul_lt_mul_of_pos_right hft hin
 have hbr : b ≤ row := by rw [hb, hrow]; exact Nat.mul_le_mul_right _ htS
 have hrow1 : 1 ≤ row := by omega
 rw [hpart, ← hrow, ← ha] at HE
 rw [← hrow] at hxl
 rw [hpart] at hcp
 have hdiv : x.c.length / row = pre := by rw [hxl]; exact Nat.mul_div_cancel _ hrow1
 rw [hdiv] at HE
 have hM : pre * (b - a) ≤ 65536 := by
  have : pre * (b - a) ≤ pre * row := Nat.mul_le_mul_left _ (by omega)
  omega
 have hrowle : row ≤ 65536 := by
  have : 1 * row ≤ pre * row := Nat.mul_le_mul_right _ hpre
  omega
 have e1 : (S' : Int) * (inner : Int) = (row : Int) := by rw [hrow]; simp
 have e2 : (f : Int) * (inner : Int) = (a : Int) := by rw [ha]; simp
 have e3 : (t : Int) * (inner : Int) = (b : Int) := by rw [hb]; simp
 have hinl : inner ≤ 65536 := by
  have : 1 * inner ≤ S' * inner := Nat.mul_le_mul_right _ (by omega)
  omega
 have hprel : pre ≤ 65536 := by
  have : pre * 1 ≤ pre * row := Nat.mul_le_mul_left _ hrow1
  omega
 have hIb := hI
 obtain ⟨ba, oa, rfl, hba, -⟩ := hIb 0 (by omega)
 have hob : os.length ≤ 4 := by omega
 have hdrop := hI.drop_ (k + 1)
 have hdl : (os.drop (k + 1)).length = os.length - (k + 1) := List.length_drop
 have hnil : ac = k + 1 → os.drop (k + 1) = [] := fun h => List.drop_eq_nil_of_le (h ▸ hc1)
 have hdb : ∀ z ∈ os.drop (k + 1), 1 ≤ z ∧ z ≤ 1024 := fun z hz => hsb z (List.mem_of_mem_drop hz)
 have hf0 := hf
 have E1 := Lib.hid e1
 have E2 := Lib.hid e2
 have E3 := Lib.hid e3
 have Hci := Lib.hid hci
 have Hcp := Lib.hid hcp
 have Hxl := Lib.hid hxl
 have Hol := Lib.hid hol
 have Hdl := Lib.hid hdl
 have Hy0 := Lib.hid y0
 have Hnil := Lib.hid hnil
 have Hdb := Lib.hid hdb
 have Hsb := Lib.hid hsb
 have Hf := Lib.hid hf
 have Hpart := Lib.hid hpart
 clear hf0 hf hcs hsd hspn hrow ha hb hpart hdiv e1 e2 e3 hci hcp hxl hol hdl y0 hnil hdb hsb hS hr hg
 have H03 := Lib.hid h03
 have Hz3 := Lib.hid hz3
 have Hkx3 := Lib.hid hkx3
 have HI := Lib.hid hI
 have H23 := Lib.hid h23
 have Hdrop := Lib.hid hdrop
 clear h03 hz3 hkx3 hI h23 hdrop
 go_upto_region 6 with fail
 go_cut [12] (fun v wx => w3 = wx ∧ v = .int .i64 (inner : Int))
 case first =>
  have q1 : (k : Int) + 1 ≤ (os.length : Int) := by have := Hol.out; omega
  have q2 : (os.length : Int) ≤ (ac : Int) := by omega
  have hpp : Safe.prod (os.drop (k + 1)) ≤ 65536 := by rw [Hci.out]; omega
  by_cases hca : ac = k + 1
  ·subst hca
   have hn := Hnil.out rfl
   have hi1 : Safe.prod [] = (inner : Int) := by rw [← hn]; exact Hci.out
   have hcall := fun (B : Option Addr) (cc : Nat) => tensor_span B cc [] w3 (by simp) Ints.nil (by simp) (by decide)
   rw [hi1] at hcall
   have hcall2 : ∀ (B : Option Addr) (cc : Nat), Calls Tryz.prog 115 #[.slice B 0 cc] w3 fun e w' => e = .returned (.int .i64 inner) ∧ w3 = w' := hcall
   have Hcall2 := Lib.hid hcall2
   clear hn hpp hi1 hcall hcall2
   go_wp2_with fail
   with_reducible refine (Hcall2.out _ _).mono ?_
   rintro e wz ⟨rfl, rfl⟩
   go_wp2_with fail
   go_meet
   exact ⟨rfl, rfl⟩
  ·have q3 : k + 1 < ac := by have := Hol.out; omega
   have hcall := tensor_span (some ⟨ba, oa + (k + 1), none⟩) (ac - (k + 1)) (os.drop (k + 1)) w3 (by rw [Hdl.out]; omega) Hdrop.out Hdb.out hpp
   rw [Hdl.out, Hci.out] at hcall
   clear hpp hca
   have Hcall := Lib.hid hcall
   clear hcall
   go_wp2_with fail
   with_reducible refine (Hcall.out).mono ?_
   rintro e wz ⟨rfl, rfl⟩
   go_wp2_with fail
   go_meet
   exact ⟨rfl, rfl⟩
 case rest =>
  obtain ⟨rfl, rfl⟩ := hcut
  clear Hdrop Hnil Hdb Hdl
  have b0 : w3.cell? ⟨w.heap.size, 0, none⟩ = some (.slice (some ⟨bs, os', none⟩) x.s.length c) := by rw [Hkx3.out.cell]; rfl
  have y0 := Hy0.out
  have e1 := E1.out
  have k1 : (k : Int) < (x.s.length : Int) := by omega
  have k2 : (row : Int) ≤ 65536 := by omega
  go_upto_region 8 with fail
  clear b0 y0 e1 k1 k2
  have hsp := tensor_span (some ⟨ba, oa, none⟩) ac os w3 (by omega) HI.out Hsb.out (by rw [Hcp.out]; omega)
  rw [Hcp.out] at hsp
  have Hsp := Lib.hid hsp
  clear hsp
  obtain ⟨M, hMe⟩ : ∃ M, M = pre * (b - a) := ⟨_, rfl⟩
  rw [← hMe] at hM
  rw [← hMe] at Hsp
  have HM := Lib.hid hMe
  clear hMe
  have hwz : w.heap.size + 1 < w3.heap.size := Hz3.out.lt
  have hwle : w.heap.size ≤ w3.heap.size := by omega
  go_wp2_with fail
  with_reducible refine (Hsp.out).mono ?_
  rintro e wz ⟨rfl, rfl⟩
  go_wp2_with (at_make; refine wpList_make_own _ rfl _ _ 28 rfl w3.heap.size 43 i0 (.int .i64 0) 1 Tryz.underlying28 hi hz0 hz1 _ _ _ M rfl rfl rfl ?b2 ?b3 ?b4 ?_)
  case b2 => rw [hz2]; omega
  case b3 => unfold maxLen; omega
  case b4 => exact Nat.le_refl _
  intro w4 hown hgrow
  have h34 : Later w3 w4 := (Later.refl w3).grown hgrow (Nat.le_refl _) (by simp)
  have hrows : ∀ i, i < pre → i * row + a + (b - a) ≤ x.c.length := fun i hi => by
   have h9 : (i + 1) * row ≤ pre * row := Nat.mul_le_mul_right _ hi
   rw [Nat.succ_mul] at h9
   have := Hxl.out
   omega
  have Hrows := Lib.hid hrows
  have hown0 : w4.ownsRow w3.heap.size 43 1 (.slice (some ⟨w3.heap.size, 0, none⟩) 0 M) 0 ((Ly.cutRows x.c row a (b - a) 0).map (Value.int .i64)) := by simpa [Ly.cutRows] using hown
  have hxd := Hx.out.c1
  have hxd2 := Hx.out.c2
  clear hown hgrow hrows
  have H34 := Lib.hid h34
  have Hown0 := Lib.hid hown0
  clear h34 hown0
  go_wp2_with fail
  go_loopw [14, 15] (fun v st wr => ∃ i : Nat, i ≤ pre ∧ st = .int .i64 ((i * row : Nat) : Int) ∧ wr.ownsRow w3.heap.size 43 1 v (i * (b - a)) ((Ly.cutRows x.c row a (b - a) i).map (Value.int .i64)) ∧ Later w3 wr) (fun _ st _ => x.c.length - (intOf st).toNat)
  case atStart => exact ⟨0, Nat.zero_le _, by rw [Nat.zero_mul]; rfl, by rw [Nat.zero_mul]; exact Hown0.out, H34.out⟩
  case round =>
   obtain ⟨i, hi', rfl, hown, hlw⟩ := hrel
   obtain ⟨Ao, co, rfl⟩ := own_form hown
   have x0 : wr.cell? ⟨w.heap.size, 1, none⟩ = some (.slice C x.c.length d) := hlw.cell (by rw [Hkx3.out.cell]; rfl)
   have h9 : i * row ≤ pre * row := Nat.mul_le_mul_right _ hi'
   rw [← Hxl.out] at h9
   by_cases hlt : i < pre
   ·have hb' := Hrows.out i hlt
    have hsucc := Ly.rows_succ x.c row a (b - a) i
    have hil : i * (b - a) + (b - a) ≤ M := by
     have h7 : (i + 1) * (b - a) ≤ pre * (b - a) := Nat.mul_le_mul_right _ hlt
     rw [Nat.succ_mul] at h7
     rw [HM.out]; exact h7
    obtain ⟨p, hp⟩ : ∃ p, p = i * row := ⟨_, rfl⟩
    obtain ⟨nn, hnn⟩ : ∃ nn, nn = i * (b - a) := ⟨_, rfl⟩
    rw [← hp] at hb' hsucc h9 ⊢
    rw [← hnn] at hown hil ⊢
    have hnl : ((x.c.drop (p + a)).take (b - a)).length = b - a := by rw [List.length_take, List.length_drop]; omega
    obtain ⟨bc, oc, rfl, hbc, -⟩ := Hx.out.cell (k := 0) (by omega)
    have hWI : Ints .i64 wr (some ⟨bc, oc + (p + a), none⟩) ((x.c.drop (p + a)).take (b - a)) := Ints.of_row fun j hj => by
     rw [hnl] at hj
     obtain ⟨b', o', e', -, hc⟩ := (Hx.out.later (H03.out.trans hlw)).r.2 (p + a + j) (by omega)
     injection e' with e'; injection e' with e1 e2; subst e1 e2
     rw [Nat.add_assoc, hc]
     simp only [List.getD_eq_getElem?_getD]
     rw [List.getElem?_take, if_pos hj, List.getElem?_drop]
    have hs1 : (i + 1) * row = p + row := by rw [hp, Nat.succ_mul]
    have hs2 : (i + 1) * (b - a) = nn + (b - a) := by rw [hnn, Nat.succ_mul]
    generalize (x.c.drop (p + a)).take (b - a) = nw at *
    have HS1 := Lib.hid hs1
    have HS2 := Lib.hid hs2
    have Hsucc := Lib.hid hsucc
    have Hnl := Lib.hid hnl
    have Hnn := Lib.hid hnn
    have Hown := Lib.hid hown
    have HLw := Lib.hid hlw
    have HWI := Lib.hid hWI
    have hlo := fun b (hb : (Value.slice Ao nn co).ownBlock = some b) => (hown.lt b hb).1
    have HLO := Lib.hid hlo
    have hwr : w3.heap.size ≤ wr.heap.size := hlw.size
    have e2 := E2.out
    have e3 := E3.out
    have k1 : (p : Int) + (b : Int) ≤ (d : Int) := by omega
    have k2 : (p : Int) + (b : Int) ≤ 65536 := by omega
    have k3 : (a : Int) < (b : Int) := by omega
    have k4 : (p : Int) < (x.c.length : Int) := by omega
    have k5 : (p : Int) + (row : Int) ≤ 131072 := by omega
    clear hs1 hs2 hsucc hnl hown hlw hWI hp hnn hlo h9
    go_wp2_with (at_builtin; refine wpList_append_own_at _ rfl _ _ 28 rfl w3.heap.size 43 i0 (.int .i64 0) 1 8 Tryz.underlying28 hi hz0 hz1 hz2 rfl (by decide) _ _ _ rfl Hown.out ⟨bc, oc + (p + a), none⟩ _ _ (nw.map (Value.int .i64)) rfl ?c0 ?c1 ?c2 ?c3 ?c4 ?c5 ?_)
    case c0 => rw [List.length_map, Hnl.out]; omega
    case c1 =>
     intro j u hj
     rw [List.getElem?_map] at hj
     cases hq : nw[j]? with
     | none => rw [hq] at hj; simp at hj
     | some z =>
      rw [hq] at hj
      simp at hj
      subst hj
      obtain ⟨hjl, hz⟩ := List.getElem?_eq_some_iff.1 hq
      obtain ⟨b', o', e', -, hc⟩ := HWI.out j hjl
      injection e' with e'; injection e' with e1 e2; subst e1 e2
      rw [get_at hjl, hz] at hc
      by_cases hj0 : j = 0
      ·subst hj0; simpa [Addr.add] using hc
      ·simpa [Addr.add, hj0] using hc
    case c2 => intro u hu; obtain ⟨z, _, rfl⟩ := List.mem_map.1 hu; rfl
    case c3 => unfold maxLen; omega
    case c4 => omega
    case c5 => exact hwr
    intro v' w5 hown' hgrow _ hat
    have hl5 : Later w3 w5 := HLw.out.grown hgrow hwr (fun b hb => HLO.out b hb)
    have hm' : nn + (p + b - (p + a)) = nn + (b - a) := by omega
    rw [hm', ← List.map_append, ← Hsucc.out] at hown'
    have HO5 := Lib.hid hown'
    have HL5 := Lib.hid hl5
    clear hown' hgrow hat hl5 hm'
    go_wp2_with fail
    go_roundw
    case rel => exact ⟨i + 1, hlt, by rw [HS1.out]; go_num, by rw [HS2.out]; exact HO5.out, HL5.out⟩
    case measure => simp [intOf]; omega
   ·obtain rfl : i = pre := by omega
    have hge : i * row = x.c.length := Hxl.out.symm
    have hrl := Ly.rows_len Hrows.out
    have hri := Ly.rows_in (row := row) (a := a) (n := b - a) (k := i) Hx.out.num
    rw [← hrl] at hown ⊢
    have hpos : 0 < (Ly.cutRows x.c row a (b - a) i).length := by
     rw [hrl]
     exact Nat.mul_pos hpre (by omega)
    have hll : (Ly.cutRows x.c row a (b - a) i).length ≤ 65536 := by rw [hrl, ← HM.out]; exact hM
    obtain ⟨C2, d2, hv, hto⟩ := TenO.of_row (own_base hown hwle) (HI.out.below hlw (Nat.le_refl _)) hc1 hc2 (fun a e => Nat.le_trans H02.out.size (Hf.out a e)) (by omega) (by omega) hpos hri
    injection hv with e1 e2 e3
    subst e1 e3
    have hzx := hlw.blk Hz3.out
    have h05 := H03.out.trans hlw
    generalize Ly.cutRows x.c row a (b - a) i = L at *
    generalize hLl : L.length = ll at *
    have c0 := hzx.cell 0
    have c1 := hzx.cell 1
    have f0 := hzx.frozen 0
    have f1 := hzx.frozen 1
    simp at c0 c1
    have hz4 := (hzx.set_ 0 (.slice (some ⟨ba, oa, none⟩) os.length ac)).set_ 1 (.slice Ao ll co)
    have d0 := hz4.cell 0
    have d1 := hz4.cell 1
    simp at d0 d1
    have Hge := Lib.hid hge
    have HLl := Lib.hid hLl
    rw [hge]
    clear hge hrl hri hpos hLl hIb
    have Hown := Lib.hid hown
    have Hlw := Lib.hid hlw
    have Hto := Lib.hid hto
    have Hzx := Lib.hid hzx
    have H05 := Lib.hid h05
    have Hz4 := Lib.hid hz4
    clear hown hlw hto hzx h05 hz4
    go_wp2_with fail
    refine bodyPost_ret (v := .tuple #[.agg #[.slice (some ⟨ba, oa, none⟩) os.length ac, .slice Ao ll co], .int .i64 0]) (by simp [results, Tryz.results74, go_sem, d0, d1]) rfl ?_
    exact GoP.ok HE.out (TenO.box Hto.out Hzx.out) ((H05.out.set (p := ⟨w.heap.size + 1, 0, none⟩) (by simp) _).set (p := ⟨w.heap.size + 1, 1, none⟩) (by simp) _)
theorem move_cut (S C : Option Addr) (c d : Nat) (x : Ten) (sd frm til : Int) (w : World) (hx : TenIn w S C c d x) :
  Calls Tryz.prog 32 #[.agg #[.slice S x.s.length c, .slice C x.c.length d], .int .i64 sd, .int .i64 frm, .int .i64 til] w (GoP (Ly.cut x sd frm til) w) := by
 obtain ⟨hkx, hz, h01⟩ := two_boxes w 30 30 #[.slice S x.s.length c, .slice C x.c.length d] #[.slice none 0 0, .slice none 0 0]
 have Hkx := Lib.hid hkx
 have Hz := Lib.hid hz
 have H01 := Lib.hid h01
 have Hx := Lib.hid hx
 clear hkx hz h01 hx
 go_enter Tryz.func32, Tryz.ntmps32
 go_wp2_with fail
 generalize (w.alloc (.cells #[.slice S x.s.length c, .slice C x.c.length d] 30)).alloc (.cells #[.slice none 0 0, .slice none 0 0] 30) = w1 at *
 refine (tensor_cut S C c d x sd frm til w1 (Hx.out.later H01.out)).mono ?_
 rintro e wf hgo
 have hlf : Later w1 wf := hgo.2
 have hzf := hlf.blk Hz.out
 have h0f := H01.out.trans hlf
 have f0 := hzf.frozen 0
 have f1 := hzf.frozen 1
 have hpz : w.heap.size ≤ w.heap.size + 1 := by first | exact Nat.le_refl _ | simp | omega
 rcases hgo.1 with ⟨hne, rfl⟩ | ⟨hn0, v, rfl, hten⟩
 ·have c0 := hzf.cell 0
  have c1 := hzf.cell 1
  simp at c0 c1
  have Hne0 := hne
  generalize hge : (Ly.cut x sd frm til).2 = ge at *
  have Hge := Lib.hid hge
  have Hne := Lib.hid Hne0
  clear Hne0
  clear hgo hne hlf hge
  have HZf := Lib.hid hzf
  have HLf := Lib.hid h0f
  clear hzf h0f
  go_wp2_with fail
  refine bodyPost_ret (v := .tuple #[.agg #[.slice none 0 0, .slice none 0 0], .int .i64 ge]) (by simp [results, Tryz.results32, go_sem, c0, c1]) rfl ?_
  exact GoP.fail2 Hge.out Hne.out ((HLf.out.set (p := ⟨w.heap.size + 1, 0, none⟩) hpz _).set (p := ⟨w.heap.size + 1, 1, none⟩) hpz _)
 ·have hto := hten.base (H01.out.size)
  clear hgo hten
  obtain ⟨S2, c2, C2, d2, rfl, hti, hs2, hc2⟩ := hto
  have hz3 := (hzf.set_ 0 (.slice S2 (Ly.cut x sd frm til).1.s.length c2)).set_ 1 (.slice C2 (Ly.cut x sd frm til).1.c.length d2)
  have d0 := hz3.cell 0
  have d1 := hz3.cell 1
  simp at d0 d1
  have c0 := hzf.cell 0
  have c1 := hzf.cell 1
  simp at c0 c1
  have Hn0 := Lib.hid hn0
  have HZ3 := Lib.hid hz3
  have HZf := Lib.hid hzf
  have HLf := Lib.hid h0f
  have HLF := Lib.hid hlf
  have HTI := Lib.hid hti
  have HS2 := Lib.hid hs2
  have HC2 := Lib.hid hc2
  clear hz3 hzf h0f hlf hti hs2 hc2 hn0
  go_wp2_with fail
  refine bodyPost_ret (v := .tuple #[.agg #[.slice S2 (Ly.cut x sd frm til).1.s.length c2, .slice C2 (Ly.cut x sd frm til).1.c.length d2], .int .i64 0]) (by simp [results, Tryz.results32, go_sem, d0, d1]) rfl ?_
  exact ⟨.inr ⟨Hn0.out, _, rfl, TenO.box ⟨S2, c2, C2, d2, rfl, HTI.out, HS2.out, HC2.out⟩ HZf.out⟩, (HLf.out.set (p := ⟨w.heap.size + 1, 0, none⟩) hpz _).set (p := ⟨w.heap.size + 1, 1, none⟩) hpz _⟩
end Go.Proofs.YtbnnpkcfifejmabGreat
namespace Go.Proofs.YtbnnpkcfifejmabGreat
open Go.RowKit
namespace Ly
theorem joined_nil (sd : Int) : joined sd [] = ([], 20) := rfl
theorem joined_cons (sd : Int) {x : List Ten} (h : 0 < x.length) : joined sd x = if Tn.right (got x 0) then (if (x.drop 1).length = 0 ∧ (sd < 0 ∨ ((got x 0).s.length : Int) ≤ sd) then ([], 11) else joinedS sd (got x 0).s (x.drop 1)) else ([], 20) := by
 match x, h with
 | t :: r, _ => rfl
theorem joinedS_succ (sd : Int) (s : List Int) {x : List Ten} {j : Nat} (h : j < x.length) : joinedS sd s (x.drop j) = if Tn.right (got x j) then (if (Od.join s (got x j).s sd).2 = 0 then joinedS sd (Od.join s (got x j).s sd).1 (x.drop (j + 1)) else ([], (Od.join s (got x j).s sd).2)) else ([], 20) := by
 rw [List.drop_eq_getElem_cons h, got_at h]
 rfl
theorem joinedS_end (sd : Int) (s : List Int) {x : List Ten} {j : Nat} (h : x.length ≤ j) : joinedS sd s (x.drop j) = (s, 0) := by rw [List.drop_eq_nil_of_le h]; rfl
end Ly
set_option maxHeartbeats 8000000 in
theorem move_joined (sd : Int) (A : Option Addr) (f : Nat) (x : List Ten) (w : World) (hl : x.length ≤ 1048576) (hf : x.length ≤ f) (hf2 : f ≤ 9223372036854775807) (hT : Tns w A x) :
  Calls Tryz.prog 73 #[.int .i64 sd, .slice A x.length f] w (ShPost (Ly.joined sd x) w) := by
 by_cases h0 : x.length = 0
 ·obtain rfl : x = [] := List.eq_nil_of_length_eq_zero h0
  clear hT h0
  go_enter Tryz.func73, Tryz.ntmps73
  go_wp2_with fail
  go_ret2
  exact ShPost.fail (Ly.joined_nil sd) (Below.refl _ _)
 have hpos : 0 < x.length := by omega
 obtain ⟨b, off, S0, sc0, C0, cd0, rfl, hb0, z0, z1, ht0⟩ := hT.first hpos
 have HJ := Lib.hid (Ly.joined_cons sd hpos)
 have d1 : ((x.length : Int) == 0) = false := by have h3 : (x.length : Int) ≠ 0 := by omega
                                                 simpa using h3
 have k1 : (0 : Int) < (x.length : Int) := by omega
 have k2 : 0 < x.length := hpos
 have l1 := ht0.l1
 have l2 := ht0.l2
 clear h0
 have HT := Lib.hid hT
 have Ht0 := Lib.hid ht0
 clear hT ht0
 generalize ht : Ly.got x 0 = t at *
 have Ht := Lib.hid ht
 clear ht
 go_enter Tryz.func73, Tryz.ntmps73
 go_wp2_with fail
 refine (tensor_right S0 C0 sc0 cd0 t w (by omega) (by omega) Ht0.out.r.1).mono ?_
 rintro e w1 ⟨rfl, hb1⟩
 have h01 : Later w w1 := hb1
 have z0 := h01.cell z0
 clear hb1 z1
 cases hr : Tn.right t
 ·have HE := Lib.hid (show Ly.joined sd x = ([], 20) by rw [HJ.out, hr]; rfl)
  clear hr
  have H01 := Lib.hid h01
  clear h01
  go_wp2_with fail
  go_ret2
  exact ShPost.fail HE.out H01.out
 have hsl := Ly.right_ok hr
 obtain ⟨hs4, -⟩ := hsl
 have Hr := Lib.hid hr
 clear hr
 have H01 := Lib.hid h01
 clear h01
 go_wp2_with fail
 refine (shape_copy S0 sc0 t.s w1 (by omega) (Ht0.out.later H01.out).r.1).mono ?_
 rintro e w2 ⟨g, rfl, hg, hgb, hb2⟩
 have h12 : Later w1 w2 := hb2
 have h02 := H01.out.trans h12
 have hgI : Ints .i64 w2 (some ⟨g, 0, none⟩) t.s := Blk.ints hgb
 have hwg : w.heap.size ≤ g := Nat.le_trans H01.out.size hg
 clear hb2 z0 hgb h12
 by_cases h1 : x.length = 1
 ·by_cases h2 : sd < 0 ∨ (t.s.length : Int) ≤ sd
  ·have HE := Lib.hid (show Ly.joined sd x = ([], 11) by rw [HJ.out, if_pos Hr.out, if_pos ⟨by rw [List.length_drop]; omega, h2⟩])
   have e1 : ((x.length : Int) == 1) = true := by have h3 : (x.length : Int) = 1 := by omega
                                                  simpa using h3
   clear h1 HJ
   by_cases h3 : sd < 0
   all_goals
    have h2' := h2
    clear h2
    have h4 : ¬ sd < 0 → (t.s.length : Int) ≤ sd := fun k => by omega
    have H4 := Lib.hid h4
    clear h4 h2'
    try (have h5 := H4.out h3)
    have H02 := Lib.hid h02
    have HgI := Lib.hid hgI
    clear h02 hgI
    go_wp2_with fail
    go_ret2
    exact ShPost.fail HE.out H02.out
  ·have HE := Lib.hid (show Ly.joined sd x = (t.s, 0) by rw [HJ.out, if_pos Hr.out, if_neg (fun k => h2 k.2)]; exact Ly.joinedS_end sd t.s (by omega))
   have h3 : ¬ sd < 0 := by omega
   have h4 : ¬ (t.s.length : Int) ≤ sd := by omega
   have e1 : ((x.length : Int) == 1) = true := by have h3 : (x.length : Int) = 1 := by omega
                                                  simpa using h3
   have hx1 : (x.length : Int) - 1 = 0 := by omega
   have hx2 : x.length - 1 = 0 := by omega
   have q1 : (1 : Int) ≤ (x.length : Int) := by omega
   have q2 : (x.length : Int) ≤ (f : Int) := by omega
   have q3 : (1 : Int) ≤ (f : Int) := by omega
   clear h1 h2 HJ
   have H02 := Lib.hid h02
   have HgI := Lib.hid hgI
   clear h02 hgI
   by_cases hf1 : f = 1
   all_goals
    try (subst hf1)
    go_wp2_with fail
    go_loopw [6, 42] (fun v i wr => v = .slice (some ⟨g, 0, none⟩) t.s.length t.s.length ∧ i = .int .i64 0 ∧ w2 = wr) (fun _ _ _ => 0)
    case atStart => exact ⟨rfl, rfl, rfl⟩
    case round =>
     obtain ⟨rfl, rfl, rfl⟩ := hrel
     go_wp2_with fail
     go_ret2
     exact ShPost.mk' HE.out rfl HgI.out (Nat.le_refl _) (by omega) (fun a e => by injection e with e; subst e; exact hwg) H02.out
 ·have e1 : ((x.length : Int) == 1) = false := by have h3 : (x.length : Int) ≠ 1 := by omega
                                                  simpa using h3
  have HE := Lib.hid (show Ly.joined sd x = Ly.joinedS sd t.s (x.drop 1) by rw [HJ.out, if_pos Hr.out, if_neg (fun k => by have := k.1; rw [List.length_drop] at this; omega)])
  have q1 : (1 : Int) ≤ (x.length : Int) := by omega
  have q2 : (x.length : Int) ≤ (f : Int) := by omega
  have q4 : (1 : Int) < (f : Int) := by omega
  have q5 : 1 < f := by omega
  have hr2 : Sh.right t.s = true := by have := Hr.out; simp only [Tn.right, Bool.and_eq_true] at this; exact this.1
  have Hr2 := Lib.hid hr2
  clear h1 HJ hr2
  have H02 := Lib.hid h02
  have HgI := Lib.hid hgI
  clear h02 hgI
  go_wp2_with fail
  go_loopw [6, 42] (fun v i wr => ∃ (j : Nat) (B : Option Addr) (bc : Nat) (s : List Int), j + 1 ≤ x.length ∧ i = .int .i64 (j : Int) ∧ v = .slice B s.length bc ∧ Ints .i64 wr B s ∧ s.length ≤ bc ∧ bc ≤ 9223372036854775807 ∧ (∀ a, B = some a → w.heap.size ≤ a.block) ∧ Sh.right s = true ∧ Ly.joined sd x = Ly.joinedS sd s (x.drop (j + 1)) ∧ Later w wr) (fun _ i _ => x.length - 1 - (intOf i).toNat)
  case atStart => exact ⟨0, _, _, t.s, by omega, rfl, rfl, HgI.out, Nat.le_refl _, by omega, (fun a e => by injection e with e; subst e; exact hwg), Hr2.out, HE.out, H02.out⟩
  case round =>
   obtain ⟨j, B, bc, s, hj, rfl, rfl, hI, hbc, hbc2, hB, hrs, hjs, hlw⟩ := hrel
   have hs4' := (Sh.right_mul hrs).2.1
   by_cases hlt : j + 1 < x.length
   ·obtain ⟨b', off', S, sc, C, cd, e', -, y0, y1, htn⟩ := (HT.out.later hlw).at_ hlt
    injection e' with e'; injection e' with e1 e2; subst e1 e2
    have hstep := Ly.joinedS_succ sd s hlt
    rw [show off + (j + 1) * 2 = off + 2 + j * 2 by omega] at y0 y1
    have m1 := htn.l1
    have m2 := htn.l2
    have hk1 : (j : Int) < (x.length : Int) - 1 := by omega
    have h3a : Later wr (wr.alloc (.cells #[.slice S (Ly.got x (j + 1)).s.length sc, .slice C (Ly.got x (j + 1)).c.length cd] 30)) := (Later.refl wr).alloc _
    have hkx := Blk.new wr 30 #[.slice S (Ly.got x (j + 1)).s.length sc, .slice C (Ly.got x (j + 1)).c.length cd]
    have hstep := hjs.trans hstep
    clear hjs
    generalize Ly.got x (j + 1) = u at *
    have HI := Lib.hid hI
    have HB := Lib.hid hB
    have Hrs := Lib.hid hrs
    have Hlw := Lib.hid hlw
    have Hstep := Lib.hid hstep
    have Htn := Lib.hid htn
    have H3a := Lib.hid h3a
    have Hkx := Lib.hid hkx
    clear hI hB hrs hlw hstep htn h3a hkx
    go_wp2_with fail
    clear y0 y1
    generalize wr.alloc (.cells #[.slice S u.s.length sc, .slice C u.c.length cd] 30) = w3 at *
    generalize wr.heap.size = pb at *
    refine (tensor_right S C sc cd u w3 (by omega) (by omega) (Htn.out.later H3a.out).r.1).mono ?_
    rintro e w4 ⟨rfl, hb4⟩
    have h34 : Later w3 w4 := hb4
    have hkx4 := h34.blk Hkx.out
    have h04 := (Hlw.out.trans H3a.out).trans h34
    have hr4 := H3a.out.trans h34
    have c0 := hkx4.cell 0
    simp at c0
    clear hb4 h34 Hkx
    cases hru : Tn.right u
    ·have HN := Lib.hid (show Ly.joined sd x = ([], 20) by rw [Hstep.out, hru]; rfl)
     clear hru
     have H04 := Lib.hid h04
     have Hr4 := Lib.hid hr4
     have Hkx4 := Lib.hid hkx4
     clear h04 hr4 hkx4
     go_wp2_with fail
     go_ret2
     exact ShPost.fail HN.out H04.out
    ·have Hru := Lib.hid hru
     clear hru
     have H04 := Lib.hid h04
     have Hr4 := Lib.hid hr4
     have Hkx4 := Lib.hid hkx4
     clear h04 hr4 hkx4
     go_wp2_with fail
     refine (shape_join B S bc sc s u.s sd w4 (by omega) (by omega) (HI.out.below Hr4.out (Nat.le_refl _)) (Htn.out.later Hr4.out).r.1).mono ?_
     rintro e w5 ⟨B', bc', rfl, hI', hc1', hc2', hf', hb5⟩
     have h45 : Later w4 w5 := hb5
     have h05 := H04.out.trans h45
     have hsz4 := H04.out.size
     clear hb5
     by_cases hjo : (Od.join s u.s sd).2 = 0
     ·have HN := Lib.hid (show Ly.joined sd x = Ly.joinedS sd (Od.join s u.s sd).1 (x.drop (j + 1 + 1)) by rw [Hstep.out, if_pos Hru.out, if_pos hjo])
      have hrj := Od.join_right hjo
      have HRJ := Lib.hid hrj
      rw [hjo]
      clear hjo hrj
      generalize (Od.join s u.s sd).1 = s' at *
      have HI' := Lib.hid hI'
      have HF' := Lib.hid hf'
      have H45 := Lib.hid h45
      have H05 := Lib.hid h05
      clear h45 h05
      clear hI' hf'
      go_wp2_with fail
      go_roundw
      case rel => exact ⟨j + 1, B', bc', s', by omega, by go_num, rfl, HI'.out, hc1', hc2', (fun a e => Nat.le_trans hsz4 (HF'.out a e)), HRJ.out, HN.out, H05.out⟩
      case measure => simp [intOf]; omega
     ·have HN := Lib.hid (show Ly.joined sd x = ([], (Od.join s u.s sd).2) by rw [Hstep.out, if_pos Hru.out, if_neg hjo])
      have e1 : ((Od.join s u.s sd).2 == 0) = false := by simpa using hjo
      have e2 : ((Od.join s u.s sd).2 != 0) = true := by simpa using hjo
      clear hjo hf' hI'
      generalize (Od.join s u.s sd).2 = er at *
      generalize (Od.join s u.s sd).1.length = sl at *
      have H45 := Lib.hid h45
      have H05 := Lib.hid h05
      clear h45 h05
      go_wp2_with fail
      go_ret2
      exact ShPost.fail HN.out H05.out
   ·have HN := Lib.hid (hjs.trans (Ly.joinedS_end sd s (show x.length ≤ j + 1 by omega)))
    have hk1 : ¬ (j : Int) < (x.length : Int) - 1 := by omega
    clear hjs
    have HI := Lib.hid hI
    have HB := Lib.hid hB
    have Hrs := Lib.hid hrs
    have Hlw := Lib.hid hlw
    clear hI hB hrs hlw
    go_wp2_with fail
    go_ret2
    exact ShPost.mk' HN.out rfl HI.out hbc hbc2 HB.out Hlw.out
end Go.Proofs.YtbnnpkcfifejmabGreat
namespace Go.Proofs.YtbnnpkcfifejmabGreat
open Go.RowKit
namespace Ly
theorem join_facts {s t : List Int} {sd : Int} (h : (Od.join s t sd).2 = 0) :
  ∃ k : Nat, sd = (k : Int) ∧ k < s.length ∧ t.length = s.length ∧ (∀ i, i ≠ k → t.getD i 0 = s.getD i 0) ∧ (Od.join s t sd).1 = s.set k (s.getD k 0 + t.getD k 0) ∧ Sh.right s = true ∧ Sh.right t = true ∧ Sh.right (Od.join s t sd).1 = true := by
 have hj := Od.join_right h
 unfold Od.join at h hj ⊢
 split at h
 ·rename_i h1
  rw [if_pos h1] at hj ⊢
  simp only [Bool.and_eq_true, decide_eq_true_eq] at h1
  split at h
  ·rename_i h2
   rw [if_pos h2] at hj ⊢
   simp only [Od.inR, decide_eq_true_eq] at h2
   split at h
   ·rename_i h3
    rw [if_pos h3] at hj ⊢
    simp only [Bool.and_eq_true] at h3
    obtain ⟨k, rfl⟩ := Int.eq_ofNat_of_zero_le h2.1
    refine ⟨k, rfl, by omega, h1.2.symm, fun i hi => ?_, ?_, h1.1.1, h1.1.2, hj⟩
    ·by_cases hil : i < s.length
     ·have := List.all_eq_true.1 h3.1 i (List.mem_range.2 hil)
      simp only [Bool.or_eq_true, decide_eq_true_eq] at this
      rcases this with h4 | h4
      ·omega
      ·exact h4.symm
     ·rw [List.getD_eq_getElem?_getD, List.getD_eq_getElem?_getD, List.getElem?_eq_none (by omega), List.getElem?_eq_none (by omega)]
    ·unfold Od.joinL Od.at_
     rw [Int.toNat_natCast]
   ·simp at h
  ·simp at h
 ·simp at h
structure Near (k : Nat) (s t : List Int) : Prop where
 len : t.length = s.length
 same : ∀ i, i ≠ k → t.getD i 0 = s.getD i 0
theorem Near.take {k : Nat} {s t : List Int} (h : Near k s t) : t.take k = s.take k := by
 apply List.ext_getElem?
 intro i
 rw [List.getElem?_take, List.getElem?_take]
 split
 ·rename_i hi
  have h1 := h.same i (by omega)
  simp only [List.getD_eq_getElem?_getD] at h1
  by_cases hl : i < s.length
  ·rw [List.getElem?_eq_getElem hl, List.getElem?_eq_getElem (by have := h.len; omega)] at h1 ⊢
   simpa using h1
  ·rw [List.getElem?_eq_none (by have := h.len; omega), List.getElem?_eq_none (by omega)]
 ·rfl
theorem Near.drop {k : Nat} {s t : List Int} (h : Near k s t) : t.drop (k + 1) = s.drop (k + 1) := by
 apply List.ext_getElem?
 intro i
 rw [List.getElem?_drop, List.getElem?_drop]
 have h1 := h.same (k + 1 + i) (by omega)
 simp only [List.getD_eq_getElem?_getD] at h1
 by_cases hl : k + 1 + i < s.length
 ·rw [List.getElem?_eq_getElem hl, List.getElem?_eq_getElem (by have := h.len; omega)] at h1 ⊢
  simpa using h1
 ·rw [List.getElem?_eq_none (by have := h.len; omega), List.getElem?_eq_none (by omega)]
theorem Near.set {k : Nat} {s t : List Int} {v : Int} (h : Near k (s.set k v) t) : Near k s t := by
 refine ⟨by rw [h.len, List.length_set], fun i hi => ?_⟩
 rw [h.same i hi, List.getD_eq_getElem?_getD, List.getD_eq_getElem?_getD, List.getElem?_set_ne (Ne.symm hi)]
def sumAt (k : Nat) (l : List Ten) : Int := l.foldr (fun t z => t.s.getD k 0 + z) 0
theorem joinedS_facts {sd : Int} : ∀ {r : List Ten} {s : List Int}, Sh.right s = true → (joinedS sd s r).2 = 0 → r ≠ [] → ∃ k : Nat, sd = (k : Int) ∧ k < s.length ∧ (∀ t ∈ r, Tn.right t = true ∧ Near k s t.s) ∧ (joinedS sd s r).1 = s.set k (s.getD k 0 + sumAt k r) ∧ Sh.right (joinedS sd s r).1 = true
 | [], s, _, _, h => absurd rfl h
 | t :: r, s, hs, h, _ => by
  unfold joinedS at h ⊢
  by_cases ht : Tn.right t = true
  case neg => rw [if_neg ht] at h; simp at h
  rw [if_pos ht] at h ⊢
  by_cases hj : (Od.join s t.s sd).2 = 0
  case neg => rw [if_neg hj] at h; exact absurd h hj
  rw [if_pos hj] at h ⊢
  obtain ⟨k, rfl, hk, hl, hsame, hr, h1, h2, h3⟩ := join_facts hj
  have hn : Near k s t.s := ⟨hl, hsame⟩
  by_cases he : r = []
  ·subst he
   refine ⟨k, rfl, hk, ?_, ?_, ?_⟩
   ·intro u hu
    rw [List.mem_singleton] at hu
    subst hu
    exact ⟨ht, hn⟩
   ·show (Od.join s t.s k).1 = _
    rw [hr]; simp [sumAt]
   ·exact h3
  ·obtain ⟨k', hk', hkl, hall, hres, hright⟩ := joinedS_facts h3 h he
   have : k' = k := by omega
   subst this
   rw [hr] at hall hres hkl
   refine ⟨k', rfl, hk, ?_, ?_, hright⟩
   ·intro u hu
    rcases List.mem_cons.1 hu with rfl | hu
    ·exact ⟨ht, hn⟩
    ·exact ⟨(hall u hu).1, (hall u hu).2.set⟩
   ·rw [hr, hres, List.set_set]
    congr 1
    have : (s.set k' (s.getD k' 0 + t.s.getD k' 0)).getD k' 0 = s.getD k' 0 + t.s.getD k' 0 := by
     rw [List.getD_eq_getElem?_getD, List.getElem?_set_self hk]; rfl
    rw [this]
    simp only [sumAt, List.foldr_cons]
    omega
theorem joined_facts {sd : Int} {x : List Ten} (h : (joined sd x).2 = 0) :
  ∃ k : Nat, sd = (k : Int) ∧ 0 < x.length ∧ k < (joined sd x).1.length ∧ (∀ t ∈ x, Tn.right t = true ∧ Near k (joined sd x).1 t.s) ∧ Sh.right (joined sd x).1 = true ∧ (joined sd x).1.getD k 0 = sumAt k x := by
 match x, h with
 | [], h => simp [joined] at h
 | t :: r, h =>
  unfold joined at h ⊢
  simp only at h ⊢
  by_cases ht : Tn.right t = true
  case neg => rw [if_neg ht] at h; simp at h
  rw [if_pos ht] at h ⊢
  have hts : Sh.right t.s = true := by simp only [Tn.right, Bool.and_eq_true] at ht; exact ht.1
  by_cases hc : r.length = 0 ∧ (sd < 0 ∨ (t.s.length : Int) ≤ sd)
  case pos => rw [if_pos hc] at h; simp at h
  rw [if_neg hc] at h ⊢
  by_cases he : r = []
  ·subst he
   have h3 : ¬ (sd < 0 ∨ (t.s.length : Int) ≤ sd) := fun k => hc ⟨rfl, k⟩
   obtain ⟨k, rfl⟩ := Int.eq_ofNat_of_zero_le (show 0 ≤ sd by omega)
   refine ⟨k, rfl, by simp, by show k < t.s.length; omega, ?_, hts, by simp [sumAt, joinedS]⟩
   intro u hu
   rw [List.mem_singleton] at hu
   subst hu
   exact ⟨ht, rfl, fun _ _ => rfl⟩
  ·obtain ⟨k, rfl, hk, hall, hres, hright⟩ := joinedS_facts hts h he
   have hset : ∀ {u : List Int}, Near k t.s u → Near k ((joinedS (k : Int) t.s r).1) u := fun {u} hn => by
    rw [hres]
    refine ⟨by rw [hn.len, List.length_set], fun i hi => ?_⟩
    rw [hn.same i hi, List.getD_eq_getElem?_getD, List.getD_eq_getElem?_getD, List.getElem?_set_ne (Ne.symm hi)]
   refine ⟨k, rfl, by simp, by rw [hres, List.length_set]; exact hk, ?_, hright, ?_⟩
   ·intro u hu
    rcases List.mem_cons.1 hu with rfl | hu
    ·exact ⟨ht, hset ⟨rfl, fun _ _ => rfl⟩⟩
    ·exact ⟨(hall u hu).1, hset (hall u hu).2⟩
   ·rw [hres, List.getD_eq_getElem?_getD, List.getElem?_set_self hk]
    simp [sumAt]
theorem joined_rows {sd : Int} {x : List Ten} (h : (joined sd x).2 = 0) :
  ∃ k rows inner : Nat, sd = (k : Int) ∧ 0 < x.length ∧ k < (joined sd x).1.length ∧ Sh.right (joined sd x).1 = true ∧ span ((joined sd x).1.take k) = rows ∧ Safe.prod ((joined sd x).1.take k) = (rows : Int) ∧ 1 ≤ rows ∧ 1 ≤ inner ∧ rows ≤ 65536 ∧
   (∀ t ∈ x, Tn.right t = true ∧ ∃ m : Nat, t.s.getD k 0 = (m : Int) ∧ t.c.length = rows * (m * inner)) ∧ Safe.prod (joined sd x).1 = (rows : Int) * (sumAt k x * (inner : Int)) := by
 obtain ⟨k, hk0, hpos, hk, hall, hr, hsum⟩ := joined_facts h
 generalize (joined sd x).1 = s at *
 obtain ⟨_, l4, l1, hb, hp1, hp2⟩ := Sh.right_mul hr
 have hsplit : ∀ u : List Int, k < u.length → Safe.prod u = Safe.prod (u.take k) * (u.getD k 0 * Safe.prod (u.drop (k + 1))) := fun u hu => by
  have e : u = u.take k ++ (u[k] :: u.drop (k + 1)) := by rw [← List.drop_eq_getElem_cons hu, List.take_append_drop]
  have e2 : u.getD k 0 = u[k] := get_at hu
  have e3 : Safe.prod u = Safe.prod (u.take k ++ (u[k] :: u.drop (k + 1))) := congrArg Safe.prod e
  rw [e3, prod_append, e2]; rfl
 have hpre : 1 ≤ Safe.prod (s.take k) := Safe.prod_pos _ (fun z hz => (hb z (List.mem_of_mem_take hz)).1)
 have hin : 1 ≤ Safe.prod (s.drop (k + 1)) := Safe.prod_pos _ (fun z hz => (hb z (List.mem_of_mem_drop hz)).1)
 have hle := Safe.prod_take_le s k (fun z hz => (hb z hz).1)
 obtain ⟨rows, hre⟩ := Int.eq_ofNat_of_zero_le (show 0 ≤ Safe.prod (s.take k) by omega)
 obtain ⟨inner, hie⟩ := Int.eq_ofNat_of_zero_le (show 0 ≤ Safe.prod (s.drop (k + 1)) by omega)
 refine ⟨k, rows, inner, hk0, hpos, hk, hr, by unfold span; rw [hre]; exact Int.toNat_natCast _, hre, by omega, by omega, by omega, fun t ht => ?_, by rw [hsplit s hk, hre, hie, hsum]⟩
 obtain ⟨htr, hn⟩ := hall t ht
 refine ⟨htr, ?_⟩
 have htr2 := htr
 simp only [Tn.right, Bool.and_eq_true, decide_eq_true_eq] at htr2
 obtain ⟨_, _, _, hbt, _, _⟩ := Sh.right_mul htr2.1
 have hkt : k < t.s.length := by rw [hn.len]; exact hk
 have hm := hbt _ (List.getElem_mem hkt)
 obtain ⟨m, hme⟩ := Int.eq_ofNat_of_zero_le (show 0 ≤ t.s[k] by omega)
 refine ⟨m, by rw [get_at hkt]; exact hme, ?_⟩
 have h5 := htr2.2
 rw [hsplit t.s hkt, hn.take, hn.drop, hre, hie, get_at hkt, hme, ← Int.natCast_mul, ← Int.natCast_mul] at h5
 exact Int.ofNat.inj h5
end Ly
end Go.Proofs.YtbnnpkcfifejmabGreat

/- Lemmas for the statements of this seat: contracts of functions and the plain laws. -/
import Derived.Test.YtbnnpkcfifejmaaZ04
set_option linter.unusedVariables false
/- Layer 5 (point): Go: contract. -/
namespace Go.Proofs.Ytbnnpkcfifejmaa
open Go.RowKit
namespace Ly
theorem point_err {kind k : Int} {x : List Ten} (h : ptAgree kind x ≠ 0) : point kind k x = (none_, ptAgree kind x) := by unfold point; rw [if_neg h]
theorem point_ok {kind k : Int} {x : List Ten} (h : ptAgree kind x = 0) : point kind k x = (⟨(got x 0).s, tab (got x 0).c.length fun i => cell kind k (at_ (got x 0).c i) (second x i)⟩, 0) := by unfold point; rw [if_pos h]
theorem right_ok {t : Ten} (h : Tn.right t = true) : t.s.length ≤ 4 ∧ t.c.length ≤ 65536 := by have := Tn.right_len h; omega
theorem same_len {a b : Ten} (ha : Tn.right a = true) (hb : Tn.right b = true) (h : a.s = b.s) : a.c.length = b.c.length := by
  simp [Tn.right] at ha hb
  rw [h] at ha
  omega
end Ly
theorem Blk.row_get {w : World} {h : Nat} {t : TypeId} {l : List Int} {k : Nat} (hb : Blk w h t (l.map (Value.int .i64)).toArray) (hk : k < l.length) : w.cell? ⟨h, k, none⟩ = some (.int .i64 l[k]) := by
  rw [hb.cell, List.getElem?_toArray, List.getElem?_eq_getElem (by simpa using hk)]; simp
set_option maxHeartbeats 8000000 in
theorem point_go (kind k0 : Int) (A : Option Addr) (f : Nat) (x : List Ten) (w : World) (hl : x.length ≤ 1048576) (hT : Tns w A x) (hk0 : Fx.In k0) :
    Calls Try.prog 24 #[.int .i64 kind, .int .i64 k0, .slice A x.length f] w (GoP (Ly.point kind k0 x) w) := by
  have h01 : Later w (w.alloc (.cells #[.slice none 0 0, .slice none 0 0] 30)) := (Later.refl w).alloc _
  have hz := Blk.new w 30 #[.slice none 0 0, .slice none 0 0]
  have HT := Lib.hid hT
  have H01 := Lib.hid h01
  have Hz := Lib.hid hz
  have Hk0 := Lib.hid hk0
  clear hT h01 hz hk0
  go_enter Try.func24, Try.ntmps24
  go_wp2_with fail
  generalize w.alloc (.cells #[.slice none 0 0, .slice none 0 0] 30) = w1 at *
  refine (point_agree kind A f x w1 hl (HT.out.later H01.out)).mono ?_
  rintro e w2 ⟨rfl, hb2⟩
  have h02 := H01.out.call hb2
  have hz2 := (show Later w1 w2 from hb2).blk Hz.out
  clear hb2 Hz H01
  by_cases hg : Ly.ptAgree kind x = 0
  case neg =>
    have HE := Lib.hid (Ly.point_err (k := k0) hg)
    have d1 : (Ly.ptAgree kind x == 0) = false := by simpa using hg
    have d2 : (Ly.ptAgree kind x != 0) = true := by simpa using hg
    have Hg := Lib.hid hg
    clear hg
    generalize Ly.ptAgree kind x = g at *
    have c0 := hz2.cell 0
    have c1 := hz2.cell 1
    have f0 := hz2.frozen 0
    have f1 := hz2.frozen 1
    simp at c0 c1
    have H02 := Lib.hid h02
    have Hz2 := Lib.hid hz2
    clear h02 hz2
    go_wp2_with fail
    refine bodyPost_ret (v := .tuple #[.agg #[.slice none 0 0, .slice none 0 0], .int .i64 g]) (by simp [results, Try.results24, go_sem, c0, c1]) rfl ?_
    exact GoP.fail HE.out Hg.out ((H02.out.set (p := ⟨w.heap.size, 0, none⟩) (Nat.le_refl _) _).set (p := ⟨w.heap.size, 1, none⟩) (Nat.le_refl _) _)
  have HE := Lib.hid (Ly.point_ok (k := k0) hg)
  obtain ⟨k1, k7, -, l1, l2, hall⟩ := Ly.agree_yes hg
  rw [hg]
  obtain ⟨hr0, -⟩ := Ly.ok_right (hall _ (by rw [got_at (show 0 < x.length by omega)]; exact List.getElem_mem _) : Ly.okTo x (Ly.got x 0) = true)
  have hsec : 2 ≤ x.length → (Ly.got x 1).c.length = (Ly.got x 0).c.length := fun h => by
    obtain ⟨a, b⟩ := Ly.ok_right (hall _ (by rw [got_at (show 1 < x.length by omega)]; exact List.getElem_mem _) : Ly.okTo x (Ly.got x 1) = true)
    exact Ly.same_len a hr0 b
  have Hsec := Lib.hid hsec
  have Hg := Lib.hid hg
  clear hg hall hsec
  obtain ⟨b, off, S, sc, C, cd, rfl, hb0, z0, z1, ht⟩ := (HT.out.later h02).first (by omega)
  obtain ⟨r1, r2⟩ := Ly.right_ok hr0
  have hTR := ht.r
  have hnum := ht.num
  have hsecin : ∀ i, Fx.In (Ly.second x i) := fun i => by
    unfold Ly.second
    split
    · exact Fx.in_zero
    · exact Ly.at_in (Ly.got_in HT.out.in_ 1) i
  generalize hR : (Ly.tab (Ly.got x 0).c.length fun i => Ly.cell kind k0 (Ly.at_ (Ly.got x 0).c i) (Ly.second x i)) = R at *
  have hRl : R.length = (Ly.got x 0).c.length := by rw [← hR, Ly.tab_len]
  have hRg : ∀ i (hi : i < R.length), R[i] = Ly.cell kind k0 (Ly.at_ (Ly.got x 0).c i) (Ly.second x i) := fun i hi => by subst hR; exact Ly.tab_get hi
  have hRin : ∀ z ∈ R, Fx.In z := by rw [← hR]; exact Ly.tab_in fun i _ => Ly.cell_in (Ly.at_in hnum i)
  clear hR
  generalize ht0 : Ly.got x 0 = t at *
  have Ht0 := Lib.hid ht0
  have Hr0 := Lib.hid hr0
  have HRl := Lib.hid hRl
  clear ht0 hr0 hRl
  have y0 := Lib.hid z0
  have y1 := Lib.hid z1
  have H02 := Lib.hid h02
  have Hz2 := Lib.hid hz2
  have Ht := Lib.hid ht
  have HTR := Lib.hid hTR
  have Hnum := Lib.hid hnum
  have Hsecin := Lib.hid hsecin
  have HRg := Lib.hid hRg
  have HRin := Lib.hid hRin
  clear h02 hz2 ht hTR hnum hsecin hRg hRin
  go_wp2_with fail
  clear z0 z1
  refine (tensor_copy S C sc cd t w2 (by omega) (by omega) HTR.out).mono ?_
  rintro e w3 ⟨v, rfl, ⟨g, h, rfl, hg, hh, hG, hH⟩, hb3⟩
  have h23 : Later w2 w3 := hb3
  have h3a : Later w3 (w3.alloc (.cells #[.slice (some ⟨g, 0, none⟩) t.s.length t.s.length, .slice (some ⟨h, 0, none⟩) t.c.length t.c.length] 30)) := (Later.refl w3).alloc _
  have ho := Blk.new w3 30 #[.slice (some ⟨g, 0, none⟩) t.s.length t.s.length, .slice (some ⟨h, 0, none⟩) t.c.length t.c.length]
  have h24 := h23.trans h3a
  have h04 := H02.out.trans h24
  have hz4 := h24.blk Hz2.out
  have hG4 := h3a.blk hG
  have hH4 := h3a.blk hH
  have hs2 := H02.out.size
  have hs3 := h23.size
  have hhl := hH.lt
  have hgl := hG.lt
  have hzl := Hz2.out.lt
  have hgne : g ≠ h := by
    intro e
    subst e
    have h1 : (Obj.cells (t.s.map (Value.int .i64)).toArray 3 (0, 0)) = _ := Option.some.inj (hG.symm.trans hH)
    injection h1 with _ h2 _
    exact absurd h2 (by decide)
  have z1 := h24.cell y1.out
  clear hb3 Hz2 hG hH y0 y1
  have Z1 := Lib.hid z1
  clear z1
  have H23 := Lib.hid h23
  have H3a := Lib.hid h3a
  have Ho := Lib.hid ho
  have H24 := Lib.hid h24
  have H04 := Lib.hid h04
  have Hz4 := Lib.hid hz4
  have HG4 := Lib.hid hG4
  have HH4 := Lib.hid hH4
  clear h23 h3a ho h24 h04 hz4 hG4 hH4
  go_upto_region 5 with fail
  generalize w3.alloc (.cells #[.slice (some ⟨g, 0, none⟩) t.s.length t.s.length, .slice (some ⟨h, 0, none⟩) t.c.length t.c.length] 30) = w4 at *
  generalize hpe : w3.heap.size = p at *
  have hph : h < p := by omega
  have hpz : w.heap.size < p := by omega
  have z1 := Z1.out
  have HT4 := Lib.hid (HTR.out.2.below H24.out (Nat.le_refl _))
  clear Z1 H3a H23 hpe
  go_wp2_with fail
  clear z1
  have hI0 : Blk w4 h 22 ((R.take 0 ++ t.c.drop 0).map (Value.int .i64)).toArray := by simpa using HH4.out
  have HI0 := Lib.hid hI0
  clear hI0
  go_loopw [28] (fun i wx => ∃ k : Nat, k ≤ t.c.length ∧ i = .int .i64 (k : Int) ∧ Blk wx h 22 ((R.take k ++ t.c.drop k).map (Value.int .i64)).toArray ∧ Blk wx p 30 #[.slice (some ⟨g, 0, none⟩) t.s.length t.s.length, .slice (some ⟨h, 0, none⟩) t.c.length t.c.length] ∧ Blk wx w.heap.size 30 #[.slice none 0 0, .slice none 0 0] ∧ Blk wx g 3 (t.s.map (Value.int .i64)).toArray ∧ Later w wx ∧ Later w2 wx) (fun i _ => t.c.length - (intOf i).toNat)
  case atStart => exact ⟨0, Nat.zero_le _, rfl, HI0.out, Ho.out, Hz4.out, HG4.out, H04.out, H24.out⟩
  case round =>
    obtain ⟨k, hk, rfl, hm, hox, hzx, hgx, hlw, hlw2'⟩ := hrel
    clear HI0
    by_cases hlt : k < t.c.length
    · obtain ⟨b2, off2, rfl, -, hc2⟩ := (HTR.out.2.below hlw2' (Nat.le_refl _)) k hlt
      rw [show t.c.getD k 0 = Ly.at_ t.c k from rfl] at hc2
      have hltR : k < R.length := by have := HRl.out; omega
      have hst := Ly.mid_step R t.c hltR HRl.out
      have hlen := Ly.mid_len R t.c k (by omega) HRl.out
      have hRk := HRg.out k hltR
      have hxin := Ly.at_in Hnum.out k
      have hsin := Hsecin.out k
      have hTx := HT.out.later hlw
      have hsecl : 2 ≤ x.length → k < (Ly.got x 1).c.length := fun h => by rw [Hsec.out h]; exact hlt
      have hc1 := fun (V : World) (hV : Later w V) => point_second (some ⟨b, off, none⟩) f x k V hl (HT.out.later hV) hsecl
      have hc3 := fun (V : World) => point_cell kind k0 (Ly.at_ t.c k) (Ly.second x k) V k1 k7 Hk0.out hxin hsin
      rw [hRk] at hst
      rw [← hRk] at hc3 hst
      have hc3' : ∀ (V : World), Calls Try.prog 62 #[.int .i64 kind, .int .i64 k0, .int .i64 (Ly.at_ t.c k), .int .i64 (Ly.second x k)] V fun e w' => e = .returned (.int .i64 R[k]) ∧ V = w' := hc3
      generalize hy : R[k] = y at *
      generalize Ly.at_ t.c k = xk at *
      generalize Ly.second x k = sk at *
      have o1 : wr.cell? ⟨p, 1, none⟩ = some (.slice (some ⟨h, 0, none⟩) t.c.length t.c.length) := by rw [hox.cell]; rfl
      obtain ⟨u, hu⟩ : ∃ u, wr.cell? ⟨h, k, none⟩ = some u := ⟨_, hm.row_get (by rw [hlen]; exact hltR)⟩
      have fu := hm.frozen k
      have hm2 : Blk (wr.setCell ⟨h, k, none⟩ (.int .i64 y)) h 22 ((R.take (k + 1) ++ t.c.drop (k + 1)).map (Value.int .i64)).toArray := by
        have := hm.set_ k (.int .i64 y)
        rw [← hst, List.map_set]
        simpa using this
      have hox2 := hox.far (p := ⟨h, k, none⟩) (by simp; omega) (.int .i64 y)
      have hzx2 := hzx.far (p := ⟨h, k, none⟩) (by simp; omega) (.int .i64 y)
      have hgx2 : Blk (wr.setCell ⟨h, k, none⟩ (.int .i64 y)) g 3 (t.s.map (Value.int .i64)).toArray := hgx.far (p := ⟨h, k, none⟩) hgne (.int .i64 y)
      have hlw2 := hlw.set (p := ⟨h, k, none⟩) (by simp; omega) (.int .i64 y)
      have hlw3 := hlw2'.set (p := ⟨h, k, none⟩) hh (.int .i64 y)
      have kk1 : (k : Int) < (t.c.length : Int) := by omega
      have kk2 : (0 : Int) ≤ (k : Int) := by omega
      clear hy hlen hRk hxin hsin hltR hc3
      have Hm := Lib.hid hm
      have Hox := Lib.hid hox
      have Hzx := Lib.hid hzx
      have Hgx := Lib.hid hgx
      have Hm2 := Lib.hid hm2
      have Hox2 := Lib.hid hox2
      have Hzx2 := Lib.hid hzx2
      have Hgx2 := Lib.hid hgx2
      have Hlw2 := Lib.hid hlw2
      have Hlw3 := Lib.hid hlw3
      have Hst := Lib.hid hst
      have Hc1 := Lib.hid hc1
      have Hc3' := Lib.hid hc3'
      have HTx := Lib.hid hTx
      have Hsecl := Lib.hid hsecl
      have Hlw2' := Lib.hid hlw2'
      have Hlw := Lib.hid hlw
      clear hm hox hzx hgx hm2 hox2 hzx2 hgx2 hlw2 hlw3 hst hc1 hc3' hTx hsecl hlw2' hlw
      go_wp2_with fail
      go_region_law ((first
        | (go_simp; go_at_call 63; (with_reducible refine (Hc1.out _ (by first | exact Hlw.out | exact Hlw.out.drew | exact Hlw.out.drewN _)).mono ?_); rintro e wa ⟨rfl, rfl⟩)
        | (go_simp; go_at_call 62; (with_reducible refine (Hc3'.out _).mono ?_); rintro e wb ⟨rfl, rfl⟩)))
      all_goals
        go_wp2_with fail
        go_roundw
        case rel => exact ⟨k + 1, by omega, by go_num, Hm2.out.drew, Hox2.out.drew, Hzx2.out.drew, Hgx2.out.drew, Hlw2.out.drew, Hlw3.out.drew⟩
        case measure => simp [intOf]; omega
    · obtain rfl : k = t.c.length := by omega
      rw [Ly.mid_end R t.c _ HRl.out.symm HRl.out] at hm
      have o0 : wr.cell? ⟨p, 0, none⟩ = some (.slice (some ⟨g, 0, none⟩) t.s.length t.s.length) := by rw [hox.cell]; rfl
      have o1 : wr.cell? ⟨p, 1, none⟩ = some (.slice (some ⟨h, 0, none⟩) t.c.length t.c.length) := by rw [hox.cell]; rfl
      have c0 := hzx.cell 0
      have c1 := hzx.cell 1
      have f0 := hzx.frozen 0
      have f1 := hzx.frozen 1
      simp at c0 c1
      have hz3 := (hzx.set_ 0 (.slice (some ⟨g, 0, none⟩) t.s.length t.s.length)).set_ 1 (.slice (some ⟨h, 0, none⟩) t.c.length t.c.length)
      have d0 := hz3.cell 0
      have d1 := hz3.cell 1
      simp at d0 d1
      have hgz : g ≠ w.heap.size := by omega
      have hhz : h ≠ w.heap.size := by omega
      have Hm := Lib.hid hm
      have Hox := Lib.hid hox
      have Hzx := Lib.hid hzx
      have Hgx := Lib.hid hgx
      have Hlw := Lib.hid hlw
      have Hz3 := Lib.hid hz3
      clear hm hox hzx hgx hlw hz3
      go_wp2_with fail
      refine bodyPost_ret (v := .tuple #[.agg #[.slice (some ⟨g, 0, none⟩) t.s.length t.s.length, .slice (some ⟨h, 0, none⟩) t.c.length t.c.length], .int .i64 0]) (by simp [results, Try.results24, go_sem, d0, d1]) rfl ?_
      refine GoP.ok HE.out (TenN.o ⟨g, h, by simp [HRl.out], by omega, by omega, (Hgx.out.far (p := ⟨w.heap.size, 0, none⟩) hgz _).far (p := ⟨w.heap.size, 1, none⟩) hgz _, (Hm.out.far (p := ⟨w.heap.size, 0, none⟩) hhz _).far (p := ⟨w.heap.size, 1, none⟩) hhz _⟩ (by show t.s.length ≤ _; omega) (by have := HRl.out; show R.length ≤ _; omega) HRin.out) ((Hlw.out.set (p := ⟨w.heap.size, 0, none⟩) (Nat.le_refl _) _).set (p := ⟨w.heap.size, 1, none⟩) (Nat.le_refl _) _)
end Go.Proofs.Ytbnnpkcfifejmaa
/- Layer 4 (tensor): alike, Add: contracts. -/
namespace Go.Proofs.Ytbnnpkcfifejmaa
open Go.RowKit
namespace Ly
theorem alike_a {a b : Ten} (h : Tn.right a = false) : alike a b = false := by simp [alike, h]
theorem alike_b {a b : Ten} (h : Tn.right b = false) : alike a b = false := by simp [alike, h]
theorem alike_s {a b : Ten} (h : Tn.right a = true) (h2 : Tn.right b = true) : alike a b = (a.s == b.s) := by simp [alike, h, h2]; rw [Bool.eq_iff_iff]; simp
theorem alike_yes {a b : Ten} (h : alike a b = true) : Tn.right a = true ∧ Tn.right b = true ∧ a.s = b.s := by simpa [alike, and_assoc] using h
theorem add_err {a b : Ten} (h : alike a b = false) : add a b = (none_, 20) := by simp [add, h]
theorem add_ok {a b : Ten} (h : alike a b = true) : add a b = (⟨a.s, tab a.c.length fun i => Fx.add (at_ a.c i) (at_ b.c i)⟩, 0) := by simp [add, h]
end Ly
/-- Two boxes laid by the call. -/
theorem two_boxes (w : World) (t t' : TypeId) (a b : Array Value) : Blk ((w.alloc (.cells a t)).alloc (.cells b t')) w.heap.size t a ∧ Blk ((w.alloc (.cells a t)).alloc (.cells b t')) (w.heap.size + 1) t' b ∧ Later w ((w.alloc (.cells a t)).alloc (.cells b t')) := by
  refine ⟨(Blk.new w t a).alloc _, ?_, ((Later.refl w).alloc _).alloc _⟩
  have := Blk.new (w.alloc (.cells a t)) t' b
  rwa [World.size_alloc] at this
set_option maxHeartbeats 4000000 in
theorem tensor_alike (S C S' C' : Option Addr) (c d c' d' : Nat) (a b : Ten) (w : World) (ha : TenIn w S C c d a) (hb : TenIn w S' C' c' d' b) :
    Calls Try.prog 78 #[.agg #[.slice S a.s.length c, .slice C a.c.length d], .agg #[.slice S' b.s.length c', .slice C' b.c.length d']] w fun e w' => e = .returned (.bool (Ly.alike a b)) ∧ Below w.heap.size w w' := by
  obtain ⟨hk0, hk1, h02⟩ := two_boxes w 30 30 #[.slice S a.s.length c, .slice C a.c.length d] #[.slice S' b.s.length c', .slice C' b.c.length d']
  have la := ha.l1
  have lb := hb.l1
  have la2 := ha.l2
  have lb2 := hb.l2
  have Hk0 := Lib.hid hk0
  have Hk1 := Lib.hid hk1
  have H02 := Lib.hid h02
  have Ha := Lib.hid ha
  have Hb := Lib.hid hb
  clear hk0 hk1 h02 ha hb
  go_enter Try.func78, Try.ntmps78
  go_wp2_with fail
  generalize (w.alloc (.cells #[.slice S a.s.length c, .slice C a.c.length d] 30)).alloc (.cells #[.slice S' b.s.length c', .slice C' b.c.length d'] 30) = w2 at *
  have x0 : w2.cell? ⟨w.heap.size, 0, none⟩ = some (.slice S a.s.length c) := by rw [Hk0.out.cell]; rfl
  have x1 : w2.cell? ⟨w.heap.size, 1, none⟩ = some (.slice C a.c.length d) := by rw [Hk0.out.cell]; rfl
  have x2 : w2.cell? ⟨w.heap.size + 1, 0, none⟩ = some (.slice S' b.s.length c') := by rw [Hk1.out.cell]; rfl
  have x3 : w2.cell? ⟨w.heap.size + 1, 1, none⟩ = some (.slice C' b.c.length d') := by rw [Hk1.out.cell]; rfl
  have hA := (Ha.out.later H02.out)
  have hB := (Hb.out.later H02.out)
  have hc1 := fun (V : World) (h : Later w2 V) => tensor_right S C c d a V (by omega) (by omega) (hA.later h).r.1
  have hc2 := fun (V : World) (h : Later w2 V) => tensor_right S' C' c' d' b V (by omega) (by omega) (hB.later h).r.1
  have hc3 := fun (V : World) (h : Later w2 V) => shape_equal S S' c c' a.s b.s V (by omega) (by omega) (hA.later h).r.1 (hB.later h).r.1
  clear hA hB
  have Hc1 := Lib.hid hc1
  have Hc2 := Lib.hid hc2
  have Hc3 := Lib.hid hc3
  clear hc1 hc2 hc3
  refine (Hc1.out w2 (Later.refl _)).mono ?_
  rintro e w3 ⟨rfl, hb3⟩
  have h23 : Later w2 w3 := hb3
  have y2 := h23.cell x2
  have y0 := h23.cell x0
  have y3 := h23.cell x3
  clear x0 x1 x2 x3 hb3
  cases hr : Tn.right a
  · have HE := Lib.hid (Ly.alike_a (b := b) hr)
    clear hr
    have H23 := Lib.hid h23
    clear h23
    go_wp2_with fail
    go_ret
    exact ⟨by rw [HE.out]; rfl, H02.out.trans H23.out⟩
  · have h02 := Hc2.out w3 h23
    have hc3 := Hc3.out
    have H23 := Lib.hid h23
    have Hq := Lib.hid h02
    have Hq3 := Lib.hid hc3
    clear h23 h02 hc3
    go_wp2_with fail
    refine (Hq.out).mono ?_
    rintro e w4 ⟨rfl, hb4⟩
    have h34 : Later w3 w4 := hb4
    have z2 := h34.cell y2
    have z0 := h34.cell y0
    clear y0 y2 y3 hb4
    cases hr2 : Tn.right b
    · have HE := Lib.hid (Ly.alike_b (a := a) hr2)
      clear hr hr2
      have H34 := Lib.hid h34
      clear h34
      go_wp2_with fail
      go_ret
      exact ⟨by rw [HE.out]; rfl, (H02.out.trans H23.out).trans H34.out⟩
    · have HE := Lib.hid (Ly.alike_s hr hr2)
      clear hr hr2
      have H34 := Lib.hid h34
      clear h34
      go_wp2_with fail
      refine (Hq3.out w4 (H23.out.trans H34.out)).mono ?_
      rintro e w5 ⟨rfl, q, rfl⟩
      go_wp2_with fail
      go_ret
      exact ⟨by rw [HE.out]; rfl, ((H02.out.trans H23.out).trans H34.out).drewN q⟩
namespace Ly
theorem mid_at (C L : List Int) {k : Nat} (hk : k < L.length) (hn : C.length = L.length) : ∃ h : k < (C.take k ++ L.drop k).length, (C.take k ++ L.drop k)[k] = L[k] := by
  have h1 : (C.take k).length = k := by simp; omega
  refine ⟨by simp; omega, ?_⟩
  rw [List.getElem_append_right (by omega)]
  simp [h1]
end Ly
theorem three_boxes (w : World) (t t' t2 : TypeId) (a b z : Array Value) : Blk (((w.alloc (.cells a t)).alloc (.cells b t')).alloc (.cells z t2)) w.heap.size t a ∧ Blk (((w.alloc (.cells a t)).alloc (.cells b t')).alloc (.cells z t2)) (w.heap.size + 1) t' b ∧ Blk (((w.alloc (.cells a t)).alloc (.cells b t')).alloc (.cells z t2)) (w.heap.size + 2) t2 z ∧ Later w (((w.alloc (.cells a t)).alloc (.cells b t')).alloc (.cells z t2)) := by
  obtain ⟨h1, h2, h3⟩ := two_boxes w t t' a b
  refine ⟨h1.alloc _, h2.alloc _, ?_, h3.alloc _⟩
  have := Blk.new ((w.alloc (.cells a t)).alloc (.cells b t')) t2 z
  rwa [World.size_alloc, World.size_alloc] at this
/-- Rows of numbers and of shapes lie apart. -/
theorem rows_apart {w : World} {g h : Nat} {s c : List Int} (hG : Blk w g 3 (s.map (Value.int .i64)).toArray) (hH : Blk w h 22 (c.map (Value.int .i64)).toArray) : g ≠ h := by
  intro e
  subst e
  have h1 : (Obj.cells (s.map (Value.int .i64)).toArray 3 (0, 0)) = _ := Option.some.inj (hG.symm.trans hH)
  injection h1 with _ h2 _
  exact absurd h2 (by decide)
set_option maxHeartbeats 8000000 in
theorem tensor_add (S C S' C' : Option Addr) (c d c' d' : Nat) (a b : Ten) (w : World) (ha : TenIn w S C c d a) (hb : TenIn w S' C' c' d' b) :
    Calls Try.prog 49 #[.agg #[.slice S a.s.length c, .slice C a.c.length d], .agg #[.slice S' b.s.length c', .slice C' b.c.length d']] w (GoP (Ly.add a b) w) := by
  obtain ⟨hk0, hk1, hz, h01⟩ := three_boxes w 30 30 30 #[.slice S a.s.length c, .slice C a.c.length d] #[.slice S' b.s.length c', .slice C' b.c.length d'] #[.slice none 0 0, .slice none 0 0]
  have Hk0 := Lib.hid hk0
  have Hk1 := Lib.hid hk1
  have Hz := Lib.hid hz
  have H01 := Lib.hid h01
  have Ha := Lib.hid ha
  have Hb := Lib.hid hb
  clear hk0 hk1 hz h01 ha hb
  go_enter Try.func49, Try.ntmps49
  go_wp2_with fail
  generalize ((w.alloc (.cells #[.slice S a.s.length c, .slice C a.c.length d] 30)).alloc (.cells #[.slice S' b.s.length c', .slice C' b.c.length d'] 30)).alloc (.cells #[.slice none 0 0, .slice none 0 0] 30) = w1 at *
  refine (tensor_alike S C S' C' c d c' d' a b w1 (Ha.out.later H01.out) (Hb.out.later H01.out)).mono ?_
  rintro e w2 ⟨rfl, hb2⟩
  have h12 : Later w1 w2 := hb2
  have h02 := H01.out.trans h12
  have hz2 := h12.blk Hz.out
  have ha2 := h12.blk Hk0.out
  have hb2' := h12.blk Hk1.out
  clear hb2 Hz H01 Hk0 Hk1 h12
  cases hg : Ly.alike a b
  · have HE := Lib.hid (Ly.add_err hg)
    clear hg
    have c0 := hz2.cell 0
    have c1 := hz2.cell 1
    have f0 := hz2.frozen 0
    have f1 := hz2.frozen 1
    simp at c0 c1
    have H02 := Lib.hid h02
    have Hz2 := Lib.hid hz2
    have Ha2 := Lib.hid ha2
    have Hb2' := Lib.hid hb2'
    clear h02 hz2 ha2 hb2'
    go_wp2_with fail
    refine bodyPost_ret (v := .tuple #[.agg #[.slice none 0 0, .slice none 0 0], .int .i64 20]) (by simp [results, Try.results49, go_sem, c0, c1]) rfl ?_
    exact GoP.fail HE.out (by decide) ((H02.out.set (p := ⟨w.heap.size + 2, 0, none⟩) (by simp) _).set (p := ⟨w.heap.size + 2, 1, none⟩) (by simp) _)
  obtain ⟨hra, hrb, hs⟩ := Ly.alike_yes hg
  have HE := Lib.hid (Ly.add_ok hg)
  have hlen : b.c.length = a.c.length := (Ly.same_len hra hrb hs).symm
  obtain ⟨r1, r2⟩ := Ly.right_ok hra
  generalize hR : (Ly.tab a.c.length fun i => Fx.add (Ly.at_ a.c i) (Ly.at_ b.c i)) = R at *
  have hRl : R.length = a.c.length := by rw [← hR, Ly.tab_len]
  have hRg : ∀ i (hi : i < R.length), R[i] = Fx.add (Ly.at_ a.c i) (Ly.at_ b.c i) := fun i hi => by subst hR; exact Ly.tab_get hi
  have hRin : ∀ z ∈ R, Fx.In z := by rw [← hR]; exact Ly.tab_in fun i _ => Fx.add_in _ _
  have x0 := ha2.cell 0
  have x1 := ha2.cell 1
  have x2 := hb2'.cell 0
  have x3 := hb2'.cell 1
  simp at x0 x1 x2 x3
  have HL := Lib.hid hlen
  have HRl := Lib.hid hRl
  have hna := Ha.out.num
  have hnb := Hb.out.num
  clear hR hg hra hrb hs hlen hRl
  have H02 := Lib.hid h02
  have Hz2 := Lib.hid hz2
  have Ha2 := Lib.hid ha2
  have Hb2' := Lib.hid hb2'
  have HRg := Lib.hid hRg
  have HRin := Lib.hid hRin
  have Hna := Lib.hid hna
  have Hnb := Lib.hid hnb
  clear h02 hz2 ha2 hb2' hRg hRin hna hnb
  go_wp2_with fail
  have X3 := Lib.hid x3
  clear x0 x1 x2 x3
  refine (tensor_copy S C c d a w2 (by omega) (by omega) (Ha.out.later H02.out).r).mono ?_
  rintro e w3 ⟨v, rfl, ⟨g, h, rfl, hg, hh, hG, hH⟩, hb3⟩
  have h23 : Later w2 w3 := hb3
  have h3a : Later w3 (w3.alloc (.cells #[.slice (some ⟨g, 0, none⟩) a.s.length a.s.length, .slice (some ⟨h, 0, none⟩) a.c.length a.c.length] 30)) := (Later.refl w3).alloc _
  have ho := Blk.new w3 30 #[.slice (some ⟨g, 0, none⟩) a.s.length a.s.length, .slice (some ⟨h, 0, none⟩) a.c.length a.c.length]
  have h24 := h23.trans h3a
  have h04 := H02.out.trans h24
  have hz4 := h24.blk Hz2.out
  have hG4 := h3a.blk hG
  have hH4 := h3a.blk hH
  have hs2 := H02.out.size
  have hs3 := h23.size
  have hhl := hH.lt
  have hgl := hG.lt
  have hzl := Hz2.out.lt
  have hgne := rows_apart hG hH
  have x3 := h24.cell X3.out
  clear hb3 Hz2 hG hH X3
  have X3 := Lib.hid x3
  clear x3
  have H23 := Lib.hid h23
  have H3a := Lib.hid h3a
  have Ho := Lib.hid ho
  have H24 := Lib.hid h24
  have H04 := Lib.hid h04
  have Hz4 := Lib.hid hz4
  have HG4 := Lib.hid hG4
  have HH4 := Lib.hid hH4
  clear h23 h3a ho h24 h04 hz4 hG4 hH4
  go_upto_region 4 with fail
  generalize w3.alloc (.cells #[.slice (some ⟨g, 0, none⟩) a.s.length a.s.length, .slice (some ⟨h, 0, none⟩) a.c.length a.c.length] 30) = w4 at *
  generalize hpe : w3.heap.size = p at *
  have hph : h < p := by omega
  have hpz : w.heap.size + 2 < p := by omega
  have x3 := X3.out
  clear X3 H3a H23 hpe
  go_wp2_with fail
  clear x3
  have hI0 : Blk w4 h 22 ((R.take 0 ++ a.c.drop 0).map (Value.int .i64)).toArray := by simpa using HH4.out
  have HI0 := Lib.hid hI0
  clear hI0
  go_loopw [19] (fun i wx => ∃ k : Nat, k ≤ b.c.length ∧ i = .int .i64 (k : Int) ∧ Blk wx h 22 ((R.take k ++ a.c.drop k).map (Value.int .i64)).toArray ∧ Blk wx p 30 #[.slice (some ⟨g, 0, none⟩) a.s.length a.s.length, .slice (some ⟨h, 0, none⟩) a.c.length a.c.length] ∧ Blk wx (w.heap.size + 2) 30 #[.slice none 0 0, .slice none 0 0] ∧ Blk wx g 3 (a.s.map (Value.int .i64)).toArray ∧ Later w wx) (fun i _ => b.c.length - (intOf i).toNat)
  case atStart => exact ⟨0, Nat.zero_le _, rfl, HI0.out, Ho.out, Hz4.out, HG4.out, H04.out⟩
  case round =>
    obtain ⟨k, hk, rfl, hm, hox, hzx, hgx, hlw⟩ := hrel
    clear HI0
    have hal : b.c.length ≤ a.c.length := Nat.le_of_eq HL.out
    by_cases hlt : k < b.c.length
    · obtain ⟨b2, off2, rfl, -, hc2⟩ := (Hb.out.later hlw).cell hlt
      have hltR : k < R.length := by have := HRl.out; omega
      have hst := Ly.mid_step R a.c hltR HRl.out
      have hlen := Ly.mid_len R a.c k (by omega) HRl.out
      obtain ⟨hq1, hq2⟩ := Ly.mid_at R a.c (k := k) (by omega) HRl.out
      have hcur := hm.row_get hq1
      rw [hq2, ← Ly.at_get (show k < a.c.length by omega)] at hcur
      have hRk := HRg.out k hltR
      have hxin := Ly.at_in Hna.out k
      have hyin := Ly.at_in Hnb.out k
      have hc1 := fun (V : World) => fix_add (Ly.at_ a.c k) (Ly.at_ b.c k) V hxin hyin
      rw [hRk] at hst
      generalize Ly.at_ a.c k = xk at *
      generalize Ly.at_ b.c k = yk at *
      have o1 : wr.cell? ⟨p, 1, none⟩ = some (.slice (some ⟨h, 0, none⟩) a.c.length a.c.length) := by rw [hox.cell]; rfl
      have fu := hm.frozen k
      have hm2 : Blk (wr.setCell ⟨h, k, none⟩ (.int .i64 (Fx.add xk yk))) h 22 ((R.take (k + 1) ++ a.c.drop (k + 1)).map (Value.int .i64)).toArray := by
        have := hm.set_ k (.int .i64 (Fx.add xk yk))
        rw [← hst, List.map_set]
        simpa using this
      have hox2 := hox.far (p := ⟨h, k, none⟩) (by simp; omega) (.int .i64 (Fx.add xk yk))
      have hzx2 := hzx.far (p := ⟨h, k, none⟩) (by simp; omega) (.int .i64 (Fx.add xk yk))
      have hgx2 : Blk (wr.setCell ⟨h, k, none⟩ (.int .i64 (Fx.add xk yk))) g 3 (a.s.map (Value.int .i64)).toArray := hgx.far (p := ⟨h, k, none⟩) hgne (.int .i64 (Fx.add xk yk))
      have hlw2 := hlw.set (p := ⟨h, k, none⟩) (by simp; omega) (.int .i64 (Fx.add xk yk))
      have kk1 : (k : Int) < (a.c.length : Int) := by omega
      have kk2 : (0 : Int) ≤ (k : Int) := by omega
      have kk3 : (k : Int) < (b.c.length : Int) := by omega
      clear hlen hRk hxin hyin hltR hq1 hq2
      have Hm := Lib.hid hm
      have Hox := Lib.hid hox
      have Hzx := Lib.hid hzx
      have Hgx := Lib.hid hgx
      have Hm2 := Lib.hid hm2
      have Hox2 := Lib.hid hox2
      have Hzx2 := Lib.hid hzx2
      have Hgx2 := Lib.hid hgx2
      have Hlw2 := Lib.hid hlw2
      have Hst := Lib.hid hst
      have Hc1 := Lib.hid hc1
      have Hlw := Lib.hid hlw
      clear hm hox hzx hgx hm2 hox2 hzx2 hgx2 hlw2 hst hc1 hlw
      go_wp2_with fail
      go_region_law ((first
        | (go_simp; go_at_call 48; (with_reducible refine (Hc1.out _).mono ?_); rintro e wa ⟨rfl, rfl⟩)))
      all_goals
        go_wp2_with fail
        go_roundw
        case rel => exact ⟨k + 1, by omega, by go_num, Hm2.out.drew, Hox2.out.drew, Hzx2.out.drew, Hgx2.out.drew, Hlw2.out.drew⟩
        case measure => simp [intOf]; omega
    · have hke : k = a.c.length := by have := HL.out; omega
      rw [Ly.mid_end R a.c _ (by rw [hke]; exact HRl.out.symm) HRl.out] at hm
      obtain rfl : k = b.c.length := by omega
      have HKE := Lib.hid hke
      clear hke
      have o0 : wr.cell? ⟨p, 0, none⟩ = some (.slice (some ⟨g, 0, none⟩) a.s.length a.s.length) := by rw [hox.cell]; rfl
      have o1 : wr.cell? ⟨p, 1, none⟩ = some (.slice (some ⟨h, 0, none⟩) a.c.length a.c.length) := by rw [hox.cell]; rfl
      have c0 := hzx.cell 0
      have c1 := hzx.cell 1
      have f0 := hzx.frozen 0
      have f1 := hzx.frozen 1
      simp at c0 c1
      have hz3 := (hzx.set_ 0 (.slice (some ⟨g, 0, none⟩) a.s.length a.s.length)).set_ 1 (.slice (some ⟨h, 0, none⟩) a.c.length a.c.length)
      have d0 := hz3.cell 0
      have d1 := hz3.cell 1
      simp at d0 d1
      have hgz : g ≠ w.heap.size + 2 := by omega
      have hhz : h ≠ w.heap.size + 2 := by omega
      have Hm := Lib.hid hm
      have Hox := Lib.hid hox
      have Hzx := Lib.hid hzx
      have Hgx := Lib.hid hgx
      have Hlw := Lib.hid hlw
      have Hz3 := Lib.hid hz3
      clear hm hox hzx hgx hlw hz3
      go_wp2_with fail
      refine bodyPost_ret (v := .tuple #[.agg #[.slice (some ⟨g, 0, none⟩) a.s.length a.s.length, .slice (some ⟨h, 0, none⟩) a.c.length a.c.length], .int .i64 0]) (by simp [results, Try.results49, go_sem, d0, d1]) rfl ?_
      refine GoP.ok HE.out (TenN.o ⟨g, h, by simp [HRl.out], by omega, by omega, (Hgx.out.far (p := ⟨w.heap.size + 2, 0, none⟩) hgz _).far (p := ⟨w.heap.size + 2, 1, none⟩) hgz _, (Hm.out.far (p := ⟨w.heap.size + 2, 0, none⟩) hhz _).far (p := ⟨w.heap.size + 2, 1, none⟩) hhz _⟩ (by show a.s.length ≤ _; omega) (by have := HRl.out; show R.length ≤ _; omega) HRin.out) ((Hlw.out.set (p := ⟨w.heap.size + 2, 0, none⟩) (by simp) _).set (p := ⟨w.heap.size + 2, 1, none⟩) (by simp) _)
theorem dense_bias (S C S' C' : Option Addr) (c d c' d' : Nat) (b x : Ten) (w : World) (hb : TenIn w S C c d b) (hx : TenIn w S' C' c' d' x) :
    Calls Try.prog 18 #[.agg #[.slice S b.s.length c, .slice C b.c.length d], .agg #[.slice S' x.s.length c', .slice C' x.c.length d']] w (GoP (Ly.add x b) w) := by
  obtain ⟨hk0, hk1, hz, h01⟩ := three_boxes w 30 30 30 #[.slice S b.s.length c, .slice C b.c.length d] #[.slice S' x.s.length c', .slice C' x.c.length d'] #[.slice none 0 0, .slice none 0 0]
  have Hk0 := Lib.hid hk0
  have Hk1 := Lib.hid hk1
  have Hz := Lib.hid hz
  have H01 := Lib.hid h01
  have Hb := Lib.hid hb
  have Hx := Lib.hid hx
  clear hk0 hk1 hz h01 hb hx
  go_enter Try.func18, Try.ntmps18
  go_wp2_with fail
  generalize ((w.alloc (.cells #[.slice S b.s.length c, .slice C b.c.length d] 30)).alloc (.cells #[.slice S' x.s.length c', .slice C' x.c.length d'] 30)).alloc (.cells #[.slice none 0 0, .slice none 0 0] 30) = w1 at *
  refine (tensor_add S' C' S C c' d' c d x b w1 (Hx.out.later H01.out) (Hb.out.later H01.out)).mono ?_
  rintro e wf hgo
  have hlf : Later w1 wf := hgo.2
  have hzf := hlf.blk Hz.out
  have h0f := H01.out.trans hlf
  have f0 := hzf.frozen 0
  have f1 := hzf.frozen 1
  have hpz : w.heap.size ≤ w.heap.size + 2 := by first | exact Nat.le_refl _ | simp | omega
  rcases hgo.1 with ⟨hne, rfl⟩ | ⟨hn0, v, rfl, hten⟩
  · have c0 := hzf.cell 0
    have c1 := hzf.cell 1
    simp at c0 c1
    have Hne0 := hne
    generalize hge : (Ly.add x b).2 = ge at *
    have Hge := Lib.hid hge
    have Hne := Lib.hid Hne0
    clear Hne0
    clear hgo hne hlf hge
    have HZf := Lib.hid hzf
    have HLf := Lib.hid h0f
    clear hzf h0f
    go_wp2_with fail
    refine bodyPost_ret (v := .tuple #[.agg #[.slice none 0 0, .slice none 0 0], .int .i64 ge]) (by simp [results, Try.results18, go_sem, c0, c1]) rfl ?_
    exact GoP.fail2 Hge.out Hne.out ((HLf.out.set (p := ⟨w.heap.size + 2, 0, none⟩) hpz _).set (p := ⟨w.heap.size + 2, 1, none⟩) hpz _)
  · have hto := hten.base (H01.out.size)
    clear hgo hten
    obtain ⟨S2, c2, C2, d2, rfl, hti, hs2, hc2⟩ := hto
    have hz3 := (hzf.set_ 0 (.slice S2 (Ly.add x b).1.s.length c2)).set_ 1 (.slice C2 (Ly.add x b).1.c.length d2)
    have d0 := hz3.cell 0
    have d1 := hz3.cell 1
    simp at d0 d1
    have c0 := hzf.cell 0
    have c1 := hzf.cell 1
    simp at c0 c1
    have Hn0 := Lib.hid hn0
    have HZ3 := Lib.hid hz3
    have HZf := Lib.hid hzf
    have HLf := Lib.hid h0f
    have HLF := Lib.hid hlf
    have HTI := Lib.hid hti
    have HS2 := Lib.hid hs2
    have HC2 := Lib.hid hc2
    clear hz3 hzf h0f hlf hti hs2 hc2 hn0
    go_wp2_with fail
    refine bodyPost_ret (v := .tuple #[.agg #[.slice S2 (Ly.add x b).1.s.length c2, .slice C2 (Ly.add x b).1.c.length d2], .int .i64 0]) (by simp [results, Try.results18, go_sem, d0, d1]) rfl ?_
    exact ⟨.inr ⟨Hn0.out, _, rfl, TenO.box ⟨S2, c2, C2, d2, rfl, HTI.out, HS2.out, HC2.out⟩ HZf.out⟩, (HLf.out.set (p := ⟨w.heap.size + 2, 0, none⟩) hpz _).set (p := ⟨w.heap.size + 2, 1, none⟩) hpz _⟩
end Go.Proofs.Ytbnnpkcfifejmaa

/- Lemmas for the statements of this seat: contracts of functions and the plain laws. -/
import Derived.Deep.AppendLies
import Derived.Deep.RegionHeld3
import Derived.Maps.AppendAt
import Derived.Test.YtbnnpkcfifejmabGreatZ06
set_option linter.unusedVariables false
namespace Go.Proofs.YtbnnpkcfifejmabGreat
open Go.RowKit
theorem second_lt {x : List Ten} (h : ¬ x.length < 2) (i : Nat) : Ly.second x i = Ly.at_ (Ly.got x 1).c i := by unfold Ly.second; rw [if_neg h]
theorem point_second (A : Option Addr) (c : Nat) (x : List Ten) (i : Nat) (w : World) (hl : x.length ≤ 1048576) (hT : Tns w A x) (hi : 2 ≤ x.length → i < (Ly.got x 1).c.length) :
  Calls Tryz.prog 77 #[.slice A x.length c, .int .i64 i] w fun e w' => e = .returned (.int .i64 (Ly.second x i)) ∧ w = w' := by
 by_cases h : x.length < 2
 ·have E := Lib.hid (show (0 : Int) = Ly.second x i by unfold Ly.second; rw [if_pos h])
  go_enter Tryz.func77, Tryz.ntmps77
  go_wp2_with fail
  go_ret
  exact ⟨ret_int E.out, rfl⟩
 ·obtain ⟨b, off, S, sc, C, d, rfl, hb, c0, c1, hten⟩ := hT.at_ (j := 1) (by omega)
  have hi := hi (by omega)
  have hl2 := hten.l2
  have hcd := hten.c1
  obtain ⟨b2, off2, rfl, -, hc⟩ := hten.cell hi
  have E := Lib.hid (second_lt h i).symm
  have k1 : (i : Int) < ((Ly.got x 1).c.length : Int) := by omega
  have k2 : (0 : Int) ≤ (i : Int) := by omega
  simp only [Nat.one_mul] at c0 c1
  generalize (Ly.got x 1).c.length = m at *
  generalize Ly.at_ (Ly.got x 1).c i = z at *
  clear hT hten
  go_enter Tryz.func77, Tryz.ntmps77
  go_wp2_with fail
  go_ret
  exact ⟨ret_int E.out, rfl⟩
namespace Ly
def okTo (x : List Ten) (t : Ten) : Bool := Tn.right t && decide (t.s = (got x 0).s)
theorem agree_op {kind : Int} {x : List Ten} (h : Od.ptIns kind = 0) : ptAgree kind x = 21 := by unfold ptAgree; rw [if_pos h]
theorem agree_len {kind : Int} {x : List Ten} (h : Od.ptIns kind ≠ 0) (h2 : (x.length : Int) ≠ Od.ptIns kind) : ptAgree kind x = 20 := by unfold ptAgree; rw [if_neg h, if_pos h2]
theorem agree_all {kind : Int} {x : List Ten} (h : Od.ptIns kind ≠ 0) (h2 : (x.length : Int) = Od.ptIns kind) : ptAgree kind x = if x.all (okTo x) then 0 else 20 := by unfold ptAgree okTo; rw [if_neg h, if_neg (fun k => k h2)]
theorem ptIns_cases (k : Int) : (Od.ptIns k = 0) ∨ (Od.ptIns k = 1 ∧ 1 ≤ k ∧ k ≤ 5) ∨ (Od.ptIns k = 2 ∧ 6 ≤ k ∧ k ≤ 7) := by
 unfold Od.ptIns
 split
 ·right; left; omega
 ·split
  ·right; right; omega
  ·left; rfl
theorem agree_yes {kind : Int} {x : List Ten} (h : ptAgree kind x = 0) : 1 ≤ kind ∧ kind ≤ 7 ∧ (x.length : Int) = Od.ptIns kind ∧ 1 ≤ x.length ∧ x.length ≤ 2 ∧ ∀ t ∈ x, okTo x t = true := by
 by_cases h1 : Od.ptIns kind = 0
 ·rw [agree_op h1] at h; omega
 by_cases h2 : (x.length : Int) = Od.ptIns kind
 ·rw [agree_all h1 h2] at h
  by_cases h3 : x.all (okTo x) = true
  ·have h4 := ptIns_cases kind
   exact ⟨by omega, by omega, h2, by omega, by omega, List.all_eq_true.1 h3⟩
  ·rw [if_neg h3] at h; omega
 ·rw [agree_len h1 h2] at h; omega
theorem ok_right {x : List Ten} {t : Ten} (h : okTo x t = true) : Tn.right t = true ∧ t.s = (got x 0).s := by simpa [okTo] using h
end Ly
set_option maxHeartbeats 4000000 in
theorem point_agree (kind : Int) (A : Option Addr) (f : Nat) (x : List Ten) (w : World) (hl : x.length ≤ 1048576) (hT : Tns w A x) :
  Calls Tryz.prog 75 #[.int .i64 kind, .slice A x.length f] w fun e w' => e = .returned (.int .i64 (Ly.ptAgree kind x)) ∧ Below w.heap.size w w' := by
 by_cases h1 : Od.ptIns kind = 0
 ·have E := Lib.hid (Ly.agree_op (x := x) h1).symm
  clear hT
  go_enter Tryz.func75, Tryz.ntmps75
  go_wp2_with fail
  refine (point_ins kind _).mono ?_
  rintro e w1 ⟨rfl, rfl⟩
  rw [h1]
  clear h1
  go_wp2_with fail
  go_ret
  exact ⟨ret_int E.out, Below.refl _ _⟩
 by_cases h2 : (x.length : Int) = Od.ptIns kind
 case neg =>
  have E := Lib.hid (Ly.agree_len h1 h2).symm
  have d1 : (Od.ptIns kind == 0) = false := by simpa using h1
  have d2 : ((x.length : Int) == Od.ptIns kind) = false := by simpa using h2
  have d3 : ((x.length : Int) != Od.ptIns kind) = true := by simpa using h2
  clear h1 h2 hT
  go_enter Tryz.func75, Tryz.ntmps75
  go_wp2_with fail
  refine (point_ins kind _).mono ?_
  rintro e w1 ⟨rfl, rfl⟩
  generalize Od.ptIns kind = n at *
  go_wp2_with fail
  go_ret
  exact ⟨ret_int E.out, Below.refl _ _⟩
 have HA := Lib.hid (Ly.agree_all h1 h2)
 have hpos : 1 ≤ x.length := by
  have := Ly.ptIns_cases kind
  omega
 obtain ⟨b, off, S0, sc0, C0, cd0, rfl, hb0, z0, z1, ht0⟩ := hT.first hpos
 have hT0 := ht0.r.1
 have hl0 := ht0.l1
 have H2 := Lib.hid h2
 have HT := Lib.hid hT
 have HT0 := Lib.hid hT0
 have Ht0 := Lib.hid ht0
 clear hT hT0 ht0
 clear h1 h2 z1
 have d1 : ((x.length : Int) == 0) = false := by have h3 : (x.length : Int) ≠ 0 := by omega
                                                 simpa using h3
 have k1 : (0 : Int) < (x.length : Int) := by omega
 have k2 : 0 < x.length := hpos
 go_enter Tryz.func75, Tryz.ntmps75
 go_wp2_with fail
 refine (point_ins kind _).mono ?_
 rintro e w1 ⟨rfl, rfl⟩
 rw [← H2.out]
 go_wp2_with fail
 generalize hs0 : (Ly.got x 0).s = s0 at *
 go_loopw [18] (fun i wx => ∃ k : Nat, k ≤ x.length ∧ i = .int .i64 (k : Int) ∧ (x.take k).all (Ly.okTo x) = true ∧ Later w wx) (fun i _ => x.length - (intOf i).toNat)
 case atStart => exact ⟨0, by omega, rfl, rfl, Later.refl _⟩
 case round =>
  obtain ⟨k, hk, rfl, hall, hlw⟩ := hrel
  by_cases hlt : k < x.length
  ·obtain ⟨b', off', S, sc, C, cd, e, -, y0, y1, ht⟩ := (HT.out.later hlw).at_ hlt
   injection e with e; injection e with e1 e2; subst e1 e2
   have y2 : wr.cell? ⟨b, off, none⟩ = some (.slice S0 s0.length sc0) := hlw.cell z0
   have hx : Ly.got x k = x[k] := got_at hlt
   have hgo := take_all_succ (p := Ly.okTo x) hlt hall
   have hno := all_false_at (p := Ly.okTo x) hlt
   have hok : Ly.okTo x x[k] = (Tn.right (Ly.got x k) && ((Ly.got x k).s == s0)) := by rw [← hx]; unfold Ly.okTo; rw [hs0]; congr 1; rw [Bool.eq_iff_iff]; simp
   rw [hok] at hgo hno
   have hsk := ht.l1
   have hck := ht.l2
   have hTk := ht.r.1
   have h2 : Later wr (wr.alloc (.cells #[.slice S (Ly.got x k).s.length sc, .slice C (Ly.got x k).c.length cd] 30)) := (Later.refl wr).alloc _
   have hkx := Blk.new wr 30 #[.slice S (Ly.got x k).s.length sc, .slice C (Ly.got x k).c.length cd]
   have hl2 := hlw.trans h2
   have HS0 := Lib.hid hs0
   clear hx hs0 hok hall
   generalize Ly.got x k = t at *
   have H2' := Lib.hid h2
   clear h2
   have Hlw := Lib.hid hlw
   have Ht := Lib.hid ht
   have HTk := Lib.hid hTk
   have Hkx := Lib.hid hkx
   have Hl2 := Lib.hid hl2
   have Hgo := Lib.hid hgo
   have Hno := Lib.hid hno
   clear hlw ht hTk hkx hl2 hgo hno
   go_wp2_with fail
   clear y0 y1
   generalize wr.alloc (.cells #[.slice S t.s.length sc, .slice C t.c.length cd] 30) = w2 at *
   have x0 : w2.cell? ⟨wr.heap.size, 0, none⟩ = some (.slice S t.s.length sc) := by rw [Hkx.out.cell]; rfl
   have x1 : w2.cell? ⟨wr.heap.size, 1, none⟩ = some (.slice C t.c.length cd) := by rw [Hkx.out.cell]; rfl
   have x2 : w2.cell? ⟨b, off, none⟩ = some (.slice S0 s0.length sc0) := H2'.out.cell y2
   clear y2
   have hc1 := fun (V : World) (h : Later w2 V) => tensor_right S C sc cd t V (by omega) (by omega) (HTk.out.below (H2'.out.trans h) (Nat.le_refl _))
   cases hr : Tn.right t
   ·rw [hr] at hc1
    have HN := Lib.hid (Hno.out (by rw [hr]; rfl))
    clear hr
    have Hc1 := Lib.hid hc1
    clear hc1
    first
     | (go_region_with ((go_at_call 43; (with_reducible refine (Hc1.out _ (Later.au : Later w2 _)).mono ?_); rintro e wa ⟨rfl, hba⟩)))
     | skip
    all_goals
     have hle := Hl2.out.trans (Later.au : Later w2 wa)
     have Hle := Lib.hid hle
     clear hle
     go_wp2_with fail
     go_ret
     exact ⟨ret_int (by rw [HA.out, HN.out]; rfl), Hle.out⟩
   ·have hc2 := fun (V : World) (h : Later w2 V) => shape_equal S S0 sc sc0 t.s s0 V (by omega) (by omega) (HTk.out.below (H2'.out.trans h) (Nat.le_refl _)) (HT0.out.below (Hl2.out.trans h) (Nat.le_refl _))
    rw [hr] at hc1
    cases he : (t.s == s0)
    ·have HN := Lib.hid (Hno.out (by rw [hr, he]; rfl))
     rw [he] at hc2
     clear hr he
     have Hc1 := Lib.hid hc1
     have Hc2 := Lib.hid hc2
     clear hc1 hc2
     go_region_held3 (fun W => W.cell? ⟨wr.heap.size, 0, none⟩ = some (.slice S t.s.length sc) ∧ W.cell? ⟨wr.heap.size, 1, none⟩ = some (.slice C t.c.length cd) ∧ W.cell? ⟨b, off, none⟩ = some (.slice S0 s0.length sc0)) (first | (with_reducible exact ⟨x0, x1, x2⟩) | exact ⟨Later.cell (Later.au : Later w2 _) x0, Later.cell (Later.au : Later w2 _) x1, Later.cell (Later.au : Later w2 _) x2⟩)
      (first
       | (go_at_call 43; (with_reducible refine (Hc1.out _ (Later.au : Later w2 _)).mono ?_); rintro e wa ⟨rfl, hba⟩)
       | (go_at_call 12; (with_reducible refine (Hc2.out _ (Later.au : Later w2 _)).mono ?_); rintro e wd ⟨rfl, qd, rfl⟩))
     all_goals
      have hle := Hl2.out.trans (Later.au : Later w2 (wa.drewN qd))
      have Hle := Lib.hid hle
      clear hle
      go_wp2_with fail
      go_ret
      exact ⟨ret_int (by rw [HA.out, HN.out]; rfl), Hle.out⟩
    ·have HN := Lib.hid (Hgo.out (by rw [hr, he]; rfl))
     rw [he] at hc2
     clear hr he
     have Hc1 := Lib.hid hc1
     have Hc2 := Lib.hid hc2
     clear hc1 hc2
     go_region_held3 (fun W => W.cell? ⟨wr.heap.size, 0, none⟩ = some (.slice S t.s.length sc) ∧ W.cell? ⟨wr.heap.size, 1, none⟩ = some (.slice C t.c.length cd) ∧ W.cell? ⟨b, off, none⟩ = some (.slice S0 s0.length sc0)) (first | (with_reducible exact ⟨x0, x1, x2⟩) | exact ⟨Later.cell (Later.au : Later w2 _) x0, Later.cell (Later.au : Later w2 _) x1, Later.cell (Later.au : Later w2 _) x2⟩)
      (first
       | (go_at_call 43; (with_reducible refine (Hc1.out _ (Later.au : Later w2 _)).mono ?_); rintro e wa ⟨rfl, hba⟩)
       | (go_at_call 12; (with_reducible refine (Hc2.out _ (Later.au : Later w2 _)).mono ?_); rintro e wd ⟨rfl, qd, rfl⟩))
     all_goals
      have hle := Hl2.out.trans (Later.au : Later w2 (wa.drewN qd))
      have Hle := Lib.hid hle
      clear hle
      go_wp2_with fail
      go_roundw
      case rel => exact ⟨k + 1, by omega, by go_num, HN.out, Hle.out⟩
      case measure => simp [intOf]; omega
  ·obtain rfl : k = x.length := by omega
   rw [List.take_length] at hall
   have Hall := Lib.hid hall
   have Hlw := Lib.hid hlw
   clear hall hlw
   go_wp2_with fail
   go_ret
   exact ⟨ret_int (by rw [HA.out, if_pos Hall.out]), Hlw.out⟩
end Go.Proofs.YtbnnpkcfifejmabGreat
namespace Go.Proofs.YtbnnpkcfifejmabGreat
open Go.RowKit
namespace Ly
theorem point_err {kind k : Int} {x : List Ten} (h : ptAgree kind x ≠ 0) : point kind k x = (none_, ptAgree kind x) := by unfold point; rw [if_neg h]
theorem point_ok {kind k : Int} {x : List Ten} (h : ptAgree kind x = 0) : point kind k x = (⟨(got x 0).s, tab (got x 0).c.length fun i => cell kind k (at_ (got x 0).c i) (second x i)⟩, 0) := by unfold point; rw [if_pos h]
theorem right_ok {t : Ten} (h : Tn.right t = true) : t.s.length ≤ 4 ∧ t.c.length ≤ 65536 := by have := Tn.right_len h; omega
theorem same_len {a b : Ten} (ha : Tn.right a = true) (hb : Tn.right b = true) (h : a.s = b.s) : a.c.length = b.c.length := by
 simp [Tn.right] at ha hb
 rw [h] at ha
 omega
end Ly
theorem Blk.row_get {w : World} {h : Nat} {t : TypeId} {l : List Int} {k : Nat} (hb : Blk w h t (l.map (Value.int .i64)).toArray) (hk : k < l.length) : w.cell? ⟨h, k, none⟩ = some (.int .i64 l[k]) := by
 rw [hb.cell, List.getElem?_toArray, List.getElem?_eq_getElem (by simpa using hk)]; simp
set_option maxHeartbeats 8000000 in
theorem point_go (kind k0 : Int) (A : Option Addr) (f : Nat) (x : List Ten) (w : World) (hl : x.length ≤ 1048576) (hT : Tns w A x) (hk0 : Fx.In k0) :
  Calls Tryz.prog 34 #[.int .i64 kind, .int .i64 k0, .slice A x.length f] w (GoP (Ly.point kind k0 x) w) := by
 have h01 : Later w (w.alloc (.cells #[.slice none 0 0, .slice none 0 0] 30)) := (Later.refl w).alloc _
 have hz := Blk.new w 30 #[.slice none 0 0, .slice none 0 0]
 have HT := Lib.hid hT
 have H01 := Lib.hid h01
 have Hz := Lib.hid hz
 have Hk0 := Lib.hid hk0
 clear hT h01 hz hk0
 go_enter Tryz.func34, Tryz.ntmps34
 go_wp2_with fail
 generalize w.alloc (.cells #[.slice none 0 0, .slice none 0 0] 30) = w1 at *
 refine (point_agree kind A f x w1 hl (HT.out.later H01.out)).mono ?_
 rintro e w2 ⟨rfl, hb2⟩
 have h02 := H01.out.call hb2
 have hz2 := (show Later w1 w2 from hb2).blk Hz.out
 clear hb2 Hz H01
 by_cases hg : Ly.ptAgree kind x = 0
 case neg =>
  have HE := Lib.hid (Ly.point_err (k := k0) hg)
  have d1 : (Ly.ptAgree kind x == 0) = false := by simpa using hg
  have d2 : (Ly.ptAgree kind x != 0) = true := by simpa using hg
  have Hg := Lib.hid hg
  clear hg
  generalize Ly.ptAgree kind x = g at *
  have c0 := hz2.cell 0
  have c1 := hz2.cell 1
  have f0 := hz2.frozen 0
  have f1 := hz2.frozen 1
  simp at c0 c1
  have H02 := Lib.hid h02
  have Hz2 := Lib.hid hz2
  clear h02 hz2
  go_wp2_with fail
  refine bodyPost_ret (v := .tuple #[.agg #[.slice none 0 0, .slice none 0 0], .int .i64 g]) (by simp [results, Tryz.results34, go_sem, c0, c1]) rfl ?_
  exact GoP.fail HE.out Hg.out ((H02.out.set (p := ⟨w.heap.size, 0, none⟩) (Nat.le_refl _) _).set (p := ⟨w.heap.size, 1, none⟩) (Nat.le_refl _) _)
 have HE := Lib.hid (Ly.point_ok (k := k0) hg)
 obtain ⟨k1, k7, -, l1, l2, hall⟩ := Ly.agree_yes hg
 rw [hg]
 obtain ⟨hr0, -⟩ := Ly.ok_right (hall _ (by rw [got_at (show 0 < x.length by omega)]; exact List.getElem_mem _) : Ly.okTo x (Ly.got x 0) = true)
 have hsec : 2 ≤ x.length → (Ly.got x 1).c.length = (Ly.got x 0).c.length := fun h => by
  obtain ⟨a, b⟩ := Ly.ok_right (hall _ (by rw [got_at (show 1 < x.length by omega)]; exact List.getElem_mem _) : Ly.okTo x (Ly.got x 1) = true)
  exact Ly.same_len a hr0 b
 have Hsec := Lib.hid hsec
 have Hg := Lib.hid hg
 clear hg hall hsec
 obtain ⟨b, off, S, sc, C, cd, rfl, hb0, z0, z1, ht⟩ := (HT.out.later h02).first (by omega)
 obtain ⟨r1, r2⟩ := Ly.right_ok hr0
 have hTR := ht.r
 have hnum := ht.num
 have hsecin : ∀ i, Fx.In (Ly.second x i) := fun i => by
  unfold Ly.second
  split
  ·exact Fx.in_zero
  ·exact Ly.at_in (Ly.got_in HT.out.in_ 1) i
 generalize hR : (Ly.tab (Ly.got x 0).c.length fun i => Ly.cell kind k0 (Ly.at_ (Ly.got x 0).c i) (Ly.second x i)) = R at *
 have hRl : R.length = (Ly.got x 0).c.length := by rw [← hR, Ly.tab_len]
 have hRg : ∀ i (hi : i < R.length), R[i] = Ly.cell kind k0 (Ly.at_ (Ly.got x 0).c i) (Ly.second x i) := fun i hi => by subst hR; exact Ly.tab_get hi
 have hRin : ∀ z ∈ R, Fx.In z := by rw [← hR]; exact Ly.tab_in fun i _ => Ly.cell_in (Ly.at_in hnum i)
 clear hR
 generalize ht0 : Ly.got x 0 = t at *
 have Ht0 := Lib.hid ht0
 have Hr0 := Lib.hid hr0
 have HRl := Lib.hid hRl
 clear ht0 hr0 hRl
 have y0 := Lib.hid z0
 have y1 := Lib.hid z1
 have H02 := Lib.hid h02
 have Hz2 := Lib.hid hz2
 have Ht := Lib.hid ht
 have HTR := Lib.hid hTR
 have Hnum := Lib.hid hnum
 have Hsecin := Lib.hid hsecin
 have HRg := Lib.hid hRg
 have HRin := Lib.hid hRin
 clear h02 hz2 ht hTR hnum hsecin hRg hRin
 go_wp2_with fail
 clear z0 z1
 refine (tensor_copy S C sc cd t w2 (by omega) (by omega) HTR.out).mono ?_
 rintro e w3 ⟨v, rfl, ⟨g, h, rfl, hg, hh, hG, hH⟩, hb3⟩
 have h23 : Later w2 w3 := hb3
 have h3a : Later w3 (w3.alloc (.cells #[.slice (some ⟨g, 0, none⟩) t.s.length t.s.length, .slice (some ⟨h, 0, none⟩) t.c.length t.c.length] 30)) := (Later.refl w3).alloc _
 have ho := Blk.new w3 30 #[.slice (some ⟨g, 0, none⟩) t.s.length t.s.length, .slice (some ⟨h, 0, none⟩) t.c.length t.c.length]
 have h24 := h23.trans h3a
 have h04 := H02.out.trans h24
 have hz4 := h24.blk Hz2.out
 have hG4 := h3a.blk hG
 have hH4 := h3a.blk hH
 have hs2 := H02.out.size
 have hs3 := h23.size
 have hhl := hH.lt
 have hgl := hG.lt
 have hzl := Hz2.out.lt
 have hgne : g ≠ h := by
  intro e
  subst e
  have h1 : (Obj.cells (t.s.map (Value.int .i64)).toArray 3 (0, 0)) = _ := Option.some.inj (hG.symm.trans hH)
  injection h1 with _ h2 _
  exact absurd h2 (by decide)
 have z1 := h24.cell y1.out
 clear hb3 Hz2 hG hH y0 y1
 have Z1 := Lib.hid z1
 clear z1
 have H23 := Lib.hid h23
 have H3a := Lib.hid h3a
 have Ho := Lib.hid ho
 have H24 := Lib.hid h24
 have H04 := Lib.hid h04
 have Hz4 := Lib.hid hz4
 have HG4 := Lib.hid hG4
 have HH4 := Lib.hid hH4
 clear h23 h3a ho h24 h04 hz4 hG4 hH4
 go_upto_region 5 with fail
 generalize w3.alloc (.cells #[.slice (some ⟨g, 0, none⟩) t.s.length t.s.length, .slice (some ⟨h, 0, none⟩) t.c.length t.c.length] 30) = w4 at *
 generalize hpe : w3.heap.size = p at *
 have hph : h < p := by omega
 have hpz : w.heap.size < p := by omega
 have z1 := Z1.out
 have HT4 := Lib.hid (HTR.out.2.below H24.out (Nat.le_refl _))
 clear Z1 H3a H23 hpe
 go_wp2_with fail
 clear z1
 have hI0 : Blk w4 h 43 ((R.take 0 ++ t.c.drop 0).map (Value.int .i64)).toArray := by simpa using HH4.out
 have HI0 := Lib.hid hI0
 clear hI0
 go_loopw [28] (fun i wx => ∃ k : Nat, k ≤ t.c.length ∧ i = .int .i64 (k : Int) ∧ Blk wx h 43 ((R.take k ++ t.c.drop k).map (Value.int .i64)).toArray ∧ Blk wx p 30 #[.slice (some ⟨g, 0, none⟩) t.s.length t.s.length, .slice (some ⟨h, 0, none⟩) t.c.length t.c.length] ∧ Blk wx w.heap.size 30 #[.slice none 0 0, .slice none 0 0] ∧ Blk wx g 3 (t.s.map (Value.int .i64)).toArray ∧ Later w wx ∧ Later w2 wx) (fun i _ => t.c.length - (intOf i).toNat)
 case atStart => exact ⟨0, Nat.zero_le _, rfl, HI0.out, Ho.out, Hz4.out, HG4.out, H04.out, H24.out⟩
 case round =>
  obtain ⟨k, hk, rfl, hm, hox, hzx, hgx, hlw, hlw2'⟩ := hrel
  clear HI0
  by_cases hlt : k < t.c.length
  ·obtain ⟨b2, off2, rfl, -, hc2⟩ := (HTR.out.2.below hlw2' (Nat.le_refl _)) k hlt
   rw [show t.c.getD k 0 = Ly.at_ t.c k from rfl] at hc2
   have hltR : k < R.length := by have := HRl.out; omega
   have hst := Ly.mid_step R t.c hltR HRl.out
   have hlen := Ly.mid_len R t.c k (by omega) HRl.out
   have hRk := HRg.out k hltR
   have hxin := Ly.at_in Hnum.out k
   have hsin := Hsecin.out k
   have hTx := HT.out.later hlw
   have hsecl : 2 ≤ x.length → k < (Ly.got x 1).c.length := fun h => by rw [Hsec.out h]; exact hlt
   have hc1 := fun (V : World) (hV : Later w V) => point_second (some ⟨b, off, none⟩) f x k V hl (HT.out.later hV) hsecl
   have hc3 := fun (V : World) => point_cell kind k0 (Ly.at_ t.c k) (Ly.second x k) V k1 k7 Hk0.out hxin hsin
   rw [hRk] at hst
   rw [← hRk] at hc3 hst
   have hc3' : ∀ (V : World), Calls Tryz.prog 76 #[.int .i64 kind, .int .i64 k0, .int .i64 (Ly.at_ t.c k), .int .i64 (Ly.second x k)] V fun e w' => e = .returned (.int .i64 R[k]) ∧ V = w' := hc3
   generalize hy : R[k] = y at *
   generalize Ly.at_ t.c k = xk at *
   generalize Ly.second x k = sk at *
   have o1 : wr.cell? ⟨p, 1, none⟩ = some (.slice (some ⟨h, 0, none⟩) t.c.length t.c.length) := by rw [hox.cell]; rfl
   obtain ⟨u, hu⟩ : ∃ u, wr.cell? ⟨h, k, none⟩ = some u := ⟨_, hm.row_get (by rw [hlen]; exact hltR)⟩
   have fu := hm.frozen k
   have hm2 : Blk (wr.setCell ⟨h, k, none⟩ (.int .i64 y)) h 43 ((R.take (k + 1) ++ t.c.drop (k + 1)).map (Value.int .i64)).toArray := by
    have := hm.set_ k (.int .i64 y)
    rw [← hst, List.map_set]
    simpa using this
   have hox2 := hox.far (p := ⟨h, k, none⟩) (by simp; omega) (.int .i64 y)
   have hzx2 := hzx.far (p := ⟨h, k, none⟩) (by simp; omega) (.int .i64 y)
   have hgx2 : Blk (wr.setCell ⟨h, k, none⟩ (.int .i64 y)) g 3 (t.s.map (Value.int .i64)).toArray := hgx.far (p := ⟨h, k, none⟩) hgne (.int .i64 y)
   have hlw2 := hlw.set (p := ⟨h, k, none⟩) (by simp; omega) (.int .i64 y)
   have hlw3 := hlw2'.set (p := ⟨h, k, none⟩) hh (.int .i64 y)
   have kk1 : (k : Int) < (t.c.length : Int) := by omega
   have kk2 : (0 : Int) ≤ (k : Int) := by omega
   clear hy hlen hRk hxin hsin hltR hc3
   have Hm := Lib.hid hm
   have Hox := Lib.hid hox
   have Hzx := Lib.hid hzx
   have Hgx := Lib.hid hgx
   have Hm2 := Lib.hid hm2
   have Hox2 := Lib.hid hox2
   have Hzx2 := Lib.hid hzx2
   have Hgx2 := Lib.hid hgx2
   have Hlw2 := Lib.hid hlw2
   have Hlw3 := Lib.hid hlw3
   have Hst := Lib.hid hst
   have Hc1 := Lib.hid hc1
   have Hc3' := Lib.hid hc3'
   have HTx := Lib.hid hTx
   have Hsecl := Lib.hid hsecl
   have Hlw2' := Lib.hid hlw2'
   have Hlw := Lib.hid hlw
   clear hm hox hzx hgx hm2 hox2 hzx2 hgx2 hlw2 hlw3 hst hc1 hc3' hTx hsecl hlw2' hlw
   go_wp2_with fail
   go_region_law ((first
    | (go_simp; go_at_call 77; (with_reducible refine (Hc1.out _ (by first | exact Hlw.out | exact Hlw.out.drew | exact Hlw.out.drewN _)).mono ?_); rintro e wa ⟨rfl, rfl⟩)
    | (go_simp; go_at_call 76; (with_reducible refine (Hc3'.out _).mono ?_); rintro e wb ⟨rfl, rfl⟩)))
   all_goals
    go_wp2_with fail
    go_roundw
    case rel => exact ⟨k + 1, by omega, by go_num, Hm2.out.drew, Hox2.out.drew, Hzx2.out.drew, Hgx2.out.drew, Hlw2.out.drew, Hlw3.out.drew⟩
    case measure => simp [intOf]; omega
  ·obtain rfl : k = t.c.length := by omega
   rw [Ly.mid_end R t.c _ HRl.out.symm HRl.out] at hm
   have o0 : wr.cell? ⟨p, 0, none⟩ = some (.slice (some ⟨g, 0, none⟩) t.s.length t.s.length) := by rw [hox.cell]; rfl
   have o1 : wr.cell? ⟨p, 1, none⟩ = some (.slice (some ⟨h, 0, none⟩) t.c.length t.c.length) := by rw [hox.cell]; rfl
   have c0 := hzx.cell 0
   have c1 := hzx.cell 1
   have f0 := hzx.frozen 0
   have f1 := hzx.frozen 1
   simp at c0 c1
   have hz3 := (hzx.set_ 0 (.slice (some ⟨g, 0, none⟩) t.s.length t.s.length)).set_ 1 (.slice (some ⟨h, 0, none⟩) t.c.length t.c.length)
   have d0 := hz3.cell 0
   have d1 := hz3.cell 1
   simp at d0 d1
   have hgz : g ≠ w.heap.size := by omega
   have hhz : h ≠ w.heap.size := by omega
   have Hm := Lib.hid hm
   have Hox := Lib.hid hox
   have Hzx := Lib.hid hzx
   have Hgx := Lib.hid hgx
   have Hlw := Lib.hid hlw
   have Hz3 := Lib.hid hz3
   clear hm hox hzx hgx hlw hz3
   go_wp2_with fail
   refine bodyPost_ret (v := .tuple #[.agg #[.slice (some ⟨g, 0, none⟩) t.s.length t.s.length, .slice (some ⟨h, 0, none⟩) t.c.length t.c.length], .int .i64 0]) (by simp [results, Tryz.results34, go_sem, d0, d1]) rfl ?_
   refine GoP.ok HE.out (TenN.o ⟨g, h, by simp [HRl.out], by omega, by omega, (Hgx.out.far (p := ⟨w.heap.size, 0, none⟩) hgz _).far (p := ⟨w.heap.size, 1, none⟩) hgz _, (Hm.out.far (p := ⟨w.heap.size, 0, none⟩) hhz _).far (p := ⟨w.heap.size, 1, none⟩) hhz _⟩ (by show t.s.length ≤ _; omega) (by have := HRl.out; show R.length ≤ _; omega) HRin.out) ((Hlw.out.set (p := ⟨w.heap.size, 0, none⟩) (Nat.le_refl _) _).set (p := ⟨w.heap.size, 1, none⟩) (Nat.le_refl _) _)
end Go.Proofs.YtbnnpkcfifejmabGreat
namespace Go.Proofs.YtbnnpkcfifejmabGreat
open Go.RowKit
namespace Ly
theorem alike_a {a b : Ten} (h : Tn.right a = false) : alike a b = false := by simp [alike, h]
theorem alike_b {a b : Ten} (h : Tn.right b = false) : alike a b = false := by simp [alike, h]
theorem alike_s {a b : Ten} (h : Tn.right a = true) (h2 : Tn.right b = true) : alike a b = (a.s == b.s) := by simp [alike, h, h2]; rw [Bool.eq_iff_iff]; simp
theorem alike_yes {a b : Ten} (h : alike a b = true) : Tn.right a = true ∧ Tn.right b = true ∧ a.s = b.s := by simpa [alike, and_assoc] using h
theorem add_err {a b : Ten} (h : alike a b = false) : add a b = (none_, 20) := by simp [add, h]
theorem add_ok {a b : Ten} (h : alike a b = true) : add a b = (⟨a.s, tab a.c.length fun i => Fx.add (at_ a.c i) (at_ b.c i)⟩, 0) := by simp [add, h]
end Ly
theorem two_boxes (w : World) (t t' : TypeId) (a b : Array Value) : Blk ((w.alloc (.cells a t)).alloc (.cells b t')) w.heap.size t a ∧ Blk ((w.alloc (.cells a t)).alloc (.cells b t')) (w.heap.size + 1) t' b ∧ Later w ((w.alloc (.cells a t)).alloc (.cells b t')) := by
 refine ⟨(Blk.new w t a).alloc _, ?_, ((Later.refl w).alloc _).alloc _⟩
 have := Blk.new (w.alloc (.cells a t)) t' b
 rwa [World.size_alloc] at this
set_option maxHeartbeats 4000000 in
theorem tensor_alike (S C S' C' : Option Addr) (c d c' d' : Nat) (a b : Ten) (w : World) (ha : TenIn w S C c d a) (hb : TenIn w S' C' c' d' b) :
  Calls Tryz.prog 103 #[.agg #[.slice S a.s.length c, .slice C a.c.length d], .agg #[.slice S' b.s.length c', .slice C' b.c.length d']] w fun e w' => e = .returned (.bool (Ly.alike a b)) ∧ Below w.heap.size w w' := by
 obtain ⟨hk0, hk1, h02⟩ := two_boxes w 30 30 #[.slice S a.s.length c, .slice C a.c.length d] #[.slice S' b.s.length c', .slice C' b.c.length d']
 have la := ha.l1
 have lb := hb.l1
 have la2 := ha.l2
 have lb2 := hb.l2
 have Hk0 := Lib.hid hk0
 have Hk1 := Lib.hid hk1
 have H02 := Lib.hid h02
 have Ha := Lib.hid ha
 have Hb := Lib.hid hb
 clear hk0 hk1 h02 ha hb
 go_enter Tryz.func103, Tryz.ntmps103
 go_wp2_with fail
 generalize (w.alloc (.cells #[.slice S a.s.length c, .slice C a.c.length d] 30)).alloc (.cells #[.slice S' b.s.length c', .slice C' b.c.length d'] 30) = w2 at *
 have x0 : w2.cell? ⟨w.heap.size, 0, none⟩ = some (.slice S a.s.length c) := by rw [Hk0.out.cell]; rfl
 have x1 : w2.cell? ⟨w.heap.size, 1, none⟩ = some (.slice C a.c.length d) := by rw [Hk0.out.cell]; rfl
 have x2 : w2.cell? ⟨w.heap.size + 1, 0, none⟩ = some (.slice S' b.s.length c') := by rw [Hk1.out.cell]; rfl
 have x3 : w2.cell? ⟨w.heap.size + 1, 1, none⟩ = some (.slice C' b.c.length d') := by rw [Hk1.out.cell]; rfl
 have hA := (Ha.out.later H02.out)
 have hB := (Hb.out.later H02.out)
 have hc1 := fun (V : World) (h : Later w2 V) => tensor_right S C c d a V (by omega) (by omega) (hA.later h).r.1
 have hc2 := fun (V : World) (h : Later w2 V) => tensor_right S' C' c' d' b V (by omega) (by omega) (hB.later h).r.1
 have hc3 := fun (V : World) (h : Later w2 V) => shape_equal S S' c c' a.s b.s V (by omega) (by omega) (hA.later h).r.1 (hB.later h).r.1
 clear hA hB
 have Hc1 := Lib.hid hc1
 have Hc2 := Lib.hid hc2
 have Hc3 := Lib.hid hc3
 clear hc1 hc2 hc3
 refine (Hc1.out w2 (Later.refl _)).mono ?_
 rintro e w3 ⟨rfl, hb3⟩
 have h23 : Later w2 w3 := hb3
 have y2 := h23.cell x2
 have y0 := h23.cell x0
 have y3 := h23.cell x3
 clear x0 x1 x2 x3 hb3
 cases hr : Tn.right a
 ·have HE := Lib.hid (Ly.alike_a (b := b) hr)
  clear hr
  have H23 := Lib.hid h23
  clear h23
  go_wp2_with fail
  go_ret
  exact ⟨by rw [HE.out]; rfl, H02.out.trans H23.out⟩
 ·have h02 := Hc2.out w3 h23
  have hc3 := Hc3.out
  have H23 := Lib.hid h23
  have Hq := Lib.hid h02
  have Hq3 := Lib.hid hc3
  clear h23 h02 hc3
  go_wp2_with fail
  refine (Hq.out).mono ?_
  rintro e w4 ⟨rfl, hb4⟩
  have h34 : Later w3 w4 := hb4
  have z2 := h34.cell y2
  have z0 := h34.cell y0
  clear y0 y2 y3 hb4
  cases hr2 : Tn.right b
  ·have HE := Lib.hid (Ly.alike_b (a := a) hr2)
   clear hr hr2
   have H34 := Lib.hid h34
   clear h34
   go_wp2_with fail
   go_ret
   exact ⟨by rw [HE.out]; rfl, (H02.out.trans H23.out).trans H34.out⟩
  ·have HE := Lib.hid (Ly.alike_s hr hr2)
   clear hr hr2
   have H34 := Lib.hid h34
   clear h34
   go_wp2_with fail
   refine (Hq3.out w4 (H23.out.trans H34.out)).mono ?_
   rintro e w5 ⟨rfl, q, rfl⟩
   go_wp2_with fail
   go_ret
   exact ⟨by rw [HE.out]; rfl, ((H02.out.trans H23.out).trans H34.out).drewN q⟩
namespace Ly
theorem mid_at (C L : List Int) {k : Nat} (hk : k < L.length) (hn : C.length = L.length) : ∃ h : k < (C.take k ++ L.drop k).length, (C.take k ++ L.drop k)[k] = L[k] := by
 have h1 : (C.take k).length = k := by simp; omega
 refine ⟨by simp; omega, ?_⟩
 rw [List.getElem_append_right (by omega)]
 simp [h1]
end Ly
theorem three_boxes (w : World) (t t' t2 : TypeId) (a b z : Array Value) : Blk (((w.alloc (.cells a t)).alloc (.cells b t')).alloc (.cells z t2)) w.heap.size t a ∧ Blk (((w.alloc (.cells a t)).alloc (.cells b t')).alloc (.cells z t2)) (w.heap.size + 1) t' b ∧ Blk (((w.alloc (.cells a t)).alloc (.cells b t')).alloc (.cells z t2)) (w.heap.size + 2) t2 z ∧ Later w (((w.alloc (.cells a t)).alloc (.cells b t')).alloc (.cells z t2)) := by
 obtain ⟨h1, h2, h3⟩ := two_boxes w t t' a b
 refine ⟨h1.alloc _, h2.alloc _, ?_, h3.alloc _⟩
 have := Blk.new ((w.alloc (.cells a t)).alloc (.cells b t')) t2 z
 rwa [World.size_alloc, World.size_alloc] at this
theorem rows_apart {w : World} {g h : Nat} {s c : List Int} (hG : Blk w g 3 (s.map (Value.int .i64)).toArray) (hH : Blk w h 43 (c.map (Value.int .i64)).toArray) : g ≠ h := by
 intro e
 subst e
 have h1 : (Obj.cells (s.map (Value.int .i64)).toArray 3 (0, 0)) = _ := Option.some.inj (hG.symm.trans hH)
 injection h1 with _ h2 _
 exact absurd h2 (by decide)
set_option maxHeartbeats 8000000 in
theorem tensor_add (S C S' C' : Option Addr) (c d c' d' : Nat) (a b : Ten) (w : World) (ha : TenIn w S C c d a) (hb : TenIn w S' C' c' d' b) :
  Calls Tryz.prog 64 #[.agg #[.slice S a.s.length c, .slice C a.c.length d], .agg #[.slice S' b.s.length c', .slice C' b.c.length d']] w (GoP (Ly.add a b) w) := by
 obtain ⟨hk0, hk1, hz, h01⟩ := three_boxes w 30 30 30 #[.slice S a.s.length c, .slice C a.c.length d] #[.slice S' b.s.length c', .slice C' b.c.length d'] #[.slice none 0 0, .slice none 0 0]
 have Hk0 := Lib.hid hk0
 have Hk1 := Lib.hid hk1
 have Hz := Lib.hid hz
 have H01 := Lib.hid h01
 have Ha := Lib.hid ha
 have Hb := Lib.hid hb
 clear hk0 hk1 hz h01 ha hb
 go_enter Tryz.func64, Tryz.ntmps64
 go_wp2_with fail
 generalize ((w.alloc (.cells #[.slice S a.s.length c, .slice C a.c.length d] 30)).alloc (.cells #[.slice S' b.s.length c', .slice C' b.c.length d'] 30)).alloc (.cells #[.slice none 0 0, .slice none 0 0] 30) = w1 at *
 refine (tensor_alike S C S' C' c d c' d' a b w1 (Ha.out.later H01.out) (Hb.out.later H01.out)).mono ?_
 rintro e w2 ⟨rfl, hb2⟩
 have h12 : Later w1 w2 := hb2
 have h02 := H01.out.trans h12
 have hz2 := h12.blk Hz.out
 have ha2 := h12.blk Hk0.out
 have hb2' := h12.blk Hk1.out
 clear hb2 Hz H01 Hk0 Hk1 h12
 cases hg : Ly.alike a b
 ·have HE := Lib.hid (Ly.add_err hg)
  clear hg
  have c0 := hz2.cell 0
  have c1 := hz2.cell 1
  have f0 := hz2.frozen 0
  have f1 := hz2.frozen 1
  simp at c0 c1
  have H02 := Lib.hid h02
  have Hz2 := Lib.hid hz2
  have Ha2 := Lib.hid ha2
  have Hb2' := Lib.hid hb2'
  clear h02 hz2 ha2 hb2'
  go_wp2_with fail
  refine bodyPost_ret (v := .tuple #[.agg #[.slice none 0 0, .slice none 0 0], .int .i64 20]) (by simp [results, Tryz.results64, go_sem, c0, c1]) rfl ?_
  exact GoP.fail HE.out (by decide) ((H02.out.set (p := ⟨w.heap.size + 2, 0, none⟩) (by simp) _).set (p := ⟨w.heap.size + 2, 1, none⟩) (by simp) _)
 obtain ⟨hra, hrb, hs⟩ := Ly.alike_yes hg
 have HE := Lib.hid (Ly.add_ok hg)
 have hlen : b.c.length = a.c.length := (Ly.same_len hra hrb hs).symm
 obtain ⟨r1, r2⟩ := Ly.right_ok hra
 generalize hR : (Ly.tab a.c.length fun i => Fx.add (Ly.at_ a.c i) (Ly.at_ b.c i)) = R at *
 have hRl : R.length = a.c.length := by rw [← hR, Ly.tab_len]
 have hRg : ∀ i (hi : i < R.length), R[i] = Fx.add (Ly.at_ a.c i) (Ly.at_ b.c i) := fun i hi => by subst hR; exact Ly.tab_get hi
 have hRin : ∀ z ∈ R, Fx.In z := by rw [← hR]; exact Ly.tab_in fun i _ => Fx.add_in _ _
 have x0 := ha2.cell 0
 have x1 := ha2.cell 1
 have x2 := hb2'.cell 0
 have x3 := hb2'.cell 1
 simp at x0 x1 x2 x3
 have HL := Lib.hid hlen
 have HRl := Lib.hid hRl
 have hna := Ha.out.num
 have hnb := Hb.out.num
 clear hR hg hra hrb hs hlen hRl
 have H02 := Lib.hid h02
 have Hz2 := Lib.hid hz2
 have Ha2 := Lib.hid ha2
 have Hb2' := Lib.hid hb2'
 have HRg := Lib.hid hRg
 have HRin := Lib.hid hRin
 have Hna := Lib.hid hna
 have Hnb := Lib.hid hnb
 clear h02 hz2 ha2 hb2' hRg hRin hna hnb
 go_wp2_with fail
 have X3 := Lib.hid x3
 clear x0 x1 x2 x3
 refine (tensor_copy S C c d a w2 (by omega) (by omega) (Ha.out.later H02.out).r).mono ?_
 rintro e w3 ⟨v, rfl, ⟨g, h, rfl, hg, hh, hG, hH⟩, hb3⟩
 have h23 : Later w2 w3 := hb3
 have h3a : Later w3 (w3.alloc (.cells #[.slice (some ⟨g, 0, none⟩) a.s.length a.s.length, .slice (some ⟨h, 0, none⟩) a.c.length a.c.length] 30)) := (Later.refl w3).alloc _
 have ho := Blk.new w3 30 #[.slice (some ⟨g, 0, none⟩) a.s.length a.s.length, .slice (some ⟨h, 0, none⟩) a.c.length a.c.length]
 have h24 := h23.trans h3a
 have h04 := H02.out.trans h24
 have hz4 := h24.blk Hz2.out
 have hG4 := h3a.blk hG
 have hH4 := h3a.blk hH
 have hs2 := H02.out.size
 have hs3 := h23.size
 have hhl := hH.lt
 have hgl := hG.lt
 have hzl := Hz2.out.lt
 have hgne := rows_apart hG hH
 have x3 := h24.cell X3.out
 clear hb3 Hz2 hG hH X3
 have X3 := Lib.hid x3
 clear x3
 have H23 := Lib.hid h23
 have H3a := Lib.hid h3a
 have Ho := Lib.hid ho
 have H24 := Lib.hid h24
 have H04 := Lib.hid h04
 have Hz4 := Lib.hid hz4
 have HG4 := Lib.hid hG4
 have HH4 := Lib.hid hH4
 clear h23 h3a ho h24 h04 hz4 hG4 hH4
 go_upto_region 4 with fail
 generalize w3.alloc (.cells #[.slice (some ⟨g, 0, none⟩) a.s.length a.s.length, .slice (some ⟨h, 0, none⟩) a.c.length a.c.length] 30) = w4 at *
 generalize hpe : w3.heap.size = p at *
 have hph : h < p := by omega
 have hpz : w.heap.size + 2 < p := by omega
 have x3 := X3.out
 clear X3 H3a H23 hpe
 go_wp2_with fail
 clear x3
 have hI0 : Blk w4 h 43 ((R.take 0 ++ a.c.drop 0).map (Value.int .i64)).toArray := by simpa using HH4.out
 have HI0 := Lib.hid hI0
 clear hI0
 go_loopw [19] (fun i wx => ∃ k : Nat, k ≤ b.c.length ∧ i = .int .i64 (k : Int) ∧ Blk wx h 43 ((R.take k ++ a.c.drop k).map (Value.int .i64)).toArray ∧ Blk wx p 30 #[.slice (some ⟨g, 0, none⟩) a.s.length a.s.length, .slice (some ⟨h, 0, none⟩) a.c.length a.c.length] ∧ Blk wx (w.heap.size + 2) 30 #[.slice none 0 0, .slice none 0 0] ∧ Blk wx g 3 (a.s.map (Value.int .i64)).toArray ∧ Later w wx) (fun i _ => b.c.length - (intOf i).toNat)
 case atStart => exact ⟨0, Nat.zero_le _, rfl, HI0.out, Ho.out, Hz4.out, HG4.out, H04.out⟩
 case round =>
  obtain ⟨k, hk, rfl, hm, hox, hzx, hgx, hlw⟩ := hrel
  clear HI0
  have hal : b.c.length ≤ a.c.length := Nat.le_of_eq HL.out
  by_cases hlt : k < b.c.length
  ·obtain ⟨b2, off2, rfl, -, hc2⟩ := (Hb.out.later hlw).cell hlt
   have hltR : k < R.length := by have := HRl.out; omega
   have hst := Ly.mid_step R a.c hltR HRl.out
   have hlen := Ly.mid_len R a.c k (by omega) HRl.out
   obtain ⟨hq1, hq2⟩ := Ly.mid_at R a.c (k := k) (by omega) HRl.out
   have hcur := hm.row_get hq1
   rw [hq2, ← Ly.at_get (show k < a.c.length by omega)] at hcur
   have hRk := HRg.out k hltR
   have hxin := Ly.at_in Hna.out k
   have hyin := Ly.at_in Hnb.out k
   have hc1 := fun (V : World) => fix_add (Ly.at_ a.c k) (Ly.at_ b.c k) V hxin hyin
   rw [hRk] at hst
   generalize Ly.at_ a.c k = xk at *
   generalize Ly.at_ b.c k = yk at *
   have o1 : wr.cell? ⟨p, 1, none⟩ = some (.slice (some ⟨h, 0, none⟩) a.c.length a.c.length) := by rw [hox.cell]; rfl
   have fu := hm.frozen k
   have hm2 : Blk (wr.setCell ⟨h, k, none⟩ (.int .i64 (Fx.add xk yk))) h 43 ((R.take (k + 1) ++ a.c.drop (k + 1)).map (Value.int .i64)).toArray := by
    have := hm.set_ k (.int .i64 (Fx.add xk yk))
    rw [← hst, List.map_set]
    simpa using this
   have hox2 := hox.far (p := ⟨h, k, none⟩) (by simp; omega) (.int .i64 (Fx.add xk yk))
   have hzx2 := hzx.far (p := ⟨h, k, none⟩) (by simp; omega) (.int .i64 (Fx.add xk yk))
   have hgx2 : Blk (wr.setCell ⟨h, k, none⟩ (.int .i64 (Fx.add xk yk))) g 3 (a.s.map (Value.int .i64)).toArray := hgx.far (p := ⟨h, k, none⟩) hgne (.int .i64 (Fx.add xk yk))
   have hlw2 := hlw.set (p := ⟨h, k, none⟩) (by simp; omega) (.int .i64 (Fx.add xk yk))
   have kk1 : (k : Int) < (a.c.length : Int) := by omega
   have kk2 : (0 : Int) ≤ (k : Int) := by omega
   have kk3 : (k : Int) < (b.c.length : Int) := by omega
   clear hlen hRk hxin hyin hltR hq1 hq2
   have Hm := Lib.hid hm
   have Hox := Lib.hid hox
   have Hzx := Lib.hid hzx
   have Hgx := Lib.hid hgx
   have Hm2 := Lib.hid hm2
   have Hox2 := Lib.hid hox2
   have Hzx2 := Lib.hid hzx2
   have Hgx2 := Lib.hid hgx2
   have Hlw2 := Lib.hid hlw2
   have Hst := Lib.hid hst
   have Hc1 := Lib.hid hc1
   have Hlw := Lib.hid hlw
   clear hm hox hzx hgx hm2 hox2 hzx2 hgx2 hlw2 hst hc1 hlw
   go_wp2_with fail
   go_region_law ((first
    | (go_simp; go_at_call 63; (with_reducible refine (Hc1.out _).mono ?_); rintro e wa ⟨rfl, rfl⟩)))
   all_goals
    go_wp2_with fail
    go_roundw
    case rel => exact ⟨k + 1, by omega, by go_num, Hm2.out.drew, Hox2.out.drew, Hzx2.out.drew, Hgx2.out.drew, Hlw2.out.drew⟩
    case measure => simp [intOf]; omega
  ·have hke : k = a.c.length := by have := HL.out; omega
   rw [Ly.mid_end R a.c _ (by rw [hke]; exact HRl.out.symm) HRl.out] at hm
   obtain rfl : k = b.c.length := by omega
   have HKE := Lib.hid hke
   clear hke
   have o0 : wr.cell? ⟨p, 0, none⟩ = some (.slice (some ⟨g, 0, none⟩) a.s.length a.s.length) := by rw [hox.cell]; rfl
   have o1 : wr.cell? ⟨p, 1, none⟩ = some (.slice (some ⟨h, 0, none⟩) a.c.length a.c.length) := by rw [hox.cell]; rfl
   have c0 := hzx.cell 0
   have c1 := hzx.cell 1
   have f0 := hzx.frozen 0
   have f1 := hzx.frozen 1
   simp at c0 c1
   have hz3 := (hzx.set_ 0 (.slice (some ⟨g, 0, none⟩) a.s.length a.s.length)).set_ 1 (.slice (some ⟨h, 0, none⟩) a.c.length a.c.length)
   have d0 := hz3.cell 0
   have d1 := hz3.cell 1
   simp at d0 d1
   have hgz : g ≠ w.heap.size + 2 := by omega
   have hhz : h ≠ w.heap.size + 2 := by omega
   have Hm := Lib.hid hm
   have Hox := Lib.hid hox
   have Hzx := Lib.hid hzx
   have Hgx := Lib.hid hgx
   have Hlw := Lib.hid hlw
   have Hz3 := Lib.hid hz3
   clear hm hox hzx hgx hlw hz3
   go_wp2_with fail
   refine bodyPost_ret (v := .tuple #[.agg #[.slice (some ⟨g, 0, none⟩) a.s.length a.s.length, .slice (some ⟨h, 0, none⟩) a.c.length a.c.length], .int .i64 0]) (by simp [results, Tryz.results64, go_sem, d0, d1]) rfl ?_
   refine GoP.ok HE.out (TenN.o ⟨g, h, by simp [HRl.out], by omega, by omega, (Hgx.out.far (p := ⟨w.heap.size + 2, 0, none⟩) hgz _).far (p := ⟨w.heap.size + 2, 1, none⟩) hgz _, (Hm.out.far (p := ⟨w.heap.size + 2, 0, none⟩) hhz _).far (p := ⟨w.heap.size + 2, 1, none⟩) hhz _⟩ (by show a.s.length ≤ _; omega) (by have := HRl.out; show R.length ≤ _; omega) HRin.out) ((Hlw.out.set (p := ⟨w.heap.size + 2, 0, none⟩) (by simp) _).set (p := ⟨w.heap.size + 2, 1, none⟩) (by simp) _)
theorem dense_bias (S C S' C' : Option Addr) (c d c' d' : Nat) (b x : Ten) (w : World) (hb : TenIn w S C c d b) (hx : TenIn w S' C' c' d' x) :
  Calls Tryz.prog 28 #[.agg #[.slice S b.s.length c, .slice C b.c.length d], .agg #[.slice S' x.s.length c', .slice C' x.c.length d']] w (GoP (Ly.add x b) w) := by
 obtain ⟨hk0, hk1, hz, h01⟩ := three_boxes w 30 30 30 #[.slice S b.s.length c, .slice C b.c.length d] #[.slice S' x.s.length c', .slice C' x.c.length d'] #[.slice none 0 0, .slice none 0 0]
 have Hk0 := Lib.hid hk0
 have Hk1 := Lib.hid hk1
 have Hz := Lib.hid hz
 have H01 := Lib.hid h01
 have Hb := Lib.hid hb
 have Hx := Lib.hid hx
 clear hk0 hk1 hz h01 hb hx
 go_enter Tryz.func28, Tryz.ntmps28
 go_wp2_with fail
 generalize ((w.alloc (.cells #[.slice S b.s.length c, .slice C b.c.length d] 30)).alloc (.cells #[.slice S' x.s.length c', .slice C' x.c.length d'] 30)).alloc (.cells #[.slice none 0 0, .slice none 0 0] 30) = w1 at *
 refine (tensor_add S' C' S C c' d' c d x b w1 (Hx.out.later H01.out) (Hb.out.later H01.out)).mono ?_
 rintro e wf hgo
 have hlf : Later w1 wf := hgo.2
 have hzf := hlf.blk Hz.out
 have h0f := H01.out.trans hlf
 have f0 := hzf.frozen 0
 have f1 := hzf.frozen 1
 have hpz : w.heap.size ≤ w.heap.size + 2 := by first | exact Nat.le_refl _ | simp | omega
 rcases hgo.1 with ⟨hne, rfl⟩ | ⟨hn0, v, rfl, hten⟩
 ·have c0 := hzf.cell 0
  have c1 := hzf.cell 1
  simp at c0 c1
  have Hne0 := hne
  generalize hge : (Ly.add x b).2 = ge at *
  have Hge := Lib.hid hge
  have Hne := Lib.hid Hne0
  clear Hne0
  clear hgo hne hlf hge
  have HZf := Lib.hid hzf
  have HLf := Lib.hid h0f
  clear hzf h0f
  go_wp2_with fail
  refine bodyPost_ret (v := .tuple #[.agg #[.slice none 0 0, .slice none 0 0], .int .i64 ge]) (by simp [results, Tryz.results28, go_sem, c0, c1]) rfl ?_
  exact GoP.fail2 Hge.out Hne.out ((HLf.out.set (p := ⟨w.heap.size + 2, 0, none⟩) hpz _).set (p := ⟨w.heap.size + 2, 1, none⟩) hpz _)
 ·have hto := hten.base (H01.out.size)
  clear hgo hten
  obtain ⟨S2, c2, C2, d2, rfl, hti, hs2, hc2⟩ := hto
  have hz3 := (hzf.set_ 0 (.slice S2 (Ly.add x b).1.s.length c2)).set_ 1 (.slice C2 (Ly.add x b).1.c.length d2)
  have d0 := hz3.cell 0
  have d1 := hz3.cell 1
  simp at d0 d1
  have c0 := hzf.cell 0
  have c1 := hzf.cell 1
  simp at c0 c1
  have Hn0 := Lib.hid hn0
  have HZ3 := Lib.hid hz3
  have HZf := Lib.hid hzf
  have HLf := Lib.hid h0f
  have HLF := Lib.hid hlf
  have HTI := Lib.hid hti
  have HS2 := Lib.hid hs2
  have HC2 := Lib.hid hc2
  clear hz3 hzf h0f hlf hti hs2 hc2 hn0
  go_wp2_with fail
  refine bodyPost_ret (v := .tuple #[.agg #[.slice S2 (Ly.add x b).1.s.length c2, .slice C2 (Ly.add x b).1.c.length d2], .int .i64 0]) (by simp [results, Tryz.results28, go_sem, d0, d1]) rfl ?_
  exact ⟨.inr ⟨Hn0.out, _, rfl, TenO.box ⟨S2, c2, C2, d2, rfl, HTI.out, HS2.out, HC2.out⟩ HZf.out⟩, (HLf.out.set (p := ⟨w.heap.size + 2, 0, none⟩) hpz _).set (p := ⟨w.heap.size + 2, 1, none⟩) hpz _⟩
end Go.Proofs.YtbnnpkcfifejmabGreat
namespace Go.Proofs.YtbnnpkcfifejmabGreat
open Go.RowKit
namespace Pn
def tenIs (t : Ten) (s : List Int) : Bool := Tn.right t && (t.s == s)
def parOk (ps : List Ten) (ss : List (List Int)) (k : Nat) : Bool := (List.range k).all fun i => tenIs (Ly.got ps i) (ss.getD i [])
def fits (n : NetD) (ps : List Ten) (x : Ten) : Int :=
 if Nt.check n ≠ 0 then Nt.check n else if ps.length ≠ (Nt.params n).length then 20 else if parOk ps (Nt.params n) (Nt.params n).length = false then 20 else if tenIs x n.inn then 0 else 20
theorem parOk_succ {ps : List Ten} {ss : List (List Int)} {k : Nat} (h : parOk ps ss k = true) (h2 : tenIs (Ly.got ps k) (ss.getD k []) = true) : parOk ps ss (k + 1) = true := by
 unfold parOk at h ⊢
 rw [List.range_succ, List.all_append, h, List.all_cons, h2]
 rfl
theorem parOk_bad {ps : List Ten} {ss : List (List Int)} {k m : Nat} (hk : k < m) (h2 : tenIs (Ly.got ps k) (ss.getD k []) = false) : parOk ps ss m = false := by
 unfold parOk
 rw [List.all_eq_false]
 exact ⟨k, by simpa using hk, by rw [h2]; simp⟩
end Pn
set_option maxHeartbeats 16000000 in
set_option maxRecDepth 20000 in
theorem plain_fits (A N P XS XC : Option Addr) (c d cp xc xd : Nat) (n : NetD) (ps : List Ten) (x : Ten) (w : World) (hok : n.ok) (hR : NetR w A N n) (hd : n.nodes.length ≤ d) (hP : Tns w P ps) (lP : ps.length ≤ 1048576) (hX : TenIn w XS XC xc xd x) :
  Calls Tryz.prog 19 #[.agg #[.slice A n.inn.length c, .slice N n.nodes.length d], .slice P ps.length cp, .agg #[.slice XS x.s.length xc, .slice XC x.c.length xd]] w fun e w' => e = .returned (.int .i64 (Pn.fits n ps x)) ∧ Below w.heap.size w w' := by
 have hkn := (Blk.new w 26 #[.slice A n.inn.length c, .slice N n.nodes.length d]).alloc (.cells #[.slice XS x.s.length xc, .slice XC x.c.length xd] 30)
 have hkx := Blk.new (w.alloc (.cells #[.slice A n.inn.length c, .slice N n.nodes.length d] 26)) 30 #[.slice XS x.s.length xc, .slice XC x.c.length xd]
 rw [World.size_alloc] at hkx
 have h01 : Later w ((w.alloc (.cells #[.slice A n.inn.length c, .slice N n.nodes.length d] 26)).alloc (.cells #[.slice XS x.s.length xc, .slice XC x.c.length xd] 30)) := ((Later.refl w).alloc _).alloc _
 have hil := hok.1
 have lx1 := hX.l1
 have lx2 := hX.l2
 have Hok := Lib.hid hok
 have HR := Lib.hid hR
 have HP := Lib.hid hP
 have HX := Lib.hid hX
 have Hkn := Lib.hid hkn
 have Hkx := Lib.hid hkx
 have H01 := Lib.hid h01
 clear hok hR hP hX hkn hkx h01
 go_enter Tryz.func19, Tryz.ntmps19
 go_upto_region 1 with fail
 generalize (w.alloc (.cells #[.slice A n.inn.length c, .slice N n.nodes.length d] 26)).alloc (.cells #[.slice XS x.s.length xc, .slice XC x.c.length xd] 30) = w1 at *
 have a0 := Hkn.out.cell 0
 have a1 := Hkn.out.cell 1
 simp at a0 a1
 go_wp2_with fail
 refine (net_check A N c d n w1 Hok.out (HR.out.below H01.out (Nat.le_refl _)) hd).mono ?_
 rintro e w2 ⟨rfl, hb2⟩
 have h12 : Later w1 w2 := hb2
 have h02 := H01.out.trans h12
 have hk2 := h12.blk Hkn.out
 have hx2 := h12.blk Hkx.out
 clear hb2 a0 a1
 by_cases hc : Nt.check n = 0
 case neg =>
  have HE := Lib.hid (show Pn.fits n ps x = Nt.check n by unfold Pn.fits; rw [if_pos hc])
  have d2 : (Nt.check n != 0) = true := by simpa using hc
  clear hc
  generalize Nt.check n = ge at *
  have H12 := Lib.hid h12
  have H02 := Lib.hid h02
  have Hk2 := Lib.hid hk2
  have Hx2 := Lib.hid hx2
  clear h12 h02 hk2 hx2
  go_wp2_with fail
  go_ret
  exact ⟨by (rw [HE.out] <;> rfl), H02.out⟩
 have he := show Pn.fits n ps x = (if ps.length ≠ (Nt.params n).length then 20 else if Pn.parOk ps (Nt.params n) (Nt.params n).length = false then 20 else if Pn.tenIs x n.inn then 0 else 20) by unfold Pn.fits; rw [if_neg (by omega)]
 rw [hc]
 clear hc
 have a0 := hk2.cell 0
 have a1 := hk2.cell 1
 simp at a0 a1
 have H12 := Lib.hid h12
 have H02 := Lib.hid h02
 have Hk2 := Lib.hid hk2
 have Hx2 := Lib.hid hx2
 have He := Lib.hid he
 clear h12 h02 hk2 hx2 he
 go_wp2_with fail
 refine (net_params A N c d n w2 Hok.out (HR.out.below H02.out (Nat.le_refl _))).mono ?_
 rintro e w3 ⟨B, bc, rfl, hB, hB1, hB2, hb3⟩
 have h23 : Later w2 w3 := hb3
 have h03 := H02.out.trans h23
 have hk3 := h23.blk Hk2.out
 have hx3 := h23.blk Hx2.out
 have hsl : ∀ s ∈ Nt.params n, s.length ≤ 1048576 := fun s hs => by
  unfold Nt.params at hs
  obtain ⟨v, hv, hvs⟩ := List.mem_flatMap.1 hs
  exact (Hok.out.2.2 v hv).2.2.2.2.1 s hvs
 clear hb3 a0 a1
 generalize Nt.params n = ss at *
 have H23 := Lib.hid h23
 have H03 := Lib.hid h03
 have Hk3 := Lib.hid hk3
 have Hx3 := Lib.hid hx3
 have HB := Lib.hid hB
 have Hsl := Lib.hid hsl
 clear h23 h03 hk3 hx3 hB hsl
 by_cases hl : ps.length = ss.length
 case neg =>
  have HE := Lib.hid (He.out.trans (if_pos hl))
  have d2 : ((ps.length : Int) != (ss.length : Int)) = true := by simp; omega
  clear hl
  go_wp2_with fail
  go_ret
  exact ⟨by (rw [HE.out] <;> rfl), H03.out⟩
 have he2 := He.out.trans (if_neg (by omega))
 have d2 : ((ps.length : Int) != (ss.length : Int)) = false := by simp; omega
 have hl1 : ss.length ≤ 1048576 := by omega
 have Hl := Lib.hid hl
 clear hl
 have He2 := Lib.hid he2
 clear he2
 go_wp2_with fail
 clear d2
 go_loopw [25] (fun i wx => ∃ k : Nat, k ≤ ss.length ∧ i = .int .i64 (k : Int) ∧ Pn.parOk ps ss k = true ∧ Later w3 wx) (fun i _ => ss.length - (intOf i).toNat)
 case atStart => exact ⟨0, Nat.zero_le _, rfl, rfl, Later.refl _⟩
 case round =>
  obtain ⟨k, hk, rfl, hall, hlx⟩ := hrel
  by_cases hlt : k < ss.length
  ·obtain ⟨b, off, T, tc, rfl, -, hcs, hIs, hs1, hs2⟩ := (HB.out.below hlx (Nat.le_refl _)) k hlt
   have hltp : k < ps.length := by rw [Hl.out]; exact hlt
   obtain ⟨b', off', S', sc, C', cc, rfl, -, p0, p1, hT⟩ := (HP.out.later (H03.out.trans hlx)).at_ hltp
   have hsk := Hsl.out _ (List.getElem_mem hlt)
   have hgd : ss.getD k [] = ss[k] := by rw [List.getD_eq_getElem?_getD, List.getElem?_eq_getElem hlt]; rfl
   have hbad := fun h => Pn.parOk_bad (ps := ps) (ss := ss) (m := ss.length) hlt h
   have hgood := fun h => Pn.parOk_succ hall h
   rw [hgd] at hbad hgood
   have t1 := hT.l1
   have t2 := hT.l2
   have kk1 : (k : Int) < (ss.length : Int) := by omega
   have kk2 : (k : Int) < (ps.length : Int) := by omega
   generalize ss[k] = s at *
   generalize Ly.got ps k = t at *
   have hrg := fun (V : World) (h : Later wr V) => tensor_right S' C' sc cc t V (by omega) (by omega) (hT.later h).r.1
   have heq := fun (V : World) (h : Later wr V) => shape_equal S' T sc tc t.s s V (by omega) (by omega) (hT.later h).r.1 (hIs.below h (Nat.le_refl _))
   have Hall := Lib.hid hall
   have Hlx := Lib.hid hlx
   have Hbad := Lib.hid hbad
   have Hgood := Lib.hid hgood
   have Hrg := Lib.hid hrg
   have Heq := Lib.hid heq
   clear hall hlx hbad hgood hrg heq
   clear hIs hT hgd
   cases hr : Tn.right t
   ·have HE := Lib.hid (He2.out.trans (if_pos (Hbad.out (by unfold Pn.tenIs; rw [hr]; rfl))))
    rw [hr] at Hrg
    go_wp2_with fail
    refine (Hrg.out _ (Later.refl _)).mono ?_
    rintro e w4 ⟨rfl, hb4⟩
    go_wp2_with fail
    go_ret
    exact ⟨by (rw [HE.out] <;> rfl), (H03.out.trans Hlx.out).call hb4⟩
   ·rw [hr] at Hrg
    go_wp2_with fail
    refine (Hrg.out _ (Later.refl _)).mono ?_
    rintro e w4 ⟨rfl, hb4⟩
    have h4 : Later wr w4 := hb4
    have p0' := h4.cell p0
    have p1' := h4.cell p1
    clear p0 p1 hcs hb4
    cases hq : (t.s == s)
    ·have HE := Lib.hid (He2.out.trans (if_pos (Hbad.out (by unfold Pn.tenIs; rw [hr, hq]; rfl))))
     rw [hq] at Heq
     have H4 := Lib.hid h4
     clear h4
     go_wp2_with fail
     refine (Heq.out _ H4.out).mono ?_
     rintro e w5 ⟨rfl, q5, rfl⟩
     go_wp2_with fail
     go_ret
     exact ⟨by (rw [HE.out] <;> rfl), ((H03.out.trans Hlx.out).trans H4.out).drewN q5⟩
    ·have HN := Lib.hid (Hgood.out (by unfold Pn.tenIs; rw [hr, hq]; rfl))
     rw [hq] at Heq
     clear hq
     have H4 := Lib.hid h4
     clear h4
     go_wp2_with fail
     refine (Heq.out _ H4.out).mono ?_
     rintro e w5 ⟨rfl, q5, rfl⟩
     go_wp2_with fail
     go_roundw
     case rel => exact ⟨k + 1, by omega, by go_num, HN.out, (Hlx.out.trans H4.out).drewN q5⟩
     case measure => simp [intOf]; omega
  ·obtain rfl : k = ss.length := by omega
   have he3 := He2.out.trans (if_neg (by show ¬ Pn.parOk ps ss ss.length = false; rw [hall]; simp))
   have hkr := hlx.blk Hk3.out
   have hxr := hlx.blk Hx3.out
   have a0 := hkr.cell 0
   have a1 := hkr.cell 1
   have b0 := hxr.cell 0
   have b1 := hxr.cell 1
   simp at a0 a1 b0 b1
   have h0r := H03.out.trans hlx
   have hXr := HX.out.later h0r
   have hrg := tensor_right XS XC xc xd x wr (by omega) (by omega) hXr.r.1
   have heq := fun (V : World) (h : Later wr V) => shape_equal XS A xc c x.s n.inn V (by omega) (by omega) (hXr.later h).r.1 (HR.out.1.below (h0r.trans h) (Nat.le_refl _))
   clear hall
   have Hlx := Lib.hid hlx
   have He3 := Lib.hid he3
   have Hkr := Lib.hid hkr
   have Hxr := Lib.hid hxr
   have H0r := Lib.hid h0r
   have HXr := Lib.hid hXr
   have Hrg := Lib.hid hrg
   have Heq := Lib.hid heq
   clear hlx he3 hkr hxr h0r hXr hrg heq
   cases hr : Tn.right x
   ·have HE := Lib.hid (He3.out.trans (if_neg (by unfold Pn.tenIs; rw [hr]; simp)))
    rw [hr] at Hrg
    go_wp2_with fail
    refine (Hrg.out).mono ?_
    rintro e w4 ⟨rfl, hb4⟩
    go_wp2_with fail
    go_ret
    exact ⟨by (rw [HE.out] <;> rfl), H0r.out.call hb4⟩
   ·rw [hr] at Hrg
    go_wp2_with fail
    refine (Hrg.out).mono ?_
    rintro e w4 ⟨rfl, hb4⟩
    have h4 : Later wr w4 := hb4
    have a0' := h4.cell a0
    have b0' := h4.cell b0
    clear a0 a1 b0 b1 hb4
    cases hq : (x.s == n.inn)
    ·have HE := Lib.hid (He3.out.trans (if_neg (by unfold Pn.tenIs; rw [hr, hq]; simp)))
     rw [hq] at Heq
     have H4 := Lib.hid h4
     clear h4
     go_wp2_with fail
     refine (Heq.out _ H4.out).mono ?_
     rintro e w5 ⟨rfl, q5, rfl⟩
     go_wp2_with fail
     go_ret
     exact ⟨by (rw [HE.out] <;> rfl), (H0r.out.trans H4.out).drewN q5⟩
    ·have HE := Lib.hid (He3.out.trans (if_pos (by unfold Pn.tenIs; rw [hr, hq]; rfl)))
     rw [hq] at Heq
     clear hq
     have H4 := Lib.hid h4
     clear h4
     go_wp2_with fail
     refine (Heq.out _ H4.out).mono ?_
     rintro e w5 ⟨rfl, q5, rfl⟩
     go_wp2_with fail
     go_ret
     exact ⟨by (rw [HE.out] <;> rfl), (H0r.out.trans H4.out).drewN q5⟩
end Go.Proofs.YtbnnpkcfifejmabGreat
namespace Go.Proofs.YtbnnpkcfifejmabGreat
open Go.RowKit
theorem append_nil_run {P : Program} (w : World) (t ty e : TypeId) (i : TypeInfo) (ht : P.underlying t = some (.slice e)) (hi : P.info? e = some i) (g n cap c : Nat) (hn : n ≤ cap) :
  (Builtin.append_ #[t, t] ty #[.slice (some ⟨g, 0, none⟩) n cap, .slice none 0 c]).run P w = .ok (.slice (some ⟨g, 0, none⟩) n cap) w := by
 simp [Builtin.append_, run_underlying ht, sizeOf, typeInfo, hi, Builtin.lenOf, Builtin.firstCells, loadCells, storeCells, hn]
def RowT (w : World) (vs : List Value) (ts : List Ten) : Prop :=
 vs.length = ts.length * 2 ∧ ∀ j (hj : j < ts.length), ∃ S c C d, vs[j * 2]? = some (.slice S ts[j].s.length c) ∧ vs[j * 2 + 1]? = some (.slice C ts[j].c.length d) ∧ TenIn w S C c d ts[j]
theorem RowT.nil (w : World) : RowT w [] [] := ⟨rfl, fun j hj => absurd hj (by simp)⟩
theorem RowT.one {w : World} {S C : Option Addr} {c d : Nat} {t : Ten} (h : TenIn w S C c d t) : RowT w [.slice S t.s.length c, .slice C t.c.length d] [t] := by
 refine ⟨rfl, fun j hj => ?_⟩
 obtain rfl : j = 0 := by simp at hj; omega
 exact ⟨S, c, C, d, rfl, rfl, h⟩
theorem RowT.below {w w' : World} {vs : List Value} {ts : List Ten} {B : Nat} (h : RowT w vs ts) (hb : Below B w w') (hB : w.heap.size ≤ B) : RowT w' vs ts :=
 ⟨h.1, fun j hj => by obtain ⟨S, c, C, d, e1, e2, e3⟩ := h.2 j hj; exact ⟨S, c, C, d, e1, e2, e3.below hb hB⟩⟩
theorem RowT.append {w : World} {vs us : List Value} {p x : List Ten} (h : RowT w vs p) (k : RowT w us x) : RowT w (vs ++ us) (p ++ x) := by
 have hl := h.1
 refine ⟨by simp [h.1, k.1, Nat.add_mul], fun j hj => ?_⟩
 by_cases e : j < p.length
 ·obtain ⟨S, c, C, d, e1, e2, e3⟩ := h.2 j e
  refine ⟨S, c, C, d, ?_, ?_, ?_⟩
  ·rw [List.getElem?_append_left (by omega), e1]; simp [e]
  ·rw [List.getElem?_append_left (by omega), e2]; simp [e]
  ·simpa [e] using e3
 ·have hj2 : j - p.length < x.length := by simp at hj; omega
  obtain ⟨S, c, C, d, e1, e2, e3⟩ := k.2 (j - p.length) hj2
  refine ⟨S, c, C, d, ?_, ?_, ?_⟩
  ·rw [List.getElem?_append_right (by omega), show j * 2 - vs.length = (j - p.length) * 2 by omega, e1, List.getElem_append_right (by omega)]
  ·rw [List.getElem?_append_right (by omega), show j * 2 + 1 - vs.length = (j - p.length) * 2 + 1 by omega, e2, List.getElem_append_right (by omega)]
  ·rw [List.getElem_append_right (by omega)]; exact e3
theorem RowT.cell {w : World} {vs : List Value} {ts : List Ten} (h : RowT w vs ts) : ∀ u ∈ vs, ∃ A n c, u = .slice A n c := fun u hu => by
 obtain ⟨k, hk, rfl⟩ := List.getElem_of_mem hu
 have hl := h.1
 obtain ⟨S, c, C, d, e1, e2, -⟩ := h.2 (k / 2) (by omega)
 rcases Nat.mod_two_eq_zero_or_one k with e | e
 ·have hk2 : k / 2 * 2 = k := by omega
  rw [hk2, List.getElem?_eq_getElem hk] at e1
  injection e1 with e1
  exact ⟨_, _, _, e1⟩
 ·have hk2 : k / 2 * 2 + 1 = k := by omega
  rw [hk2, List.getElem?_eq_getElem hk] at e2
  injection e2 with e2
  exact ⟨_, _, _, e2⟩
theorem RowT.slices {w : World} {vs : List Value} {ts : List Ten} (h : RowT w vs ts) : ∀ u ∈ vs, u.oneCell' = true := fun u hu => by
 obtain ⟨A, n, c, rfl⟩ := h.cell u hu
 rfl
def rowCells (w : World) (ad : Addr) (n : Nat) : List Value := (List.range n).map fun j => (w.cell? (ad.add j)).getD undef
theorem rowCells_at {w : World} {ad : Addr} {n j : Nat} (hj : j < n) : (rowCells w ad n)[j]? = some ((w.cell? (ad.add j)).getD undef) := by simp [rowCells, hj]
theorem addr_add (b off k : Nat) : (⟨b, off, none⟩ : Addr).add k = ⟨b, off + k, none⟩ := by simp [Addr.add]
theorem Tns.rowT {w : World} {ad : Addr} {ts : List Ten} (h : Tns w (some ad) ts) : RowT w (rowCells w ad (ts.length * 2)) ts ∧ ∀ j u, (rowCells w ad (ts.length * 2))[j]? = some u → w.cell? (ad.add j) = some u := by
 refine ⟨⟨by simp [rowCells], fun j hj => ?_⟩, fun j u hu => ?_⟩
 ·obtain ⟨b, off, S, c, C, d, e, hl, c0, c1, hT⟩ := h j hj
  injection e with e
  subst e
  refine ⟨S, c, C, d, ?_, ?_, hT⟩
  ·rw [rowCells_at (by omega), addr_add, c0]; rfl
  ·rw [rowCells_at (by omega), addr_add, ← Nat.add_assoc, c1]; rfl
 ·have hj : j < ts.length * 2 := by
   rcases Nat.lt_or_ge j (ts.length * 2) with hk | hk
   ·exact hk
   ·rw [List.getElem?_eq_none (by simpa [rowCells] using hk)] at hu; cases hu
  rw [rowCells_at hj] at hu
  obtain ⟨b, off, S, c, C, d, e, hl, c0, c1, hT⟩ := h (j / 2) (by omega)
  injection e with e
  subst e
  rw [addr_add] at hu ⊢
  rcases Nat.mod_two_eq_zero_or_one j with e | e
  ·rw [show j / 2 * 2 = j by omega] at c0
   rw [c0] at hu ⊢
   exact hu
  ·rw [Nat.add_assoc, show j / 2 * 2 + 1 = j by omega] at c1
   rw [c1] at hu ⊢
   exact hu
theorem Tns.nil_of {w : World} {ts : List Ten} (h : Tns w none ts) : ts = [] := by
 rcases ts with _ | ⟨t, r⟩
 ·rfl
 ·obtain ⟨_, _, _, _, _, _, e, _⟩ := h 0 (by simp)
  cases e
theorem Tns.nil (w : World) (A : Option Addr) : Tns w A [] := fun j hj => absurd hj (by simp)
theorem RowT.tns {w w' : World} {vs : List Value} {ts : List Ten} {B n : Nat} {t : TypeId} {v : Value} (h : RowT w vs ts) (hown : w'.ownsRow B t 2 v n vs) (hb : Below w.heap.size w w') :
  ∃ A c, v = .slice A ts.length c ∧ n = ts.length ∧ Tns w' A ts ∧ ts.length ≤ c ∧ c ≤ 9223372036854775807 := by
 have hn : n = ts.length := by have := hown.1; have := h.1; omega
 subst hn
 rcases hown.2 with ⟨rfl, h0⟩ | ⟨g, cap, cur, rfl, hB, hh, r1, r2, r3, r4⟩
 ·have : ts = [] := List.eq_nil_of_length_eq_zero h0
  subst this
  exact ⟨none, 0, rfl, rfl, Tns.nil _ _, by simp, by omega⟩
 ·refine ⟨_, cap, rfl, rfl, fun j hj => ?_, r1, by unfold maxLen at r2; omega⟩
  obtain ⟨S, c, C, d, e1, e2, e3⟩ := h.2 j hj
  refine ⟨g, 0, S, c, C, d, rfl, lt_of_block hh, ?_, ?_, e3.below hb (Nat.le_refl _)⟩
  ·rw [Nat.zero_add, hown.cellAt (j * 2) (by omega)]
   exact e1
  ·rw [Nat.zero_add, hown.cellAt (j * 2 + 1) (by omega)]
   exact e2
theorem wp_append_tens {P : Program} {o : Oper} {a : Act} {K : Act → World → Prop} {Q : Exit → Act → World → Prop} {w : World} (s x : Operand) (t : TypeId)
  (ho : o.op = .call { callee := .builtin .append, args := #[s, x], argTypes := #[t, t] })
  (base : Nat) (e : TypeId) (i : TypeInfo) (ht : P.underlying t = some (.slice e)) (hi : P.info? e = some i) (hz : i.zero = some (.agg #[.slice none 0 0, .slice none 0 0])) (hsize : i.size = 2) (hby : i.bytes = 48)
  (g n cap : Nat) (xs : List Value) (ys : List Ten) (hs : a.eval s = .slice (some ⟨g, 0, none⟩) n cap) (hown : w.ownsRow base e 2 (.slice (some ⟨g, 0, none⟩) n cap) n xs)
  (w0 : World) (hrow : RowT w0 xs ys) (X : Option Addr) (f : Nat) (l : List Ten) (hx : a.eval x = .slice X l.length f) (hX : Tns w0 X l) (hb : Below w0.heap.size w0 w) (hB : w0.heap.size ≤ base) (hbase : base ≤ w.heap.size) (hn : n + l.length ≤ 1000000000)
  (h : ∀ g' cap' w' xs', w'.ownsRow base e 2 (.slice (some ⟨g', 0, none⟩) (n + l.length) cap') (n + l.length) xs' → RowT w0 xs' (ys ++ l) → Below w0.heap.size w0 w' → Below base w w' → K (a.put o.dst (.slice (some ⟨g', 0, none⟩) (n + l.length) cap')) w') :
  Oper.wp P o a w K Q := by
 rcases X with _ | ad
 ·obtain rfl := hX.nil_of
  have hcap : n ≤ cap := by
   rcases hown.2 with ⟨e1, h0⟩ | ⟨_, _, _, e1, _, _, h3, _⟩
   ·cases e1
   ·injection e1 with _ _ e1; omega
  unfold Oper.wp execOp
  simp only [ho, resolve, invoke, builtin, Sem.run_bind, Sem.run_pure, Result.andThen_ok, List.map_toArray, List.map_cons, List.map_nil, hs, hx, List.length_nil, append_nil_run w t o.type e i ht hi g n cap f hcap]
  exact h g cap w xs hown (by simpa using hrow) hb (Below.refl _ _)
 ·obtain ⟨hr, hc⟩ := hX.rowT
  obtain ⟨v', w', hrun, hown', hgrow, hnil, hat⟩ := run_append_own_at (P := P) w base t o.type e i (.agg #[.slice none 0 0, .slice none 0 0]) 2 48 ht hi hz hsize hby rfl (by decide) (.slice (some ⟨g, 0, none⟩) n cap) n xs hown ad l.length f (rowCells w0 ad (l.length * 2)) hr.1
   (fun j u hu => by
    have := hc j u hu
    exact (hb.cell (World.block_lt_of_cell? _ _ this)).trans this) hr.slices (by unfold maxLen; omega) (by omega) hbase
  rcases hown'.2 with ⟨e1, _⟩ | ⟨g', cap', cur, rfl, _⟩
  ·have := hnil.1 e1
   cases this.1
  ·unfold Oper.wp execOp
   simp only [ho, resolve, invoke, builtin, Sem.run_bind, Sem.run_pure, Result.andThen_ok, List.map_toArray, List.map_cons, List.map_nil, hs, hx, hrun]
   refine h g' cap' w' _ hown' (hrow.append hr) (hb.grown hgrow hb.size fun b hb2 => ?_) ((Below.refl base w).grown hgrow hbase fun b hb2 => (hown.lt b hb2).1)
   have := (hown.lt b hb2).1
   omega
theorem step_append_tens {P : Program} {ops : Array Oper} {o : Oper} {a : Act} {K : Act → World → Prop} {Q : Exit → Act → World → Prop} {E : Prop} {w : World} (hgd : o.guard = none) (s x : Operand) (t : TypeId)
  (ho : o.op = .call { callee := .builtin .append, args := #[s, x], argTypes := #[t, t] })
  (base : Nat) (e : TypeId) (i : TypeInfo) (ht : P.underlying t = some (.slice e)) (hi : P.info? e = some i) (hz : i.zero = some (.agg #[.slice none 0 0, .slice none 0 0])) (hsize : i.size = 2) (hby : i.bytes = 48)
  (g n cap : Nat) (xs : List Value) (ys : List Ten) (hs : a.eval s = .slice (some ⟨g, 0, none⟩) n cap) (hown : w.ownsRow base e 2 (.slice (some ⟨g, 0, none⟩) n cap) n xs)
  (w0 : World) (hrow : RowT w0 xs ys) (X : Option Addr) (f : Nat) (l : List Ten) (hx : a.eval x = .slice X l.length f) (hX : Tns w0 X l) (hb : Below w0.heap.size w0 w) (hB : w0.heap.size ≤ base) (hbase : base ≤ w.heap.size) (hn : n + l.length ≤ 1000000000)
  (h : ∀ g' cap' w' xs', w'.ownsRow base e 2 (.slice (some ⟨g', 0, none⟩) (n + l.length) cap') (n + l.length) xs' → RowT w0 xs' (ys ++ l) → Below w0.heap.size w0 w' → Below base w w' → K (a.put o.dst (.slice (some ⟨g', 0, none⟩) (n + l.length) cap')) w') :
  if Region.wanted o (yielded ops a.tmps) = true then Oper.wp P o a w K Q else E := by
 have hw : Region.wanted o (yielded ops a.tmps) = true := by simp [Region.wanted, hgd]
 rw [if_pos hw]
 exact wp_append_tens s x t ho base e i ht hi hz hsize hby g n cap xs ys hs hown w0 hrow X f l hx hX hb hB hbase hn h
end Go.Proofs.YtbnnpkcfifejmabGreat
namespace Go.Proofs.YtbnnpkcfifejmabGreat
open Go.RowKit
theorem tenY_info : (Tryz.prog.info? 30).map (fun i => (i.zero, i.size, i.bytes)) = some (some (.agg #[.slice none 0 0, .slice none 0 0]), 2, 48) := by kernel_rfl
namespace Pn
def from_ (ns : List NodeD) (k : Nat) : Nat := ((ns.take k).flatMap (·.p)).length
def part (n : NetD) (id : Int) : Int × Int := if id < 1 ∨ (n.nodes.length : Int) < id then (0, 0) else ((from_ n.nodes (id.toNat - 1) : Int), (from_ n.nodes id.toNat : Int))
def pickT (vals : List Ten) (ins : List Int) : List Ten := ins.map fun i => Ly.got vals i.toNat
theorem from_succ {ns : List NodeD} {k : Nat} (h : k < ns.length) : from_ ns (k + 1) = from_ ns k + ns[k].p.length := by
 unfold from_
 rw [List.take_succ_eq_append_getElem h, List.flatMap_append, List.length_append]
 simp
end Pn
set_option maxHeartbeats 16000000 in
set_option maxRecDepth 20000 in
theorem plain_part (A N : Option Addr) (c d : Nat) (n : NetD) (id : Int) (w : World) (hok : n.ok) (hR : NetR w A N n) (hd : n.nodes.length ≤ d) (hi1 : -9223372036854775808 ≤ id) (hi2 : id ≤ 9223372036854775807) :
  Calls Tryz.prog 22 #[.agg #[.slice A n.inn.length c, .slice N n.nodes.length d], .int .i64 id] w fun e w' => e = .returned (.tuple #[.int .i64 (Pn.part n id).1, .int .i64 (Pn.part n id).2]) ∧ Below w.heap.size w w' := by
 have hk0 := Blk.new w 26 #[.slice A n.inn.length c, .slice N n.nodes.length d]
 have h01 : Later w (w.alloc (.cells #[.slice A n.inn.length c, .slice N n.nodes.length d] 26)) := (Later.refl w).alloc _
 have hnl := hok.2.1
 have hpl : ∀ k, Pn.from_ n.nodes k ≤ k * 1048576 := fun k => params_len hok k
 have Hok := Lib.hid hok
 have HR := Lib.hid hR
 have Hk0 := Lib.hid hk0
 have H01 := Lib.hid h01
 have Hpl := Lib.hid hpl
 clear hok hR hk0 h01 hpl
 go_enter Tryz.func22, Tryz.ntmps22
 go_upto_region 1 with fail
 generalize w.alloc (.cells #[.slice A n.inn.length c, .slice N n.nodes.length d] 26) = w1 at *
 have a1 := Hk0.out.cell 1
 simp at a1
 by_cases h1 : id < 1
 ·have HE := Lib.hid (show Pn.part n id = (0, 0) by unfold Pn.part; rw [if_pos (.inl h1)])
  have d1 : decide (id < 1) = true := by simpa using h1
  go_wp2_with fail
  refine bodyPost_ret (v := .tuple #[.int .i64 0, .int .i64 0]) (by simp [results, Tryz.results22, go_sem]) rfl ?_
  rw [HE.out]
  exact ⟨rfl, H01.out⟩
 have d1 : decide (id < 1) = false := by simpa using h1
 by_cases h2 : (n.nodes.length : Int) < id
 ·have HE := Lib.hid (show Pn.part n id = (0, 0) by unfold Pn.part; rw [if_pos (.inr h2)])
  have d2 : decide ((n.nodes.length : Int) < id) = true := by simpa using h2
  go_wp2_with fail
  refine bodyPost_ret (v := .tuple #[.int .i64 0, .int .i64 0]) (by simp [results, Tryz.results22, go_sem]) rfl ?_
  rw [HE.out]
  exact ⟨rfl, H01.out⟩
 have d2 : decide ((n.nodes.length : Int) < id) = false := by simpa using h2
 obtain ⟨m, rfl⟩ : ∃ m : Nat, id = (m : Int) + 1 := ⟨(id - 1).toNat, by omega⟩
 have HE := Lib.hid (show Pn.part n ((m : Int) + 1) = ((Pn.from_ n.nodes m : Int), (Pn.from_ n.nodes (m + 1) : Int)) by
  unfold Pn.part
  rw [if_neg (by omega), show ((m : Int) + 1).toNat = m + 1 by omega]
  rfl)
 have hm : m < n.nodes.length := by omega
 have q0 : IntKind.i64.wrap ((m : Int) + 1 - 1) = (m : Int) := by rw [show (m : Int) + 1 - 1 = (m : Int) by omega]; exact IntWalk.i64_in _ (by omega)
 have q1 : (m : Int) + 1 - 1 = (m : Int) := by omega
 have q2 : (m : Int) ≤ (d : Int) := by omega
 have q3 : (m : Int) < (n.nodes.length : Int) := by omega
 clear h1 h2
 have hms := Pn.from_succ hm
 have Hms := Lib.hid hms
 clear hms
 go_upto_region 3 with fail
 clear d1 d2
 go_wp2_with fail
 go_loopw [4, 23] (fun f i wx => ∃ k : Nat, k ≤ m ∧ i = .int .i64 (k : Int) ∧ f = .int .i64 (Pn.from_ n.nodes k : Int) ∧ Later w1 wx) (fun _ i _ => m - (intOf i).toNat)
 case atStart => exact ⟨0, Nat.zero_le _, rfl, rfl, Later.refl _⟩
 case round =>
  obtain ⟨k, hk, rfl, rfl, hlx⟩ := hrel
  by_cases hlt : k < m
  ·have hlt2 : k < n.nodes.length := by omega
   obtain ⟨b, off, S, sc, J, ic, Q, qc, rfl, hNA, -, -, -⟩ := HR.out.2.at_ hlt2
   have hs := Pn.from_succ hlt2
   have hlk := Hpl.out k
   have hpk := (Hok.out.2.2 _ (List.getElem_mem hlt2)).2.2.2.1
   have hkb : k * 1048576 ≤ 1048576 * 1048576 := Nat.mul_le_mul_right _ (by omega)
   generalize n.nodes[k] = v at *
   obtain ⟨⟨y0, y1, y2, y3, y4, y5, y6, y7, y8, y9⟩, -⟩ := hNA.below (H01.out.trans hlx)
   generalize Pn.from_ n.nodes k = fk at *
   have Hs := Lib.hid hs
   clear hs
   have r1 : IntKind.i64.wrap ((fk : Int) + (v.p.length : Int)) = (fk : Int) + (v.p.length : Int) := IntWalk.i64_in _ (by omega)
   have r2 : (k : Int) < (m : Int) := by omega
   have Hlx := Lib.hid hlx
   clear hlx
   clear hNA
   go_wp2_with fail
   go_roundw
   case rel => exact ⟨k + 1, by omega, by go_num, by rw [Hs.out]; simp, Hlx.out.alloc _⟩
   case measure => simp [intOf]; omega
  ·obtain rfl : k = m := by omega
   obtain ⟨b, off, S, sc, J, ic, Q, qc, rfl, hNA, -, -, -⟩ := HR.out.2.at_ hm
   have hlk := Hpl.out k
   have hpk := (Hok.out.2.2 _ (List.getElem_mem hm)).2.2.2.1
   have hkb : k * 1048576 ≤ 1048576 * 1048576 := Nat.mul_le_mul_right _ (by omega)
   have hHE := HE.out
   have hlw := H01.out.trans hlx
   obtain ⟨⟨y0, y1, y2, y3, y4, y5, y6, y7, y8, y9⟩, -⟩ := hNA.below hlw
   have a1' := hlx.cell a1
   rw [Hms.out] at hHE
   have HHE := Lib.hid hHE
   clear hHE HE Hms
   generalize n.nodes[k] = v at *
   generalize Pn.from_ n.nodes k = fk at *
   have r1 : IntKind.i64.wrap ((fk : Int) + (v.p.length : Int)) = (fk : Int) + (v.p.length : Int) := IntWalk.i64_in _ (by omega)
   have r3 : IntKind.i64.wrap (k : Int) = (k : Int) := IntWalk.i64_in _ (by omega)
   have Hlx := Lib.hid hlx
   have Hlw := Lib.hid hlw
   clear hlx hlw
   clear hNA y0 y1 y2 y3 y4 y5 y6 y7 y8 a1
   go_wp2_with fail
   have KF := Lib.hid (show ∀ Xw, Later wr Xw → Xw.cell? ⟨w.heap.size, 1, none⟩ = some (.slice (some ⟨b, off, none⟩) n.nodes.length d) ∧ Xw.cell? ⟨b, off + k * 10 + 9, none⟩ = some (.slice Q v.p.length qc) from fun Xw h => ⟨h.cell a1', h.cell y9⟩)
   refine wp_region_noPanic ?_
   refine wp_region_held_drew (S := fun Xw => Xw.cell? ⟨w.heap.size, 1, none⟩ = some (.slice (some ⟨b, off, none⟩) n.nodes.length d) ∧ Xw.cell? ⟨b, off + k * 10 + 9, none⟩ = some (.slice Q v.p.length qc)) (by kernel_rfl) (KF.out _ Later.au) (fun hHeld => ?_)
   refine tk 0 ?_
   refine tk 1 ?_
   refine tk 2 ?_
   refine tk 3 ?_
   refine tk 4 ?_
   refine tk 5 ?_
   refine tk 6 ?_
   refine tk 7 ?_
   refine tk 8 ?_
   refine tk 9 ?_
   refine tk 10 ?_
   refine tk 11 ?_
   refine tk 12 ?_
   clear KF
   refine wpAnyH_done (by kernel_rfl) ?_ _
   refine NoPanic.normal ?_
   go_wp2_with fail
   refine bodyPost_ret (v := .tuple #[.int .i64 (fk : Int), .int .i64 ((fk : Int) + (v.p.length : Int))]) (by simp [results, Tryz.results22, go_sem]) rfl ?_
   rw [HHE.out]
   exact ⟨by simp, Hlw.out.drew⟩
theorem made_tens (k : Nat) : (madeCells #[Value.slice none 0 0, Value.slice none 0 0] k).toList = List.replicate k (Value.slice none 0 0) := by
 unfold madeCells
 rw [Array.toList_map, Array.toList_range]
 apply List.ext_getElem
 ·simp
 ·intro i h1 h2
  simp only [List.getElem_map, List.getElem_range, List.getElem_replicate]
  rcases Nat.mod_two_eq_zero_or_one i with e | e
  ·simp [e]
  ·simp [e]
theorem row_blk {w : World} {B e size n g : Nat} {xs : List Value} (h : w.ownsRow B e size (.slice (some ⟨g, 0, none⟩) n n) n xs) : Blk w g e xs.toArray := by
 rcases h.2 with ⟨h1, _⟩ | ⟨g', cap, cur, e1, _, hh, _, _, hs, ht⟩
 ·cases h1
 ·injection e1 with e1 _ e2
  injection e1 with e1
  injection e1 with e1 _ _
  subst e1 e2
  have : cur.toList = xs := by rw [← ht, List.take_of_length_le (by simp; omega)]
  rw [← this]
  exact hh
theorem RowT.tnsB {w w' : World} {vs : List Value} {ts : List Ten} {G : Nat} {t : TypeId} (h : RowT w vs ts) (hb : Below w.heap.size w w') (hG : Blk w' G t vs.toArray) : Tns w' (some ⟨G, 0, none⟩) ts := fun j hj => by
 obtain ⟨S, c, C, d, e1, e2, e3⟩ := h.2 j hj
 refine ⟨G, 0, S, c, C, d, rfl, hG.lt, ?_, ?_, e3.below hb (Nat.le_refl _)⟩
 ·rw [Nat.zero_add, hG.cell]; simpa using e1
 ·rw [Nat.zero_add, hG.cell]; simpa using e2
theorem fill_two {vs : List Value} {m k : Nat} {a b z : Value} (hl : vs.length = k * 2) (hk : k < m) :
  (((vs ++ List.replicate ((m - k) * 2) z).set (k * 2) a).set (k * 2 + 1) b) = (vs ++ [a, b]) ++ List.replicate ((m - (k + 1)) * 2) z := by
 have e : (m - k) * 2 = (m - (k + 1)) * 2 + 1 + 1 := by omega
 rw [e, List.replicate_succ, List.replicate_succ, List.set_append_right _ _ (by omega), hl, Nat.sub_self, List.set_cons_zero, List.set_append_right _ _ (by omega), hl, Nat.add_sub_cancel_left, List.set_cons_succ, List.set_cons_zero, List.append_assoc]
 rfl
def PickP (ts : List Ten) (w : World) (e : Ending) (w' : World) : Prop := ∃ G, e = .returned (.slice (some ⟨G, 0, none⟩) ts.length ts.length) ∧ w.heap.size ≤ G ∧ Tns w' (some ⟨G, 0, none⟩) ts ∧ Below w.heap.size w w'
set_option maxHeartbeats 16000000 in
set_option maxRecDepth 20000 in
theorem plain_pick (V I : Option Addr) (vc ic : Nat) (vals : List Ten) (ins : List Int) (w : World) (hV : Tns w V vals) (lV : vals.length ≤ 1048577) (hI : Ints .i64 w I ins) (lI : ins.length ≤ 1048576) (hr : ∀ i ∈ ins, 0 ≤ i ∧ i < vals.length) :
  Calls Tryz.prog 23 #[.slice V vals.length vc, .slice I ins.length ic] w (PickP (Pn.pickT vals ins) w) := by
 have HV := Lib.hid hV
 have HI := Lib.hid hI
 have Hr := Lib.hid hr
 clear hV hI hr
 go_enter Tryz.func23, Tryz.ntmps23
 obtain ⟨i0, hi, hz0, hz1, hz2⟩ := info_parts tenY_info
 go_wp2_with (at_make; refine wpList_make_full _ rfl _ _ 27 rfl w.heap.size 30 i0 (.agg #[.slice none 0 0, .slice none 0 0]) 2 Tryz.underlying27 hi hz0 hz1 _ _ _ _ ins.length rfl rfl (by first | rfl | simp) (by first | rfl | simp) ?b2 ?b3 (Nat.le_refl _) ?_)
 case b2 => rw [hz2]; omega
 case b3 => unfold maxLen; omega
 intro w1 hown hgrow
 clear hi hz0 hz1 hz2
 have hrow : Blk w1 w.heap.size 30 (([] : List Value) ++ List.replicate ((ins.length - 0) * 2) (Value.slice none 0 0)).toArray := by
  have h := row_blk hown
  rw [made_tens] at h
  simpa using h
 have h01 : Later w w1 := (Below.refl _ w).grown hgrow (Nat.le_refl _) (by simp)
 clear hown hgrow
 have Hrow := Lib.hid hrow
 have H01 := Lib.hid h01
 clear hrow h01
 go_wp2_with fail
 go_loopw [13] (fun i wx => ∃ (k : Nat) (vs : List Value), k ≤ ins.length ∧ i = .int .i64 (k : Int) ∧ Blk wx w.heap.size 30 (vs ++ List.replicate ((ins.length - k) * 2) (Value.slice none 0 0)).toArray ∧ RowT w vs (Pn.pickT vals (ins.take k)) ∧ Later w wx) (fun i _ => ins.length - (intOf i).toNat)
 case atStart => exact ⟨0, [], Nat.zero_le _, rfl, Hrow.out, RowT.nil w, H01.out⟩
 case round =>
  obtain ⟨k, vs, hk, rfl, hG, hvs, hlx⟩ := hrel
  clear Hrow H01
  by_cases hlt : k < ins.length
  ·obtain ⟨b, off, rfl, -, hci⟩ := (HI.out.below hlx (Nat.le_refl _)) k hlt
   have hik := Hr.out _ (List.getElem_mem hlt)
   obtain ⟨j, hj⟩ := Int.eq_ofNat_of_zero_le hik.1
   have hgk : ins.getD k 0 = (j : Int) := by rw [List.getD_eq_getElem?_getD, List.getElem?_eq_getElem hlt, ← hj]; rfl
   rw [hgk] at hci
   have hjl : j < vals.length := by omega
   have hV := HV.out
   obtain ⟨b', off', S', sc, C', cc, rfl, -, p0, p1, hT⟩ := (HV.out.later hlx).at_ hjl
   obtain ⟨b2, off2, S2, sc2, C2, cc2, e2, -, p2, p3, hT2⟩ := HV.out.at_ hjl
   have hS := (hlx.cell p2).symm.trans (by injection e2 with e2; injection e2 with e3 e4; subst e3 e4; exact p0)
   have hC := (hlx.cell p3).symm.trans (by injection e2 with e2; injection e2 with e3 e4; subst e3 e4; exact p1)
   simp at hS hC
   obtain ⟨rfl, rfl⟩ := hS
   obtain ⟨rfl, rfl⟩ := hC
   have hpk : Pn.pickT vals (ins.take (k + 1)) = Pn.pickT vals (ins.take k) ++ [Ly.got vals j] := by
    unfold Pn.pickT
    rw [List.take_succ_eq_append_getElem hlt, List.map_append, hj]
    rfl
   have hvl : vs.length = k * 2 := by have := hvs.1; simp [Pn.pickT] at this; omega
   have hvs2 := hvs.append (RowT.one hT2)
   rw [← hpk] at hvs2
   have hfl := fill_two (m := ins.length) (a := .slice S2 (Ly.got vals j).s.length sc2) (b := .slice C2 (Ly.got vals j).c.length cc2) (z := Value.slice none 0 0) hvl hlt
   have q0 : ∃ u, wr.cell? ⟨w.heap.size, k * 2, none⟩ = some u := by rw [hG.cell]; exact ⟨_, by rw [List.getElem?_toArray, List.getElem?_eq_getElem (by simp; omega)]⟩
   have q1 : ∃ u, wr.cell? ⟨w.heap.size, k * 2 + 1, none⟩ = some u := by rw [hG.cell]; exact ⟨_, by rw [List.getElem?_toArray, List.getElem?_eq_getElem (by simp; omega)]⟩
   obtain ⟨u0, q0⟩ := q0
   obtain ⟨u1, q1⟩ := q1
   have f0 := hG.frozen (k * 2)
   have f1 := hG.frozen (k * 2 + 1)
   have r1 : (k : Int) < (ins.length : Int) := by omega
   have r2 : (j : Int) < (vals.length : Int) := by omega
   generalize Ly.got vals j = t at *
   have hG2 : Blk ((wr.setCell ⟨w.heap.size, k * 2, none⟩ (.slice S2 t.s.length sc2)).setCell ⟨w.heap.size, k * 2 + 1, none⟩ (.slice C2 t.c.length cc2)) w.heap.size 30 ((vs ++ [Value.slice S2 t.s.length sc2, Value.slice C2 t.c.length cc2]) ++ List.replicate ((ins.length - (k + 1)) * 2) (Value.slice none 0 0)).toArray := by
    have := (hG.set_ (k * 2) (.slice S2 t.s.length sc2)).set_ (k * 2 + 1) (.slice C2 t.c.length cc2)
    rw [← hfl]
    simpa using this
   have hl2 := (hlx.set (p := ⟨w.heap.size, k * 2, none⟩) (Nat.le_refl _) (.slice S2 t.s.length sc2)).set (p := ⟨w.heap.size, k * 2 + 1, none⟩) (Nat.le_refl _) (.slice C2 t.c.length cc2)
   clear hgk hik hj hV hT hT2 p2 p3 e2 hpk hvl hfl
   have HG := Lib.hid hG
   have Hvs := Lib.hid hvs
   have Hlx := Lib.hid hlx
   have Hvs2 := Lib.hid hvs2
   have HG2 := Lib.hid hG2
   have Hl2 := Lib.hid hl2
   clear hG hvs hlx hvs2 hG2 hl2
   go_wp2_with fail
   go_roundw
   case rel => exact ⟨k + 1, _, by omega, by go_num, HG2.out, Hvs2.out, Hl2.out⟩
   case measure => simp [intOf]; omega
  ·obtain rfl : k = ins.length := by omega
   rw [Nat.sub_self, Nat.zero_mul, List.replicate_zero, List.append_nil] at hG
   rw [List.take_length] at hvs
   have hpl : (Pn.pickT vals ins).length = ins.length := by simp [Pn.pickT]
   have HG := Lib.hid hG
   have Hvs := Lib.hid hvs
   have Hlx := Lib.hid hlx
   have Hpl := Lib.hid hpl
   clear hG hvs hlx hpl
   go_wp2_with fail
   go_ret
   exact ⟨w.heap.size, by (rw [Hpl.out] <;> rfl), Nat.le_refl _, Hvs.out.tnsB Hlx.out HG.out, Hlx.out⟩
end Go.Proofs.YtbnnpkcfifejmabGreat
namespace Go.Proofs.YtbnnpkcfifejmabGreat
open Go.RowKit
namespace Ly
theorem counts_ok {o : OpD} {p x : Int} (h : Od.counts o p x = 0) : Od.right o = true ∧ Od.least o ≤ x ∧ x ≤ Od.most o ∧ p = Od.params o := by
 unfold Od.counts at h
 cases hr : Od.right o
 ·simp [hr] at h
 ·rw [hr] at h
  simp only [if_true] at h
  split at h
  ·simp at h
  ·rename_i hc; simp only [not_or] at hc; exact ⟨rfl, by omega, by omega, by omega⟩
theorem right_s {t : Ten} (h : Tn.right t = true) : Sh.right t.s = true ∧ (t.c.length : Int) = Safe.prod t.s := by simpa [Tn.right] using h
theorem shape_of {o : OpD} {p x : List Ten} (hc : Od.counts o p.length x.length = 0) (hp : ∀ t ∈ p, Sh.right t.s = true) (hx : ∀ t ∈ x, Sh.right t.s = true) :
  Od.shape o (p.map Ten.s) (x.map Ten.s) = Od.byKind o (p.map Ten.s) (x.map Ten.s) := by
 unfold Od.shape
 rw [List.length_map, List.length_map, if_neg (by simp [hc]), if_pos]
 simp only [Bool.and_eq_true, List.all_eq_true, List.mem_map]
 exact ⟨by rintro s ⟨t, ht, rfl⟩; exact hp t ht, by rintro s ⟨t, ht, rfl⟩; exact hx t ht⟩
theorem joined_map {sd : Int} : ∀ {r : List Ten} {s : List Int}, (joinedS sd s r).2 = 0 → Od.joinAll sd s (r.map Ten.s) = joinedS sd s r ∧ ∀ t ∈ r, Sh.right t.s = true
 | [], _, _ => ⟨rfl, by simp⟩
 | t :: r, s, h => by
  simp only [joinedS, List.map_cons, Od.joinAll] at h ⊢
  split at h
  ·rename_i ht
   rw [if_pos ht]
   split at h
   ·rename_i hj
    rw [if_pos hj, if_pos hj]
    obtain ⟨h1, h2⟩ := joined_map h
    refine ⟨h1, fun u hu => ?_⟩
    rcases List.mem_cons.1 hu with rfl | hu
    ·exact (right_s ht).1
    ·exact h2 u hu
   ·rename_i hj; exact absurd h hj
  ·simp at h
theorem joined_shape {sd : Int} {x : List Ten} (h : (joined sd x).2 = 0) : Od.joined sd (x.map Ten.s) = joined sd x ∧ ∀ t ∈ x, Sh.right t.s = true := by
 cases x with
 | nil => simp [joined] at h
 | cons t r =>
  simp only [joined] at h ⊢
  split at h
  ·rename_i ht
   rw [if_pos ht]
   split at h
   ·simp at h
   ·rename_i hc
    rw [if_neg hc]
    obtain ⟨h1, h2⟩ := joined_map h
    refine ⟨?_, fun u hu => ?_⟩
    ·unfold Od.joined
     rw [if_neg]
     ·exact h1
     ·rintro ⟨hl, hi⟩
      refine hc ⟨by simpa using hl, ?_⟩
      simp [Od.inR] at hi
      omega
    ·rcases List.mem_cons.1 hu with rfl | hu
     ·exact (right_s ht).1
     ·exact h2 u hu
  ·simp at h
theorem one_of {l : List Ten} (h : l.length = 1) : ∃ a, l = [a] := List.length_eq_one_iff.1 h
theorem two_of {l : List Ten} (h : l.length = 2) : ∃ a b, l = [a, b] := by
 match l, h with
 | [a, b], _ => exact ⟨a, b, rfl⟩
theorem none_of {l : List Ten} (h : l.length = 0) : l = [] := List.length_eq_zero_iff.1 h
set_option maxHeartbeats 4000000 in
theorem lay_shape {o : OpD} {p x : List Ten} (hc : Od.counts o p.length x.length = 0) (h : (lay o p x).2 = 0) : Od.shape o (p.map Ten.s) (x.map Ten.s) = ((lay o p x).1.s, 0) := by
 obtain ⟨hr, h1, h2, h3⟩ := counts_ok hc
 have hk := Od.right_kind hr
 unfold Od.least Od.most at *
 unfold Od.params at h3
 rw [if_pos hr] at h1 h2 h3
 have hcases : o.kind ≤ 7 ∨ o.kind = 8 ∨ o.kind = 9 ∨ o.kind = 10 ∨ o.kind = 11 ∨ o.kind = 12 ∨ o.kind = 13 ∨ o.kind = 14 ∨ o.kind = 15 := by omega
 rcases hcases with hk1 | hk1 | hk1 | hk1 | hk1 | hk1 | hk1 | hk1 | hk1
 ·have e : lay o p x = point o.kind o.k x := by unfold lay; rw [if_neg (by omega), if_neg (by omega), if_neg (by omega), if_neg (by omega), if_neg (by omega), if_neg (by omega), if_neg (by omega), if_neg (by omega)]
  have hp0 : p = [] := none_of (by rw [if_neg (by omega), if_neg (by omega)] at h3; omega)
  rw [e] at h ⊢
  unfold point at h ⊢
  split at h
  ·rename_i ha
   rw [if_pos ha]
   unfold ptAgree at ha
   split at ha
   ·simp at ha
   ·split at ha
    ·simp at ha
    ·split at ha
     ·rename_i hall
      simp only [List.all_eq_true, Bool.and_eq_true, decide_eq_true_eq] at hall
      rw [shape_of hc (by rw [hp0]; simp) (fun t ht => (right_s (hall t ht).1).1)]
      unfold Od.byKind
      rw [if_neg (by omega), if_neg (by omega), if_neg (by omega), if_neg (by omega), if_neg (by omega), if_neg (by omega), if_neg (by omega)]
      have hx1 : 0 < x.length := by
       rcases Nat.eq_zero_or_pos x.length with h0 | h0
       ·rename_i hn0 hn1; simp [h0] at hn1; omega
       ·exact h0
      have e0 : (x.map Ten.s).getD 0 [] = (got x 0).s := by
       cases x with
       | nil => simp at hx1
       | cons a r => rfl
      unfold Od.same
      rw [e0, if_pos]
      simp only [List.all_eq_true, List.mem_map, decide_eq_true_eq]
      rintro s ⟨t, ht, rfl⟩
      exact (hall t ht).2
     ·simp at ha
  ·rename_i ha; exact absurd h ha
 ·obtain ⟨a, b, rfl⟩ := two_of (l := p) (by simp [hk1] at h3; omega)
  obtain ⟨t, rfl⟩ := one_of (l := x) (by simp [hk1] at h1 h2; omega)
  have e : lay o [a, b] [t] = dense a b t := by unfold lay; rw [if_pos hk1]; rfl
  rw [e] at h ⊢
  unfold dense at h ⊢
  split at h
  ·rename_i ha
   rw [if_pos ha]
   simp only [denseOk, Bool.and_eq_true, decide_eq_true_eq] at ha
   obtain ⟨⟨⟨⟨⟨a1, a2⟩, a3⟩, a4⟩, a5⟩, a6⟩ := ha
   rw [shape_of hc (by simp [(right_s a1).1, (right_s a3).1]) (by simp [(right_s a4).1])]
   have h6 := (right_s a4).2
   have h7 := (right_s a4).1
   unfold Od.byKind Od.dense
   rw [if_pos hk1]
   simp only [List.map_cons, List.map_nil, List.getD_cons_zero, List.getD_cons_succ]
   rw [if_pos ⟨a2, by rw [a5]; rfl, by rw [a5]; rfl, h7, by rw [← h6, a6]; rfl⟩, a5]
   rfl
  ·simp at h
 ·obtain ⟨b, rfl⟩ := one_of (l := p) (by simp [hk1] at h3; omega)
  obtain ⟨t, rfl⟩ := one_of (l := x) (by simp [hk1] at h1 h2; omega)
  have e : lay o [b] [t] = add t b := by unfold lay; rw [if_neg (by omega), if_pos hk1]; rfl
  rw [e] at h ⊢
  unfold add at h ⊢
  split at h
  ·rename_i ha
   rw [if_pos ha]
   simp only [alike, Bool.and_eq_true, decide_eq_true_eq] at ha
   obtain ⟨⟨a1, a2⟩, a3⟩ := ha
   rw [shape_of hc (by simp [(right_s a2).1]) (by simp [(right_s a1).1])]
   unfold Od.byKind Od.same
   rw [if_neg (by omega), if_pos hk1]
   simp [a3]
  ·simp at h
 ·obtain ⟨b, rfl⟩ := one_of (l := p) (by simp [hk1] at h3; omega)
  obtain ⟨t, rfl⟩ := one_of (l := x) (by simp [hk1] at h1 h2; omega)
  have e : lay o [b] [t] = conv b t o.step := by unfold lay; rw [if_neg (by omega), if_neg (by omega), if_pos hk1]; rfl
  rw [e] at h ⊢
  unfold conv at h ⊢
  split at h
  ·rename_i ha
   rw [if_pos ha]
   unfold convErr at ha
   split at ha
   ·rename_i hrr
    simp only [Bool.and_eq_true] at hrr
    rw [shape_of hc (by simp [(right_s hrr.1).1]) (by simp [(right_s hrr.2).1])]
    unfold Od.byKind
    rw [if_neg (by omega), if_neg (by omega), if_pos hk1]
    simp only [List.map_cons, List.map_nil, List.getD_cons_zero]
    exact Prod.ext rfl ha
   ·simp at ha
  ·rename_i ha; exact absurd h ha
 ·obtain rfl := none_of (l := p) (by rw [if_neg (by omega), if_neg (by omega)] at h3; omega)
  obtain ⟨t, rfl⟩ := one_of (l := x) (by simp [hk1] at h1 h2; omega)
  have e : lay o [] [t] = pool true t o.width o.step := by unfold lay; rw [if_neg (by omega), if_neg (by omega), if_neg (by omega), if_pos hk1]; rfl
  rw [e] at h ⊢
  unfold pool at h ⊢
  split at h
  ·rename_i ha
   rw [if_pos ha]
   unfold poolErr at ha
   split at ha
   ·rename_i hrr
    rw [shape_of hc (by simp) (by simp [(right_s hrr).1])]
    unfold Od.byKind
    rw [if_neg (by omega), if_neg (by omega), if_neg (by omega), if_pos (by omega)]
    simp only [List.map_cons, List.map_nil, List.getD_cons_zero]
    exact Prod.ext rfl ha
   ·simp at ha
  ·rename_i ha; exact absurd h ha
 ·obtain rfl := none_of (l := p) (by rw [if_neg (by omega), if_neg (by omega)] at h3; omega)
  obtain ⟨t, rfl⟩ := one_of (l := x) (by simp [hk1] at h1 h2; omega)
  have e : lay o [] [t] = pool false t o.width o.step := by unfold lay; rw [if_neg (by omega), if_neg (by omega), if_neg (by omega), if_neg (by omega), if_pos hk1]; rfl
  rw [e] at h ⊢
  unfold pool at h ⊢
  split at h
  ·rename_i ha
   rw [if_pos ha]
   unfold poolErr at ha
   split at ha
   ·rename_i hrr
    rw [shape_of hc (by simp) (by simp [(right_s hrr).1])]
    unfold Od.byKind
    rw [if_neg (by omega), if_neg (by omega), if_neg (by omega), if_pos (by omega)]
    simp only [List.map_cons, List.map_nil, List.getD_cons_zero]
    exact Prod.ext rfl ha
   ·simp at ha
  ·rename_i ha; exact absurd h ha
 ·obtain rfl := none_of (l := p) (by rw [if_neg (by omega), if_neg (by omega)] at h3; omega)
  have e : lay o [] x = join o.side x := by unfold lay; rw [if_neg (by omega), if_neg (by omega), if_neg (by omega), if_neg (by omega), if_neg (by omega), if_pos hk1]
  rw [e] at h ⊢
  unfold join at h ⊢
  split at h
  ·rename_i ha
   rw [if_pos ha]
   obtain ⟨j1, j2⟩ := joined_shape ha
   rw [shape_of hc (by simp) j2]
   unfold Od.byKind
   rw [if_neg (by omega), if_neg (by omega), if_neg (by omega), if_neg (by omega), if_pos (by omega), j1]
   exact Prod.ext rfl ha
  ·rename_i ha; exact absurd h ha
 ·obtain rfl := none_of (l := p) (by rw [if_neg (by omega), if_neg (by omega)] at h3; omega)
  obtain ⟨t, rfl⟩ := one_of (l := x) (by simp [hk1] at h1 h2; omega)
  have e : lay o [] [t] = cut t o.side o.frm o.to := by unfold lay; rw [if_neg (by omega), if_neg (by omega), if_neg (by omega), if_neg (by omega), if_neg (by omega), if_neg (by omega), if_pos hk1]; rfl
  rw [e] at h ⊢
  unfold cut at h ⊢
  split at h
  ·rename_i hrr
   rw [if_pos hrr]
   split at h
   ·rename_i ha
    rw [if_pos ha]
    rw [shape_of hc (by simp) (by simp [(right_s hrr).1])]
    unfold Od.byKind
    rw [if_neg (by omega), if_neg (by omega), if_neg (by omega), if_neg (by omega), if_neg (by omega), if_pos (by omega)]
    simp only [List.map_cons, List.map_nil, List.getD_cons_zero]
    exact Prod.ext rfl ha
   ·rename_i ha; exact absurd h ha
  ·simp at h
 ·obtain rfl := none_of (l := p) (by rw [if_neg (by omega), if_neg (by omega)] at h3; omega)
  obtain ⟨t, rfl⟩ := one_of (l := x) (by simp [hk1] at h1 h2; omega)
  have e : lay o [] [t] = turn t o.s := by unfold lay; rw [if_neg (by omega), if_neg (by omega), if_neg (by omega), if_neg (by omega), if_neg (by omega), if_neg (by omega), if_neg (by omega), if_pos hk1]; rfl
  rw [e] at h ⊢
  unfold turn of_ at h ⊢
  split at h
  ·rename_i hrr
   rw [if_pos hrr]
   split at h
   ·rename_i ha
    rw [if_pos ha]
    rw [shape_of hc (by simp) (by simp [(right_s hrr).1])]
    unfold Od.byKind Od.turned
    rw [if_neg (by omega), if_neg (by omega), if_neg (by omega), if_neg (by omega), if_neg (by omega), if_neg (by omega), if_pos (by omega)]
    have a1 := right_s hrr
    have a2 := right_s ha
    simp only [List.map_cons, List.map_nil, List.getD_cons_zero]
    rw [if_pos (by simp [a1.1, a2.1, ← a2.2, ← a1.2])]
   ·simp at h
  ·simp at h
theorem go_err {o : OpD} {p x : List Ten} (h : Od.counts o p.length x.length ≠ 0) : go o p x = (none_, Od.counts o p.length x.length) := by unfold go; rw [if_neg h]
theorem go_lay {o : OpD} {p x : List Ten} (h : Od.counts o p.length x.length = 0) : go o p x = lay o p x := by unfold go; rw [if_pos h]
end Ly
end Go.Proofs.YtbnnpkcfifejmabGreat
namespace Go.Proofs.YtbnnpkcfifejmabGreat
open Go.RowKit
namespace Ly
theorem dense_none {w b x : Ten} (h : (dense w b x).2 ≠ 0) : (dense w b x).1 = none_ := by
 unfold dense at h ⊢; split at h
 ·simp at h
 ·rename_i hc; rw [if_neg hc]
theorem add_none {a b : Ten} (h : (add a b).2 ≠ 0) : (add a b).1 = none_ := by
 unfold add at h ⊢; split at h
 ·simp at h
 ·rename_i hc; rw [if_neg hc]
theorem conv_none {w x : Ten} {st : Int} (h : (conv w x st).2 ≠ 0) : (conv w x st).1 = none_ := by
 unfold conv at h ⊢; split at h
 ·simp at h
 ·rename_i hc; rw [if_neg hc]
theorem pool_none {t : Bool} {x : Ten} {wd st : Int} (h : (pool t x wd st).2 ≠ 0) : (pool t x wd st).1 = none_ := by
 unfold pool at h ⊢; split at h
 ·simp at h
 ·rename_i hc; rw [if_neg hc]
theorem join_none {sd : Int} {x : List Ten} (h : (join sd x).2 ≠ 0) : (join sd x).1 = none_ := by
 unfold join at h ⊢; split at h
 ·simp at h
 ·rename_i hc; rw [if_neg hc]
theorem cut_none {x : Ten} {sd f t : Int} (h : (cut x sd f t).2 ≠ 0) : (cut x sd f t).1 = none_ := by
 unfold cut at h ⊢
 split at h
 ·rename_i h1
  rw [if_pos h1]
  split at h
  ·simp at h
  ·rename_i hc; rw [if_neg hc]
 ·rename_i hc; rw [if_neg hc]
theorem turn_none {x : Ten} {s : List Int} (h : (turn x s).2 ≠ 0) : (turn x s).1 = none_ := by
 unfold turn of_ at h ⊢
 split at h
 ·rename_i h1
  rw [if_pos h1]
  split at h
  ·simp at h
  ·rename_i hc; rw [if_neg hc]
 ·rename_i hc; rw [if_neg hc]
theorem point_none {k k0 : Int} {x : List Ten} (h : (point k k0 x).2 ≠ 0) : (point k k0 x).1 = none_ := by
 unfold point at h ⊢; split at h
 ·simp at h
 ·rename_i hc; rw [if_neg hc]
theorem lay8 {o : OpD} {p x : List Ten} (h : o.kind = 8) : lay o p x = dense (got p 0) (got p 1) (got x 0) := by unfold lay; rw [if_pos h]
theorem lay9 {o : OpD} {p x : List Ten} (h : o.kind = 9) : lay o p x = add (got x 0) (got p 0) := by unfold lay; rw [if_neg (by omega), if_pos h]
theorem lay10 {o : OpD} {p x : List Ten} (h : o.kind = 10) : lay o p x = conv (got p 0) (got x 0) o.step := by unfold lay; rw [if_neg (by omega), if_neg (by omega), if_pos h]
theorem lay11 {o : OpD} {p x : List Ten} (h : o.kind = 11) : lay o p x = pool true (got x 0) o.width o.step := by unfold lay; rw [if_neg (by omega), if_neg (by omega), if_neg (by omega), if_pos h]
theorem lay12 {o : OpD} {p x : List Ten} (h : o.kind = 12) : lay o p x = pool false (got x 0) o.width o.step := by unfold lay; rw [if_neg (by omega), if_neg (by omega), if_neg (by omega), if_neg (by omega), if_pos h]
theorem lay13 {o : OpD} {p x : List Ten} (h : o.kind = 13) : lay o p x = join o.side x := by unfold lay; rw [if_neg (by omega), if_neg (by omega), if_neg (by omega), if_neg (by omega), if_neg (by omega), if_pos h]
theorem lay14 {o : OpD} {p x : List Ten} (h : o.kind = 14) : lay o p x = cut (got x 0) o.side o.frm o.to := by unfold lay; rw [if_neg (by omega), if_neg (by omega), if_neg (by omega), if_neg (by omega), if_neg (by omega), if_neg (by omega), if_pos h]
theorem lay15 {o : OpD} {p x : List Ten} (h : o.kind = 15) : lay o p x = turn (got x 0) o.s := by unfold lay; rw [if_neg (by omega), if_neg (by omega), if_neg (by omega), if_neg (by omega), if_neg (by omega), if_neg (by omega), if_neg (by omega), if_pos h]
theorem lay7 {o : OpD} {p x : List Ten} (h : o.kind ≤ 7) : lay o p x = point o.kind o.k x := by unfold lay; rw [if_neg (by omega), if_neg (by omega), if_neg (by omega), if_neg (by omega), if_neg (by omega), if_neg (by omega), if_neg (by omega), if_neg (by omega)]
theorem lay_none {o : OpD} {p x : List Ten} (hk : o.kind ≤ 15) (h : (lay o p x).2 ≠ 0) : (lay o p x).1 = none_ := by
 have hcases : o.kind ≤ 7 ∨ o.kind = 8 ∨ o.kind = 9 ∨ o.kind = 10 ∨ o.kind = 11 ∨ o.kind = 12 ∨ o.kind = 13 ∨ o.kind = 14 ∨ o.kind = 15 := by omega
 rcases hcases with hk1 | hk1 | hk1 | hk1 | hk1 | hk1 | hk1 | hk1 | hk1
 ·rw [lay7 hk1] at h ⊢; exact point_none h
 ·rw [lay8 hk1] at h ⊢; exact dense_none h
 ·rw [lay9 hk1] at h ⊢; exact add_none h
 ·rw [lay10 hk1] at h ⊢; exact conv_none h
 ·rw [lay11 hk1] at h ⊢; exact pool_none h
 ·rw [lay12 hk1] at h ⊢; exact pool_none h
 ·rw [lay13 hk1] at h ⊢; exact join_none h
 ·rw [lay14 hk1] at h ⊢; exact cut_none h
 ·rw [lay15 hk1] at h ⊢; exact turn_none h
end Ly
def GoU (r : Ten × Int) (w : World) (e : Ending) (w' : World) : Prop :=
 ∃ S c C d, e = .returned (.tuple #[.agg #[.slice S r.1.s.length c, .slice C r.1.c.length d], .int .i64 r.2]) ∧
  (r.2 ≠ 0 → .agg #[.slice S r.1.s.length c, .slice C r.1.c.length d] = Value.agg #[.slice none 0 0, .slice none 0 0]) ∧ (r.2 = 0 → TenO w.heap.size w' (.agg #[.slice S r.1.s.length c, .slice C r.1.c.length d]) r.1) ∧ Below w.heap.size w w'
theorem GoP.u {r : Ten × Int} {w w' : World} {e : Ending} (h : GoP r w e w') (hn : r.2 ≠ 0 → r.1 = Ly.none_) : GoU r w e w' := by
 obtain ⟨h1 | ⟨h1, v, rfl, h3⟩, h2⟩ := h
 ·obtain ⟨h1, rfl⟩ := h1
  have e1 := hn h1
  refine ⟨none, 0, none, 0, by rw [e1]; rfl, fun _ => by rw [e1]; rfl, fun h => absurd h h1, h2⟩
 ·have h3' := h3
  obtain ⟨S, c, C, d, rfl, _, _, _⟩ := h3
  exact ⟨S, c, C, d, by rw [h1], fun h => absurd h1 h, fun _ => h3', h2⟩
theorem calls_goU {P : Program} {f : FuncId} {args : Array Value} {r : Ten × Int} {w : World} (h : Calls P f args w (GoP r w)) (hn : r.2 ≠ 0 → r.1 = Ly.none_) : Calls P f args w (GoU r w) := h.mono fun _ _ hq => hq.u hn
end Go.Proofs.YtbnnpkcfifejmabGreat
namespace Go.Proofs.YtbnnpkcfifejmabGreat
open Go.RowKit
namespace Ly
def flat (w : Ten) : Bool := Tn.right w && decide (w.s.length = 2)
theorem flat_yes {w : Ten} (h : flat w = true) : Tn.right w = true ∧ w.s.length = 2 := by simpa [flat] using h
theorem dense_w {w b x : Ten} (h : flat w = false) : denseOk w b x = false := by unfold flat at h; unfold denseOk; rw [h]; simp
theorem dense_b {w b x : Ten} (h : Tn.right b = false) : denseOk w b x = false := by unfold denseOk; rw [h]; simp
theorem dense_x {w b x : Ten} (h : Tn.right x = false) : denseOk w b x = false := by unfold denseOk; rw [h]; simp
theorem dense_s {w b x : Ten} (h : (b.s == [at_ w.s 0]) = false) : denseOk w b x = false := by
 have : ¬ b.s = [at_ w.s 0] := by simpa using h
 unfold denseOk; simp [this]
theorem dense_all {w b x : Ten} (h1 : flat w = true) (h2 : Tn.right b = true) (h3 : Tn.right x = true) (h4 : (b.s == [at_ w.s 0]) = true) : denseOk w b x = ((x.c.length : Int) == at_ w.s 1) := by
 obtain ⟨a, c⟩ := flat_yes h1
 have : b.s = [at_ w.s 0] := by simpa using h4
 unfold denseOk
 rw [a, h2, h3, decide_eq_true c, decide_eq_true this]
 simp
 rw [Bool.eq_iff_iff]; simp
theorem dense_yes {w b x : Ten} (h : denseOk w b x = true) : Tn.right w = true ∧ w.s.length = 2 ∧ Tn.right b = true ∧ Tn.right x = true ∧ b.s = [at_ w.s 0] ∧ (x.c.length : Int) = at_ w.s 1 := by simpa [denseOk, and_assoc] using h
end Ly
theorem dense_flat (S C : Option Addr) (c d : Nat) (t : Ten) (w : World) (ht : TenIn w S C c d t) :
  Calls Tryz.prog 101 #[.agg #[.slice S t.s.length c, .slice C t.c.length d]] w fun e w' => e = .returned (.bool (Ly.flat t)) ∧ Below w.heap.size w w' := by
 have h01 : Later w (w.alloc (.cells #[.slice S t.s.length c, .slice C t.c.length d] 30)) := (Later.refl w).alloc _
 have hk := Blk.new w 30 #[.slice S t.s.length c, .slice C t.c.length d]
 have l1 := ht.l1
 have l2 := ht.l2
 have H01 := Lib.hid h01
 have Hk := Lib.hid hk
 have Ht := Lib.hid ht
 clear h01 hk ht
 go_enter Tryz.func101, Tryz.ntmps101
 go_wp2_with fail
 generalize w.alloc (.cells #[.slice S t.s.length c, .slice C t.c.length d] 30) = w1 at *
 refine (tensor_right S C c d t w1 (by omega) (by omega) (Ht.out.later H01.out).r.1).mono ?_
 rintro e w2 ⟨rfl, hb2⟩
 have h12 : Later w1 w2 := hb2
 have hk2 := h12.blk Hk.out
 have c0 := hk2.cell 0
 simp at c0
 clear hb2
 cases hr : Tn.right t
 ·have HE := Lib.hid (show Ly.flat t = false by simp [Ly.flat, hr])
  clear hr
  have H12 := Lib.hid h12
  have Hk2 := Lib.hid hk2
  clear h12 hk2
  go_wp2_with fail
  go_ret
  exact ⟨by rw [HE.out]; rfl, H01.out.trans H12.out⟩
 ·by_cases h : t.s.length = 2
  ·have HE := Lib.hid (show Ly.flat t = true by simp [Ly.flat, hr, h])
   have d1 : ((t.s.length : Int) == 2) = true := by simp; omega
   clear hr h
   have H12 := Lib.hid h12
   have Hk2 := Lib.hid hk2
   clear h12 hk2
   go_wp2_with fail
   go_ret
   exact ⟨by rw [HE.out]; rfl, H01.out.trans H12.out⟩
  ·have HE := Lib.hid (show Ly.flat t = false by simp [Ly.flat, h])
   have d1 : ((t.s.length : Int) == 2) = false := by simp; omega
   clear hr h
   have H12 := Lib.hid h12
   have Hk2 := Lib.hid hk2
   clear h12 hk2
   go_wp2_with fail
   go_ret
   exact ⟨by rw [HE.out]; rfl, H01.out.trans H12.out⟩
set_option maxHeartbeats 8000000 in
theorem dense_agree (S C S' C' S2 C2 : Option Addr) (c d c' d' c2 d2 : Nat) (t b x : Ten) (w : World) (ht : TenIn w S C c d t) (hb : TenIn w S' C' c' d' b) (hx : TenIn w S2 C2 c2 d2 x) :
  Calls Tryz.prog 60 #[.agg #[.slice S t.s.length c, .slice C t.c.length d], .agg #[.slice S' b.s.length c', .slice C' b.c.length d'], .agg #[.slice S2 x.s.length c2, .slice C2 x.c.length d2]] w fun e w' => e = .returned (.bool (Ly.denseOk t b x)) ∧ Below w.heap.size w w' := by
 obtain ⟨hk0, hk1, hk2, h02⟩ := three_boxes w 30 30 30 #[.slice S t.s.length c, .slice C t.c.length d] #[.slice S' b.s.length c', .slice C' b.c.length d'] #[.slice S2 x.s.length c2, .slice C2 x.c.length d2]
 have lt1 := ht.l1
 have lb1 := hb.l1
 have lx1 := hx.l1
 have lt2 := ht.l2
 have lb2 := hb.l2
 have lx2 := hx.l2
 have Hk0 := Lib.hid hk0
 have Hk1 := Lib.hid hk1
 have Hk2 := Lib.hid hk2
 have H02 := Lib.hid h02
 have Ht := Lib.hid ht
 have Hb := Lib.hid hb
 have Hx := Lib.hid hx
 clear hk0 hk1 hk2 h02 ht hb hx
 go_enter Tryz.func60, Tryz.ntmps60
 go_wp2_with fail
 generalize ((w.alloc (.cells #[.slice S t.s.length c, .slice C t.c.length d] 30)).alloc (.cells #[.slice S' b.s.length c', .slice C' b.c.length d'] 30)).alloc (.cells #[.slice S2 x.s.length c2, .slice C2 x.c.length d2] 30) = w2 at *
 have x0 : w2.cell? ⟨w.heap.size, 0, none⟩ = some (.slice S t.s.length c) := by rw [Hk0.out.cell]; rfl
 have x1 : w2.cell? ⟨w.heap.size, 1, none⟩ = some (.slice C t.c.length d) := by rw [Hk0.out.cell]; rfl
 have x2 : w2.cell? ⟨w.heap.size + 1, 0, none⟩ = some (.slice S' b.s.length c') := by rw [Hk1.out.cell]; rfl
 have x3 : w2.cell? ⟨w.heap.size + 1, 1, none⟩ = some (.slice C' b.c.length d') := by rw [Hk1.out.cell]; rfl
 have x4 : w2.cell? ⟨w.heap.size + 2, 0, none⟩ = some (.slice S2 x.s.length c2) := by rw [Hk2.out.cell]; rfl
 have x5 : w2.cell? ⟨w.heap.size + 2, 1, none⟩ = some (.slice C2 x.c.length d2) := by rw [Hk2.out.cell]; rfl
 have hT := (Ht.out.later H02.out)
 have hB := (Hb.out.later H02.out)
 have hX := (Hx.out.later H02.out)
 have hc1 := fun (V : World) (h : Later w2 V) => dense_flat S C c d t V (hT.later h)
 have hc2 := fun (V : World) (h : Later w2 V) => tensor_right S' C' c' d' b V (by omega) (by omega) (hB.later h).r.1
 have hc3 := fun (V : World) (h : Later w2 V) => tensor_right S2 C2 c2 d2 x V (by omega) (by omega) (hX.later h).r.1
 have Hc1 := Lib.hid hc1
 have Hc2 := Lib.hid hc2
 have Hc3 := Lib.hid hc3
 clear hc1 hc2 hc3
 cases hf : Ly.flat t
 ·have HE := Lib.hid (Ly.dense_w (b := b) (x := x) hf)
  have hc1 := Hc1.out
  rw [hf] at hc1
  have Hd1 := Lib.hid hc1
  clear hf hc1
  have KF := Lib.hid (show ∀ Xw, Later w2 Xw → Xw.cell? ⟨w.heap.size, 0, none⟩ = some (.slice S t.s.length c) ∧ Xw.cell? ⟨w.heap.size, 1, none⟩ = some (.slice C t.c.length d) ∧ Xw.cell? ⟨w.heap.size + 1, 0, none⟩ = some (.slice S' b.s.length c') ∧ Xw.cell? ⟨w.heap.size + 1, 1, none⟩ = some (.slice C' b.c.length d') ∧ Xw.cell? ⟨w.heap.size + 2, 0, none⟩ = some (.slice S2 x.s.length c2) ∧ Xw.cell? ⟨w.heap.size + 2, 1, none⟩ = some (.slice C2 x.c.length d2) from fun Xw h => ⟨h.cell x0, h.cell x1, h.cell x2, h.cell x3, h.cell x4, h.cell x5⟩)
  refine wp_region_noPanic ?_
  refine wp_region_held_drew (S := fun Xw => Xw.cell? ⟨w.heap.size, 0, none⟩ = some (.slice S t.s.length c) ∧ Xw.cell? ⟨w.heap.size, 1, none⟩ = some (.slice C t.c.length d) ∧ Xw.cell? ⟨w.heap.size + 1, 0, none⟩ = some (.slice S' b.s.length c') ∧ Xw.cell? ⟨w.heap.size + 1, 1, none⟩ = some (.slice C' b.c.length d') ∧ Xw.cell? ⟨w.heap.size + 2, 0, none⟩ = some (.slice S2 x.s.length c2) ∧ Xw.cell? ⟨w.heap.size + 2, 1, none⟩ = some (.slice C2 x.c.length d2)) (by kernel_rfl) (KF.out _ Later.au) (fun hHeld => ?_)
  refine tk 0 ?_
  refine rd 1 fun K hK => ?_
  simp only [ga, gs, gz]
  go_simp
  go_at_call 101; (with_reducible refine (Hd1.out _ (Later.au : Later w2 _)).mono ?_); rintro e wa ⟨rfl, hba⟩
  try go_wp2_with fail
  refine hK.out _ _ (KF.out _ Later.au) (fun hHeld => ?_)
  clear hK K
  try simp only [ga, gs, gz, Act.put, sa, sz, ss]
  refine tk 2 ?_
  refine tn 3 ?_
  refine tn 4 ?_
  refine tk 5 ?_
  refine tk 6 ?_
  refine tn 7 ?_
  refine tn 8 ?_
  refine tk 9 ?_
  refine tk 10 ?_
  refine tn 11 ?_
  refine tn 12 ?_
  refine tn 13 ?_
  refine tn 14 ?_
  refine tn 15 ?_
  refine tn 16 ?_
  refine tn 17 ?_
  refine tn 18 ?_
  refine tk 19 ?_
  refine tk 20 ?_
  refine tn 21 ?_
  refine tn 22 ?_
  refine tn 23 ?_
  refine tn 24 ?_
  refine tn 25 ?_
  refine tn 26 ?_
  refine tn 27 ?_
  refine tn 28 ?_
  refine tk 29 ?_
  refine tk 30 ?_
  clear KF
  refine wpAnyH_done (by kernel_rfl) ?_ _
  refine NoPanic.normal ?_
  have hle := H02.out.trans (Later.au : Later w2 wa)
  have Hle := Lib.hid hle
  clear hle
  go_wp2_with fail
  go_ret
  exact ⟨by rw [HE.out]; rfl, Hle.out⟩
 obtain ⟨hrt, hl⟩ := Ly.flat_yes hf
 have hc1 := Hc1.out
 rw [hf] at hc1
 have Hd1 := Lib.hid hc1
 clear hc1
 cases hrb : Tn.right b
 ·have HE := Lib.hid (Ly.dense_b (w := t) (x := x) hrb)
  have hc2 := Hc2.out
  rw [hrb] at hc2
  have Hd2 := Lib.hid hc2
  clear hf hc2 hrt hl hrb
  have KF := Lib.hid (show ∀ Xw, Later w2 Xw → Xw.cell? ⟨w.heap.size, 0, none⟩ = some (.slice S t.s.length c) ∧ Xw.cell? ⟨w.heap.size, 1, none⟩ = some (.slice C t.c.length d) ∧ Xw.cell? ⟨w.heap.size + 1, 0, none⟩ = some (.slice S' b.s.length c') ∧ Xw.cell? ⟨w.heap.size + 1, 1, none⟩ = some (.slice C' b.c.length d') ∧ Xw.cell? ⟨w.heap.size + 2, 0, none⟩ = some (.slice S2 x.s.length c2) ∧ Xw.cell? ⟨w.heap.size + 2, 1, none⟩ = some (.slice C2 x.c.length d2) from fun Xw h => ⟨h.cell x0, h.cell x1, h.cell x2, h.cell x3, h.cell x4, h.cell x5⟩)
  refine wp_region_noPanic ?_
  refine wp_region_held_drew (S := fun Xw => Xw.cell? ⟨w.heap.size, 0, none⟩ = some (.slice S t.s.length c) ∧ Xw.cell? ⟨w.heap.size, 1, none⟩ = some (.slice C t.c.length d) ∧ Xw.cell? ⟨w.heap.size + 1, 0, none⟩ = some (.slice S' b.s.length c') ∧ Xw.cell? ⟨w.heap.size + 1, 1, none⟩ = some (.slice C' b.c.length d') ∧ Xw.cell? ⟨w.heap.size + 2, 0, none⟩ = some (.slice S2 x.s.length c2) ∧ Xw.cell? ⟨w.heap.size + 2, 1, none⟩ = some (.slice C2 x.c.length d2)) (by kernel_rfl) (KF.out _ Later.au) (fun hHeld => ?_)
  refine tk 0 ?_
  refine rd 1 fun K hK => ?_
  simp only [ga, gs, gz]
  go_simp
  go_at_call 101; (with_reducible refine (Hd1.out _ (Later.au : Later w2 _)).mono ?_); rintro e wa ⟨rfl, hba⟩
  try go_wp2_with fail
  refine hK.out _ _ (KF.out _ Later.au) (fun hHeld => ?_)
  clear hK K
  try simp only [ga, gs, gz, Act.put, sa, sz, ss]
  refine tk 2 ?_
  refine tk 3 ?_
  refine rd 4 fun K hK => ?_
  simp only [ga, gs, gz]
  go_simp
  go_at_call 43; (with_reducible refine (Hd2.out _ (Later.au : Later w2 _)).mono ?_); rintro e wb ⟨rfl, hbb⟩
  try go_wp2_with fail
  refine hK.out _ _ (KF.out _ Later.au) (fun hHeld => ?_)
  clear hK K
  try simp only [ga, gs, gz, Act.put, sa, sz, ss]
  refine tk 5 ?_
  refine tk 6 ?_
  refine tn 7 ?_
  refine tn 8 ?_
  refine tk 9 ?_
  refine tk 10 ?_
  refine tn 11 ?_
  refine tn 12 ?_
  refine tn 13 ?_
  refine tn 14 ?_
  refine tn 15 ?_
  refine tn 16 ?_
  refine tn 17 ?_
  refine tn 18 ?_
  refine tk 19 ?_
  refine tk 20 ?_
  refine tn 21 ?_
  refine tn 22 ?_
  refine tn 23 ?_
  refine tn 24 ?_
  refine tn 25 ?_
  refine tn 26 ?_
  refine tn 27 ?_
  refine tn 28 ?_
  refine tk 29 ?_
  refine tk 30 ?_
  clear KF
  refine wpAnyH_done (by kernel_rfl) ?_ _
  refine NoPanic.normal ?_
  have hle := H02.out.trans (Later.au : Later w2 wb)
  have Hle := Lib.hid hle
  clear hle
  go_wp2_with fail
  go_ret
  exact ⟨by rw [HE.out]; rfl, Hle.out⟩
 have hc2 := Hc2.out
 rw [hrb] at hc2
 have Hd2 := Lib.hid hc2
 clear hc2
 cases hrx : Tn.right x
 ·have HE := Lib.hid (Ly.dense_x (w := t) (b := b) hrx)
  have hc3 := Hc3.out
  rw [hrx] at hc3
  have Hd3 := Lib.hid hc3
  clear hf hc3 hrt hl hrb hrx
  have KF := Lib.hid (show ∀ Xw, Later w2 Xw → Xw.cell? ⟨w.heap.size, 0, none⟩ = some (.slice S t.s.length c) ∧ Xw.cell? ⟨w.heap.size, 1, none⟩ = some (.slice C t.c.length d) ∧ Xw.cell? ⟨w.heap.size + 1, 0, none⟩ = some (.slice S' b.s.length c') ∧ Xw.cell? ⟨w.heap.size + 1, 1, none⟩ = some (.slice C' b.c.length d') ∧ Xw.cell? ⟨w.heap.size + 2, 0, none⟩ = some (.slice S2 x.s.length c2) ∧ Xw.cell? ⟨w.heap.size + 2, 1, none⟩ = some (.slice C2 x.c.length d2) from fun Xw h => ⟨h.cell x0, h.cell x1, h.cell x2, h.cell x3, h.cell x4, h.cell x5⟩)
  refine wp_region_noPanic ?_
  refine wp_region_held_drew (S := fun Xw => Xw.cell? ⟨w.heap.size, 0, none⟩ = some (.slice S t.s.length c) ∧ Xw.cell? ⟨w.heap.size, 1, none⟩ = some (.slice C t.c.length d) ∧ Xw.cell? ⟨w.heap.size + 1, 0, none⟩ = some (.slice S' b.s.length c') ∧ Xw.cell? ⟨w.heap.size + 1, 1, none⟩ = some (.slice C' b.c.length d') ∧ Xw.cell? ⟨w.heap.size + 2, 0, none⟩ = some (.slice S2 x.s.length c2) ∧ Xw.cell? ⟨w.heap.size + 2, 1, none⟩ = some (.slice C2 x.c.length d2)) (by kernel_rfl) (KF.out _ Later.au) (fun hHeld => ?_)
  refine tk 0 ?_
  refine rd 1 fun K hK => ?_
  simp only [ga, gs, gz]
  go_simp
  go_at_call 101; (with_reducible refine (Hd1.out _ (Later.au : Later w2 _)).mono ?_); rintro e wa ⟨rfl, hba⟩
  try go_wp2_with fail
  refine hK.out _ _ (KF.out _ Later.au) (fun hHeld => ?_)
  clear hK K
  try simp only [ga, gs, gz, Act.put, sa, sz, ss]
  refine tk 2 ?_
  refine tk 3 ?_
  refine rd 4 fun K hK => ?_
  simp only [ga, gs, gz]
  go_simp
  go_at_call 43; (with_reducible refine (Hd2.out _ (Later.au : Later w2 _)).mono ?_); rintro e wb ⟨rfl, hbb⟩
  try go_wp2_with fail
  refine hK.out _ _ (KF.out _ Later.au) (fun hHeld => ?_)
  clear hK K
  try simp only [ga, gs, gz, Act.put, sa, sz, ss]
  refine tk 5 ?_
  refine tk 6 ?_
  refine tk 7 ?_
  refine rd 8 fun K hK => ?_
  simp only [ga, gs, gz]
  go_simp
  go_at_call 43; (with_reducible refine (Hd3.out _ (Later.au : Later w2 _)).mono ?_); rintro e wc ⟨rfl, hbc⟩
  try go_wp2_with fail
  refine hK.out _ _ (KF.out _ Later.au) (fun hHeld => ?_)
  clear hK K
  try simp only [ga, gs, gz, Act.put, sa, sz, ss]
  refine tk 9 ?_
  refine tk 10 ?_
  refine tn 11 ?_
  refine tn 12 ?_
  refine tn 13 ?_
  refine tn 14 ?_
  refine tn 15 ?_
  refine tn 16 ?_
  refine tn 17 ?_
  refine tn 18 ?_
  refine tk 19 ?_
  refine tk 20 ?_
  refine tn 21 ?_
  refine tn 22 ?_
  refine tn 23 ?_
  refine tn 24 ?_
  refine tn 25 ?_
  refine tn 26 ?_
  refine tn 27 ?_
  refine tn 28 ?_
  refine tk 29 ?_
  refine tk 30 ?_
  clear KF
  refine wpAnyH_done (by kernel_rfl) ?_ _
  refine NoPanic.normal ?_
  have hle := H02.out.trans (Later.au : Later w2 wc)
  have Hle := Lib.hid hle
  clear hle
  go_wp2_with fail
  go_ret
  exact ⟨by rw [HE.out]; rfl, Hle.out⟩
 have hc3 := Hc3.out
 rw [hrx] at hc3
 have Hd3 := Lib.hid hc3
 clear hc3
 obtain ⟨bs, os, rfl, -, y0⟩ := hT.r.1 0 (by omega)
 obtain ⟨bs', os', e', -, y1⟩ := hT.r.1 1 (by omega)
 injection e' with e'
 injection e' with e1 e2
 subst e1 e2
 have x6 : w2.cell? ⟨bs, os, none⟩ = some (.int .i64 (Ly.at_ t.s 0)) := y0
 have x7 : w2.cell? ⟨bs, os + 1, none⟩ = some (.int .i64 (Ly.at_ t.s 1)) := y1
 have k1 : (0 : Int) < (t.s.length : Int) := by omega
 have k2 : (1 : Int) < (t.s.length : Int) := by omega
 have k3 : 0 < t.s.length := by omega
 have k4 : 1 < t.s.length := by omega
 have hc4 := fun (V : World) (g : Nat) (hk : Blk V g 3 #[.int .i64 (Ly.at_ t.s 0)]) (h : Later w2 V) => (show Calls Tryz.prog 12 #[.slice S' b.s.length c', .slice (some ⟨g, 0, none⟩) 1 1] V fun e w' => e = .returned (.bool (b.s == [Ly.at_ t.s 0])) ∧ ∃ n, w' = V.drewN n from shape_equal S' (some ⟨g, 0, none⟩) c' 1 b.s [Ly.at_ t.s 0] V (by omega) (by simp) (hB.later h).r.1 (Blk.intsL [Ly.at_ t.s 0] hk))
 clear y0 y1
 cases hs : (b.s == [Ly.at_ t.s 0])
 ·have HE := Lib.hid (Ly.dense_s (w := t) (x := x) hs)
  rw [hs] at hc4
  have Hd4 := Lib.hid hc4
  clear hf hc4 hrt hl hrb hrx hs hT hB hX
  have KF := Lib.hid (show ∀ Xw, Later w2 Xw → Xw.cell? ⟨w.heap.size, 0, none⟩ = some (.slice (some ⟨bs, os, none⟩) t.s.length c) ∧ Xw.cell? ⟨w.heap.size, 1, none⟩ = some (.slice C t.c.length d) ∧ Xw.cell? ⟨w.heap.size + 1, 0, none⟩ = some (.slice S' b.s.length c') ∧ Xw.cell? ⟨w.heap.size + 1, 1, none⟩ = some (.slice C' b.c.length d') ∧ Xw.cell? ⟨w.heap.size + 2, 0, none⟩ = some (.slice S2 x.s.length c2) ∧ Xw.cell? ⟨w.heap.size + 2, 1, none⟩ = some (.slice C2 x.c.length d2) ∧ Xw.cell? ⟨bs, os, none⟩ = some (.int .i64 (Ly.at_ t.s 0)) ∧ Xw.cell? ⟨bs, os + 1, none⟩ = some (.int .i64 (Ly.at_ t.s 1)) from fun Xw h => ⟨h.cell x0, h.cell x1, h.cell x2, h.cell x3, h.cell x4, h.cell x5, h.cell x6, h.cell x7⟩)
  refine wp_region_noPanic ?_
  refine wp_region_held_drew (S := fun Xw => Xw.cell? ⟨w.heap.size, 0, none⟩ = some (.slice (some ⟨bs, os, none⟩) t.s.length c) ∧ Xw.cell? ⟨w.heap.size, 1, none⟩ = some (.slice C t.c.length d) ∧ Xw.cell? ⟨w.heap.size + 1, 0, none⟩ = some (.slice S' b.s.length c') ∧ Xw.cell? ⟨w.heap.size + 1, 1, none⟩ = some (.slice C' b.c.length d') ∧ Xw.cell? ⟨w.heap.size + 2, 0, none⟩ = some (.slice S2 x.s.length c2) ∧ Xw.cell? ⟨w.heap.size + 2, 1, none⟩ = some (.slice C2 x.c.length d2) ∧ Xw.cell? ⟨bs, os, none⟩ = some (.int .i64 (Ly.at_ t.s 0)) ∧ Xw.cell? ⟨bs, os + 1, none⟩ = some (.int .i64 (Ly.at_ t.s 1))) (by kernel_rfl) (KF.out _ Later.au) (fun hHeld => ?_)
  refine tk 0 ?_
  refine rd 1 fun K hK => ?_
  simp only [ga, gs, gz]
  go_simp
  go_at_call 101; (with_reducible refine (Hd1.out _ (Later.au : Later w2 _)).mono ?_); rintro e wa ⟨rfl, hba⟩
  try go_wp2_with fail
  refine hK.out _ _ (KF.out _ Later.au) (fun hHeld => ?_)
  clear hK K
  try simp only [ga, gs, gz, Act.put, sa, sz, ss]
  refine tk 2 ?_
  refine tk 3 ?_
  refine rd 4 fun K hK => ?_
  simp only [ga, gs, gz]
  go_simp
  go_at_call 43; (with_reducible refine (Hd2.out _ (Later.au : Later w2 _)).mono ?_); rintro e wb ⟨rfl, hbb⟩
  try go_wp2_with fail
  refine hK.out _ _ (KF.out _ Later.au) (fun hHeld => ?_)
  clear hK K
  try simp only [ga, gs, gz, Act.put, sa, sz, ss]
  refine tk 5 ?_
  refine tk 6 ?_
  refine tk 7 ?_
  refine rd 8 fun K hK => ?_
  simp only [ga, gs, gz]
  go_simp
  go_at_call 43; (with_reducible refine (Hd3.out _ (Later.au : Later w2 _)).mono ?_); rintro e wc ⟨rfl, hbc⟩
  try go_wp2_with fail
  refine hK.out _ _ (KF.out _ Later.au) (fun hHeld => ?_)
  clear hK K
  try simp only [ga, gs, gz, Act.put, sa, sz, ss]
  refine tk 9 ?_
  refine tk 10 ?_
  refine tk 11 ?_
  refine tk 12 ?_
  refine tk 13 ?_
  refine tk 14 ?_
  refine tk 15 ?_
  refine tk 16 ?_
  refine rd 17 fun K hK => ?_
  simp only [ga, gs, gz]
  go_simp
  refine hK.out _ _ (KF.out _ Later.au) (fun hHeld => ?_)
  clear hK K
  try simp only [ga, gs, gz, Act.put, sa, sz, ss]
  refine rd 18 fun K hK => ?_
  simp only [ga, gs, gz]
  go_simp
  go_at_call 12; (with_reducible refine (Hd4.out _ _ (Blk.new wc 3 #[.int .i64 (Ly.at_ t.s 0)]) (Later.au : Later w2 _)).mono ?_); rintro e we ⟨rfl, qd, rfl⟩
  try go_wp2_with fail
  refine hK.out _ _ (KF.out _ Later.au) (fun hHeld => ?_)
  clear hK K
  try simp only [ga, gs, gz, Act.put, sa, sz, ss]
  refine tk 19 ?_
  refine tk 20 ?_
  refine tn 21 ?_
  refine tn 22 ?_
  refine tn 23 ?_
  refine tn 24 ?_
  refine tn 25 ?_
  refine tn 26 ?_
  refine tn 27 ?_
  refine tn 28 ?_
  refine tk 29 ?_
  refine tk 30 ?_
  clear KF
  refine wpAnyH_done (by kernel_rfl) ?_ _
  refine NoPanic.normal ?_
  have hle := H02.out.trans (Later.au : Later w2 ((wc.alloc (.cells #[.int .i64 (Ly.at_ t.s 0)] 3)).drewN qd))
  have Hle := Lib.hid hle
  clear hle
  go_wp2_with fail
  go_ret
  exact ⟨by rw [HE.out]; rfl, Hle.out⟩
 ·have HE := Lib.hid (Ly.dense_all hf hrb hrx hs)
  rw [hs] at hc4
  have Hd4 := Lib.hid hc4
  clear hf hc4 hrt hl hrb hrx hs hT hB hX
  generalize hq : ((x.c.length : Int) == Ly.at_ t.s 1) = q at HE
  have hq1 : ((x.c.length : Int) == Ly.at_ t.s 1) = q := hq
  clear hq
  have KF := Lib.hid (show ∀ Xw, Later w2 Xw → Xw.cell? ⟨w.heap.size, 0, none⟩ = some (.slice (some ⟨bs, os, none⟩) t.s.length c) ∧ Xw.cell? ⟨w.heap.size, 1, none⟩ = some (.slice C t.c.length d) ∧ Xw.cell? ⟨w.heap.size + 1, 0, none⟩ = some (.slice S' b.s.length c') ∧ Xw.cell? ⟨w.heap.size + 1, 1, none⟩ = some (.slice C' b.c.length d') ∧ Xw.cell? ⟨w.heap.size + 2, 0, none⟩ = some (.slice S2 x.s.length c2) ∧ Xw.cell? ⟨w.heap.size + 2, 1, none⟩ = some (.slice C2 x.c.length d2) ∧ Xw.cell? ⟨bs, os, none⟩ = some (.int .i64 (Ly.at_ t.s 0)) ∧ Xw.cell? ⟨bs, os + 1, none⟩ = some (.int .i64 (Ly.at_ t.s 1)) from fun Xw h => ⟨h.cell x0, h.cell x1, h.cell x2, h.cell x3, h.cell x4, h.cell x5, h.cell x6, h.cell x7⟩)
  refine wp_region_noPanic ?_
  refine wp_region_held_drew (S := fun Xw => Xw.cell? ⟨w.heap.size, 0, none⟩ = some (.slice (some ⟨bs, os, none⟩) t.s.length c) ∧ Xw.cell? ⟨w.heap.size, 1, none⟩ = some (.slice C t.c.length d) ∧ Xw.cell? ⟨w.heap.size + 1, 0, none⟩ = some (.slice S' b.s.length c') ∧ Xw.cell? ⟨w.heap.size + 1, 1, none⟩ = some (.slice C' b.c.length d') ∧ Xw.cell? ⟨w.heap.size + 2, 0, none⟩ = some (.slice S2 x.s.length c2) ∧ Xw.cell? ⟨w.heap.size + 2, 1, none⟩ = some (.slice C2 x.c.length d2) ∧ Xw.cell? ⟨bs, os, none⟩ = some (.int .i64 (Ly.at_ t.s 0)) ∧ Xw.cell? ⟨bs, os + 1, none⟩ = some (.int .i64 (Ly.at_ t.s 1))) (by kernel_rfl) (KF.out _ Later.au) (fun hHeld => ?_)
  refine tk 0 ?_
  refine rd 1 fun K hK => ?_
  simp only [ga, gs, gz]
  go_simp
  go_at_call 101; (with_reducible refine (Hd1.out _ (Later.au : Later w2 _)).mono ?_); rintro e wa ⟨rfl, hba⟩
  try go_wp2_with fail
  refine hK.out _ _ (KF.out _ Later.au) (fun hHeld => ?_)
  clear hK K
  try simp only [ga, gs, gz, Act.put, sa, sz, ss]
  refine tk 2 ?_
  refine tk 3 ?_
  refine rd 4 fun K hK => ?_
  simp only [ga, gs, gz]
  go_simp
  go_at_call 43; (with_reducible refine (Hd2.out _ (Later.au : Later w2 _)).mono ?_); rintro e wb ⟨rfl, hbb⟩
  try go_wp2_with fail
  refine hK.out _ _ (KF.out _ Later.au) (fun hHeld => ?_)
  clear hK K
  try simp only [ga, gs, gz, Act.put, sa, sz, ss]
  refine tk 5 ?_
  refine tk 6 ?_
  refine tk 7 ?_
  refine rd 8 fun K hK => ?_
  simp only [ga, gs, gz]
  go_simp
  go_at_call 43; (with_reducible refine (Hd3.out _ (Later.au : Later w2 _)).mono ?_); rintro e wc ⟨rfl, hbc⟩
  try go_wp2_with fail
  refine hK.out _ _ (KF.out _ Later.au) (fun hHeld => ?_)
  clear hK K
  try simp only [ga, gs, gz, Act.put, sa, sz, ss]
  refine tk 9 ?_
  refine tk 10 ?_
  refine tk 11 ?_
  refine tk 12 ?_
  refine tk 13 ?_
  refine tk 14 ?_
  refine tk 15 ?_
  refine tk 16 ?_
  refine rd 17 fun K hK => ?_
  simp only [ga, gs, gz]
  go_simp
  refine hK.out _ _ (KF.out _ Later.au) (fun hHeld => ?_)
  clear hK K
  try simp only [ga, gs, gz, Act.put, sa, sz, ss]
  refine rd 18 fun K hK => ?_
  simp only [ga, gs, gz]
  go_simp
  go_at_call 12; (with_reducible refine (Hd4.out _ _ (Blk.new wc 3 #[.int .i64 (Ly.at_ t.s 0)]) (Later.au : Later w2 _)).mono ?_); rintro e we ⟨rfl, qd, rfl⟩
  try go_wp2_with fail
  refine hK.out _ _ (KF.out _ Later.au) (fun hHeld => ?_)
  clear hK K
  try simp only [ga, gs, gz, Act.put, sa, sz, ss]
  refine tk 19 ?_
  refine tk 20 ?_
  refine tk 21 ?_
  refine tk 22 ?_
  refine tk 23 ?_
  refine tk 24 ?_
  refine tk 25 ?_
  refine tk 26 ?_
  refine tk 27 ?_
  refine tk 28 ?_
  refine tk 29 ?_
  refine tk 30 ?_
  clear KF
  refine wpAnyH_done (by kernel_rfl) ?_ _
  refine NoPanic.normal ?_
  have hle := H02.out.trans (Later.au : Later w2 ((wc.alloc (.cells #[.int .i64 (Ly.at_ t.s 0)] 3)).drewN qd))
  have Hle := Lib.hid hle
  clear hle
  go_wp2_with fail
  go_ret
  exact ⟨by rw [HE.out]; rfl, Hle.out⟩
end Go.Proofs.YtbnnpkcfifejmabGreat

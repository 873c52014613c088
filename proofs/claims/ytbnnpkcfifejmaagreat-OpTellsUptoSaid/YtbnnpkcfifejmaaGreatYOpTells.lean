/- The statement Rows.OpTellsUptoSaid is proved: for every input the law 'athanorlaw10.OpTells' returns true, and each argument reads afterwards as it read before. Conditions: those of the row, no others. -/
import Derived.Below
import Derived.ChangeOld
import Derived.JoinedCond
import Derived.OpenShut
import Derived.ProofKit
import Derived.ShutString
import Derived.WalkKit
import Derived.Test.YtbnnpkcfifejmaaGreatRows
import Derived.Test.YtbnnpkcfifejmaaGreatZ13
set_option linter.unusedVariables false
namespace Go.Proofs.YtbnnpkcfifejmaaGreat
open Go.RowKit
def TlCut (K : Ly.Bk × Int) (w6 : World) (a b c : Value) (wx : World) : Prop :=
 ∃ A na ka B nb kb, a = .slice A na ka ∧ b = .slice B nb kb ∧ c = .int .i64 K.2 ∧ (K.2 = 0 → na = K.1.p.length ∧ nb = K.1.x.length ∧ Tns wx A K.1.p ∧ Tns wx B K.1.x ∧ K.1.p.length ≤ 1048576 ∧ K.1.x.length ≤ 1048576) ∧ Later w6 wx
theorem if_2 {α : Type} (a b : α) (r : Int) : ((if r = 0 then (a, 0) else (b, r)) : α × Int).2 = r := by split <;> simp_all
theorem bsing_2 (R : Ten × Int) : (Ly.bsingle R).2 = R.2 := if_2 _ _ _
theorem own_zero {w : World} {B g : Nat} {e : TypeId} {size : Nat} (h : w.heap[g]? = some (.cells #[] e (0, 0))) (hB : B ≤ g) : w.ownsRow B e size (.slice (some ⟨g, 0, none⟩) 0 0) 0 [] :=
 ⟨by simp, .inr ⟨g, 0, #[], rfl, hB, h, by omega, by unfold maxLen; omega, by simp, by simp⟩⟩
theorem bt_same {o : OpD} {p x : List Ten} {g : Ten} (h : o.kind = 9 ∨ o.kind = 15) (h0 : (Ly.layBack o p x g).2 = 0) : ((Ly.layBack o p x g).1.p ++ (Ly.layBack o p x g).1.x).length ≤ 2 ∧ ∀ t ∈ (Ly.layBack o p x g).1.p ++ (Ly.layBack o p x g).1.x, t.c = g.c := by
 rcases h with h | h
 ·rw [Ly.layBack9 h] at h0 ⊢
  unfold Ly.bbias at h0 ⊢
  split at h0
  ·rename_i h1
   rw [if_pos h1]
   split at h0
   ·rename_i h2
    rw [if_pos h2]
    simp
   ·cases h0
  ·rename_i h1; exact absurd h0 h1
 ·rw [Ly.layBack15 h] at h0 ⊢
  unfold Ly.bturn at h0 ⊢
  split at h0
  ·rename_i h1
   rw [if_pos h1]
   split at h0
   ·rename_i h2
    rw [if_pos h2]
    unfold Ly.bsingle at h0 ⊢
    split at h0
    ·rename_i h3
     rw [if_pos h3]
     unfold Ly.turnBack Ly.of_ at h3 ⊢
     repeat' split
     all_goals simp_all
    ·rename_i h3; exact absurd h0 h3
   ·cases h0
  ·rename_i h1; exact absurd h0 h1
theorem GoL.u {r : List Ten × Int} {w w' : World} {e : Ending} (h : GoL r w e w') : ∃ A n, e = .returned (.tuple #[.slice A n n, .int .i64 r.2]) ∧ (r.2 ≠ 0 → A = none ∧ n = 0) ∧ (r.2 = 0 → n = r.1.length ∧ Tns w' A r.1) ∧ Below w.heap.size w w' := by
 obtain ⟨⟨h1, rfl⟩ | ⟨h1, A, rfl, hA⟩, h2⟩ := h
 ·exact ⟨none, 0, rfl, fun _ => ⟨rfl, rfl⟩, fun h => absurd h h1, h2⟩
 ·exact ⟨A, _, by rw [h1], fun h => absurd h1 h, fun _ => ⟨rfl, hA.tns⟩, h2⟩
theorem bsev_2 (R : List Ten × Int) : (Ly.bseveral R).2 = R.2 := by unfold Ly.bseveral; split <;> simp_all
theorem bsev_1 {R : List Ten × Int} (h : R.2 = 0) : Ly.bseveral R = (⟨[], R.1⟩, 0) := by unfold Ly.bseveral; rw [if_pos h]
theorem jbl_len (sd : Int) (g : Ten) : ∀ (l : List Ten) (f : Int), (Ly.joinBackL sd g f l).1.length ≤ l.length
 | [], _ => by simp [Ly.joinBackL]
 | t :: r, f => by
  have := jbl_len sd g r (f + Ly.at_ t.s sd.toNat)
  unfold Ly.joinBackL
  repeat' split
  all_goals simp
  all_goals omega
theorem jb_lens {sd : Int} {g : Ten} {x : List Ten} (h : x.length ≤ 1048576) : (Ly.bseveral (Ly.joinBack sd g x)).1.p.length ≤ 1048576 ∧ (Ly.bseveral (Ly.joinBack sd g x)).1.x.length ≤ 1048576 := by
 have := jbl_len sd g x 0
 unfold Ly.bseveral Ly.joinBack Ly.bnone
 repeat' split
 all_goals simp
 all_goals omega
set_option maxHeartbeats 16000000 in
set_option maxRecDepth 100000 in
theorem walkOpTells (w : World) (S : Option Addr) (c : Nat) (o : OpD) (P : Option Addr) (cp : Nat) (p : List Ten) (X : Option Addr) (cx : Nat) (x : List Ten) (GS GC : Option Addr) (gc gd : Nat) (g : Ten) (hI : Ints .i64 w S o.s) (lo : o.s.length ≤ 1048576) (hw : o.wide)
  (hP : Tns w P p) (lp : p.length ≤ cp) (np : p.length ≤ 1048576) (hX : Tns w X x) (lx : x.length ≤ cx) (mx : cx ≤ 9223372036854775807) (nx : x.length ≤ 1048576) (hG : TenIn w GS GC gc gd g) :
  Calls Tryz.prog 3 #[.agg (case_arr o S P X GS GC c cp cx gc gd p x g)] w fun e w' => e = .returned (.bool true) ∧ Below w.heap.size w w' := by
 have hk := Blk.new w 32 (case_arr o S P X GS GC c cp cx gc gd p x g)
 have h0 : Later w (w.alloc (.cells (case_arr o S P X GS GC c cp cx gc gd p x g) 32)) := (Later.refl w).alloc _
 have hk0 : Fx.In o.k := hw o.k (by simp)
 have Hk := Lib.hid hk
 have H0 := Lib.hid h0
 have HI := Lib.hid hI
 have HP := Lib.hid hP
 have HX := Lib.hid hX
 have HG := Lib.hid hG
 have Hw := Lib.hid hw
 have Hk0 := Lib.hid hk0
 clear hk h0 hI hP hX hG hw hk0
 go_enter Tryz.func3, Tryz.ntmps3
 go_upto_region 1 with fail
 generalize w.alloc (.cells (case_arr o S P X GS GC c cp cx gc gd p x g) 32) = w1 at *
 obtain ⟨y0, y1, y2, y3, y4, y5, y6, y7, y8, y9, y10, y11⟩ := case_cells12 Hk.out
 go_wp2_with fail
 refine (law10_small o S P X GS GC c cp cx gc gd p x g w1 (HP.out.later H0.out) (HX.out.later H0.out) np nx (HG.out.later H0.out)).mono ?_
 rintro e w2 ⟨⟨b, rfl⟩, hb2⟩
 have h02 := H0.out.call hb2
 have hk2 := (show Later w1 w2 from hb2).blk Hk.out
 clear hb2 y0 y1 y2 y3 y4 y5 y6 y7 y8 y9 y10 y11
 cases b
 ·have H02 := Lib.hid h02
  have Hk2 := Lib.hid hk2
  clear h02 hk2
  go_wp2_with fail
  refine (awake10 _).mono ?_
  rintro e w3 ⟨rfl, hb3⟩
  go_wp2_with fail
  go_ret
  exact ⟨rfl, H02.out.call hb3⟩
 obtain ⟨y0, y1, y2, y3, y4, y5, y6, y7, y8, y9, y10, y11⟩ := case_cells12 hk2
 have H02 := Lib.hid h02
 have Hk2 := Lib.hid hk2
 clear h02 hk2
 go_wp2_with fail
 refine (law10_counted o S P X GS GC c cp cx gc gd p x g w2 lo).mono ?_
 rintro e w3 ⟨rfl, hb3⟩
 have h23 : Later w2 w3 := hb3
 have h03 := H02.out.trans h23
 have hk3 := h23.blk Hk2.out
 clear hb3 y0 y1 y2 y3 y4 y5 y6 y7 y8 y9 y10 y11
 by_cases hc : Od.counts o p.length x.length = 0
 case neg =>
  have q0 : (Od.counts o p.length x.length != 0) = true := by simpa using hc
  clear hc
  generalize Od.counts o p.length x.length = mv at *
  have H23 := Lib.hid h23
  have H03 := Lib.hid h03
  have Hk3 := Lib.hid hk3
  clear h23 h03 hk3
  go_wp2_with fail
  refine (awake10 _).mono ?_
  rintro e w4 ⟨rfl, hb4⟩
  go_wp2_with fail
  go_ret
  exact ⟨rfl, H03.out.call hb4⟩
 obtain ⟨y0, y1, y2, y3, y4, y5, y6, y7, y8, y9, y10, y11⟩ := case_cells12 hk3
 have hgo := op_back o S P X GS GC c cp cx gc gd p x g w3 lo (HI.out.below h03 (Nat.le_refl _)) Hk0.out (HP.out.later h03) (HX.out.later h03) nx lx mx (HG.out.later h03) hc
 rw [Ly.back_lay hc] at hgo
 have HC := Lib.hid hc
 rw [hc]
 clear hc
 obtain ⟨K, hK⟩ : ∃ K, Ly.layBack o p x g = K := ⟨_, rfl⟩
 rw [hK] at hgo
 have H23 := Lib.hid h23
 have H03 := Lib.hid h03
 have Hk3 := Lib.hid hk3
 have Hgo := Lib.hid hgo
 have HK := Lib.hid hK
 clear h23 h03 hk3 hgo hK
 go_wp2_with fail
 refine (Hgo.out).mono ?_
 intro e w4 hgb
 obtain ⟨A4, na, B4, nb, rfl, j1, j2, hb4⟩ := hgb.u (Below.refl _ w3)
 have h34 : Later w3 w4 := hb4
 clear hgb hb4
 have h45 : Later w4 (w4.alloc (.cells #[.slice A4 na na, .slice B4 nb nb] 38)) := (Later.refl w4).alloc _
 have hkb := Blk.new w4 38 #[.slice A4 na na, .slice B4 nb nb]
 have h35 := h34.trans h45
 have h05 := H03.out.trans h35
 have hk5 := h35.blk Hk3.out
 have hj5 : K.2 = 0 → na = K.1.p.length ∧ nb = K.1.x.length ∧ Tns (w4.alloc (.cells #[.slice A4 na na, .slice B4 nb nb] 38)) A4 K.1.p ∧ Tns (w4.alloc (.cells #[.slice A4 na na, .slice B4 nb nb] 38)) B4 K.1.x := fun h => by
  obtain ⟨e1, e2, t1, t2, -⟩ := j2 h
  exact ⟨e1, e2, t1.tns.later h45, t2.tns.later h45⟩
 clear j1 j2 y0 y1 y2 y3 y4 y5 y6 y7 y8 y9 y10 y11
 have H34 := Lib.hid h34
 have H45 := Lib.hid h45
 have Hkb := Lib.hid hkb
 have H35 := Lib.hid h35
 have H05 := Lib.hid h05
 have Hk5 := Lib.hid hk5
 have Hj5 := Lib.hid hj5
 clear h34 h45 hkb h35 h05 hk5 hj5
 go_upto_region 4 with fail
 generalize w4.alloc (.cells #[.slice A4 na na, .slice B4 nb nb] 38) = w5 at *
 generalize w4.heap.size = bb at *
 obtain ⟨y0, y1, y2, y3, y4, y5, y6, y7, y8, y9, y10, y11⟩ := case_cells12 Hk5.out
 have h56 : Later w5 (w5.alloc (.cells #[.int .i64 o.kind, .int .i64 o.k, .int .i64 o.width, .int .i64 o.step, .int .i64 o.side, .int .i64 o.frm, .int .i64 o.to, .slice S o.s.length c] 26)) := (Later.refl w5).alloc _
 have hko := Blk.new w5 26 #[.int .i64 o.kind, .int .i64 o.k, .int .i64 o.width, .int .i64 o.step, .int .i64 o.side, .int .i64 o.frm, .int .i64 o.to, .slice S o.s.length c]
 have h06 := H05.out.trans h56
 have hk6 := h56.blk Hk5.out
 have hb6 := h56.blk Hkb.out
 have hj6 : K.2 = 0 → na = K.1.p.length ∧ nb = K.1.x.length ∧ Tns (w5.alloc (.cells #[.int .i64 o.kind, .int .i64 o.k, .int .i64 o.width, .int .i64 o.step, .int .i64 o.side, .int .i64 o.frm, .int .i64 o.to, .slice S o.s.length c] 26)) A4 K.1.p ∧ Tns (w5.alloc (.cells #[.int .i64 o.kind, .int .i64 o.k, .int .i64 o.width, .int .i64 o.step, .int .i64 o.side, .int .i64 o.frm, .int .i64 o.to, .slice S o.s.length c] 26)) B4 K.1.x := fun h => by
  obtain ⟨e1, e2, t1, t2⟩ := Hj5.out h
  exact ⟨e1, e2, t1.later h56, t2.later h56⟩
 clear Hkb Hk5 Hj5 H05 H35
 have H56 := Lib.hid h56
 have Hko := Lib.hid hko
 have H06 := Lib.hid h06
 have Hk6 := Lib.hid hk6
 have Hb6 := Lib.hid hb6
 have Hj6 := Lib.hid hj6
 clear h56 hko h06 hk6 hb6 hj6
 go_upto_region 7 with fail
 generalize w5.alloc (.cells #[.int .i64 o.kind, .int .i64 o.k, .int .i64 o.width, .int .i64 o.step, .int .i64 o.side, .int .i64 o.frm, .int .i64 o.to, .slice S o.s.length c] 26) = w6 at *
 generalize w5.heap.size = ob at *
 clear y0 y1 y2 y3 y4 y5 y6 y7 y8 y9 y10 y11 H56 H45 H34
 have x0 : w6.cell? ⟨ob, 0, none⟩ = some (.int .i64 o.kind) := by rw [Hko.out.cell]; rfl
 have x1 : w6.cell? ⟨ob, 1, none⟩ = some (.int .i64 o.k) := by rw [Hko.out.cell]; rfl
 have hkr := Od.right_kind (Ly.counts_ok HC.out).1
 have hcases : o.kind ≤ 7 ∨ o.kind = 8 ∨ o.kind = 9 ∨ o.kind = 10 ∨ o.kind = 11 ∨ o.kind = 12 ∨ o.kind = 13 ∨ o.kind = 14 ∨ o.kind = 15 := by omega
 have Hcases := Lib.hid hcases
 clear hcases
 go_upto_block 0 with fail
 go_cut [6, 7, 8] (TlCut K w6)
 case first =>
  rcases Hcases.out with hk | hk | hk | hk | hk | hk | hk | hk | hk
  ·as_aux_lemma =>
    have hK7 := (Ly.layBack7 (p := p) (x := x) (g := g) hk).symm.trans HK.out
    have hxn : x.length = 1 ∨ x.length = 2 := by
     have hun := Ly.counts_ok HC.out
     have h1 := hun.2.1
     have h2 := hun.2.2.1
     unfold Od.least Od.ptIns at h1
     unfold Od.most Od.ptIns at h2
     rw [if_pos hun.1, if_pos hk] at h1 h2
     split at h1
     ·rename_i hh; rw [if_pos hh] at h2; omega
     ·rename_i hh
      rw [if_neg hh] at h2
      split at h1
      ·rename_i h3; rw [if_pos h3] at h2; omega
      ·omega
    have hcall := point_back o.kind o.k X GS GC cx gc gd g x w6 hxn (HX.out.later H06.out) (HG.out.later H06.out) Hk0.out
    have k8 : (o.kind == 8) = false := by rw [beq_eq_false_iff_ne]; omega
    have k9 : (o.kind == 9) = false := by rw [beq_eq_false_iff_ne]; omega
    have k10 : (o.kind == 10) = false := by rw [beq_eq_false_iff_ne]; omega
    have k11 : (o.kind == 11) = false := by rw [beq_eq_false_iff_ne]; omega
    have k12 : (o.kind == 12) = false := by rw [beq_eq_false_iff_ne]; omega
    have k13 : (o.kind == 13) = false := by rw [beq_eq_false_iff_ne]; omega
    have k14 : (o.kind == 14) = false := by rw [beq_eq_false_iff_ne]; omega
    have k15 : (o.kind == 15) = false := by rw [beq_eq_false_iff_ne]; omega
    obtain ⟨y0, y1, y2, y3, y4, y5, y6, y7, y8, y9, y10, y11⟩ := case_cells12 Hk6.out
    clear hk hkr hxn y0 y1 y2 y3 y4 y5 y6 y7 y8
    have HK7 := Lib.hid hK7
    have Hcall := Lib.hid hcall
    clear hK7 hcall
    go_wp2_with fail
    refine (Hcall.out).mono ?_
    intro e w7 hgl
    obtain ⟨A7, n7, rfl, m1, m2, hb7⟩ := hgl.u
    have h67 : Later w6 w7 := hb7
    have hk2 : (Ly.pointBack o.kind o.k g x).2 = K.2 := by rw [← HK7.out]; exact (bsev_2 _).symm
    have hLn : K.1.p.length ≤ 1048576 ∧ K.1.x.length ≤ 1048576 := by
     rw [← HK7.out]
     unfold Ly.bseveral Ly.pointBack Ly.bnone
     repeat' split
     all_goals simp
    have hn7 : K.2 = 0 → 0 = K.1.p.length ∧ n7 = K.1.x.length ∧ Tns w7 none K.1.p ∧ Tns w7 A7 K.1.x ∧ K.1.p.length ≤ 1048576 ∧ K.1.x.length ≤ 1048576 := fun h => by
     refine (fun q => ⟨q.1, q.2.1, q.2.2.1, q.2.2.2, hLn⟩) (?_ : 0 = K.1.p.length ∧ n7 = K.1.x.length ∧ Tns w7 none K.1.p ∧ Tns w7 A7 K.1.x)
     rw [← hk2] at h
     obtain ⟨e1, e2⟩ := m2 h
     rw [← HK7.out, bsev_1 h]
     exact ⟨rfl, e1, Tns.nil _ _, e2⟩
    rw [hk2]
    clear hgl m1 m2 hb7 hk2 hLn k8 k9 k10 k11 k12 k13 k14 k15 x0 x1 y9 y10 y11 Hcall
    have H67 := Lib.hid h67
    have Hn7 := Lib.hid hn7
    clear h67 hn7
    go_wp2_with fail
    go_meet
    exact ⟨none, 0, 0, A7, n7, n7, rfl, rfl, rfl, Hn7.out, H67.out⟩
  ·as_aux_lemma =>
    have hE := (Ly.layBack8 (p := p) (x := x) (g := g) hk).symm.trans HK.out
    have hun := Ly.counts_ok HC.out
    unfold Od.least Od.most Od.params at hun
    have hxl : x.length = 1 := by have := hun.1; have h1 := hun.2.1; have h2 := hun.2.2.1; rw [if_pos this] at h1 h2; simp [hk] at h1 h2; omega
    have hpl : p.length = 2 := by have := hun.1; have h3 := hun.2.2.2; rw [if_pos this] at h3; simp [hk] at h3; omega
    obtain ⟨bp, po, S0, c0, C0, d0, rfl, lbp, p00, p01, hT0⟩ := HP.out.at_ (j := 0) (by omega)
    obtain ⟨bp2, po2, S1, c1, C1, d1, ep, -, p10, p11, hT1⟩ := HP.out.at_ (j := 1) (by omega)
    injection ep with ep; injection ep with ep1 ep2; subst ep1 ep2
    obtain ⟨bx, xo, S2, c2, C2, d2, rfl, lbx, x00, x01, hT2⟩ := HX.out.at_ (j := 0) (by omega)
    have hcall := fun (W : World) (h : Later w6 W) => (dense_back S0 C0 S1 C1 S2 C2 GS GC c0 d0 c1 d1 c2 d2 gc gd (Ly.got p 0) (Ly.got p 1) (Ly.got x 0) g W (hT0.later (H06.out.trans h)) (hT1.later (H06.out.trans h)) (hT2.later (H06.out.trans h)) (HG.out.later (H06.out.trans h))).mono (fun e w' q => q.u Ly.denseBack_none)
    obtain ⟨R, hR⟩ : ∃ R, Ly.denseBack (Ly.got p 0) (Ly.got p 1) (Ly.got x 0) g = R := ⟨_, rfl⟩
    rw [hR] at hE
    have hcall2 : ∀ W, Later w6 W → Calls Tryz.prog 12 _ W (GoDU R W) := hR ▸ hcall
    have x0' : w6.cell? ⟨ob, 0, none⟩ = some (.int .i64 8) := by rw [x0, hk]
    have k8 : (o.kind == 8) = true := by rw [hk]; rfl
    have k9 : (o.kind == 9) = false := by rw [hk]; rfl
    have k10 : (o.kind == 10) = false := by rw [hk]; rfl
    have k11 : (o.kind == 11) = false := by rw [hk]; rfl
    have k12 : (o.kind == 12) = false := by rw [hk]; rfl
    have k13 : (o.kind == 13) = false := by rw [hk]; rfl
    have k14 : (o.kind == 14) = false := by rw [hk]; rfl
    have k15 : (o.kind == 15) = false := by rw [hk]; rfl
    obtain ⟨y0, y1, y2, y3, y4, y5, y6, y7, y8, y9, y10, y11⟩ := case_cells12 Hk6.out
    have q1 : w6.cell? ⟨bp, po, none⟩ = some (.slice S0 (Ly.got p 0).s.length c0) := H06.out.cell (by simpa using p00)
    have q2 : w6.cell? ⟨bp, po + 1, none⟩ = some (.slice C0 (Ly.got p 0).c.length d0) := H06.out.cell (by simpa using p01)
    have q3 : w6.cell? ⟨bp, po + 2, none⟩ = some (.slice S1 (Ly.got p 1).s.length c1) := H06.out.cell (by simpa using p10)
    have q4 : w6.cell? ⟨bp, po + 2 + 1, none⟩ = some (.slice C1 (Ly.got p 1).c.length d1) := H06.out.cell (by simpa using p11)
    have q5 : w6.cell? ⟨bx, xo, none⟩ = some (.slice S2 (Ly.got x 0).s.length c2) := H06.out.cell (by simpa using x00)
    have q6 : w6.cell? ⟨bx, xo + 1, none⟩ = some (.slice C2 (Ly.got x 0).c.length d2) := H06.out.cell (by simpa using x01)
    rw [hxl] at y9
    rw [hpl] at y8
    have hs06 := H06.out.size
    have hbp6 : bp < w6.heap.size := by first | exact Nat.lt_of_lt_of_le lbp hs06 | omega
    have hbx6 : bx < w6.heap.size := by first | exact Nat.lt_of_lt_of_le lbx hs06 | omega
    have hw6 : w.heap.size < w6.heap.size := Hk6.out.lt
    have hob6 : ob < w6.heap.size := Hko.out.lt
    clear hk hkr hun hxl hpl hR hcall x0 x1 p00 p01 hT0 p10 p11 hT1 x00 x01 hT2 y0 y1 y2 y3 y4 y5 y6 y7
    have Hcall2 := Lib.hid hcall2
    have HE := Lib.hid hE
    clear hcall2 hE
    go_upto_region 10 with fail
    clear x0'
    clear k8 k9 k10 k11 k12 k13 k14 k15
    go_cut [9, 10] (OpCut8 w w6 R)
    case first =>
     go_wp2_with fail
     have KF := Lib.hid (show ∀ Xw, Later w6 Xw → Xw.cell? ⟨w.heap.size, 8, none⟩ = some (.slice (some ⟨bp, po, none⟩) 2 cp) ∧ Xw.cell? ⟨w.heap.size, 9, none⟩ = some (.slice (some ⟨bx, xo, none⟩) 1 cx) ∧ Xw.cell? ⟨w.heap.size, 10, none⟩ = some (.slice GS g.s.length gc) ∧ Xw.cell? ⟨w.heap.size, 11, none⟩ = some (.slice GC g.c.length gd) ∧ Xw.cell? ⟨bp, po, none⟩ = some (.slice S0 (Ly.got p 0).s.length c0) ∧ Xw.cell? ⟨bp, po + 1, none⟩ = some (.slice C0 (Ly.got p 0).c.length d0) ∧ Xw.cell? ⟨bp, po + 2, none⟩ = some (.slice S1 (Ly.got p 1).s.length c1) ∧ Xw.cell? ⟨bp, po + 2 + 1, none⟩ = some (.slice C1 (Ly.got p 1).c.length d1) ∧ Xw.cell? ⟨bx, xo, none⟩ = some (.slice S2 (Ly.got x 0).s.length c2) ∧ Xw.cell? ⟨bx, xo + 1, none⟩ = some (.slice C2 (Ly.got x 0).c.length d2) from fun Xw h => ⟨h.cell y8, h.cell y9, h.cell y10, h.cell y11, h.cell q1, h.cell q2, h.cell q3, h.cell q4, h.cell q5, h.cell q6⟩)
     refine wp_region_noPanic ?_
     refine wp_region_held_drew (S := fun Xw => Xw.cell? ⟨w.heap.size, 8, none⟩ = some (.slice (some ⟨bp, po, none⟩) 2 cp) ∧ Xw.cell? ⟨w.heap.size, 9, none⟩ = some (.slice (some ⟨bx, xo, none⟩) 1 cx) ∧ Xw.cell? ⟨w.heap.size, 10, none⟩ = some (.slice GS g.s.length gc) ∧ Xw.cell? ⟨w.heap.size, 11, none⟩ = some (.slice GC g.c.length gd) ∧ Xw.cell? ⟨bp, po, none⟩ = some (.slice S0 (Ly.got p 0).s.length c0) ∧ Xw.cell? ⟨bp, po + 1, none⟩ = some (.slice C0 (Ly.got p 0).c.length d0) ∧ Xw.cell? ⟨bp, po + 2, none⟩ = some (.slice S1 (Ly.got p 1).s.length c1) ∧ Xw.cell? ⟨bp, po + 2 + 1, none⟩ = some (.slice C1 (Ly.got p 1).c.length d1) ∧ Xw.cell? ⟨bx, xo, none⟩ = some (.slice S2 (Ly.got x 0).s.length c2) ∧ Xw.cell? ⟨bx, xo + 1, none⟩ = some (.slice C2 (Ly.got x 0).c.length d2)) (by kernel_rfl) (KF.out _ Later.au) (fun hHeld => ?_)
     refine tk 0 ?_
     refine tk 1 ?_
     refine tk 2 ?_
     refine tk 3 ?_
     refine tk 4 ?_
     refine tk 5 ?_
     refine tk 6 ?_
     refine tk 7 ?_
     refine tk 8 ?_
     refine tk 9 ?_
     refine tk 10 ?_
     refine tk 11 ?_
     refine tk 12 ?_
     refine tk 13 ?_
     refine wpAnyH_ready (rs := [14, 18]) (by kernel_rfl) (by simp) ?_
     refine AllReadyH.cons (o := _) rfl (fun K hK => ?_) (AllReadyH.cons (o := _) rfl (fun K hK => ?_) (AllReadyH.nil))
     ·simp only [ga, gs, gz]
      go_simp
      go_at_call 12
      (with_reducible refine (Hcall2.out _ (Later.au : Later w6 _)).mono ?_)
      rintro e wf ⟨U0, e0, V0, f0, U1, e1, V1, f1, U2, e2, V2, f2, rfl, hof, hbf⟩
      have Hof := Lib.hid hof
      clear hof
      try go_wp2_with fail
      refine hK.out _ _ (KF.out _ Later.au) (fun hHeld => ?_)
      clear hK K
      try simp only [ga, gs, gz, Act.put, sa, sz, ss]
      refine tk 15 ?_
      refine tk 16 ?_
      refine tk 17 ?_
      refine rd 18 fun K hK => ?_
      simp only [ga, gs, gz]
      go_simp
      refine hK.out _ _ (KF.out _ Later.au) (fun hHeld => ?_)
      clear hK K
      try simp only [ga, gs, gz, Act.put, sa, sz, ss]
      refine rd 19 fun K hK => ?_
      simp only [ga, gs, gz]
      go_simp
      refine hK.out _ _ ?_ (fun hHeld => ?_)
      ·(try dsimp only); (refine ⟨?_, ?_, ?_, ?_, ?_, ?_, ?_, ?_, ?_, ?_⟩ <;> (repeat (refine cell_setfar ?_ (by first | omega | (simp; done) | (simp; omega)))) <;> (refine Later.cell (Later.au : Later w6 _) ?_) <;> assumption)
      clear hK K
      try simp only [ga, gs, gz, Act.put, sa, sz, ss]
      refine tk 20 ?_
      clear KF
      refine wpAnyH_done (by kernel_rfl) ?_ _
      refine NoPanic.normal ?_
      go_wp2_with fail
      have hlg : Later w6 wf := (Later.au : Later w6 wf)
      have hls := hlg.size
      go_meet
      exact ⟨wf.heap.size, U0, e0, V0, f0, U1, e1, V1, f1, U2, e2, V2, f2, rfl, rfl, hls, Blk.new wf _ _, fun h => ⟨((Hof.out h).1.base (by first | omega | (simp; omega))).later ((Later.refl wf).alloc _), ((Hof.out h).2.1.base (by first | omega | (simp; omega))).later ((Later.refl wf).alloc _), ((Hof.out h).2.2.base (by first | omega | (simp; omega))).later ((Later.refl wf).alloc _)⟩, hlg.alloc _⟩
     ·simp only [ga, gs, gz]
      go_simp
      refine hK.out _ _ (KF.out _ Later.au) (fun hHeld => ?_)
      clear hK K
      try simp only [ga, gs, gz, Act.put, sa, sz, ss]
      refine rd 14 fun K hK => ?_
      simp only [ga, gs, gz]
      go_simp
      go_at_call 12
      (with_reducible refine (Hcall2.out _ (Later.au : Later w6 _)).mono ?_)
      rintro e wf ⟨U0, e0, V0, f0, U1, e1, V1, f1, U2, e2, V2, f2, rfl, hof, hbf⟩
      have Hof := Lib.hid hof
      clear hof
      have hbz := (show Later _ wf from hbf).blk ((Blk.new w6 42 #[.slice none 0 0, .slice none 0 0, .slice none 0 0, .slice none 0 0, .slice none 0 0, .slice none 0 0]).drew)
      obtain ⟨z0, z1, z2, z3, z4, z5, zf0, zf1, zf2, zf3, zf4, zf5⟩ := six_facts hbz
      have Hbz := Lib.hid hbz
      clear hbz
      try go_wp2_with fail
      refine hK.out _ _ (KF.out _ Later.au) (fun hHeld => ?_)
      clear hK K
      try simp only [ga, gs, gz, Act.put, sa, sz, ss]
      refine tk 15 ?_
      refine tk 16 ?_
      refine tk 17 ?_
      refine rd 19 fun K hK => ?_
      simp only [ga, gs, gz]
      go_simp
      refine hK.out _ _ ?_ (fun hHeld => ?_)
      ·(try dsimp only); (refine ⟨?_, ?_, ?_, ?_, ?_, ?_, ?_, ?_, ?_, ?_⟩ <;> (repeat (refine cell_setfar ?_ (by first | omega | (simp; done) | (simp; omega)))) <;> (refine Later.cell (Later.au : Later w6 _) ?_) <;> assumption)
      clear hK K
      try simp only [ga, gs, gz, Act.put, sa, sz, ss]
      refine tk 20 ?_
      clear KF
      refine wpAnyH_done (by kernel_rfl) ?_ _
      refine NoPanic.normal ?_
      go_wp2_with fail
      have hlg : Later w6 wf := (Later.au : Later w6 wf)
      go_meet
      exact ⟨w6.heap.size, U0, e0, V0, f0, U1, e1, V1, f1, U2, e2, V2, f2, rfl, rfl, Nat.le_refl _, six_blk Hbz.out, fun h => ⟨((Hof.out h).1.base (by first | omega | (simp; omega))).else_ (six_else _ _ _ _ _ _ _ _) (six_noint Hbz.out) (fun j => (six_blk Hbz.out).frozen j), ((Hof.out h).2.1.base (by first | omega | (simp; omega))).else_ (six_else _ _ _ _ _ _ _ _) (six_noint Hbz.out) (fun j => (six_blk Hbz.out).frozen j), ((Hof.out h).2.2.base (by first | omega | (simp; omega))).else_ (six_else _ _ _ _ _ _ _ _) (six_noint Hbz.out) (fun j => (six_blk Hbz.out).frozen j)⟩, six_later hlg (Nat.le_refl _) _ _ _ _ _ _⟩
    case rest =>
     obtain ⟨tb, U0, e0, V0, f0, U1, e1, V1, f1, U2, e2, V2, f2, rfl, rfl, htb, hbe, hof, hlc⟩ := hcut
     have hk2 : R.2 = K.2 := by rw [← HE.out]; exact (if_2 _ _ _).symm
     obtain ⟨g0, g1, g2, g3, g4, g5, -⟩ := six_facts hbe
     have hwc : w.heap.size ≤ wc.heap.size := Nat.le_trans hs06 hlc.size
     have hN : ∀ (W : World) (a b : Nat), Later wc W → Blk W a 30 #[.slice U0 R.1.1.s.length e0, .slice V0 R.1.1.c.length f0, .slice U1 R.1.2.1.s.length e1, .slice V1 R.1.2.1.c.length f1] → Blk W b 30 #[.slice U2 R.1.2.2.s.length e2, .slice V2 R.1.2.2.c.length f2] → wc.heap.size ≤ a → wc.heap.size ≤ b → (K.2 = 0 → 2 = K.1.p.length ∧ 1 = K.1.x.length ∧ Tns W (some ⟨a, 0, none⟩) K.1.p ∧ Tns W (some ⟨b, 0, none⟩) K.1.x ∧ K.1.p.length ≤ 1048576 ∧ K.1.x.length ≤ 1048576) := fun W a b hl9 hA hB ha hb h => by
      rw [← hk2] at h
      have hE2 := HE.out
      rw [if_pos h] at hE2
      rw [← hE2]
      obtain ⟨t0, t1, t2⟩ := hof h
      exact ⟨rfl, rfl, (TnsO.two hA (Nat.le_trans hwc ha) (t0.later hl9) (t1.later hl9)).tns, (TnsO.one hB (Nat.le_trans hwc hb) (t2.later hl9)).tns, by simp, by simp⟩
     rw [hk2]
     clear y8 y9 y10 y11 q1 q2 q3 q4 q5 q6 Hcall2 hof
     have Hbe := Lib.hid hbe
     have Hlc := Lib.hid hlc
     have HN := Lib.hid hN
     clear hbe hlc hN
     go_upto_region 11 with fail
     have KF := Lib.hid (show ∀ Xw, Later wc Xw → Xw.cell? ⟨tb, 0, none⟩ = some (.slice U0 R.1.1.s.length e0) ∧ Xw.cell? ⟨tb, 1, none⟩ = some (.slice V0 R.1.1.c.length f0) ∧ Xw.cell? ⟨tb, 2, none⟩ = some (.slice U1 R.1.2.1.s.length e1) ∧ Xw.cell? ⟨tb, 3, none⟩ = some (.slice V1 R.1.2.1.c.length f1) ∧ Xw.cell? ⟨tb, 4, none⟩ = some (.slice U2 R.1.2.2.s.length e2) ∧ Xw.cell? ⟨tb, 5, none⟩ = some (.slice V2 R.1.2.2.c.length f2) from fun Xw h => ⟨h.cell g0, h.cell g1, h.cell g2, h.cell g3, h.cell g4, h.cell g5⟩)
     refine wp_region_noPanic ?_
     refine wp_region_held_drew (S := fun Xw => Xw.cell? ⟨tb, 0, none⟩ = some (.slice U0 R.1.1.s.length e0) ∧ Xw.cell? ⟨tb, 1, none⟩ = some (.slice V0 R.1.1.c.length f0) ∧ Xw.cell? ⟨tb, 2, none⟩ = some (.slice U1 R.1.2.1.s.length e1) ∧ Xw.cell? ⟨tb, 3, none⟩ = some (.slice V1 R.1.2.1.c.length f1) ∧ Xw.cell? ⟨tb, 4, none⟩ = some (.slice U2 R.1.2.2.s.length e2) ∧ Xw.cell? ⟨tb, 5, none⟩ = some (.slice V2 R.1.2.2.c.length f2)) (by kernel_rfl) (KF.out _ Later.au) (fun hHeld => ?_)
     refine tk 0 ?_
     refine tk 1 ?_
     refine tk 2 ?_
     refine tk 3 ?_
     refine tk 5 ?_
     refine tk 6 ?_
     refine tk 8 ?_
     refine wpAnyH_ready (rs := [4, 7]) (by kernel_rfl) (by simp) ?_
     refine AllReadyH.cons (o := _) rfl (fun K hK => ?_) (AllReadyH.cons (o := _) rfl (fun K hK => ?_) (AllReadyH.nil))
     ·simp only [ga, gs, gz]
      go_simp
      refine hK.out _ _ (KF.out _ Later.au) (fun hHeld => ?_)
      clear hK K
      try simp only [ga, gs, gz, Act.put, sa, sz, ss]
      refine tk 9 ?_
      refine rd 7 fun K hK => ?_
      simp only [ga, gs, gz]
      go_simp
      refine hK.out _ _ (KF.out _ Later.au) (fun hHeld => ?_)
      clear hK K
      try simp only [ga, gs, gz, Act.put, sa, sz, ss]
      refine tk 10 ?_
      refine tk 11 ?_
      clear KF
      refine wpAnyH_done (by kernel_rfl) ?_ _
      refine NoPanic.normal ?_
      clear hHeld
      go_wp2_with fail
      have p0 := (Blk.new wc 30 #[.slice U0 R.1.1.s.length e0, .slice V0 R.1.1.c.length f0, .slice U1 R.1.2.1.s.length e1, .slice V1 R.1.2.1.c.length f1]).alloc (.cells #[.slice U2 R.1.2.2.s.length e2, .slice V2 R.1.2.2.c.length f2] 30)
      have p1 := Blk.new (wc.alloc (.cells #[.slice U0 R.1.1.s.length e0, .slice V0 R.1.1.c.length f0, .slice U1 R.1.2.1.s.length e1, .slice V1 R.1.2.1.c.length f1] 30)) 30 #[.slice U2 R.1.2.2.s.length e2, .slice V2 R.1.2.2.c.length f2]
      rw [World.size_alloc] at p1
      have h9 := (((Later.refl wc).alloc (.cells #[.slice U0 R.1.1.s.length e0, .slice V0 R.1.1.c.length f0, .slice U1 R.1.2.1.s.length e1, .slice V1 R.1.2.1.c.length f1] 30)).alloc (.cells #[.slice U2 R.1.2.2.s.length e2, .slice V2 R.1.2.2.c.length f2] 30)).drew
      go_meet
      exact ⟨_, 2, 2, _, 1, 1, rfl, rfl, rfl, HN.out _ _ _ h9 p0.drew p1.drew (Nat.le_refl _) (Nat.le_succ _), Hlc.out.trans h9⟩
     ·simp only [ga, gs, gz]
      go_simp
      refine hK.out _ _ (KF.out _ Later.au) (fun hHeld => ?_)
      clear hK K
      try simp only [ga, gs, gz, Act.put, sa, sz, ss]
      refine rd 4 fun K hK => ?_
      simp only [ga, gs, gz]
      go_simp
      refine hK.out _ _ (KF.out _ Later.au) (fun hHeld => ?_)
      clear hK K
      try simp only [ga, gs, gz, Act.put, sa, sz, ss]
      refine tk 9 ?_
      refine tk 10 ?_
      refine tk 11 ?_
      clear KF
      refine wpAnyH_done (by kernel_rfl) ?_ _
      refine NoPanic.normal ?_
      clear hHeld
      go_wp2_with fail
      have p0 := (Blk.new wc 30 #[.slice U2 R.1.2.2.s.length e2, .slice V2 R.1.2.2.c.length f2]).alloc (.cells #[.slice U0 R.1.1.s.length e0, .slice V0 R.1.1.c.length f0, .slice U1 R.1.2.1.s.length e1, .slice V1 R.1.2.1.c.length f1] 30)
      have p1 := Blk.new (wc.alloc (.cells #[.slice U2 R.1.2.2.s.length e2, .slice V2 R.1.2.2.c.length f2] 30)) 30 #[.slice U0 R.1.1.s.length e0, .slice V0 R.1.1.c.length f0, .slice U1 R.1.2.1.s.length e1, .slice V1 R.1.2.1.c.length f1]
      rw [World.size_alloc] at p1
      have h9 := (((Later.refl wc).alloc (.cells #[.slice U2 R.1.2.2.s.length e2, .slice V2 R.1.2.2.c.length f2] 30)).alloc (.cells #[.slice U0 R.1.1.s.length e0, .slice V0 R.1.1.c.length f0, .slice U1 R.1.2.1.s.length e1, .slice V1 R.1.2.1.c.length f1] 30)).drew
      go_meet
      exact ⟨_, 2, 2, _, 1, 1, rfl, rfl, rfl, HN.out _ _ _ h9 p1.drew p0.drew (Nat.le_succ _) (Nat.le_refl _), Hlc.out.trans h9⟩
  ·as_aux_lemma =>
    have x0' : w6.cell? ⟨ob, 0, none⟩ = some (.int .i64 9) := by rw [x0, hk]
    have hsm : K.2 = 0 → (K.1.p ++ K.1.x).length ≤ 2 ∧ ∀ t ∈ K.1.p ++ K.1.x, t.c = g.c := fun h => by
     rw [← HK.out] at h ⊢
     exact bt_same (o := o) (.inl hk) h
    have k8 : (o.kind == 8) = false := by rw [hk]; rfl
    have k9 : (o.kind == 9) = true := by rw [hk]; rfl
    have k10 : (o.kind == 10) = false := by rw [hk]; rfl
    have k11 : (o.kind == 11) = false := by rw [hk]; rfl
    have k12 : (o.kind == 12) = false := by rw [hk]; rfl
    have k13 : (o.kind == 13) = false := by rw [hk]; rfl
    have k14 : (o.kind == 14) = false := by rw [hk]; rfl
    have k15 : (o.kind == 15) = false := by rw [hk]; rfl
    clear hk hkr x0 x1
    by_cases hK0 : K.2 = 0
    case neg =>
     have d9 : (K.2 != 0) = true := by simpa using hK0
     clear hK0 hsm
     generalize K.2 = ke at *
     go_wp2_with fail
     refine (awake10 _).mono ?_
     rintro e w9 ⟨rfl, hb9⟩
     go_wp2_with fail
     go_ret
     exact ⟨rfl, H06.out.call hb9⟩
    have d9 : (K.2 != 0) = false := by simpa using hK0
    obtain ⟨e1, e2, t1, t2⟩ := Hj6.out hK0
    obtain ⟨hl2, hev⟩ := hsm hK0
    clear hK0 hsm
    subst e1 e2
    generalize K.2 = ke at *
    generalize K.1.p = kp at *
    generalize K.1.x = kx at *
    have hpx : kp.length + kx.length ≤ 2 := by simpa using hl2
    have b0 : w6.cell? ⟨bb, 0, none⟩ = some (.slice A4 kp.length kp.length) := by rw [Hb6.out.cell]; rfl
    have b1 : w6.cell? ⟨bb, 1, none⟩ = some (.slice B4 kx.length kx.length) := by rw [Hb6.out.cell]; rfl
    have hbb6 : bb < w6.heap.size := Hb6.out.lt
    have Ht1 := Lib.hid t1
    have Ht2 := Lib.hid t2
    have Hev := Lib.hid hev
    clear t1 t2 hev
    go_upto_region 28 with fail
    clear x0' d9 k8 k9 k10 k11 k12 k13 k14 k15
    have hown0 : ((w6.drew).alloc (.cells #[] 30)).ownsRow w6.heap.size 30 2 (.slice (some ⟨w6.heap.size, 0, none⟩) 0 0) 0 [] := own_zero (heap_alloc_new w6.drew _) (Nat.le_refl _)
    have hb4 : Below w6.heap.size w6 ((w6.drew).alloc (.cells #[] 30)) := ((Later.refl w6).drew).alloc _
    obtain ⟨i0, hi, hz0, hz1, hz2⟩ := info_parts tenT_info
    have Hown0 := Lib.hid hown0
    have Hb4 := Lib.hid hb4
    clear hown0 hb4
    have KF := Lib.hid (show ∀ Xw, Later w6 Xw → Xw.cell? ⟨bb, 0, none⟩ = some (.slice A4 kp.length kp.length) ∧ Xw.cell? ⟨bb, 1, none⟩ = some (.slice B4 kx.length kx.length) from fun Xw h => ⟨h.cell b0, h.cell b1⟩)
    refine wp_region_noPanic ?_
    refine wp_region_held_drew (S := fun Xw => Xw.cell? ⟨bb, 0, none⟩ = some (.slice A4 kp.length kp.length) ∧ Xw.cell? ⟨bb, 1, none⟩ = some (.slice B4 kx.length kx.length)) (by kernel_rfl) (KF.out _ Later.au) (fun hHeld => ?_)
    refine tk 1 ?_
    refine tk 2 ?_
    refine tk 4 ?_
    refine tk 5 ?_
    refine tk 8 ?_
    refine rd 0 fun K hK => ?_
    simp only [ga, gz]
    go_simp
    refine hK.out _ _ (KF.out _ Later.au) (fun hHeld => ?_)
    clear hK K
    try simp only [ga, gs, gz, Act.put, sa, sz, ss]
    refine rd 3 fun K hK => ?_
    refine step_append_tens (by rfl) _ _ 27 (by rfl) w6.heap.size 30 i0 Tryz.underlying27 hi hz0 hz1 hz2 w6.heap.size 0 0 _ [] (by rfl) Hown0.out w6 (RowT.nil _) A4 _ kp (by rfl) Ht1.out Hb4.out (Nat.le_refl _) (by simp) (by omega) ?_
    intro g1 c1 w7 vs1 hown1 hrow1 hb6 hbb7
    have hl6 : Later w6 w7 := Below.trans (((Later.refl w6).drew).alloc _) hbb7
    have b0 := hl6.cell b0
    have b1 := hl6.cell b1
    have HO1 := Lib.hid hown1
    have HR1 := Lib.hid hrow1
    have HB6 := Lib.hid hb6
    have HS6 := Lib.hid hl6.size
    have HL6 := Lib.hid hl6
    clear hown1 hrow1 hb6 hbb7 hl6
    refine hK.out _ _ (by first | exact ⟨b0, b1⟩ | exact KF.out _ Later.au) (fun hHeld => ?_)
    clear hK K
    try simp only [ga, gs, gz, Act.put, sa, sz, ss]
    refine rd 6 fun K hK => ?_
    refine step_append_tens (by rfl) _ _ 27 (by rfl) w6.heap.size 30 i0 Tryz.underlying27 hi hz0 hz1 hz2 g1 _ c1 vs1 _ (by rfl) HO1.out w6 HR1.out B4 _ kx (by rfl) Ht2.out HB6.out (Nat.le_refl _) HS6.out (by omega) ?_
    intro g2 c2 w7 vs2 hown2 hrow2 hb7 hbb7
    have hl7 : Later w6 w7 := Below.trans HL6.out hbb7
    refine hK.out _ _ (KF.out _ Later.au) (fun hHeld => ?_)
    clear hK K
    try simp only [ga, gs, gz, Act.put, sa, sz, ss]
    refine tk 7 ?_
    clear KF
    refine wpAnyH_done (by kernel_rfl) ?_ _
    refine NoPanic.normal ?_
    clear hHeld b0 b1
    have en : 0 + kp.length + kx.length = kp.length + kx.length := by omega
    have hT9 : Tns w7 (some ⟨g2, 0, none⟩) (kp ++ kx) := by
     obtain ⟨A9, c9, e9, -, hT9, -, -⟩ := RowT.tns hrow2 hown2 hb7
     injection e9 with e9 _ _
     rw [e9]
     exact hT9
    have h07 := H06.out.trans hl7
    have hk7 := hl7.blk Hk6.out
    clear hown2 hrow2 hb7 hbb7 hl7 HO1 HR1 HB6 HS6 HL6 hl2 Hj6 Hown0 Hb4 hi hz0 hz1 hz2
    have HT9 := Lib.hid hT9
    have H07 := Lib.hid h07
    have Hk7 := Lib.hid hk7
    clear hT9 h07 hk7
    rw [en, Nat.zero_add]
    clear en
    go_wp2_with fail
    go_loopw [181] (fun i wx => ∃ k : Nat, k ≤ kp.length + kx.length ∧ i = .int .i64 (k : Int) ∧ Later w7 wx) (fun i _ => kp.length + kx.length - (intOf i).toNat)
    case atStart => exact ⟨0, Nat.zero_le _, rfl, Later.refl _⟩
    case round =>
     obtain ⟨k, hk, rfl, hlw⟩ := hrel
     by_cases hlt : k < kp.length + kx.length
     ·have hlt2 : k < (kp ++ kx).length := by simpa using hlt
      obtain ⟨ba, oa, S9, c9, C9, d9, e9, -, z0, z1, ht⟩ := (HT9.out.later hlw).at_ hlt2
      injection e9 with e9
      injection e9 with e9 e10 _
      subst e9 e10
      rw [Nat.zero_add] at z0 z1
      have he : (Ly.got (kp ++ kx) k).c = g.c := Hev.out _ (by rw [got_at hlt2]; exact List.getElem_mem _)
      have hkr := hlw.blk Hk7.out
      have h0r := H07.out.trans hlw
      generalize Ly.got (kp ++ kx) k = t at *
      have kk : (k : Int) < (kp.length : Int) + (kx.length : Int) := by omega
      have hbx := Blk.new wr 30 #[.slice S9 t.s.length c9, .slice C9 t.c.length d9]
      have hla := (Later.refl wr).alloc (.cells #[.slice S9 t.s.length c9, .slice C9 t.c.length d9] 30)
      have hkb := hla.blk hkr
      have hcl := law10_cells S9 C9 GS GC c9 d9 gc gd t g (wr.alloc (.cells #[.slice S9 t.s.length c9, .slice C9 t.c.length d9] 30)) (ht.later hla) (HG.out.later (h0r.trans hla)) he
      have h0a := h0r.trans hla
      have h7a := hlw.trans hla
      clear he ht hlt2 hkr
      have Hlw := Lib.hid hlw
      have H0r := Lib.hid h0r
      have Hbx := Lib.hid hbx
      have Hla := Lib.hid hla
      have Hkb := Lib.hid hkb
      have Hcl := Lib.hid hcl
      have H0a := Lib.hid h0a
      have H7a := Lib.hid h7a
      clear hlw h0r hbx hla hkb hcl h0a h7a
      go_upto_region 31 with fail
      clear z0 z1
      obtain ⟨y0, y1, y2, y3, y4, y5, y6, y7, y8, y9, y10, y11⟩ := case_cells12 Hkb.out
      clear y0 y1 y2 y3 y4 y5 y6 y7 y8 y9
      generalize wr.alloc (.cells #[.slice S9 t.s.length c9, .slice C9 t.c.length d9] 30) = wa at *
      generalize wr.heap.size = bx at *
      have m0 := Hbx.out.cell 0
      have m1 := Hbx.out.cell 1
      simp at m0 m1
      go_wp2_with fail
      refine (Hcl.out).mono ?_
      rintro e wq ⟨rfl, hbq⟩
      have h7q := H7a.out.call hbq
      clear hbq m0 m1 y10 y11
      have H7q := Lib.hid h7q
      clear h7q
      go_wp2_with fail
      go_roundw
      case rel => exact ⟨k + 1, by omega, by go_num, H7q.out⟩
      case measure => simp [intOf]; omega
     ·obtain rfl : k = kp.length + kx.length := by omega
      have h0r := H07.out.trans hlw
      have Hlw := Lib.hid hlw
      have H0r := Lib.hid h0r
      clear hlw h0r
      go_wp2_with fail
      refine (awake10 _).mono ?_
      rintro e w9 ⟨rfl, hb9⟩
      go_wp2_with fail
      go_ret
      exact ⟨rfl, H0r.out.call hb9⟩
  ·as_aux_lemma =>
    have hE := (Ly.layBack10 (p := p) (x := x) (g := g) hk).symm.trans HK.out
    have hun := Ly.counts_ok HC.out
    unfold Od.least Od.most Od.params at hun
    have hxl : x.length = 1 := by have := hun.1; have h1 := hun.2.1; have h2 := hun.2.2.1; rw [if_pos this] at h1 h2; simp [hk] at h1 h2; omega
    have hpl : p.length = 1 := by have := hun.1; have h3 := hun.2.2.2; rw [if_pos this] at h3; simp [hk] at h3; omega
    obtain ⟨bp, po, S0, c0, C0, d0, rfl, lbp, p00, p01, hT0⟩ := HP.out.at_ (j := 0) (by omega)
    obtain ⟨bx, xo, S2, c2, C2, d2, rfl, lbx, x00, x01, hT2⟩ := HX.out.at_ (j := 0) (by omega)
    have hcall := fun (W : World) (h : Later w6 W) => (conv_back S0 C0 S2 C2 GS GC c0 d0 c2 d2 gc gd (Ly.got p 0) (Ly.got x 0) g o.step W (hT0.later (H06.out.trans h)) (hT2.later (H06.out.trans h)) (HG.out.later (H06.out.trans h))).mono (fun e w' q => q.u Ly.convBack_none)
    obtain ⟨R, hR⟩ : ∃ R, Ly.convBack (Ly.got p 0) (Ly.got x 0) g o.step = R := ⟨_, rfl⟩
    rw [hR] at hE
    have hcall2 : ∀ W, Later w6 W → Calls Tryz.prog 13 _ W (GoCU R W) := hR ▸ hcall
    have x0' : w6.cell? ⟨ob, 0, none⟩ = some (.int .i64 10) := by rw [x0, hk]
    have k8 : (o.kind == 8) = false := by rw [hk]; rfl
    have k9 : (o.kind == 9) = false := by rw [hk]; rfl
    have k10 : (o.kind == 10) = true := by rw [hk]; rfl
    have k11 : (o.kind == 11) = false := by rw [hk]; rfl
    have k12 : (o.kind == 12) = false := by rw [hk]; rfl
    have k13 : (o.kind == 13) = false := by rw [hk]; rfl
    have k14 : (o.kind == 14) = false := by rw [hk]; rfl
    have k15 : (o.kind == 15) = false := by rw [hk]; rfl
    obtain ⟨y0, y1, y2, y3, y4, y5, y6, y7, y8, y9, y10, y11⟩ := case_cells12 Hk6.out
    have q1 : w6.cell? ⟨bp, po, none⟩ = some (.slice S0 (Ly.got p 0).s.length c0) := H06.out.cell (by simpa using p00)
    have q2 : w6.cell? ⟨bp, po + 1, none⟩ = some (.slice C0 (Ly.got p 0).c.length d0) := H06.out.cell (by simpa using p01)
    have q3 : w6.cell? ⟨bx, xo, none⟩ = some (.slice S2 (Ly.got x 0).s.length c2) := H06.out.cell (by simpa using x00)
    have q4 : w6.cell? ⟨bx, xo + 1, none⟩ = some (.slice C2 (Ly.got x 0).c.length d2) := H06.out.cell (by simpa using x01)
    have q5 : w6.cell? ⟨ob, 3, none⟩ = some (.int .i64 o.step) := by rw [Hko.out.cell]; rfl
    rw [hxl] at y9
    rw [hpl] at y8
    have hs06 := H06.out.size
    have hbp6 : bp < w6.heap.size := by first | exact Nat.lt_of_lt_of_le lbp hs06 | omega
    have hbx6 : bx < w6.heap.size := by first | exact Nat.lt_of_lt_of_le lbx hs06 | omega
    have hw6 : w.heap.size < w6.heap.size := Hk6.out.lt
    have hob6 : ob < w6.heap.size := Hko.out.lt
    clear hk hkr hun hxl hpl hR hcall x0 x1 p00 p01 hT0 x00 x01 hT2 y0 y1 y2 y3 y4 y5 y6 y7
    have Hcall2 := Lib.hid hcall2
    have HE := Lib.hid hE
    clear hcall2 hE
    go_upto_region 13 with fail
    clear x0'
    clear k8 k9 k10 k11 k12 k13 k14 k15
    go_cut [11, 12] (OpCut10 w w6 R)
    case first =>
     go_wp2_with fail
     have KF := Lib.hid (show ∀ Xw, Later w6 Xw → Xw.cell? ⟨w.heap.size, 8, none⟩ = some (.slice (some ⟨bp, po, none⟩) 1 cp) ∧ Xw.cell? ⟨w.heap.size, 9, none⟩ = some (.slice (some ⟨bx, xo, none⟩) 1 cx) ∧ Xw.cell? ⟨w.heap.size, 10, none⟩ = some (.slice GS g.s.length gc) ∧ Xw.cell? ⟨w.heap.size, 11, none⟩ = some (.slice GC g.c.length gd) ∧ Xw.cell? ⟨bp, po, none⟩ = some (.slice S0 (Ly.got p 0).s.length c0) ∧ Xw.cell? ⟨bp, po + 1, none⟩ = some (.slice C0 (Ly.got p 0).c.length d0) ∧ Xw.cell? ⟨bx, xo, none⟩ = some (.slice S2 (Ly.got x 0).s.length c2) ∧ Xw.cell? ⟨bx, xo + 1, none⟩ = some (.slice C2 (Ly.got x 0).c.length d2) ∧ Xw.cell? ⟨ob, 3, none⟩ = some (.int .i64 o.step) from fun Xw h => ⟨h.cell y8, h.cell y9, h.cell y10, h.cell y11, h.cell q1, h.cell q2, h.cell q3, h.cell q4, h.cell q5⟩)
     refine wp_region_noPanic ?_
     refine wp_region_held_drew (S := fun Xw => Xw.cell? ⟨w.heap.size, 8, none⟩ = some (.slice (some ⟨bp, po, none⟩) 1 cp) ∧ Xw.cell? ⟨w.heap.size, 9, none⟩ = some (.slice (some ⟨bx, xo, none⟩) 1 cx) ∧ Xw.cell? ⟨w.heap.size, 10, none⟩ = some (.slice GS g.s.length gc) ∧ Xw.cell? ⟨w.heap.size, 11, none⟩ = some (.slice GC g.c.length gd) ∧ Xw.cell? ⟨bp, po, none⟩ = some (.slice S0 (Ly.got p 0).s.length c0) ∧ Xw.cell? ⟨bp, po + 1, none⟩ = some (.slice C0 (Ly.got p 0).c.length d0) ∧ Xw.cell? ⟨bx, xo, none⟩ = some (.slice S2 (Ly.got x 0).s.length c2) ∧ Xw.cell? ⟨bx, xo + 1, none⟩ = some (.slice C2 (Ly.got x 0).c.length d2) ∧ Xw.cell? ⟨ob, 3, none⟩ = some (.int .i64 o.step)) (by kernel_rfl) (KF.out _ Later.au) (fun hHeld => ?_)
     refine tk 0 ?_
     refine tk 1 ?_
     refine tk 2 ?_
     refine tk 3 ?_
     refine tk 4 ?_
     refine tk 5 ?_
     refine tk 6 ?_
     refine tk 7 ?_
     refine tk 8 ?_
     refine tk 9 ?_
     refine tk 10 ?_
     refine tk 11 ?_
     refine wpAnyH_ready (rs := [12, 16]) (by kernel_rfl) (by simp) ?_
     refine AllReadyH.cons (o := _) rfl (fun K hK => ?_) (AllReadyH.cons (o := _) rfl (fun K hK => ?_) (AllReadyH.nil))
     ·simp only [ga, gs, gz]
      go_simp
      go_at_call 13
      (with_reducible refine (Hcall2.out _ (Later.au : Later w6 _)).mono ?_)
      rintro e wf ⟨U0, e0, V0, f0, U2, e2, V2, f2, rfl, hof, hbf⟩
      have Hof := Lib.hid hof
      clear hof
      try go_wp2_with fail
      refine hK.out _ _ (KF.out _ Later.au) (fun hHeld => ?_)
      clear hK K
      try simp only [ga, gs, gz, Act.put, sa, sz, ss]
      refine tk 13 ?_
      refine tk 14 ?_
      refine tk 15 ?_
      refine rd 16 fun K hK => ?_
      simp only [ga, gs, gz]
      go_simp
      refine hK.out _ _ (KF.out _ Later.au) (fun hHeld => ?_)
      clear hK K
      try simp only [ga, gs, gz, Act.put, sa, sz, ss]
      refine rd 17 fun K hK => ?_
      simp only [ga, gs, gz]
      go_simp
      refine hK.out _ _ ?_ (fun hHeld => ?_)
      ·(try dsimp only); (refine ⟨?_, ?_, ?_, ?_, ?_, ?_, ?_, ?_, ?_⟩ <;> (repeat (refine cell_setfar ?_ (by first | omega | (simp; done) | (simp; omega)))) <;> (refine Later.cell (Later.au : Later w6 _) ?_) <;> assumption)
      clear hK K
      try simp only [ga, gs, gz, Act.put, sa, sz, ss]
      refine tk 18 ?_
      clear KF
      refine wpAnyH_done (by kernel_rfl) ?_ _
      refine NoPanic.normal ?_
      go_wp2_with fail
      have hlg : Later w6 wf := (Later.au : Later w6 wf)
      have hls := hlg.size
      go_meet
      exact ⟨wf.heap.size, U0, e0, V0, f0, U2, e2, V2, f2, rfl, rfl, hls, Blk.new wf _ _, fun h => ⟨((Hof.out h).1.base (by first | omega | (simp; omega))).later ((Later.refl wf).alloc _), ((Hof.out h).2.base (by first | omega | (simp; omega))).later ((Later.refl wf).alloc _)⟩, hlg.alloc _⟩
     ·simp only [ga, gs, gz]
      go_simp
      refine hK.out _ _ (KF.out _ Later.au) (fun hHeld => ?_)
      clear hK K
      try simp only [ga, gs, gz, Act.put, sa, sz, ss]
      refine rd 12 fun K hK => ?_
      simp only [ga, gs, gz]
      go_simp
      go_at_call 13
      (with_reducible refine (Hcall2.out _ (Later.au : Later w6 _)).mono ?_)
      rintro e wf ⟨U0, e0, V0, f0, U2, e2, V2, f2, rfl, hof, hbf⟩
      have Hof := Lib.hid hof
      clear hof
      have hbz := (show Later _ wf from hbf).blk ((Blk.new w6 46 #[.slice none 0 0, .slice none 0 0, .slice none 0 0, .slice none 0 0]).drew)
      obtain ⟨z0, z1, z2, z3, zf0, zf1, zf2, zf3⟩ := four_facts hbz
      have Hbz := Lib.hid hbz
      clear hbz
      try go_wp2_with fail
      refine hK.out _ _ (KF.out _ Later.au) (fun hHeld => ?_)
      clear hK K
      try simp only [ga, gs, gz, Act.put, sa, sz, ss]
      refine tk 13 ?_
      refine tk 14 ?_
      refine tk 15 ?_
      refine rd 17 fun K hK => ?_
      simp only [ga, gs, gz]
      go_simp
      refine hK.out _ _ ?_ (fun hHeld => ?_)
      ·(try dsimp only); (refine ⟨?_, ?_, ?_, ?_, ?_, ?_, ?_, ?_, ?_⟩ <;> (repeat (refine cell_setfar ?_ (by first | omega | (simp; done) | (simp; omega)))) <;> (refine Later.cell (Later.au : Later w6 _) ?_) <;> assumption)
      clear hK K
      try simp only [ga, gs, gz, Act.put, sa, sz, ss]
      refine tk 18 ?_
      clear KF
      refine wpAnyH_done (by kernel_rfl) ?_ _
      refine NoPanic.normal ?_
      go_wp2_with fail
      have hlg : Later w6 wf := (Later.au : Later w6 wf)
      go_meet
      exact ⟨w6.heap.size, U0, e0, V0, f0, U2, e2, V2, f2, rfl, rfl, Nat.le_refl _, four_blk Hbz.out, fun h => ⟨((Hof.out h).1.base (by first | omega | (simp; omega))).else_ (four_else _ _ _ _ _ _) (four_noint Hbz.out) (fun j => (four_blk Hbz.out).frozen j), ((Hof.out h).2.base (by first | omega | (simp; omega))).else_ (four_else _ _ _ _ _ _) (four_noint Hbz.out) (fun j => (four_blk Hbz.out).frozen j)⟩, four_later hlg (Nat.le_refl _) _ _ _ _⟩
    case rest =>
     obtain ⟨tb, U0, e0, V0, f0, U2, e2, V2, f2, rfl, rfl, htb, hbe, hof, hlc⟩ := hcut
     have hk2 : R.2 = K.2 := by rw [← HE.out]; exact (if_2 _ _ _).symm
     obtain ⟨g0, g1, g2, g3, -⟩ := four_facts hbe
     have hwc : w.heap.size ≤ wc.heap.size := Nat.le_trans hs06 hlc.size
     have hN : ∀ (W : World) (a b : Nat), Later wc W → Blk W a 30 #[.slice U0 R.1.1.s.length e0, .slice V0 R.1.1.c.length f0] → Blk W b 30 #[.slice U2 R.1.2.s.length e2, .slice V2 R.1.2.c.length f2] → wc.heap.size ≤ a → wc.heap.size ≤ b → (K.2 = 0 → 1 = K.1.p.length ∧ 1 = K.1.x.length ∧ Tns W (some ⟨a, 0, none⟩) K.1.p ∧ Tns W (some ⟨b, 0, none⟩) K.1.x ∧ K.1.p.length ≤ 1048576 ∧ K.1.x.length ≤ 1048576) := fun W a b hl9 hA hB ha hb h => by
      rw [← hk2] at h
      have hE2 := HE.out
      rw [if_pos h] at hE2
      rw [← hE2]
      obtain ⟨t0, t2⟩ := hof h
      exact ⟨rfl, rfl, (TnsO.one hA (Nat.le_trans hwc ha) (t0.later hl9)).tns, (TnsO.one hB (Nat.le_trans hwc hb) (t2.later hl9)).tns, by simp, by simp⟩
     rw [hk2]
     clear y8 y9 y10 y11 q1 q2 q3 q4 q5 Hcall2 hof
     have Hbe := Lib.hid hbe
     have Hlc := Lib.hid hlc
     have HN := Lib.hid hN
     clear hbe hlc hN
     go_upto_region 14 with fail
     have KF := Lib.hid (show ∀ Xw, Later wc Xw → Xw.cell? ⟨tb, 0, none⟩ = some (.slice U0 R.1.1.s.length e0) ∧ Xw.cell? ⟨tb, 1, none⟩ = some (.slice V0 R.1.1.c.length f0) ∧ Xw.cell? ⟨tb, 2, none⟩ = some (.slice U2 R.1.2.s.length e2) ∧ Xw.cell? ⟨tb, 3, none⟩ = some (.slice V2 R.1.2.c.length f2) from fun Xw h => ⟨h.cell g0, h.cell g1, h.cell g2, h.cell g3⟩)
     refine wp_region_noPanic ?_
     refine wp_region_held_drew (S := fun Xw => Xw.cell? ⟨tb, 0, none⟩ = some (.slice U0 R.1.1.s.length e0) ∧ Xw.cell? ⟨tb, 1, none⟩ = some (.slice V0 R.1.1.c.length f0) ∧ Xw.cell? ⟨tb, 2, none⟩ = some (.slice U2 R.1.2.s.length e2) ∧ Xw.cell? ⟨tb, 3, none⟩ = some (.slice V2 R.1.2.c.length f2)) (by kernel_rfl) (KF.out _ Later.au) (fun hHeld => ?_)
     refine tk 0 ?_
     refine tk 1 ?_
     refine tk 3 ?_
     refine tk 4 ?_
     refine tk 6 ?_
     refine wpAnyH_ready (rs := [2, 5]) (by kernel_rfl) (by simp) ?_
     refine AllReadyH.cons (o := _) rfl (fun K hK => ?_) (AllReadyH.cons (o := _) rfl (fun K hK => ?_) (AllReadyH.nil))
     ·simp only [ga, gs, gz]
      go_simp
      refine hK.out _ _ (KF.out _ Later.au) (fun hHeld => ?_)
      clear hK K
      try simp only [ga, gs, gz, Act.put, sa, sz, ss]
      refine tk 7 ?_
      refine rd 5 fun K hK => ?_
      simp only [ga, gs, gz]
      go_simp
      refine hK.out _ _ (KF.out _ Later.au) (fun hHeld => ?_)
      clear hK K
      try simp only [ga, gs, gz, Act.put, sa, sz, ss]
      refine tk 8 ?_
      refine tk 9 ?_
      clear KF
      refine wpAnyH_done (by kernel_rfl) ?_ _
      refine NoPanic.normal ?_
      clear hHeld
      go_wp2_with fail
      have p0 := (Blk.new wc 30 #[.slice U0 R.1.1.s.length e0, .slice V0 R.1.1.c.length f0]).alloc (.cells #[.slice U2 R.1.2.s.length e2, .slice V2 R.1.2.c.length f2] 30)
      have p1 := Blk.new (wc.alloc (.cells #[.slice U0 R.1.1.s.length e0, .slice V0 R.1.1.c.length f0] 30)) 30 #[.slice U2 R.1.2.s.length e2, .slice V2 R.1.2.c.length f2]
      rw [World.size_alloc] at p1
      have h9 := (((Later.refl wc).alloc (.cells #[.slice U0 R.1.1.s.length e0, .slice V0 R.1.1.c.length f0] 30)).alloc (.cells #[.slice U2 R.1.2.s.length e2, .slice V2 R.1.2.c.length f2] 30)).drew
      go_meet
      exact ⟨_, 1, 1, _, 1, 1, rfl, rfl, rfl, HN.out _ _ _ h9 p0.drew p1.drew (Nat.le_refl _) (Nat.le_succ _), Hlc.out.trans h9⟩
     ·simp only [ga, gs, gz]
      go_simp
      refine hK.out _ _ (KF.out _ Later.au) (fun hHeld => ?_)
      clear hK K
      try simp only [ga, gs, gz, Act.put, sa, sz, ss]
      refine rd 2 fun K hK => ?_
      simp only [ga, gs, gz]
      go_simp
      refine hK.out _ _ (KF.out _ Later.au) (fun hHeld => ?_)
      clear hK K
      try simp only [ga, gs, gz, Act.put, sa, sz, ss]
      refine tk 7 ?_
      refine tk 8 ?_
      refine tk 9 ?_
      clear KF
      refine wpAnyH_done (by kernel_rfl) ?_ _
      refine NoPanic.normal ?_
      clear hHeld
      go_wp2_with fail
      have p0 := (Blk.new wc 30 #[.slice U2 R.1.2.s.length e2, .slice V2 R.1.2.c.length f2]).alloc (.cells #[.slice U0 R.1.1.s.length e0, .slice V0 R.1.1.c.length f0] 30)
      have p1 := Blk.new (wc.alloc (.cells #[.slice U2 R.1.2.s.length e2, .slice V2 R.1.2.c.length f2] 30)) 30 #[.slice U0 R.1.1.s.length e0, .slice V0 R.1.1.c.length f0]
      rw [World.size_alloc] at p1
      have h9 := (((Later.refl wc).alloc (.cells #[.slice U2 R.1.2.s.length e2, .slice V2 R.1.2.c.length f2] 30)).alloc (.cells #[.slice U0 R.1.1.s.length e0, .slice V0 R.1.1.c.length f0] 30)).drew
      go_meet
      exact ⟨_, 1, 1, _, 1, 1, rfl, rfl, rfl, HN.out _ _ _ h9 p1.drew p0.drew (Nat.le_succ _) (Nat.le_refl _), Hlc.out.trans h9⟩
  ·as_aux_lemma =>
    have hK7 := (Ly.layBack11 (p := p) (x := x) (g := g) hk).symm.trans HK.out
    have hun := Ly.counts_ok HC.out
    unfold Od.least Od.most Od.params at hun
    have hxl : x.length = 1 := by have := hun.1; have h1 := hun.2.1; have h2 := hun.2.2.1; rw [if_pos this] at h1 h2; simp [hk] at h1 h2; omega
    obtain ⟨bx, xo, S2, c2, C2, d2, rfl, lbx, x00, x01, hT2⟩ := HX.out.at_ (j := 0) (by omega)
    have hcall := fun (W : World) (h : Later w6 W) => calls_goU (pool_back true 1 S2 C2 GS GC c2 d2 gc gd (Ly.got x 0) g o.width o.step W (.inl ⟨rfl, rfl⟩) (hT2.later (H06.out.trans h)) (HG.out.later (H06.out.trans h))) Ly.poolBack_none
    obtain ⟨R, hR⟩ : ∃ R, Ly.poolBack true (Ly.got x 0) g o.width o.step = R := ⟨_, rfl⟩
    rw [hR] at hcall hK7
    have x0' : w6.cell? ⟨ob, 0, none⟩ = some (.int .i64 11) := by rw [x0, hk]
    have k8 : (o.kind == 8) = false := by rw [hk]; rfl
    have k9 : (o.kind == 9) = false := by rw [hk]; rfl
    have k10 : (o.kind == 10) = false := by rw [hk]; rfl
    have k11 : (o.kind == 11) = true := by rw [hk]; rfl
    have k12 : (o.kind == 12) = false := by rw [hk]; rfl
    have k13 : (o.kind == 13) = false := by rw [hk]; rfl
    have k14 : (o.kind == 14) = false := by rw [hk]; rfl
    have k15 : (o.kind == 15) = false := by rw [hk]; rfl
    obtain ⟨y0, y1, y2, y3, y4, y5, y6, y7, y8, y9, y10, y11⟩ := case_cells12 Hk6.out
    have v0 : w6.cell? ⟨bx, xo, none⟩ = some (.slice S2 (Ly.got x 0).s.length c2) := H06.out.cell (by simpa using x00)
    have v1 : w6.cell? ⟨bx, xo + 1, none⟩ = some (.slice C2 (Ly.got x 0).c.length d2) := H06.out.cell (by simpa using x01)
    rw [hxl] at y9
    have u0 := x0'
    have u2 : w6.cell? ⟨ob, 2, none⟩ = some (.int .i64 o.width) := by rw [Hko.out.cell]; rfl
    have u3 : w6.cell? ⟨ob, 3, none⟩ = some (.int .i64 o.step) := by rw [Hko.out.cell]; rfl
    have hs06 := H06.out.size
    have hbx6 : bx < w6.heap.size := by first | exact Nat.lt_of_lt_of_le lbx hs06 | omega
    have hw6 : w.heap.size < w6.heap.size := Hk6.out.lt
    have hob6 : ob < w6.heap.size := Hko.out.lt
    clear hk hkr hun hxl hR x0 x1 x00 x01 hT2 y0 y1 y2 y3 y4 y5 y6 y7 y8
    have HK7 := Lib.hid hK7
    have Hcall := Lib.hid hcall
    clear hK7 hcall
    go_upto_region 17 with fail
    clear x0'
    clear k8 k9 k10 k11 k12 k13 k14 k15
    go_cut [13, 14] (FwCut w6 w.heap.size R)
    case first =>
     go_wp2_with fail
     have KF := Lib.hid (show ∀ Xw, Later w6 Xw → Xw.cell? ⟨w.heap.size, 9, none⟩ = some (.slice (some ⟨bx, xo, none⟩) 1 cx) ∧ Xw.cell? ⟨w.heap.size, 10, none⟩ = some (.slice GS g.s.length gc) ∧ Xw.cell? ⟨w.heap.size, 11, none⟩ = some (.slice GC g.c.length gd) ∧ Xw.cell? ⟨bx, xo, none⟩ = some (.slice S2 (Ly.got x 0).s.length c2) ∧ Xw.cell? ⟨bx, xo + 1, none⟩ = some (.slice C2 (Ly.got x 0).c.length d2) ∧ Xw.cell? ⟨ob, 0, none⟩ = some (.int .i64 11) ∧ Xw.cell? ⟨ob, 2, none⟩ = some (.int .i64 o.width) ∧ Xw.cell? ⟨ob, 3, none⟩ = some (.int .i64 o.step) from fun Xw h => ⟨h.cell y9, h.cell y10, h.cell y11, h.cell v0, h.cell v1, h.cell u0, h.cell u2, h.cell u3⟩)
     refine wp_region_noPanic ?_
     refine wp_region_held_drew (S := fun Xw => Xw.cell? ⟨w.heap.size, 9, none⟩ = some (.slice (some ⟨bx, xo, none⟩) 1 cx) ∧ Xw.cell? ⟨w.heap.size, 10, none⟩ = some (.slice GS g.s.length gc) ∧ Xw.cell? ⟨w.heap.size, 11, none⟩ = some (.slice GC g.c.length gd) ∧ Xw.cell? ⟨bx, xo, none⟩ = some (.slice S2 (Ly.got x 0).s.length c2) ∧ Xw.cell? ⟨bx, xo + 1, none⟩ = some (.slice C2 (Ly.got x 0).c.length d2) ∧ Xw.cell? ⟨ob, 0, none⟩ = some (.int .i64 11) ∧ Xw.cell? ⟨ob, 2, none⟩ = some (.int .i64 o.width) ∧ Xw.cell? ⟨ob, 3, none⟩ = some (.int .i64 o.step)) (by kernel_rfl) (KF.out _ Later.au) (fun hHeld => ?_)
     refine tk 0 ?_
     refine tk 1 ?_
     refine tk 2 ?_
     refine tk 3 ?_
     refine tk 4 ?_
     refine tk 5 ?_
     refine tk 6 ?_
     refine tk 7 ?_
     refine tk 8 ?_
     refine tk 9 ?_
     refine tk 10 ?_
     refine tk 11 ?_
     refine tk 12 ?_
     refine tk 13 ?_
     refine wpAnyH_ready (rs := [14, 18]) (by kernel_rfl) (by simp) ?_
     refine AllReadyH.cons (o := _) rfl (fun K hK => ?_) (AllReadyH.cons (o := _) rfl (fun K hK => ?_) (AllReadyH.nil))
     ·simp only [ga, gs, gz]
      go_simp
      rw [show IntKind.i64.wrap (IntKind.i64.wrap 0 + 1) = 1 from by decide]
      go_at_call 14; (with_reducible refine (Hcall.out _ (Later.au : Later w6 _)).mono ?_); rintro e wf ⟨S3, c3, C3, d3, rfl, -, hof, hbf⟩
      have Hof := Lib.hid hof
      clear hof
      try go_wp2_with fail
      refine hK.out _ _ (KF.out _ Later.au) (fun hHeld => ?_)
      clear hK K
      try simp only [ga, gs, gz, Act.put, sa, sz, ss]
      refine tk 15 ?_
      refine tk 16 ?_
      refine tk 17 ?_
      refine rd 18 fun K hK => ?_
      simp only [ga, gs, gz]
      go_simp
      refine hK.out _ _ (KF.out _ Later.au) (fun hHeld => ?_)
      clear hK K
      try simp only [ga, gs, gz, Act.put, sa, sz, ss]
      refine rd 19 fun K hK => ?_
      simp only [ga, gs, gz]
      go_simp
      refine hK.out _ _ ?_ (fun hHeld => ?_)
      ·(try dsimp only); (refine ⟨?_, ?_, ?_, ?_, ?_, ?_, ?_, ?_⟩ <;> (repeat (refine cell_setfar ?_ (by first | omega | (simp; done) | (simp; omega)))) <;> (refine Later.cell (Later.au : Later w6 _) ?_) <;> assumption)
      clear hK K
      try simp only [ga, gs, gz, Act.put, sa, sz, ss]
      refine tk 20 ?_
      clear KF
      refine wpAnyH_done (by kernel_rfl) ?_ _
      refine NoPanic.normal ?_
      go_wp2_with fail
      have hlg : Later w6 wf := (Later.au : Later w6 wf)
      go_meet
      exact ⟨S3, c3, C3, d3, wf.heap.size, rfl, rfl, Blk.new wf _ _, fun h => ((Hof.out h).base (by first | omega | (simp; omega))).later ((Later.refl wf).alloc _), hlg.alloc _⟩
     ·simp only [ga, gs, gz]
      go_simp
      refine hK.out _ _ (KF.out _ Later.au) (fun hHeld => ?_)
      clear hK K
      try simp only [ga, gs, gz, Act.put, sa, sz, ss]
      refine rd 14 fun K hK => ?_
      simp only [ga, gs, gz]
      go_simp
      rw [show IntKind.i64.wrap (IntKind.i64.wrap 0 + 1) = 1 from by decide]
      go_at_call 14; (with_reducible refine (Hcall.out _ (Later.au : Later w6 _)).mono ?_); rintro e wf ⟨S3, c3, C3, d3, rfl, -, hof, hbf⟩
      have Hof := Lib.hid hof
      clear hof
      have hbz := (show Later _ wf from hbf).blk ((Blk.new w6 30 #[.slice none 0 0, .slice none 0 0]).drew)
      have b0' := hbz.cell 0
      have b1' := hbz.cell 1
      have bf0 := hbz.frozen 0
      have bf1 := hbz.frozen 1
      simp at b0' b1'
      have Hbz := Lib.hid hbz
      clear hbz
      try go_wp2_with fail
      refine hK.out _ _ (KF.out _ Later.au) (fun hHeld => ?_)
      clear hK K
      try simp only [ga, gs, gz, Act.put, sa, sz, ss]
      refine tk 15 ?_
      refine tk 16 ?_
      refine tk 17 ?_
      refine rd 19 fun K hK => ?_
      simp only [ga, gs, gz]
      go_simp
      refine hK.out _ _ ?_ (fun hHeld => ?_)
      ·(try dsimp only); (refine ⟨?_, ?_, ?_, ?_, ?_, ?_, ?_, ?_⟩ <;> (repeat (refine cell_setfar ?_ (by first | omega | (simp; done) | (simp; omega)))) <;> (refine Later.cell (Later.au : Later w6 _) ?_) <;> assumption)
      clear hK K
      try simp only [ga, gs, gz, Act.put, sa, sz, ss]
      refine tk 20 ?_
      clear KF
      refine wpAnyH_done (by kernel_rfl) ?_ _
      refine NoPanic.normal ?_
      go_wp2_with fail
      have hlg : Later w6 wf := (Later.au : Later w6 wf)
      have hb5 := (Hbz.out.set_ 0 (.slice S3 R.1.s.length c3)).set_ 1 (.slice C3 R.1.c.length d3)
      go_meet
      exact ⟨S3, c3, C3, d3, w6.heap.size, rfl, rfl, (by simpa using hb5), fun h => ((Hof.out h).base (by first | omega | (simp; omega))).box Hbz.out, (hlg.set (p := ⟨w6.heap.size, 0, none⟩) (Nat.le_refl _) _).set (p := ⟨w6.heap.size, 1, none⟩) (Nat.le_refl _) _⟩
    case rest =>
     obtain ⟨S3, c3, C3, d3, tb, rfl, rfl, hTb, hTo, hlc⟩ := hcut
     have hnew := Blk.new wc 30 #[.slice S3 R.1.s.length c3, .slice C3 R.1.c.length d3]
     have hlw := (Later.refl wc).alloc (.cells #[.slice S3 R.1.s.length c3, .slice C3 R.1.c.length d3] 30)
     have h67 := hlc.trans hlw
     have l0 := hTb.cell 0
     have l1 := hTb.cell 1
     simp at l0 l1
     have hwc : w.heap.size ≤ wc.heap.size := Nat.le_trans hs06 hlc.size
     have hk2 : R.2 = K.2 := by rw [← HK7.out]; exact (bsing_2 _).symm
     have hn7 : K.2 = 0 → 0 = K.1.p.length ∧ 1 = K.1.x.length ∧ Tns (wc.alloc (.cells #[.slice S3 R.1.s.length c3, .slice C3 R.1.c.length d3] 30)) none K.1.p ∧ Tns (wc.alloc (.cells #[.slice S3 R.1.s.length c3, .slice C3 R.1.c.length d3] 30)) (some ⟨wc.heap.size, 0, none⟩) K.1.x ∧ K.1.p.length ≤ 1048576 ∧ K.1.x.length ≤ 1048576 := fun h => by
      rw [← hk2] at h
      have e1 : Ly.bsingle R = (⟨[], [R.1]⟩, 0) := by unfold Ly.bsingle; rw [if_pos h]
      rw [← HK7.out, e1]
      exact ⟨rfl, rfl, Tns.nil _ _, (TnsO.one hnew hwc ((hTo h).later hlw)).tns, by simp, by simp⟩
     rw [hk2]
     clear y9 y10 y11 v0 v1 u0 u2 u3 Hcall
     have Hnew := Lib.hid hnew
     have Hlw := Lib.hid hlw
     have HTb := Lib.hid hTb
     have HTo := Lib.hid hTo
     have Hlc := Lib.hid hlc
     have H67 := Lib.hid h67
     have Hn7 := Lib.hid hn7
     clear hnew hlw hTb hTo hlc h67 hn7
     go_wp2_with fail
     go_meet
     exact ⟨none, 0, 0, _, 1, 1, rfl, rfl, rfl, Hn7.out, H67.out⟩
  ·as_aux_lemma =>
    have hK7 := (Ly.layBack12 (p := p) (x := x) (g := g) hk).symm.trans HK.out
    have hun := Ly.counts_ok HC.out
    unfold Od.least Od.most Od.params at hun
    have hxl : x.length = 1 := by have := hun.1; have h1 := hun.2.1; have h2 := hun.2.2.1; rw [if_pos this] at h1 h2; simp [hk] at h1 h2; omega
    obtain ⟨bx, xo, S2, c2, C2, d2, rfl, lbx, x00, x01, hT2⟩ := HX.out.at_ (j := 0) (by omega)
    have hcall := fun (W : World) (h : Later w6 W) => calls_goU (pool_back false 2 S2 C2 GS GC c2 d2 gc gd (Ly.got x 0) g o.width o.step W (.inr ⟨rfl, rfl⟩) (hT2.later (H06.out.trans h)) (HG.out.later (H06.out.trans h))) Ly.poolBack_none
    obtain ⟨R, hR⟩ : ∃ R, Ly.poolBack false (Ly.got x 0) g o.width o.step = R := ⟨_, rfl⟩
    rw [hR] at hcall hK7
    have x0' : w6.cell? ⟨ob, 0, none⟩ = some (.int .i64 12) := by rw [x0, hk]
    have k8 : (o.kind == 8) = false := by rw [hk]; rfl
    have k9 : (o.kind == 9) = false := by rw [hk]; rfl
    have k10 : (o.kind == 10) = false := by rw [hk]; rfl
    have k11 : (o.kind == 11) = false := by rw [hk]; rfl
    have k12 : (o.kind == 12) = true := by rw [hk]; rfl
    have k13 : (o.kind == 13) = false := by rw [hk]; rfl
    have k14 : (o.kind == 14) = false := by rw [hk]; rfl
    have k15 : (o.kind == 15) = false := by rw [hk]; rfl
    obtain ⟨y0, y1, y2, y3, y4, y5, y6, y7, y8, y9, y10, y11⟩ := case_cells12 Hk6.out
    have v0 : w6.cell? ⟨bx, xo, none⟩ = some (.slice S2 (Ly.got x 0).s.length c2) := H06.out.cell (by simpa using x00)
    have v1 : w6.cell? ⟨bx, xo + 1, none⟩ = some (.slice C2 (Ly.got x 0).c.length d2) := H06.out.cell (by simpa using x01)
    rw [hxl] at y9
    have u0 := x0'
    have u2 : w6.cell? ⟨ob, 2, none⟩ = some (.int .i64 o.width) := by rw [Hko.out.cell]; rfl
    have u3 : w6.cell? ⟨ob, 3, none⟩ = some (.int .i64 o.step) := by rw [Hko.out.cell]; rfl
    have hs06 := H06.out.size
    have hbx6 : bx < w6.heap.size := by first | exact Nat.lt_of_lt_of_le lbx hs06 | omega
    have hw6 : w.heap.size < w6.heap.size := Hk6.out.lt
    have hob6 : ob < w6.heap.size := Hko.out.lt
    clear hk hkr hun hxl hR x0 x1 x00 x01 hT2 y0 y1 y2 y3 y4 y5 y6 y7 y8
    have HK7 := Lib.hid hK7
    have Hcall := Lib.hid hcall
    clear hK7 hcall
    go_upto_region 17 with fail
    clear x0'
    clear k8 k9 k10 k11 k12 k13 k14 k15
    go_cut [13, 14] (FwCut w6 w.heap.size R)
    case first =>
     go_wp2_with fail
     have KF := Lib.hid (show ∀ Xw, Later w6 Xw → Xw.cell? ⟨w.heap.size, 9, none⟩ = some (.slice (some ⟨bx, xo, none⟩) 1 cx) ∧ Xw.cell? ⟨w.heap.size, 10, none⟩ = some (.slice GS g.s.length gc) ∧ Xw.cell? ⟨w.heap.size, 11, none⟩ = some (.slice GC g.c.length gd) ∧ Xw.cell? ⟨bx, xo, none⟩ = some (.slice S2 (Ly.got x 0).s.length c2) ∧ Xw.cell? ⟨bx, xo + 1, none⟩ = some (.slice C2 (Ly.got x 0).c.length d2) ∧ Xw.cell? ⟨ob, 0, none⟩ = some (.int .i64 12) ∧ Xw.cell? ⟨ob, 2, none⟩ = some (.int .i64 o.width) ∧ Xw.cell? ⟨ob, 3, none⟩ = some (.int .i64 o.step) from fun Xw h => ⟨h.cell y9, h.cell y10, h.cell y11, h.cell v0, h.cell v1, h.cell u0, h.cell u2, h.cell u3⟩)
     refine wp_region_noPanic ?_
     refine wp_region_held_drew (S := fun Xw => Xw.cell? ⟨w.heap.size, 9, none⟩ = some (.slice (some ⟨bx, xo, none⟩) 1 cx) ∧ Xw.cell? ⟨w.heap.size, 10, none⟩ = some (.slice GS g.s.length gc) ∧ Xw.cell? ⟨w.heap.size, 11, none⟩ = some (.slice GC g.c.length gd) ∧ Xw.cell? ⟨bx, xo, none⟩ = some (.slice S2 (Ly.got x 0).s.length c2) ∧ Xw.cell? ⟨bx, xo + 1, none⟩ = some (.slice C2 (Ly.got x 0).c.length d2) ∧ Xw.cell? ⟨ob, 0, none⟩ = some (.int .i64 12) ∧ Xw.cell? ⟨ob, 2, none⟩ = some (.int .i64 o.width) ∧ Xw.cell? ⟨ob, 3, none⟩ = some (.int .i64 o.step)) (by kernel_rfl) (KF.out _ Later.au) (fun hHeld => ?_)
     refine tk 0 ?_
     refine tk 1 ?_
     refine tk 2 ?_
     refine tk 3 ?_
     refine tk 4 ?_
     refine tk 5 ?_
     refine tk 6 ?_
     refine tk 7 ?_
     refine tk 8 ?_
     refine tk 9 ?_
     refine tk 10 ?_
     refine tk 11 ?_
     refine tk 12 ?_
     refine tk 13 ?_
     refine wpAnyH_ready (rs := [14, 18]) (by kernel_rfl) (by simp) ?_
     refine AllReadyH.cons (o := _) rfl (fun K hK => ?_) (AllReadyH.cons (o := _) rfl (fun K hK => ?_) (AllReadyH.nil))
     ·simp only [ga, gs, gz]
      go_simp
      rw [show IntKind.i64.wrap (IntKind.i64.wrap 1 + 1) = 2 from by decide]
      go_at_call 14; (with_reducible refine (Hcall.out _ (Later.au : Later w6 _)).mono ?_); rintro e wf ⟨S3, c3, C3, d3, rfl, -, hof, hbf⟩
      have Hof := Lib.hid hof
      clear hof
      try go_wp2_with fail
      refine hK.out _ _ (KF.out _ Later.au) (fun hHeld => ?_)
      clear hK K
      try simp only [ga, gs, gz, Act.put, sa, sz, ss]
      refine tk 15 ?_
      refine tk 16 ?_
      refine tk 17 ?_
      refine rd 18 fun K hK => ?_
      simp only [ga, gs, gz]
      go_simp
      refine hK.out _ _ (KF.out _ Later.au) (fun hHeld => ?_)
      clear hK K
      try simp only [ga, gs, gz, Act.put, sa, sz, ss]
      refine rd 19 fun K hK => ?_
      simp only [ga, gs, gz]
      go_simp
      refine hK.out _ _ ?_ (fun hHeld => ?_)
      ·(try dsimp only); (refine ⟨?_, ?_, ?_, ?_, ?_, ?_, ?_, ?_⟩ <;> (repeat (refine cell_setfar ?_ (by first | omega | (simp; done) | (simp; omega)))) <;> (refine Later.cell (Later.au : Later w6 _) ?_) <;> assumption)
      clear hK K
      try simp only [ga, gs, gz, Act.put, sa, sz, ss]
      refine tk 20 ?_
      clear KF
      refine wpAnyH_done (by kernel_rfl) ?_ _
      refine NoPanic.normal ?_
      go_wp2_with fail
      have hlg : Later w6 wf := (Later.au : Later w6 wf)
      go_meet
      exact ⟨S3, c3, C3, d3, wf.heap.size, rfl, rfl, Blk.new wf _ _, fun h => ((Hof.out h).base (by first | omega | (simp; omega))).later ((Later.refl wf).alloc _), hlg.alloc _⟩
     ·simp only [ga, gs, gz]
      go_simp
      refine hK.out _ _ (KF.out _ Later.au) (fun hHeld => ?_)
      clear hK K
      try simp only [ga, gs, gz, Act.put, sa, sz, ss]
      refine rd 14 fun K hK => ?_
      simp only [ga, gs, gz]
      go_simp
      rw [show IntKind.i64.wrap (IntKind.i64.wrap 1 + 1) = 2 from by decide]
      go_at_call 14; (with_reducible refine (Hcall.out _ (Later.au : Later w6 _)).mono ?_); rintro e wf ⟨S3, c3, C3, d3, rfl, -, hof, hbf⟩
      have Hof := Lib.hid hof
      clear hof
      have hbz := (show Later _ wf from hbf).blk ((Blk.new w6 30 #[.slice none 0 0, .slice none 0 0]).drew)
      have b0' := hbz.cell 0
      have b1' := hbz.cell 1
      have bf0 := hbz.frozen 0
      have bf1 := hbz.frozen 1
      simp at b0' b1'
      have Hbz := Lib.hid hbz
      clear hbz
      try go_wp2_with fail
      refine hK.out _ _ (KF.out _ Later.au) (fun hHeld => ?_)
      clear hK K
      try simp only [ga, gs, gz, Act.put, sa, sz, ss]
      refine tk 15 ?_
      refine tk 16 ?_
      refine tk 17 ?_
      refine rd 19 fun K hK => ?_
      simp only [ga, gs, gz]
      go_simp
      refine hK.out _ _ ?_ (fun hHeld => ?_)
      ·(try dsimp only); (refine ⟨?_, ?_, ?_, ?_, ?_, ?_, ?_, ?_⟩ <;> (repeat (refine cell_setfar ?_ (by first | omega | (simp; done) | (simp; omega)))) <;> (refine Later.cell (Later.au : Later w6 _) ?_) <;> assumption)
      clear hK K
      try simp only [ga, gs, gz, Act.put, sa, sz, ss]
      refine tk 20 ?_
      clear KF
      refine wpAnyH_done (by kernel_rfl) ?_ _
      refine NoPanic.normal ?_
      go_wp2_with fail
      have hlg : Later w6 wf := (Later.au : Later w6 wf)
      have hb5 := (Hbz.out.set_ 0 (.slice S3 R.1.s.length c3)).set_ 1 (.slice C3 R.1.c.length d3)
      go_meet
      exact ⟨S3, c3, C3, d3, w6.heap.size, rfl, rfl, (by simpa using hb5), fun h => ((Hof.out h).base (by first | omega | (simp; omega))).box Hbz.out, (hlg.set (p := ⟨w6.heap.size, 0, none⟩) (Nat.le_refl _) _).set (p := ⟨w6.heap.size, 1, none⟩) (Nat.le_refl _) _⟩
    case rest =>
     obtain ⟨S3, c3, C3, d3, tb, rfl, rfl, hTb, hTo, hlc⟩ := hcut
     have hnew := Blk.new wc 30 #[.slice S3 R.1.s.length c3, .slice C3 R.1.c.length d3]
     have hlw := (Later.refl wc).alloc (.cells #[.slice S3 R.1.s.length c3, .slice C3 R.1.c.length d3] 30)
     have h67 := hlc.trans hlw
     have l0 := hTb.cell 0
     have l1 := hTb.cell 1
     simp at l0 l1
     have hwc : w.heap.size ≤ wc.heap.size := Nat.le_trans hs06 hlc.size
     have hk2 : R.2 = K.2 := by rw [← HK7.out]; exact (bsing_2 _).symm
     have hn7 : K.2 = 0 → 0 = K.1.p.length ∧ 1 = K.1.x.length ∧ Tns (wc.alloc (.cells #[.slice S3 R.1.s.length c3, .slice C3 R.1.c.length d3] 30)) none K.1.p ∧ Tns (wc.alloc (.cells #[.slice S3 R.1.s.length c3, .slice C3 R.1.c.length d3] 30)) (some ⟨wc.heap.size, 0, none⟩) K.1.x ∧ K.1.p.length ≤ 1048576 ∧ K.1.x.length ≤ 1048576 := fun h => by
      rw [← hk2] at h
      have e1 : Ly.bsingle R = (⟨[], [R.1]⟩, 0) := by unfold Ly.bsingle; rw [if_pos h]
      rw [← HK7.out, e1]
      exact ⟨rfl, rfl, Tns.nil _ _, (TnsO.one hnew hwc ((hTo h).later hlw)).tns, by simp, by simp⟩
     rw [hk2]
     clear y9 y10 y11 v0 v1 u0 u2 u3 Hcall
     have Hnew := Lib.hid hnew
     have Hlw := Lib.hid hlw
     have HTb := Lib.hid hTb
     have HTo := Lib.hid hTo
     have Hlc := Lib.hid hlc
     have H67 := Lib.hid h67
     have Hn7 := Lib.hid hn7
     clear hnew hlw hTb hTo hlc h67 hn7
     go_wp2_with fail
     go_meet
     exact ⟨none, 0, 0, _, 1, 1, rfl, rfl, rfl, Hn7.out, H67.out⟩
  ·as_aux_lemma =>
    have hK7 := (Ly.layBack13 (p := p) (x := x) (g := g) hk).symm.trans HK.out
    have hcall := join_back o.side X GS GC cx gc gd x g w6 nx lx mx (HX.out.later H06.out) (HG.out.later H06.out)
    have x0' : w6.cell? ⟨ob, 0, none⟩ = some (.int .i64 13) := by rw [x0, hk]
    have x2 : w6.cell? ⟨ob, 4, none⟩ = some (.int .i64 o.side) := by rw [Hko.out.cell]; rfl
    clear x0 x1
    have k8 : (o.kind == 8) = false := by rw [hk]; rfl
    have k9 : (o.kind == 9) = false := by rw [hk]; rfl
    have k10 : (o.kind == 10) = false := by rw [hk]; rfl
    have k11 : (o.kind == 11) = false := by rw [hk]; rfl
    have k12 : (o.kind == 12) = false := by rw [hk]; rfl
    have k13 : (o.kind == 13) = true := by rw [hk]; rfl
    have k14 : (o.kind == 14) = false := by rw [hk]; rfl
    have k15 : (o.kind == 15) = false := by rw [hk]; rfl
    obtain ⟨y0, y1, y2, y3, y4, y5, y6, y7, y8, y9, y10, y11⟩ := case_cells12 Hk6.out
    clear hk hkr y0 y1 y2 y3 y4 y5 y6 y7 y8
    have HK7 := Lib.hid hK7
    have Hcall := Lib.hid hcall
    clear hK7 hcall
    go_wp2_with fail
    refine (Hcall.out).mono ?_
    intro e w7 hgl
    obtain ⟨A7, n7, rfl, m1, m2, hb7⟩ := hgl.u
    have h67 : Later w6 w7 := hb7
    have hk2 : (Ly.joinBack o.side g x).2 = K.2 := by rw [← HK7.out]; exact (bsev_2 _).symm
    have hLn : K.1.p.length ≤ 1048576 ∧ K.1.x.length ≤ 1048576 := by
     rw [← HK7.out]
     exact jb_lens nx
    have hn7 : K.2 = 0 → 0 = K.1.p.length ∧ n7 = K.1.x.length ∧ Tns w7 none K.1.p ∧ Tns w7 A7 K.1.x ∧ K.1.p.length ≤ 1048576 ∧ K.1.x.length ≤ 1048576 := fun h => by
     refine (fun q => ⟨q.1, q.2.1, q.2.2.1, q.2.2.2, hLn⟩) (?_ : 0 = K.1.p.length ∧ n7 = K.1.x.length ∧ Tns w7 none K.1.p ∧ Tns w7 A7 K.1.x)
     rw [← hk2] at h
     obtain ⟨e1, e2⟩ := m2 h
     rw [← HK7.out, bsev_1 h]
     exact ⟨rfl, e1, Tns.nil _ _, e2⟩
    rw [hk2]
    clear hgl m1 m2 hb7 hk2 hLn x0' x2 k8 k9 k10 k11 k12 k13 k14 k15 y9 y10 y11 Hcall
    have H67 := Lib.hid h67
    have Hn7 := Lib.hid hn7
    clear h67 hn7
    go_wp2_with fail
    go_meet
    exact ⟨none, 0, 0, A7, n7, n7, rfl, rfl, rfl, Hn7.out, H67.out⟩
  ·as_aux_lemma =>
    have hK7 := (Ly.layBack14 (p := p) (x := x) (g := g) hk).symm.trans HK.out
    have hun := Ly.counts_ok HC.out
    unfold Od.least Od.most Od.params at hun
    have hxl : x.length = 1 := by have := hun.1; have h1 := hun.2.1; have h2 := hun.2.2.1; rw [if_pos this] at h1 h2; simp [hk] at h1 h2; omega
    obtain ⟨bx, xo, S2, c2, C2, d2, rfl, lbx, x00, x01, hT2⟩ := HX.out.at_ (j := 0) (by omega)
    have hcall := fun (W : World) (h : Later w6 W) => calls_goU (cut_back S2 C2 GS GC c2 d2 gc gd (Ly.got x 0) g o.side o.frm o.to W (hT2.later (H06.out.trans h)) (HG.out.later (H06.out.trans h))) Ly.cutBack_none
    obtain ⟨R, hR⟩ : ∃ R, Ly.cutBack (Ly.got x 0) g o.side o.frm o.to = R := ⟨_, rfl⟩
    rw [hR] at hcall hK7
    have x0' : w6.cell? ⟨ob, 0, none⟩ = some (.int .i64 14) := by rw [x0, hk]
    have k8 : (o.kind == 8) = false := by rw [hk]; rfl
    have k9 : (o.kind == 9) = false := by rw [hk]; rfl
    have k10 : (o.kind == 10) = false := by rw [hk]; rfl
    have k11 : (o.kind == 11) = false := by rw [hk]; rfl
    have k12 : (o.kind == 12) = false := by rw [hk]; rfl
    have k13 : (o.kind == 13) = false := by rw [hk]; rfl
    have k14 : (o.kind == 14) = true := by rw [hk]; rfl
    have k15 : (o.kind == 15) = false := by rw [hk]; rfl
    obtain ⟨y0, y1, y2, y3, y4, y5, y6, y7, y8, y9, y10, y11⟩ := case_cells12 Hk6.out
    have v0 : w6.cell? ⟨bx, xo, none⟩ = some (.slice S2 (Ly.got x 0).s.length c2) := H06.out.cell (by simpa using x00)
    have v1 : w6.cell? ⟨bx, xo + 1, none⟩ = some (.slice C2 (Ly.got x 0).c.length d2) := H06.out.cell (by simpa using x01)
    rw [hxl] at y9
    have u4 : w6.cell? ⟨ob, 4, none⟩ = some (.int .i64 o.side) := by rw [Hko.out.cell]; rfl
    have u5 : w6.cell? ⟨ob, 5, none⟩ = some (.int .i64 o.frm) := by rw [Hko.out.cell]; rfl
    have u6 : w6.cell? ⟨ob, 6, none⟩ = some (.int .i64 o.to) := by rw [Hko.out.cell]; rfl
    have hs06 := H06.out.size
    have hbx6 : bx < w6.heap.size := by first | exact Nat.lt_of_lt_of_le lbx hs06 | omega
    have hw6 : w.heap.size < w6.heap.size := Hk6.out.lt
    have hob6 : ob < w6.heap.size := Hko.out.lt
    clear hk hkr hun hxl hR x0 x1 x00 x01 hT2 y0 y1 y2 y3 y4 y5 y6 y7 y8
    have HK7 := Lib.hid hK7
    have Hcall := Lib.hid hcall
    clear hK7 hcall
    go_upto_region 22 with fail
    clear x0'
    clear k8 k9 k10 k11 k12 k13 k14 k15
    go_cut [15, 16] (FwCut w6 w.heap.size R)
    case first =>
     go_wp2_with fail
     have KF := Lib.hid (show ∀ Xw, Later w6 Xw → Xw.cell? ⟨w.heap.size, 9, none⟩ = some (.slice (some ⟨bx, xo, none⟩) 1 cx) ∧ Xw.cell? ⟨w.heap.size, 10, none⟩ = some (.slice GS g.s.length gc) ∧ Xw.cell? ⟨w.heap.size, 11, none⟩ = some (.slice GC g.c.length gd) ∧ Xw.cell? ⟨bx, xo, none⟩ = some (.slice S2 (Ly.got x 0).s.length c2) ∧ Xw.cell? ⟨bx, xo + 1, none⟩ = some (.slice C2 (Ly.got x 0).c.length d2) ∧ Xw.cell? ⟨ob, 4, none⟩ = some (.int .i64 o.side) ∧ Xw.cell? ⟨ob, 5, none⟩ = some (.int .i64 o.frm) ∧ Xw.cell? ⟨ob, 6, none⟩ = some (.int .i64 o.to) from fun Xw h => ⟨h.cell y9, h.cell y10, h.cell y11, h.cell v0, h.cell v1, h.cell u4, h.cell u5, h.cell u6⟩)
     refine wp_region_noPanic ?_
     refine wp_region_held_drew (S := fun Xw => Xw.cell? ⟨w.heap.size, 9, none⟩ = some (.slice (some ⟨bx, xo, none⟩) 1 cx) ∧ Xw.cell? ⟨w.heap.size, 10, none⟩ = some (.slice GS g.s.length gc) ∧ Xw.cell? ⟨w.heap.size, 11, none⟩ = some (.slice GC g.c.length gd) ∧ Xw.cell? ⟨bx, xo, none⟩ = some (.slice S2 (Ly.got x 0).s.length c2) ∧ Xw.cell? ⟨bx, xo + 1, none⟩ = some (.slice C2 (Ly.got x 0).c.length d2) ∧ Xw.cell? ⟨ob, 4, none⟩ = some (.int .i64 o.side) ∧ Xw.cell? ⟨ob, 5, none⟩ = some (.int .i64 o.frm) ∧ Xw.cell? ⟨ob, 6, none⟩ = some (.int .i64 o.to)) (by kernel_rfl) (KF.out _ Later.au) (fun hHeld => ?_)
     refine tk 0 ?_
     refine tk 1 ?_
     refine tk 2 ?_
     refine tk 3 ?_
     refine tk 4 ?_
     refine tk 5 ?_
     refine tk 6 ?_
     refine tk 7 ?_
     refine tk 8 ?_
     refine tk 9 ?_
     refine tk 10 ?_
     refine tk 11 ?_
     refine wpAnyH_ready (rs := [12, 16]) (by kernel_rfl) (by simp) ?_
     refine AllReadyH.cons (o := _) rfl (fun K hK => ?_) (AllReadyH.cons (o := _) rfl (fun K hK => ?_) (AllReadyH.nil))
     ·simp only [ga, gs, gz]
      go_simp
      go_at_call 16; (with_reducible refine (Hcall.out _ (Later.au : Later w6 _)).mono ?_); rintro e wf ⟨S3, c3, C3, d3, rfl, -, hof, hbf⟩
      have Hof := Lib.hid hof
      clear hof
      try go_wp2_with fail
      refine hK.out _ _ (KF.out _ Later.au) (fun hHeld => ?_)
      clear hK K
      try simp only [ga, gs, gz, Act.put, sa, sz, ss]
      refine tk 13 ?_
      refine tk 14 ?_
      refine tk 15 ?_
      refine rd 16 fun K hK => ?_
      simp only [ga, gs, gz]
      go_simp
      refine hK.out _ _ (KF.out _ Later.au) (fun hHeld => ?_)
      clear hK K
      try simp only [ga, gs, gz, Act.put, sa, sz, ss]
      refine rd 17 fun K hK => ?_
      simp only [ga, gs, gz]
      go_simp
      refine hK.out _ _ ?_ (fun hHeld => ?_)
      ·(try dsimp only); (refine ⟨?_, ?_, ?_, ?_, ?_, ?_, ?_, ?_⟩ <;> (repeat (refine cell_setfar ?_ (by first | omega | (simp; done) | (simp; omega)))) <;> (refine Later.cell (Later.au : Later w6 _) ?_) <;> assumption)
      clear hK K
      try simp only [ga, gs, gz, Act.put, sa, sz, ss]
      refine tk 18 ?_
      clear KF
      refine wpAnyH_done (by kernel_rfl) ?_ _
      refine NoPanic.normal ?_
      go_wp2_with fail
      have hlg : Later w6 wf := (Later.au : Later w6 wf)
      go_meet
      exact ⟨S3, c3, C3, d3, wf.heap.size, rfl, rfl, Blk.new wf _ _, fun h => ((Hof.out h).base (by first | omega | (simp; omega))).later ((Later.refl wf).alloc _), hlg.alloc _⟩
     ·simp only [ga, gs, gz]
      go_simp
      refine hK.out _ _ (KF.out _ Later.au) (fun hHeld => ?_)
      clear hK K
      try simp only [ga, gs, gz, Act.put, sa, sz, ss]
      refine rd 12 fun K hK => ?_
      simp only [ga, gs, gz]
      go_simp
      go_at_call 16; (with_reducible refine (Hcall.out _ (Later.au : Later w6 _)).mono ?_); rintro e wf ⟨S3, c3, C3, d3, rfl, -, hof, hbf⟩
      have Hof := Lib.hid hof
      clear hof
      have hbz := (show Later _ wf from hbf).blk ((Blk.new w6 30 #[.slice none 0 0, .slice none 0 0]).drew)
      have b0' := hbz.cell 0
      have b1' := hbz.cell 1
      have bf0 := hbz.frozen 0
      have bf1 := hbz.frozen 1
      simp at b0' b1'
      have Hbz := Lib.hid hbz
      clear hbz
      try go_wp2_with fail
      refine hK.out _ _ (KF.out _ Later.au) (fun hHeld => ?_)
      clear hK K
      try simp only [ga, gs, gz, Act.put, sa, sz, ss]
      refine tk 13 ?_
      refine tk 14 ?_
      refine tk 15 ?_
      refine rd 17 fun K hK => ?_
      simp only [ga, gs, gz]
      go_simp
      refine hK.out _ _ ?_ (fun hHeld => ?_)
      ·(try dsimp only); (refine ⟨?_, ?_, ?_, ?_, ?_, ?_, ?_, ?_⟩ <;> (repeat (refine cell_setfar ?_ (by first | omega | (simp; done) | (simp; omega)))) <;> (refine Later.cell (Later.au : Later w6 _) ?_) <;> assumption)
      clear hK K
      try simp only [ga, gs, gz, Act.put, sa, sz, ss]
      refine tk 18 ?_
      clear KF
      refine wpAnyH_done (by kernel_rfl) ?_ _
      refine NoPanic.normal ?_
      go_wp2_with fail
      have hlg : Later w6 wf := (Later.au : Later w6 wf)
      have hb5 := (Hbz.out.set_ 0 (.slice S3 R.1.s.length c3)).set_ 1 (.slice C3 R.1.c.length d3)
      go_meet
      exact ⟨S3, c3, C3, d3, w6.heap.size, rfl, rfl, (by simpa using hb5), fun h => ((Hof.out h).base (by first | omega | (simp; omega))).box Hbz.out, (hlg.set (p := ⟨w6.heap.size, 0, none⟩) (Nat.le_refl _) _).set (p := ⟨w6.heap.size, 1, none⟩) (Nat.le_refl _) _⟩
    case rest =>
     obtain ⟨S3, c3, C3, d3, tb, rfl, rfl, hTb, hTo, hlc⟩ := hcut
     have hnew := Blk.new wc 30 #[.slice S3 R.1.s.length c3, .slice C3 R.1.c.length d3]
     have hlw := (Later.refl wc).alloc (.cells #[.slice S3 R.1.s.length c3, .slice C3 R.1.c.length d3] 30)
     have h67 := hlc.trans hlw
     have l0 := hTb.cell 0
     have l1 := hTb.cell 1
     simp at l0 l1
     have hwc : w.heap.size ≤ wc.heap.size := Nat.le_trans hs06 hlc.size
     have hk2 : R.2 = K.2 := by rw [← HK7.out]; exact (bsing_2 _).symm
     have hn7 : K.2 = 0 → 0 = K.1.p.length ∧ 1 = K.1.x.length ∧ Tns (wc.alloc (.cells #[.slice S3 R.1.s.length c3, .slice C3 R.1.c.length d3] 30)) none K.1.p ∧ Tns (wc.alloc (.cells #[.slice S3 R.1.s.length c3, .slice C3 R.1.c.length d3] 30)) (some ⟨wc.heap.size, 0, none⟩) K.1.x ∧ K.1.p.length ≤ 1048576 ∧ K.1.x.length ≤ 1048576 := fun h => by
      rw [← hk2] at h
      have e1 : Ly.bsingle R = (⟨[], [R.1]⟩, 0) := by unfold Ly.bsingle; rw [if_pos h]
      rw [← HK7.out, e1]
      exact ⟨rfl, rfl, Tns.nil _ _, (TnsO.one hnew hwc ((hTo h).later hlw)).tns, by simp, by simp⟩
     rw [hk2]
     clear y9 y10 y11 v0 v1 u4 u5 u6 Hcall
     have Hnew := Lib.hid hnew
     have Hlw := Lib.hid hlw
     have HTb := Lib.hid hTb
     have HTo := Lib.hid hTo
     have Hlc := Lib.hid hlc
     have H67 := Lib.hid h67
     have Hn7 := Lib.hid hn7
     clear hnew hlw hTb hTo hlc h67 hn7
     go_wp2_with fail
     go_meet
     exact ⟨none, 0, 0, _, 1, 1, rfl, rfl, rfl, Hn7.out, H67.out⟩
  ·as_aux_lemma =>
    have x0' : w6.cell? ⟨ob, 0, none⟩ = some (.int .i64 15) := by rw [x0, hk]
    have hsm : K.2 = 0 → (K.1.p ++ K.1.x).length ≤ 2 ∧ ∀ t ∈ K.1.p ++ K.1.x, t.c = g.c := fun h => by
     rw [← HK.out] at h ⊢
     exact bt_same (o := o) (.inr hk) h
    have k8 : (o.kind == 8) = false := by rw [hk]; rfl
    have k9 : (o.kind == 9) = false := by rw [hk]; rfl
    have k10 : (o.kind == 10) = false := by rw [hk]; rfl
    have k11 : (o.kind == 11) = false := by rw [hk]; rfl
    have k12 : (o.kind == 12) = false := by rw [hk]; rfl
    have k13 : (o.kind == 13) = false := by rw [hk]; rfl
    have k14 : (o.kind == 14) = false := by rw [hk]; rfl
    have k15 : (o.kind == 15) = true := by rw [hk]; rfl
    clear hk hkr x0 x1
    by_cases hK0 : K.2 = 0
    case neg =>
     have d9 : (K.2 != 0) = true := by simpa using hK0
     clear hK0 hsm
     generalize K.2 = ke at *
     go_wp2_with fail
     refine (awake10 _).mono ?_
     rintro e w9 ⟨rfl, hb9⟩
     go_wp2_with fail
     go_ret
     exact ⟨rfl, H06.out.call hb9⟩
    have d9 : (K.2 != 0) = false := by simpa using hK0
    obtain ⟨e1, e2, t1, t2⟩ := Hj6.out hK0
    obtain ⟨hl2, hev⟩ := hsm hK0
    clear hK0 hsm
    subst e1 e2
    generalize K.2 = ke at *
    generalize K.1.p = kp at *
    generalize K.1.x = kx at *
    have hpx : kp.length + kx.length ≤ 2 := by simpa using hl2
    have b0 : w6.cell? ⟨bb, 0, none⟩ = some (.slice A4 kp.length kp.length) := by rw [Hb6.out.cell]; rfl
    have b1 : w6.cell? ⟨bb, 1, none⟩ = some (.slice B4 kx.length kx.length) := by rw [Hb6.out.cell]; rfl
    have hbb6 : bb < w6.heap.size := Hb6.out.lt
    have Ht1 := Lib.hid t1
    have Ht2 := Lib.hid t2
    have Hev := Lib.hid hev
    clear t1 t2 hev
    go_upto_region 28 with fail
    clear x0' d9 k8 k9 k10 k11 k12 k13 k14 k15
    have hown0 : ((w6.drew).alloc (.cells #[] 30)).ownsRow w6.heap.size 30 2 (.slice (some ⟨w6.heap.size, 0, none⟩) 0 0) 0 [] := own_zero (heap_alloc_new w6.drew _) (Nat.le_refl _)
    have hb4 : Below w6.heap.size w6 ((w6.drew).alloc (.cells #[] 30)) := ((Later.refl w6).drew).alloc _
    obtain ⟨i0, hi, hz0, hz1, hz2⟩ := info_parts tenT_info
    have Hown0 := Lib.hid hown0
    have Hb4 := Lib.hid hb4
    clear hown0 hb4
    have KF := Lib.hid (show ∀ Xw, Later w6 Xw → Xw.cell? ⟨bb, 0, none⟩ = some (.slice A4 kp.length kp.length) ∧ Xw.cell? ⟨bb, 1, none⟩ = some (.slice B4 kx.length kx.length) from fun Xw h => ⟨h.cell b0, h.cell b1⟩)
    refine wp_region_noPanic ?_
    refine wp_region_held_drew (S := fun Xw => Xw.cell? ⟨bb, 0, none⟩ = some (.slice A4 kp.length kp.length) ∧ Xw.cell? ⟨bb, 1, none⟩ = some (.slice B4 kx.length kx.length)) (by kernel_rfl) (KF.out _ Later.au) (fun hHeld => ?_)
    refine tk 1 ?_
    refine tk 2 ?_
    refine tk 4 ?_
    refine tk 5 ?_
    refine tk 8 ?_
    refine rd 0 fun K hK => ?_
    simp only [ga, gz]
    go_simp
    refine hK.out _ _ (KF.out _ Later.au) (fun hHeld => ?_)
    clear hK K
    try simp only [ga, gs, gz, Act.put, sa, sz, ss]
    refine rd 3 fun K hK => ?_
    refine step_append_tens (by rfl) _ _ 27 (by rfl) w6.heap.size 30 i0 Tryz.underlying27 hi hz0 hz1 hz2 w6.heap.size 0 0 _ [] (by rfl) Hown0.out w6 (RowT.nil _) A4 _ kp (by rfl) Ht1.out Hb4.out (Nat.le_refl _) (by simp) (by omega) ?_
    intro g1 c1 w7 vs1 hown1 hrow1 hb6 hbb7
    have hl6 : Later w6 w7 := Below.trans (((Later.refl w6).drew).alloc _) hbb7
    have b0 := hl6.cell b0
    have b1 := hl6.cell b1
    have HO1 := Lib.hid hown1
    have HR1 := Lib.hid hrow1
    have HB6 := Lib.hid hb6
    have HS6 := Lib.hid hl6.size
    have HL6 := Lib.hid hl6
    clear hown1 hrow1 hb6 hbb7 hl6
    refine hK.out _ _ (by first | exact ⟨b0, b1⟩ | exact KF.out _ Later.au) (fun hHeld => ?_)
    clear hK K
    try simp only [ga, gs, gz, Act.put, sa, sz, ss]
    refine rd 6 fun K hK => ?_
    refine step_append_tens (by rfl) _ _ 27 (by rfl) w6.heap.size 30 i0 Tryz.underlying27 hi hz0 hz1 hz2 g1 _ c1 vs1 _ (by rfl) HO1.out w6 HR1.out B4 _ kx (by rfl) Ht2.out HB6.out (Nat.le_refl _) HS6.out (by omega) ?_
    intro g2 c2 w7 vs2 hown2 hrow2 hb7 hbb7
    have hl7 : Later w6 w7 := Below.trans HL6.out hbb7
    refine hK.out _ _ (KF.out _ Later.au) (fun hHeld => ?_)
    clear hK K
    try simp only [ga, gs, gz, Act.put, sa, sz, ss]
    refine tk 7 ?_
    clear KF
    refine wpAnyH_done (by kernel_rfl) ?_ _
    refine NoPanic.normal ?_
    clear hHeld b0 b1
    have en : 0 + kp.length + kx.length = kp.length + kx.length := by omega
    have hT9 : Tns w7 (some ⟨g2, 0, none⟩) (kp ++ kx) := by
     obtain ⟨A9, c9, e9, -, hT9, -, -⟩ := RowT.tns hrow2 hown2 hb7
     injection e9 with e9 _ _
     rw [e9]
     exact hT9
    have h07 := H06.out.trans hl7
    have hk7 := hl7.blk Hk6.out
    clear hown2 hrow2 hb7 hbb7 hl7 HO1 HR1 HB6 HS6 HL6 hl2 Hj6 Hown0 Hb4 hi hz0 hz1 hz2
    have HT9 := Lib.hid hT9
    have H07 := Lib.hid h07
    have Hk7 := Lib.hid hk7
    clear hT9 h07 hk7
    rw [en, Nat.zero_add]
    clear en
    go_wp2_with fail
    go_loopw [181] (fun i wx => ∃ k : Nat, k ≤ kp.length + kx.length ∧ i = .int .i64 (k : Int) ∧ Later w7 wx) (fun i _ => kp.length + kx.length - (intOf i).toNat)
    case atStart => exact ⟨0, Nat.zero_le _, rfl, Later.refl _⟩
    case round =>
     obtain ⟨k, hk, rfl, hlw⟩ := hrel
     by_cases hlt : k < kp.length + kx.length
     ·have hlt2 : k < (kp ++ kx).length := by simpa using hlt
      obtain ⟨ba, oa, S9, c9, C9, d9, e9, -, z0, z1, ht⟩ := (HT9.out.later hlw).at_ hlt2
      injection e9 with e9
      injection e9 with e9 e10 _
      subst e9 e10
      rw [Nat.zero_add] at z0 z1
      have he : (Ly.got (kp ++ kx) k).c = g.c := Hev.out _ (by rw [got_at hlt2]; exact List.getElem_mem _)
      have hkr := hlw.blk Hk7.out
      have h0r := H07.out.trans hlw
      generalize Ly.got (kp ++ kx) k = t at *
      have kk : (k : Int) < (kp.length : Int) + (kx.length : Int) := by omega
      have hbx := Blk.new wr 30 #[.slice S9 t.s.length c9, .slice C9 t.c.length d9]
      have hla := (Later.refl wr).alloc (.cells #[.slice S9 t.s.length c9, .slice C9 t.c.length d9] 30)
      have hkb := hla.blk hkr
      have hcl := law10_cells S9 C9 GS GC c9 d9 gc gd t g (wr.alloc (.cells #[.slice S9 t.s.length c9, .slice C9 t.c.length d9] 30)) (ht.later hla) (HG.out.later (h0r.trans hla)) he
      have h0a := h0r.trans hla
      have h7a := hlw.trans hla
      clear he ht hlt2 hkr
      have Hlw := Lib.hid hlw
      have H0r := Lib.hid h0r
      have Hbx := Lib.hid hbx
      have Hla := Lib.hid hla
      have Hkb := Lib.hid hkb
      have Hcl := Lib.hid hcl
      have H0a := Lib.hid h0a
      have H7a := Lib.hid h7a
      clear hlw h0r hbx hla hkb hcl h0a h7a
      go_upto_region 31 with fail
      clear z0 z1
      obtain ⟨y0, y1, y2, y3, y4, y5, y6, y7, y8, y9, y10, y11⟩ := case_cells12 Hkb.out
      clear y0 y1 y2 y3 y4 y5 y6 y7 y8 y9
      generalize wr.alloc (.cells #[.slice S9 t.s.length c9, .slice C9 t.c.length d9] 30) = wa at *
      generalize wr.heap.size = bx at *
      have m0 := Hbx.out.cell 0
      have m1 := Hbx.out.cell 1
      simp at m0 m1
      go_wp2_with fail
      refine (Hcl.out).mono ?_
      rintro e wq ⟨rfl, hbq⟩
      have h7q := H7a.out.call hbq
      clear hbq m0 m1 y10 y11
      have H7q := Lib.hid h7q
      clear h7q
      go_wp2_with fail
      go_roundw
      case rel => exact ⟨k + 1, by omega, by go_num, H7q.out⟩
      case measure => simp [intOf]; omega
     ·obtain rfl : k = kp.length + kx.length := by omega
      have h0r := H07.out.trans hlw
      have Hlw := Lib.hid hlw
      have H0r := Lib.hid h0r
      clear hlw h0r
      go_wp2_with fail
      refine (awake10 _).mono ?_
      rintro e w9 ⟨rfl, hb9⟩
      go_wp2_with fail
      go_ret
      exact ⟨rfl, H0r.out.call hb9⟩
 case rest =>
  obtain ⟨A7, na7, ka7, B7, nb7, kb7, rfl, rfl, rfl, hn7, h67⟩ := hcut
  clear x0 x1 hkr
  have h07 := H06.out.trans h67
  have hb7' := h67.blk Hb6.out
  have Hb7 := Lib.hid hb7'
  have hj7 : K.2 = 0 → na = K.1.p.length ∧ nb = K.1.x.length ∧ Tns wc A4 K.1.p ∧ Tns wc B4 K.1.x := fun h => by
   obtain ⟨e1, e2, e3, e4⟩ := Hj6.out h
   exact ⟨e1, e2, e3.later h67, e4.later h67⟩
  clear hb7'
  have H67 := Lib.hid h67
  have H07 := Lib.hid h07
  have Hn7 := Lib.hid hn7
  have Hj7 := Lib.hid hj7
  clear h67 h07 hn7 hj7
  by_cases hK0 : K.2 = 0
  case neg =>
   have d9 : (K.2 != 0) = true := by simpa using hK0
   have d8 : (K.2 == K.2) = true := by simp
   clear hK0
   generalize K.2 = ke at *
   go_wp2_with fail
   refine (awake10 _).mono ?_
   rintro e w9 ⟨rfl, hb9⟩
   go_wp2_with fail
   go_ret
   exact ⟨rfl, H07.out.call hb9⟩
  obtain ⟨e1, e2, t1, t2⟩ := Hj7.out hK0
  obtain ⟨e3, e4, t3, t4, hl1, hl2⟩ := Hn7.out hK0
  have d9 : (K.2 != 0) = false := by simpa using hK0
  have d8 : (K.2 == 0) = true := by simpa using hK0
  have c0 := Hb7.out.cell 0
  have c1 := Hb7.out.cell 1
  simp at c0 c1
  subst e1 e2 e3 e4
  clear hK0
  generalize K.2 = ke at *
  generalize K.1.p = kp at *
  generalize K.1.x = kx at *
  have Ht1 := Lib.hid t1
  have Ht2 := Lib.hid t2
  have Ht3 := Lib.hid t3
  have Ht4 := Lib.hid t4
  clear t1 t2 t3 t4
  go_wp2_with fail
  refine (law10_list A4 A7 _ _ kp wc Ht1.out Ht3.out hl1).mono ?_
  rintro e w8 ⟨rfl, hb8⟩
  have h78 : Later wc w8 := hb8
  have h08 := H07.out.trans h78
  have c1' := h78.cell c1
  have t2' := Ht2.out.later h78
  have t4' := Ht4.out.later h78
  clear hb8 c0 c1 Ht2 Ht4
  have H78 := Lib.hid h78
  have H08 := Lib.hid h08
  have Ht2' := Lib.hid t2'
  have Ht4' := Lib.hid t4'
  clear h78 h08 t2' t4'
  go_wp2_with fail
  refine (law10_list B4 B7 _ _ kx w8 Ht2'.out Ht4'.out hl2).mono ?_
  rintro e w9 ⟨rfl, hb9⟩
  have h09 := H08.out.call hb9
  clear hb9 c1'
  have H09 := Lib.hid h09
  clear h09
  go_wp2_with fail
  refine (awake10 _).mono ?_
  rintro e w10 ⟨rfl, hb10⟩
  go_wp2_with fail
  go_ret
  exact ⟨rfl, H09.out.call hb10⟩
end Go.Proofs.YtbnnpkcfifejmaaGreat
namespace Go.Proofs.YtbnnpkcfifejmaaGreat.opTells
open Go.ChangeShapes Go.WideShapes Go.ChangeAt Go.RowKit
open Go.ChangeMaps (open_string shut_string)
theorem own : ownKnob Tryz.prog.godebug = none := by kernel_rfl
theorem laidOut : laidOutB Tryz.prog = true := by kernel_rfl
set_option maxRecDepth 100000 in
theorem lifted (os : Os) (started : os.Started) (H : Type) (enc : TypeId × Value → H) (Fi : Stop.Interp) :
  ReturnsInHanded {} Tryz.checked os 3 .any ((Rows.OpenSpec.upto Rows.opTellsSpec).pre6 enc Tryz.prog Tryz.f3 Rows.opTellsUptoRow.domain false) (((Rows.OpenSpec.upto Rows.opTellsSpec).at Fi).post enc Tryz.prog Tryz.f3 false true false false) := by
 refine returnsInHanded_of_cond (C := Tryz.checked) (s := Rows.OpenSpec.upto Rows.opTellsSpec) (k := Rows.uptoSmall) rfl own started (by kernel_rfl) Tryz.func3
  (OpenSpec.witness (enc := enc) (C := Tryz.checked) (s := Rows.OpenSpec.upto Rows.opTellsSpec) (k := Rows.uptoSmall) rfl false ⟨#[], #[.agg #[.int .i64 0, .int .i64 0, .int .i64 0, .int .i64 0, .int .i64 0, .int .i64 0, .int .i64 0, .slice none 0 0, .slice none 0 0, .slice none 0 0, .slice none 0 0, .slice none 0 0]], []⟩ 8 (by kernel_rfl) (by kernel_rfl) (by kernel_rfl)
   (x := ([.agg [.agg [.lit (.int .i64 0), .lit (.int .i64 0), .lit (.int .i64 0), .lit (.int .i64 0), .lit (.int .i64 0), .lit (.int .i64 0), .lit (.int .i64 0), .nil], .nil, .nil, .agg [.nil, .nil]]], [], [])) (by kernel_rfl) rfl (by kernel_rfl)) ?_
 intro W base args ds gs before hval0 hW hcnd hbulk _
 have hval : ∀ (j : Nat) t v, Tryz.f3.params[j]? = some t → args[j]? = some v → Value.okWide Tryz.prog W .any base t v := hval0
 have hW' := hW
 obtain ⟨p, q, hA0, hV, rfl, hfz, hnd⟩ := hW
 have hA : DataW.TrodAll enc Tryz.prog W 0 (fun _ => true) true Tryz.f3.params.toList args.toList ds p := hA0
 rw [Tryz.params3] at hA hval
 obtain ⟨v0, vs0, d0, ds0, p0, q0, hargs, rfl, rfl, h0, r0⟩ := trodAll_cons hA
 obtain ⟨rfl, rfl, rfl⟩ := trodAll_nil r0
 obtain rfl : args = #[v0] := by cases args; simp_all
 obtain ⟨rfl, rfl⟩ := trodVars_none hV
 have hbk : Rows.uptoBulkAll ([d0] ++ []) ≤ 1048576 := of_decide_eq_true hbulk
 have hz0 : Rows.uptoBulk d0 ≤ 1048576 := Nat.le_trans (bulk_part (by simp)) hbk
 have k0 := h0
 have lt0 : ∀ x ∈ p0, x.block < W.heap.size := by obtain ⟨m, hm⟩ := k0; exact DataW.trod_lt m _ _ _ hm
 obtain ⟨S0, c0, o0, P0, cp0, ps0, X0, cx0, xs0, GS0, GC0, gc0, gd0, g0, rfl, hI0, lc0, lm0, lo0, hw0, hs0, hP0, lp0, mp0, np0, hX0, lx0, mx0, nx0, hG0⟩ := gcase_open (hval 0 32 v0 rfl rfl) h0 hz0
 clear hA0 hval0
 refine (walkOpTells W S0 c0 o0 P0 cp0 ps0 X0 cx0 xs0 GS0 GC0 gc0 gd0 g0 hI0 lo0 hw0 hP0 lp0 np0 hX0 lx0 mx0 nx0 hG0).mono fun e W' ⟨he, bel⟩ => ?_
 subst he
 exact ⟨_, rfl, _, _, _, [], _, [], hW', trodAll_mk1 (shut_bool Tryz.underlying4 _), (trodAll_cons_mk (Below.trod laidOut (by kernel_rfl) (of_decide_eq_true (by kernel_rfl)) k0 bel lt0) trodAll_mk0), rfl, bel.frame _, fun h => by cases h⟩
theorem over : Rows.opTellsUptoRow.holds Tryz.pinned (Rows.OpenSpec.upto Rows.opTellsSpec) :=
 OpenClaim.holds_of_cond 3 Tryz.f3 rfl rfl rfl rfl rfl rfl rfl ⟨rfl, rfl, rfl, rfl, rfl⟩ rfl rfl rfl rfl rfl (by kernel_rfl) Tryz.func3 (by kernel_rfl)
  (of_decide_eq_true (by kernel_rfl)) (by unfold Func.isWrapper; first | (rw [if_pos (by decide +kernel)]; kernel_rfl) | (rw [if_neg (by decide +kernel)]; exact ⟨rfl, rfl⟩))
  (fun os started H enc _ Fi => lifted os started H enc Fi)
end Go.Proofs.YtbnnpkcfifejmaaGreat.opTells
namespace Go.Proofs.YtbnnpkcfifejmaaGreat
theorem opTells_holds : Rows.OpTellsUptoSaid := opTells.over
#print axioms opTells_holds
end Go.Proofs.YtbnnpkcfifejmaaGreat

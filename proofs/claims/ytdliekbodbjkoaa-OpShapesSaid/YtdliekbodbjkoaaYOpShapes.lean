/- The statement Rows.OpShapesSaid is proved: for every input the law 'athanorlaw10.OpShapes' returns true, and each argument reads afterwards as it read before. Conditions: those of the row, no others. -/
import Derived.Below
import Derived.ChangeOld
import Derived.Deep.RegionHeld3
import Derived.OpenShut
import Derived.ProofKit
import Derived.ShutString
import Derived.WalkKit
import Derived.Test.YtdliekbodbjkoaaRows
import Derived.Test.YtdliekbodbjkoaaZ05
set_option linter.unusedVariables false
/- Layer 10's statement OpShapes: the walk. -/
namespace Go.Proofs.Ytdliekbodbjkoaa
open Go.RowKit
theorem shs_ten {W : World} {g : Nat} {t : TypeId} {o : OpD} {S P X : Option Addr} {c d f : Nat} {p x : List (List Int)} (h : Blk W g t #[.int .i64 o.kind, .int .i64 o.k, .int .i64 o.width, .int .i64 o.step, .int .i64 o.side, .int .i64 o.frm, .int .i64 o.to, .slice S o.s.length c, .slice P p.length d, .slice X x.length f]) : W.cell? ⟨g, 0, none⟩ = some (.int .i64 o.kind) ∧ W.cell? ⟨g, 1, none⟩ = some (.int .i64 o.k) ∧ W.cell? ⟨g, 2, none⟩ = some (.int .i64 o.width) ∧ W.cell? ⟨g, 3, none⟩ = some (.int .i64 o.step) ∧ W.cell? ⟨g, 4, none⟩ = some (.int .i64 o.side) ∧ W.cell? ⟨g, 5, none⟩ = some (.int .i64 o.frm) ∧ W.cell? ⟨g, 6, none⟩ = some (.int .i64 o.to) ∧ W.cell? ⟨g, 7, none⟩ = some (.slice S o.s.length c) ∧ W.cell? ⟨g, 8, none⟩ = some (.slice P p.length d) ∧ W.cell? ⟨g, 9, none⟩ = some (.slice X x.length f) :=
  ⟨h.cell 0, h.cell 1, h.cell 2, h.cell 3, h.cell 4, h.cell 5, h.cell 6, h.cell 7, h.cell 8, h.cell 9⟩
def ShCut (w5 : World) (r : List Int × Int) (a b : Value) (wx : World) : Prop := ∃ T tc, a = .slice T r.1.length tc ∧ b = .int .i64 r.2 ∧ Ints .i64 wx T r.1 ∧ Later w5 wx
set_option maxHeartbeats 16000000 in
set_option maxRecDepth 100000 in
theorem walkOpShapes (w : World) (S : Option Addr) (c : Nat) (o : OpD) (P : Option Addr) (d : Nat) (p : List (List Int)) (X : Option Addr) (f : Nat) (x : List (List Int)) (hI : Ints .i64 w S o.s) (lc : o.s.length ≤ c) (lm : c ≤ 9223372036854775807) (hw : o.wide) (hP : Shps w P p) (lp : p.length ≤ d) (mp : d ≤ 9223372036854775807) (hX : Shps w X x) (lx : x.length ≤ f) (mx : f ≤ 9223372036854775807) :
    Calls Try.prog 4 #[.agg #[.int .i64 o.kind, .int .i64 o.k, .int .i64 o.width, .int .i64 o.step, .int .i64 o.side, .int .i64 o.frm, .int .i64 o.to, .slice S o.s.length c, .slice P p.length d, .slice X x.length f]] w fun e w' => e = .returned (.bool true) ∧ Below w.heap.size w w' := by
  have hk := Blk.new w 43 #[.int .i64 o.kind, .int .i64 o.k, .int .i64 o.width, .int .i64 o.step, .int .i64 o.side, .int .i64 o.frm, .int .i64 o.to, .slice S o.s.length c, .slice P p.length d, .slice X x.length f]
  have h0 : Later w (w.alloc (.cells #[.int .i64 o.kind, .int .i64 o.k, .int .i64 o.width, .int .i64 o.step, .int .i64 o.side, .int .i64 o.frm, .int .i64 o.to, .slice S o.s.length c, .slice P p.length d, .slice X x.length f] 43)) := (Later.refl w).alloc _
  have Hk := Lib.hid hk
  have H0 := Lib.hid h0
  have HI := Lib.hid hI
  have Hw := Lib.hid hw
  have HP := Lib.hid hP
  have HX := Lib.hid hX
  clear hk h0 hI hw hP hX
  go_enter Try.func4, Try.ntmps4
  go_wp2_with fail
  generalize w.alloc (.cells #[.int .i64 o.kind, .int .i64 o.k, .int .i64 o.width, .int .i64 o.step, .int .i64 o.side, .int .i64 o.frm, .int .i64 o.to, .slice S o.s.length c, .slice P p.length d, .slice X x.length f] 43) = w1 at *
  refine (law10_few o S P X c d f p x w1 (HP.out.below H0.out (Nat.le_refl _)) (HX.out.below H0.out (Nat.le_refl _))).mono ?_
  rintro e w2 ⟨rfl, hb2⟩
  have h02 := H0.out.call hb2
  have hk2 := (show Later w1 w2 from hb2).blk Hk.out
  clear hb2
  cases hfw : fewV o p x
  · have H02 := Lib.hid h02
    have Hk2 := Lib.hid hk2
    have Hfw := Lib.hid hfw
    clear h02 hk2 hfw
    go_wp2_with fail
    refine (awake10 _).mono ?_
    rintro e w3 ⟨rfl, hb3⟩
    go_wp2_with fail
    go_ret
    exact ⟨rfl, H02.out.call hb3⟩
  obtain ⟨f1, f2, f3, f4⟩ := Od.few_ok hfw
  have f5 : ∀ s ∈ p, s.length ≤ 17592186043904 := fun s hs => by have := f4 s (by simp [hs]); omega
  have f6 : ∀ s ∈ x, s.length ≤ 17592186043904 := fun s hs => by have := f4 s (by simp [hs]); omega
  have hPin := fun (V : World) (h : Later w V) => (⟨HP.out.below h (Nat.le_refl _), lp, mp, f5⟩ : ShpIn V P d p)
  have hXin := fun (V : World) (h : Later w V) => (⟨HX.out.below h (Nat.le_refl _), lx, mx, f6⟩ : ShpIn V X f x)
  obtain ⟨y0, y1, y2, y3, y4, y5, y6, y7, y8, y9⟩ := shs_ten hk2
  have H02 := Lib.hid h02
  have Hk2 := Lib.hid hk2
  have Hfw := Lib.hid hfw
  have Hf4 := Lib.hid f4
  have Hf5 := Lib.hid f5
  have Hf6 := Lib.hid f6
  have HPin := Lib.hid hPin
  have HXin := Lib.hid hXin
  clear h02 hk2 hfw f4 f5 f6 hPin hXin
  go_wp2_with fail
  refine (op_shape o S P X c d f p x w2 (by omega) (HI.out.below H02.out (Nat.le_refl _)) (HPin.out _ H02.out) (HXin.out _ H02.out)).mono ?_
  rintro e w3 ⟨Sr, cr, rfl, hSI, -, -, -, hb3⟩
  have h23 : Later w2 w3 := hb3
  have h03 := H02.out.trans h23
  have hk3 := h23.blk Hk2.out
  clear hb3 y0 y1 y2 y3 y4 y5 y6 y7 y8 y9
  obtain ⟨y0, y1, y2, y3, y4, y5, y6, y7, y8, y9⟩ := shs_ten hk3
  have H23 := Lib.hid h23
  have H03 := Lib.hid h03
  have Hk3 := Lib.hid hk3
  have HSI := Lib.hid hSI
  clear h23 h03 hk3 hSI
  go_wp2_with fail
  refine (op_cost o S P X c d f p x w3 (by omega) (HI.out.below H03.out (Nat.le_refl _)) (HPin.out _ H03.out) (HXin.out _ H03.out)).mono ?_
  rintro e w4 ⟨rfl, hb4⟩
  have h34 : Later w3 w4 := hb4
  have h04 := H03.out.trans h34
  have hk4 := h34.blk Hk3.out
  clear hb4 y0 y1 y2 y3 y4 y5 y6 y7 y8 y9
  obtain ⟨y0, y1, y2, y3, y4, y5, y6, y7, y8, y9⟩ := shs_ten hk4
  have H34 := Lib.hid h34
  have H04 := Lib.hid h04
  have Hk4 := Lib.hid hk4
  clear h34 h04 hk4
  go_wp2_with fail
  refine (law10_many o S P X c d f p x w4 f3 (HI.out.below H04.out (Nat.le_refl _)) f1 f2 Hf4.out (HP.out.below H04.out (Nat.le_refl _)) (HX.out.below H04.out (Nat.le_refl _))).mono ?_
  rintro e w5 ⟨rfl, hb5⟩
  have h45 : Later w4 w5 := hb5
  have h05 := H04.out.trans h45
  have hk5 := h45.blk Hk4.out
  have hSI5 := HSI.out.below (H34.out.trans h45) (Nat.le_refl _)
  clear hb5 y0 y1 y2 y3 y4 y5 y6 y7 y8 y9 HSI
  by_cases hm : manyV o p x = 0
  rotate_left
  · have e1 := Od.many_bad hm
    have e2 : Od.cost o p x = (0, manyV o p x) := by unfold Od.cost; rw [if_neg (by rw [e1]; exact hm), e1]
    rw [e2, e1]
    have q0 : (manyV o p x != 0) = true := by simpa using hm
    have q1 : (manyV o p x == manyV o p x) = true := by simp
    clear hSI5 e1 e2 hm
    generalize manyV o p x = mv at *
    have H45 := Lib.hid h45
    have H05 := Lib.hid h05
    have Hk5 := Lib.hid hk5
    clear h45 h05 hk5
    go_wp2_with fail
    refine (awake10 _).mono ?_
    rintro e w6 ⟨rfl, hb6⟩
    go_wp2_with fail
    go_ret
    exact ⟨rfl, H05.out.call hb6⟩
  · obtain ⟨m1, m2, m3, m4, m5⟩ := Od.many_ok hm
    rw [hm]
    obtain ⟨y0, y1, y2, y3, y4, y5, y6, y7, y8, y9⟩ := shs_ten hk5
    have hp1 := fun (V : World) (h : Later w5 V) => law10_plain P d p V (by omega) (HP.out.below (h05.trans h) (Nat.le_refl _))
    have hp2 := fun (V : World) (h : Later w5 V) => law10_plain X f x V (by omega) (HX.out.below (h05.trans h) (Nat.le_refl _))
    have hsh := fun (V : World) (h : Later w5 V) (A B : Option Addr) (a b : Nat) (hA : Shps V A p) (hB : Shps V B x) => ref10_shape o S A B c a b p x V m1 m2 (by omega) lc lm Hw.out (HI.out.below (h05.trans h) (Nat.le_refl _)) hA hB m3 m4
    rw [← m5] at hsh
    clear hm
    have H45 := Lib.hid h45
    have H05 := Lib.hid h05
    have Hk5 := Lib.hid hk5
    have HSI5 := Lib.hid hSI5
    have Hm1 := Lib.hid m1
    have Hm2 := Lib.hid m2
    have Hm3 := Lib.hid m3
    have Hm4 := Lib.hid m4
    have Hm5 := Lib.hid m5
    have Hp1 := Lib.hid hp1
    have Hp2 := Lib.hid hp2
    have Hsh := Lib.hid hsh
    clear h45 h05 hk5 hSI5 m1 m2 m3 m4 m5 hp1 hp2 hsh
    go_upto_region 8 with fail
    go_cut [8, 9] (ShCut w5 (Od.shape o p x))
    case first =>
      go_region_held3 (fun W => W.cell? ⟨w.heap.size, 0, none⟩ = some (.int .i64 o.kind) ∧ W.cell? ⟨w.heap.size, 1, none⟩ = some (.int .i64 o.k) ∧ W.cell? ⟨w.heap.size, 2, none⟩ = some (.int .i64 o.width) ∧ W.cell? ⟨w.heap.size, 3, none⟩ = some (.int .i64 o.step) ∧ W.cell? ⟨w.heap.size, 4, none⟩ = some (.int .i64 o.side) ∧ W.cell? ⟨w.heap.size, 5, none⟩ = some (.int .i64 o.frm) ∧ W.cell? ⟨w.heap.size, 6, none⟩ = some (.int .i64 o.to) ∧ W.cell? ⟨w.heap.size, 7, none⟩ = some (.slice S o.s.length c) ∧ W.cell? ⟨w.heap.size, 8, none⟩ = some (.slice P p.length d) ∧ W.cell? ⟨w.heap.size, 9, none⟩ = some (.slice X x.length f)) (first | (with_reducible exact ⟨y0, y1, y2, y3, y4, y5, y6, y7, y8, y9⟩) | (have hL := (show Later w5 _ by repeat (first | (with_reducible exact Later.refl _) | (with_reducible apply Later.drew) | (with_reducible apply Later.drewN) | (with_reducible apply Later.alloc) | (with_reducible refine Later.call ?_ (by assumption)))); exact ⟨hL.cell y0, hL.cell y1, hL.cell y2, hL.cell y3, hL.cell y4, hL.cell y5, hL.cell y6, hL.cell y7, hL.cell y8, hL.cell y9⟩) | exact ⟨Later.cell (show Later w5 _ by repeat (first | (with_reducible exact Later.refl _) | (with_reducible apply Later.drew) | (with_reducible apply Later.drewN) | (with_reducible apply Later.alloc) | (with_reducible refine Later.call ?_ (by assumption)))) y0, Later.cell (show Later w5 _ by repeat (first | (with_reducible exact Later.refl _) | (with_reducible apply Later.drew) | (with_reducible apply Later.drewN) | (with_reducible apply Later.alloc) | (with_reducible refine Later.call ?_ (by assumption)))) y1, Later.cell (show Later w5 _ by repeat (first | (with_reducible exact Later.refl _) | (with_reducible apply Later.drew) | (with_reducible apply Later.drewN) | (with_reducible apply Later.alloc) | (with_reducible refine Later.call ?_ (by assumption)))) y2, Later.cell (show Later w5 _ by repeat (first | (with_reducible exact Later.refl _) | (with_reducible apply Later.drew) | (with_reducible apply Later.drewN) | (with_reducible apply Later.alloc) | (with_reducible refine Later.call ?_ (by assumption)))) y3, Later.cell (show Later w5 _ by repeat (first | (with_reducible exact Later.refl _) | (with_reducible apply Later.drew) | (with_reducible apply Later.drewN) | (with_reducible apply Later.alloc) | (with_reducible refine Later.call ?_ (by assumption)))) y4, Later.cell (show Later w5 _ by repeat (first | (with_reducible exact Later.refl _) | (with_reducible apply Later.drew) | (with_reducible apply Later.drewN) | (with_reducible apply Later.alloc) | (with_reducible refine Later.call ?_ (by assumption)))) y5, Later.cell (show Later w5 _ by repeat (first | (with_reducible exact Later.refl _) | (with_reducible apply Later.drew) | (with_reducible apply Later.drewN) | (with_reducible apply Later.alloc) | (with_reducible refine Later.call ?_ (by assumption)))) y6, Later.cell (show Later w5 _ by repeat (first | (with_reducible exact Later.refl _) | (with_reducible apply Later.drew) | (with_reducible apply Later.drewN) | (with_reducible apply Later.alloc) | (with_reducible refine Later.call ?_ (by assumption)))) y7, Later.cell (show Later w5 _ by repeat (first | (with_reducible exact Later.refl _) | (with_reducible apply Later.drew) | (with_reducible apply Later.drewN) | (with_reducible apply Later.alloc) | (with_reducible refine Later.call ?_ (by assumption)))) y8, Later.cell (show Later w5 _ by repeat (first | (with_reducible exact Later.refl _) | (with_reducible apply Later.drew) | (with_reducible apply Later.drewN) | (with_reducible apply Later.alloc) | (with_reducible refine Later.call ?_ (by assumption)))) y9⟩)
        (first
        | (go_at_call 10; refine (law10_ref o S c _).mono ?_; rintro e wr ⟨rfl, hbr⟩)
        | (go_at_call 21; (with_reducible refine (Hp1.out _ (show Later w5 _ by repeat (first | (with_reducible exact Later.refl _) | (with_reducible apply Later.drew) | (with_reducible apply Later.drewN) | (with_reducible apply Later.alloc) | (with_reducible refine Later.call ?_ (by assumption))))).mono ?_); rintro e wp ⟨⟨Ap, cp, rfl, hSp, hp1, hp2⟩, hbp⟩)
        | (go_at_call 21; (with_reducible refine (Hp2.out _ (show Later w5 _ by repeat (first | (with_reducible exact Later.refl _) | (with_reducible apply Later.drew) | (with_reducible apply Later.drewN) | (with_reducible apply Later.alloc) | (with_reducible refine Later.call ?_ (by assumption))))).mono ?_); rintro e wq ⟨⟨Aq, cq, rfl, hSq, hq1, hq2⟩, hbq⟩)
        | (go_at_call 20; refine (Hsh.out _ (show Later w5 _ by repeat (first | (with_reducible exact Later.refl _) | (with_reducible apply Later.drew) | (with_reducible apply Later.drewN) | (with_reducible apply Later.alloc) | (with_reducible refine Later.call ?_ (by assumption)))) Ap Aq cp cq (hSp.below (show Later wp _ by repeat (first | (with_reducible exact Later.refl _) | (with_reducible apply Later.drew) | (with_reducible apply Later.drewN) | (with_reducible apply Later.alloc) | (with_reducible refine Later.call ?_ (by assumption)))) (Nat.le_refl _)) (hSq.below (show Later wq _ by repeat (first | (with_reducible exact Later.refl _) | (with_reducible apply Later.drew) | (with_reducible apply Later.drewN) | (with_reducible apply Later.alloc) | (with_reducible refine Later.call ?_ (by assumption)))) (Nat.le_refl _))).mono ?_; rintro e wz ⟨T, tc, rfl, hTz, ht1, ht2, hbz⟩))
      all_goals
        go_wp2_with fail
        go_meet
        exact ⟨T, tc, rfl, rfl, hTz.below (show Later wz _ by repeat (first | (with_reducible exact Later.refl _) | (with_reducible apply Later.drew) | (with_reducible apply Later.drewN) | (with_reducible apply Later.alloc) | (with_reducible refine Later.call ?_ (by assumption)))) (Nat.le_refl _), (show Later w5 _ by repeat (first | (with_reducible exact Later.refl _) | (with_reducible apply Later.drew) | (with_reducible apply Later.drewN) | (with_reducible apply Later.alloc) | (with_reducible refine Later.call ?_ (by assumption))))⟩
    case rest =>
      obtain ⟨T, tc, rfl, rfl, hT, hlc⟩ := hcut
      have h0c := H05.out.trans hlc
      have hkc := hlc.blk Hk5.out
      have hSIc := HSI5.out.below hlc (Nat.le_refl _)
      clear y0 y1 y2 y3 y4 y5 y6 y7 y8 y9 Hp1 Hp2 Hsh
      obtain ⟨y0, y1, y2, y3, y4, y5, y6, y7, y8, y9⟩ := shs_ten hkc
      by_cases hz : (Od.shape o p x).2 = 0
      rotate_left
      · have e1 := Od.shape_err hz
        have e2 : Od.cost o p x = (0, (Od.shape o p x).2) := by unfold Od.cost; rw [if_neg hz]
        rw [e2, e1]
        have q0 : ((Od.shape o p x).2 != 0) = true := by simpa using hz
        have q1 : ((Od.shape o p x).2 == (Od.shape o p x).2) = true := by simp
        clear hSIc hT e1 e2 hz HSI5 Hm5
        generalize (Od.shape o p x).2 = mv at *
        have H0c := Lib.hid h0c
        have Hkc := Lib.hid hkc
        have Hlc := Lib.hid hlc
        clear h0c hkc hlc
        go_wp2_with fail
        refine (awake10 _).mono ?_
        rintro e w6 ⟨rfl, hb6⟩
        go_wp2_with fail
        go_ret
        exact ⟨rfl, H0c.out.call hb6⟩
      · have e2 : Od.cost o p x = (Od.costV o p (Od.shape o p x).1, 0) := by unfold Od.cost; rw [if_pos hz]
        rw [e2, hz]
        have hl4 : (Od.shape o p x).1.length ≤ 4 := (right_short (Od.shape_right hz)).2
        have hp1 := fun (V : World) (h : Later wc V) => law10_plain P d p V (by omega) (HP.out.below (h0c.trans h) (Nat.le_refl _))
        have hsm := fun (V : World) (h : Later wc V) => ref03_same Sr T cr tc (Od.shape o p x).1 (Od.shape o p x).1 V (by omega) (by omega) (hSIc.below h (Nat.le_refl _)) (hT.below h (Nat.le_refl _))
        have hcs := fun (V : World) (h : Later wc V) (A : Option Addr) (a : Nat) (hA : Shps V A p) => ref10_cost o S A T c a tc p x V hz hA (hT.below h (Nat.le_refl _))
        rw [decide_eq_true rfl] at hsm
        have q1 : (Od.costV o p (Od.shape o p x).1 == Od.costV o p (Od.shape o p x).1) = true := by simp
        clear hSIc hT e2 hz HSI5 Hm5 hl4
        generalize (Od.shape o p x).1 = s at *
        generalize Od.costV o p s = cv at *
        have H0c := Lib.hid h0c
        have Hkc := Lib.hid hkc
        have Hlc := Lib.hid hlc
        have Hp1 := Lib.hid hp1
        have Hsm := Lib.hid hsm
        have Hcs := Lib.hid hcs
        clear h0c hkc hlc hp1 hsm hcs
        go_upto_region 11 with fail
        go_region_held3 (fun W => W.cell? ⟨w.heap.size, 0, none⟩ = some (.int .i64 o.kind) ∧ W.cell? ⟨w.heap.size, 1, none⟩ = some (.int .i64 o.k) ∧ W.cell? ⟨w.heap.size, 2, none⟩ = some (.int .i64 o.width) ∧ W.cell? ⟨w.heap.size, 3, none⟩ = some (.int .i64 o.step) ∧ W.cell? ⟨w.heap.size, 4, none⟩ = some (.int .i64 o.side) ∧ W.cell? ⟨w.heap.size, 5, none⟩ = some (.int .i64 o.frm) ∧ W.cell? ⟨w.heap.size, 6, none⟩ = some (.int .i64 o.to) ∧ W.cell? ⟨w.heap.size, 7, none⟩ = some (.slice S o.s.length c) ∧ W.cell? ⟨w.heap.size, 8, none⟩ = some (.slice P p.length d) ∧ W.cell? ⟨w.heap.size, 9, none⟩ = some (.slice X x.length f)) (first | (with_reducible exact ⟨y0, y1, y2, y3, y4, y5, y6, y7, y8, y9⟩) | (have hL := (show Later wc _ by repeat (first | (with_reducible exact Later.refl _) | (with_reducible apply Later.drew) | (with_reducible apply Later.drewN) | (with_reducible apply Later.alloc) | (with_reducible refine Later.call ?_ (by assumption)))); exact ⟨hL.cell y0, hL.cell y1, hL.cell y2, hL.cell y3, hL.cell y4, hL.cell y5, hL.cell y6, hL.cell y7, hL.cell y8, hL.cell y9⟩) | exact ⟨Later.cell (show Later wc _ by repeat (first | (with_reducible exact Later.refl _) | (with_reducible apply Later.drew) | (with_reducible apply Later.drewN) | (with_reducible apply Later.alloc) | (with_reducible refine Later.call ?_ (by assumption)))) y0, Later.cell (show Later wc _ by repeat (first | (with_reducible exact Later.refl _) | (with_reducible apply Later.drew) | (with_reducible apply Later.drewN) | (with_reducible apply Later.alloc) | (with_reducible refine Later.call ?_ (by assumption)))) y1, Later.cell (show Later wc _ by repeat (first | (with_reducible exact Later.refl _) | (with_reducible apply Later.drew) | (with_reducible apply Later.drewN) | (with_reducible apply Later.alloc) | (with_reducible refine Later.call ?_ (by assumption)))) y2, Later.cell (show Later wc _ by repeat (first | (with_reducible exact Later.refl _) | (with_reducible apply Later.drew) | (with_reducible apply Later.drewN) | (with_reducible apply Later.alloc) | (with_reducible refine Later.call ?_ (by assumption)))) y3, Later.cell (show Later wc _ by repeat (first | (with_reducible exact Later.refl _) | (with_reducible apply Later.drew) | (with_reducible apply Later.drewN) | (with_reducible apply Later.alloc) | (with_reducible refine Later.call ?_ (by assumption)))) y4, Later.cell (show Later wc _ by repeat (first | (with_reducible exact Later.refl _) | (with_reducible apply Later.drew) | (with_reducible apply Later.drewN) | (with_reducible apply Later.alloc) | (with_reducible refine Later.call ?_ (by assumption)))) y5, Later.cell (show Later wc _ by repeat (first | (with_reducible exact Later.refl _) | (with_reducible apply Later.drew) | (with_reducible apply Later.drewN) | (with_reducible apply Later.alloc) | (with_reducible refine Later.call ?_ (by assumption)))) y6, Later.cell (show Later wc _ by repeat (first | (with_reducible exact Later.refl _) | (with_reducible apply Later.drew) | (with_reducible apply Later.drewN) | (with_reducible apply Later.alloc) | (with_reducible refine Later.call ?_ (by assumption)))) y7, Later.cell (show Later wc _ by repeat (first | (with_reducible exact Later.refl _) | (with_reducible apply Later.drew) | (with_reducible apply Later.drewN) | (with_reducible apply Later.alloc) | (with_reducible refine Later.call ?_ (by assumption)))) y8, Later.cell (show Later wc _ by repeat (first | (with_reducible exact Later.refl _) | (with_reducible apply Later.drew) | (with_reducible apply Later.drewN) | (with_reducible apply Later.alloc) | (with_reducible refine Later.call ?_ (by assumption)))) y9⟩)
          (first
          | (go_at_call 12; (with_reducible refine (Hsm.out _ (show Later wc _ by repeat (first | (with_reducible exact Later.refl _) | (with_reducible apply Later.drew) | (with_reducible apply Later.drewN) | (with_reducible apply Later.alloc) | (with_reducible refine Later.call ?_ (by assumption))))).mono ?_); rintro e wa ⟨rfl, qa, rfl⟩)
          | (go_at_call 10; refine (law10_ref o S c _).mono ?_; rintro e wr ⟨rfl, hbr⟩)
          | (go_at_call 21; (with_reducible refine (Hp1.out _ (show Later wc _ by repeat (first | (with_reducible exact Later.refl _) | (with_reducible apply Later.drew) | (with_reducible apply Later.drewN) | (with_reducible apply Later.alloc) | (with_reducible refine Later.call ?_ (by assumption))))).mono ?_); rintro e wp ⟨⟨Ap, cp, rfl, hSp, hp1, hp2⟩, hbp⟩)
          | (go_at_call 22; refine (Hcs.out _ (show Later wc _ by repeat (first | (with_reducible exact Later.refl _) | (with_reducible apply Later.drew) | (with_reducible apply Later.drewN) | (with_reducible apply Later.alloc) | (with_reducible refine Later.call ?_ (by assumption)))) Ap cp (hSp.below (show Later wp _ by repeat (first | (with_reducible exact Later.refl _) | (with_reducible apply Later.drew) | (with_reducible apply Later.drewN) | (with_reducible apply Later.alloc) | (with_reducible refine Later.call ?_ (by assumption)))) (Nat.le_refl _))).mono ?_; rintro e wz ⟨rfl, hbz⟩)
          | (go_at_call 6; (with_reducible refine (awake10 _).mono ?_); rintro e we ⟨rfl, hbe⟩))
        all_goals
          have hle := H0c.out.trans (show Later wc we by repeat (first | (with_reducible exact Later.refl _) | (with_reducible apply Later.drew) | (with_reducible apply Later.drewN) | (with_reducible apply Later.alloc) | (with_reducible refine Later.call ?_ (by assumption))))
          have Hle := Lib.hid hle
          clear hle
          go_wp2_with fail
          go_ret
          exact ⟨rfl, Hle.out⟩
end Go.Proofs.Ytdliekbodbjkoaa
namespace Go.Proofs.Ytdliekbodbjkoaa.opShapes
open Go.ChangeShapes Go.WideShapes Go.ChangeAt Go.RowKit
open Go.ChangeMaps (open_string shut_string)

theorem own : ownKnob Try.prog.godebug = none := by kernel_rfl
theorem laidOut : laidOutB Try.prog = true := by kernel_rfl

set_option maxRecDepth 100000 in
theorem lifted (os : Os) (started : os.Started) (H : Type) (enc : TypeId × Value → H) :
    ReturnsInHanded {} Try.checked os 4 .any (Rows.opShapesSpec.pre6 enc Try.prog Try.f4 Rows.opShapesRow.domain false) (Rows.opShapesSpec.post enc Try.prog Try.f4 false true false false) := by
  refine returnsInHanded_of_change (C := Try.checked) own started (by kernel_rfl) Try.func4
    (ChangeSpec.witness6 (enc := enc) (C := Try.checked) false ⟨#[], #[.agg #[.int .i64 0, .int .i64 0, .int .i64 0, .int .i64 0, .int .i64 0, .int .i64 0, .int .i64 0, .slice none 0 0, .slice none 0 0, .slice none 0 0]], []⟩ 8 (by kernel_rfl) (by kernel_rfl) (by kernel_rfl) (by kernel_rfl)) ?_
  intro W base args ds gs before hval0 hW hcnd _
  have hval : ∀ (j : Nat) t v, Try.f4.params[j]? = some t → args[j]? = some v → Value.okWide Try.prog W .any base t v := hval0
  have hW' := hW
  obtain ⟨p, q, hA0, hV, rfl, hfz, hnd⟩ := hW
  have hA : DataW.TrodAll enc Try.prog W 0 (fun _ => true) true Try.f4.params.toList args.toList ds p := hA0
  rw [Try.params4] at hA hval
  obtain ⟨v0, vs0, d0, ds0, p0, q0, hargs, rfl, rfl, h0, r0⟩ := trodAll_cons hA
  obtain ⟨rfl, rfl, rfl⟩ := trodAll_nil r0
  obtain rfl : args = #[v0] := by cases args; simp_all
  obtain ⟨rfl, rfl⟩ := trodVars_none hV
  have k0 := h0
  have lt0 : ∀ x ∈ p0, x.block < W.heap.size := by obtain ⟨m, hm⟩ := k0; exact DataW.trod_lt m _ _ _ hm
  obtain ⟨S0, c0, o0, P0, cp0, ps0, X0, cx0, xs0, rfl, hI0, lc0, lm0, hw0, hP0, lp0, mp0, hX0, lx0, mx0⟩ := shs_open (hval 0 43 v0 rfl rfl) h0
  clear hA0 hval0
  refine (walkOpShapes W S0 c0 o0 P0 cp0 ps0 X0 cx0 xs0 hI0 lc0 lm0 hw0 hP0 lp0 mp0 hX0 lx0 mx0).mono fun e W' ⟨he, bel⟩ => ?_
  subst he
  exact ⟨_, rfl, _, _, _, [], _, [], hW', trodAll_mk1 (shut_bool Try.underlying4 _), (trodAll_cons_mk (Below.trod laidOut (by kernel_rfl) (of_decide_eq_true (by kernel_rfl)) k0 bel lt0) trodAll_mk0), rfl, bel.frame _, fun h => by cases h⟩

theorem over : Rows.opShapesRow.holds Try.pinned (OpenSpec.ofChange Rows.opShapesSpec) :=
  OpenClaim.holds_of_wide 4 Try.f4 rfl rfl rfl rfl rfl rfl rfl ⟨rfl, rfl, rfl, rfl, rfl⟩ rfl rfl rfl rfl rfl (by kernel_rfl) Try.func4 (by kernel_rfl)
    (of_decide_eq_true (by kernel_rfl)) (by unfold Func.isWrapper; first | (rw [if_pos (by decide +kernel)]; kernel_rfl) | (rw [if_neg (by decide +kernel)]; exact ⟨rfl, rfl⟩))
    (fun os started H enc _ => lifted os started H enc)
end Go.Proofs.Ytdliekbodbjkoaa.opShapes
namespace Go.Proofs.Ytdliekbodbjkoaa
theorem opShapes_holds : Rows.OpShapesSaid := opShapes.over
#print axioms opShapes_holds
end Go.Proofs.Ytdliekbodbjkoaa

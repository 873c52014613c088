/- The statement Rows.OpRightSaid is proved: for every input the law 'athanorlaw10.OpRight' returns true, and each argument reads afterwards as it read before. Conditions: those of the row, no others. -/
import Derived.Below
import Derived.ChangeOld
import Derived.Deep.DeepCutAuto
import Derived.OpenShut
import Derived.ProofKit
import Derived.ShutString
import Derived.WalkKit
import Derived.Test.YtdliekbodbjkoaaRows
import Derived.Test.YtdliekbodbjkoaaZ04
set_option linter.unusedVariables false
/- Layer 10's statement OpRight: the walk. -/
namespace Go.Proofs.Ytdliekbodbjkoaa
open Go.RowKit
theorem beq_dec' (a b : List Int) : (a == b) = decide (a = b) := by
  rw [Bool.eq_iff_iff]; simp
set_option maxHeartbeats 16000000 in
set_option maxRecDepth 100000 in
theorem walkOpRight (w : World) (S : Option Addr) (c : Nat) (o : OpD) (hI : Ints .i64 w S o.s) (lc : o.s.length ≤ c) (lm : c ≤ 9223372036854775807) (hw : o.wide) (S' : Option Addr) (c' : Nat) (q : OpD) (hI' : Ints .i64 w S' q.s) (lc' : q.s.length ≤ c') (lm' : c' ≤ 9223372036854775807) (hw' : q.wide) :
    Calls Try.prog 3 #[.agg #[.int .i64 o.kind, .int .i64 o.k, .int .i64 o.width, .int .i64 o.step, .int .i64 o.side, .int .i64 o.frm, .int .i64 o.to, .slice S o.s.length c], .agg #[.int .i64 q.kind, .int .i64 q.k, .int .i64 q.width, .int .i64 q.step, .int .i64 q.side, .int .i64 q.frm, .int .i64 q.to, .slice S' q.s.length c']] w fun e w' => e = .returned (.bool true) ∧ Below w.heap.size w w' := by
  have hk := (Blk.new w 26 #[.int .i64 o.kind, .int .i64 o.k, .int .i64 o.width, .int .i64 o.step, .int .i64 o.side, .int .i64 o.frm, .int .i64 o.to, .slice S o.s.length c]).alloc (.cells #[.int .i64 q.kind, .int .i64 q.k, .int .i64 q.width, .int .i64 q.step, .int .i64 q.side, .int .i64 q.frm, .int .i64 q.to, .slice S' q.s.length c'] 26)
  have hk' := Blk.new (w.alloc (.cells #[.int .i64 o.kind, .int .i64 o.k, .int .i64 o.width, .int .i64 o.step, .int .i64 o.side, .int .i64 o.frm, .int .i64 o.to, .slice S o.s.length c] 26)) 26 #[.int .i64 q.kind, .int .i64 q.k, .int .i64 q.width, .int .i64 q.step, .int .i64 q.side, .int .i64 q.frm, .int .i64 q.to, .slice S' q.s.length c']
  rw [World.size_alloc] at hk'
  have h0 : Later w ((w.alloc (.cells #[.int .i64 o.kind, .int .i64 o.k, .int .i64 o.width, .int .i64 o.step, .int .i64 o.side, .int .i64 o.frm, .int .i64 o.to, .slice S o.s.length c] 26)).alloc (.cells #[.int .i64 q.kind, .int .i64 q.k, .int .i64 q.width, .int .i64 q.step, .int .i64 q.side, .int .i64 q.frm, .int .i64 q.to, .slice S' q.s.length c'] 26)) := ((Later.refl w).alloc _).alloc _
  have HI := Lib.hid hI
  have HI' := Lib.hid hI'
  have Hw := Lib.hid hw
  have Hw' := Lib.hid hw'
  have Hk := Lib.hid hk
  have Hk' := Lib.hid hk'
  have H0 := Lib.hid h0
  clear hI hI' hw hw' hk hk' h0
  go_enter Try.func3, Try.ntmps3
  go_upto_region 1 with fail
  generalize (w.alloc (.cells #[.int .i64 o.kind, .int .i64 o.k, .int .i64 o.width, .int .i64 o.step, .int .i64 o.side, .int .i64 o.frm, .int .i64 o.to, .slice S o.s.length c] 26)).alloc (.cells #[.int .i64 q.kind, .int .i64 q.k, .int .i64 q.width, .int .i64 q.step, .int .i64 q.side, .int .i64 q.frm, .int .i64 q.to, .slice S' q.s.length c'] 26) = w1 at *
  have x7 : w1.cell? ⟨w.heap.size, 7, none⟩ = some (.slice S o.s.length c) := by rw [Hk.out.cell]; rfl
  have y7 : w1.cell? ⟨w.heap.size + 1, 7, none⟩ = some (.slice S' q.s.length c') := by rw [Hk'.out.cell]; rfl
  by_cases z1 : 20 < o.s.length
  · have d1 : decide ((20 : Int) < (o.s.length : Int)) = true := by simp; omega
    have d2 : (20 : Int) < (o.s.length : Int) := by omega
    go_wp2_with fail
    refine (awake10 _).mono ?_
    rintro e w2 ⟨rfl, hb2⟩
    go_wp2_with fail
    go_ret
    exact ⟨rfl, H0.out.call hb2⟩
  have d1 : decide ((20 : Int) < (o.s.length : Int)) = false := by simp; omega
  have d2 : ¬ (20 : Int) < (o.s.length : Int) := by omega
  by_cases z2 : 20 < q.s.length
  · have d3 : decide ((20 : Int) < (q.s.length : Int)) = true := by simp; omega
    have d4 : (20 : Int) < (q.s.length : Int) := by omega
    go_wp2_with fail
    refine (awake10 _).mono ?_
    rintro e w2 ⟨rfl, hb2⟩
    go_wp2_with fail
    go_ret
    exact ⟨rfl, H0.out.call hb2⟩
  have d3 : decide ((20 : Int) < (q.s.length : Int)) = false := by simp; omega
  have d4 : ¬ (20 : Int) < (q.s.length : Int) := by omega
  have hlo : o.s.length ≤ 20 := by omega
  have hlq : q.s.length ≤ 20 := by omega
  go_upto_region 3 with fail
  clear x7 y7 d1 d2 d3 d4 z1 z2
  obtain ⟨x0, x1, x2, x3, x4, x5, x6, x7⟩ := op_cells Hk.out
  go_wp2_with fail
  refine (op_ins o S c w1 (by omega) (HI.out.below H0.out (Nat.le_refl _))).mono ?_
  rintro e w2 ⟨rfl, hb2⟩
  have h02 := H0.out.call hb2
  have h12 : Later w1 w2 := hb2
  have hk2 := h12.blk Hk.out
  have hk2' := h12.blk Hk'.out
  clear x0 x1 x2 x3 x4 x5 x6 x7 hb2
  obtain ⟨x0, x1, x2, x3, x4, x5, x6, x7⟩ := op_cells hk2
  have H02 := Lib.hid h02
  have H12 := Lib.hid h12
  have Hk2 := Lib.hid hk2
  have Hk2' := Lib.hid hk2'
  clear h02 h12 hk2 hk2'
  go_wp2_with fail
  refine (ref10_ins_any o.kind _).mono ?_
  rintro e w3 ⟨rfl, rfl⟩
  go_wp2_with fail
  refine (law10_ref o S c _).mono ?_
  rintro e w3 ⟨rfl, hb3⟩
  have h03 := H02.out.call hb3
  have h23 : Later w2 w3 := hb3
  clear x0 x1 x2 x3 x4 x5 x6 x7 hb3
  have H03 := Lib.hid h03
  have H23 := Lib.hid h23
  clear h03 h23
  go_wp2_with fail
  refine (ref10_right o S c _ (by omega)).mono ?_
  rintro e w4 ⟨rfl, hb4⟩
  rw [Od.ref_right]
  have h04 := H03.out.call hb4
  have h24 := H23.out.call hb4
  have hk4 := h24.blk Hk2.out
  have hk4' := h24.blk Hk2'.out
  clear hb4 H03 H23 H02 H12 Hk2 Hk2' Hk Hk' H0
  have H04 := Lib.hid h04
  have H24 := Lib.hid h24
  have Hk4 := Lib.hid hk4
  have Hk4' := Lib.hid hk4'
  clear h04 h24 hk4 hk4'
  have e1 : Od.right o = false → Od.least o = 0 ∧ Od.most o = 0 ∧ Od.params o = 0 := fun hr => by simp [Od.least, Od.most, Od.params, hr]
  have e2 : Od.right o = true → refIns o.kind = (Od.least o, Od.most o) ∧ refPar o.kind = Od.params o := fun hr => ⟨refIns_right hr, refPar_right hr⟩
  generalize hgr : Od.right o = gb at *
  have He1 := Lib.hid e1
  have He2 := Lib.hid e2
  have Hgr := Lib.hid hgr
  clear e1 e2 hgr
  cases gb
  · (have l := He1.out rfl; rw [l.1, l.2.1]; have HP := Lib.hid l.2.2; clear l; go_upto_region 11 with fail)
    have hrun := fun W => run_eql_ints W o.kind o.k o.width o.step o.side o.frm o.to q.kind q.k q.width q.step q.side q.frm q.to
    have HE := Lib.hid (op_eq_iff o q)
    generalize hbv : (o.kind == q.kind && o.k == q.k && o.width == q.width && o.step == q.step && o.side == q.side && o.frm == q.frm && o.to == q.to) = bv at *
    clear hbv
    obtain ⟨x0, x1, x2, x3, x4, x5, x6, x7⟩ := op_cells Hk4.out
    obtain ⟨y0, y1, y2, y3, y4, y5, y6, y7⟩ := op_cells Hk4'.out
    go_cut [11] (fun v wx => v = .bool (decide (o = q)) ∧ Later w4 wx)
    case first =>
      cases bv
      · go_wp2_with fail
        go_meet
        exact ⟨by rw [HE.out]; rfl, Later.refl _⟩
      · go_wp2_with fail
        refine (ref03_same S S' c c' o.s q.s _ (by omega) (by omega) (HI.out.below H04.out (Nat.le_refl _)) (HI'.out.below H04.out (Nat.le_refl _))).mono ?_
        rintro e w5 ⟨rfl, qq, rfl⟩
        go_wp2_with fail
        go_meet
        exact ⟨by rw [HE.out, beq_dec']; rfl, (Later.refl _).drewN _⟩
    case rest =>
      obtain ⟨rfl, h45⟩ := hcut
      clear x0 x1 x2 x3 x4 x5 x6 x7 y0 y1 y2 y3 y4 y5 y6 y7 hrun HE
      have h05 := H04.out.trans h45
      have hk5 := h45.blk Hk4.out
      have hk5' := h45.blk Hk4'.out
      clear h45 Hk4 Hk4' H04 H24
      obtain ⟨x0, x1, x2, x3, x4, x5, x6, x7⟩ := op_cells hk5
      have H05 := Lib.hid h05
      have Hk5 := Lib.hid hk5
      have Hk5' := Lib.hid hk5'
      clear h05 hk5 hk5'
      go_wp2_with fail
      refine (op_right o S c _ (by omega) (HI.out.below H05.out (Nat.le_refl _))).mono ?_
      rintro e w6 ⟨rfl, hb6⟩
      rw [Hgr.out]
      have e2 : (Od.least o == Od.least o) = true := by simp
      have e3 : (Od.most o == Od.most o) = true := by simp
      have e4 : (Od.params o == Od.params o) = true := by simp
      have hcp := fun (V : World) (h : Later w V) => op_params o S c V (by omega) (HI.out.below h (Nat.le_refl _))
      have hcq := fun (V : World) (h : Later w V) => op_equal o q S S' c c' V (by omega) (by omega) (HI.out.below h (Nat.le_refl _)) (HI'.out.below h (Nat.le_refl _))
      have hco := fun (V : World) (h : Later w V) => op_equal o o S S c c V (by omega) (by omega) (HI.out.below h (Nat.le_refl _)) (HI.out.below h (Nat.le_refl _))
      rw [decide_eq_true rfl] at hco
      generalize decide (o = q) = dq at *
      have e5 : (dq == dq) = true := by simp
      have h56 : Later wc w6 := hb6
      have h06 := H05.out.trans h56
      have hk6 := h56.blk Hk5.out
      have hk6' := h56.blk Hk5'.out
      clear hb6 x0 x1 x2 x3 x4 x5 x6 x7 H05 Hk5 Hk5'
      obtain ⟨x0, x1, x2, x3, x4, x5, x6, x7⟩ := op_cells hk6
      have H56 := Lib.hid h56
      have H06 := Lib.hid h06
      have Hk6 := Lib.hid hk6
      have Hk6' := Lib.hid hk6'
      have Hcp := Lib.hid hcp
      have Hcq := Lib.hid hcq
      have Hco := Lib.hid hco
      clear h56 h06 hk6 hk6' hcp hcq hco
      go_wp2_with fail
      refine (Hcp.out _ H06.out).mono ?_
      rintro e w7 ⟨rfl, hb7⟩
      first | rw [HP.out] | skip
      have h67 : Later w6 w7 := hb7
      have h07 := H06.out.trans h67
      have hk7 := h67.blk Hk6.out
      have hk7' := h67.blk Hk6'.out
      clear hb7 x0 x1 x2 x3 x4 x5 x6 x7 H06 Hk6 Hk6' H56
      obtain ⟨x0, x1, x2, x3, x4, x5, x6, x7⟩ := op_cells hk7
      obtain ⟨y0, y1, y2, y3, y4, y5, y6, y7⟩ := op_cells hk7'
      have H67 := Lib.hid h67
      have H07 := Lib.hid h07
      have Hk7 := Lib.hid hk7
      have Hk7' := Lib.hid hk7'
      clear h67 h07 hk7 hk7'
      go_wp2_with fail
      refine (Hcq.out _ H07.out).mono ?_
      rintro e w8 ⟨rfl, hb8⟩
      have h78 : Later w7 w8 := hb8
      have h08 := H07.out.trans h78
      have hk8 := h78.blk Hk7.out
      clear hb8 x0 x1 x2 x3 x4 x5 x6 x7 y0 y1 y2 y3 y4 y5 y6 y7 H07 Hk7 Hk7' H67
      obtain ⟨x0, x1, x2, x3, x4, x5, x6, x7⟩ := op_cells hk8
      have H78 := Lib.hid h78
      have H08 := Lib.hid h08
      have Hk8 := Lib.hid hk8
      clear h78 h08 hk8
      go_wp2_with fail
      refine (Hco.out _ H08.out).mono ?_
      rintro e w9 ⟨rfl, hb9⟩
      have h09 := H08.out.call hb9
      clear hb9 x0 x1 x2 x3 x4 x5 x6 x7
      have H09 := Lib.hid h09
      clear h09
      go_wp2_with fail
      refine (awake10 _).mono ?_
      rintro e wz ⟨rfl, hbz⟩
      go_wp2_with fail
      go_ret
      exact ⟨rfl, H09.out.call hbz⟩
  · (have l := He2.out rfl; rw [l.1]; have l2 := Lib.hid l.2; clear l; obtain ⟨x0, x1, x2, x3, x4, x5, x6, x7⟩ := op_cells Hk4.out; go_wp2_with fail; refine (ref10_params o.kind _).mono ?_; rintro e w5 ⟨rfl, rfl⟩; rw [l2.out]; have HP := Lib.hid (rfl : Od.params o = Od.params o); clear x0 x1 x2 x3 x4 x5 x6 x7; go_upto_region 11 with fail)
    have hrun := fun W => run_eql_ints W o.kind o.k o.width o.step o.side o.frm o.to q.kind q.k q.width q.step q.side q.frm q.to
    have HE := Lib.hid (op_eq_iff o q)
    generalize hbv : (o.kind == q.kind && o.k == q.k && o.width == q.width && o.step == q.step && o.side == q.side && o.frm == q.frm && o.to == q.to) = bv at *
    clear hbv
    obtain ⟨x0, x1, x2, x3, x4, x5, x6, x7⟩ := op_cells Hk4.out
    obtain ⟨y0, y1, y2, y3, y4, y5, y6, y7⟩ := op_cells Hk4'.out
    go_cut [11] (fun v wx => v = .bool (decide (o = q)) ∧ Later w4 wx)
    case first =>
      cases bv
      · go_wp2_with fail
        go_meet
        exact ⟨by rw [HE.out]; rfl, Later.refl _⟩
      · go_wp2_with fail
        refine (ref03_same S S' c c' o.s q.s _ (by omega) (by omega) (HI.out.below H04.out (Nat.le_refl _)) (HI'.out.below H04.out (Nat.le_refl _))).mono ?_
        rintro e w5 ⟨rfl, qq, rfl⟩
        go_wp2_with fail
        go_meet
        exact ⟨by rw [HE.out, beq_dec']; rfl, (Later.refl _).drewN _⟩
    case rest =>
      obtain ⟨rfl, h45⟩ := hcut
      clear x0 x1 x2 x3 x4 x5 x6 x7 y0 y1 y2 y3 y4 y5 y6 y7 hrun HE
      have h05 := H04.out.trans h45
      have hk5 := h45.blk Hk4.out
      have hk5' := h45.blk Hk4'.out
      clear h45 Hk4 Hk4' H04 H24
      obtain ⟨x0, x1, x2, x3, x4, x5, x6, x7⟩ := op_cells hk5
      have H05 := Lib.hid h05
      have Hk5 := Lib.hid hk5
      have Hk5' := Lib.hid hk5'
      clear h05 hk5 hk5'
      go_wp2_with fail
      refine (op_right o S c _ (by omega) (HI.out.below H05.out (Nat.le_refl _))).mono ?_
      rintro e w6 ⟨rfl, hb6⟩
      rw [Hgr.out]
      have e2 : (Od.least o == Od.least o) = true := by simp
      have e3 : (Od.most o == Od.most o) = true := by simp
      have e4 : (Od.params o == Od.params o) = true := by simp
      have hcp := fun (V : World) (h : Later w V) => op_params o S c V (by omega) (HI.out.below h (Nat.le_refl _))
      have hcq := fun (V : World) (h : Later w V) => op_equal o q S S' c c' V (by omega) (by omega) (HI.out.below h (Nat.le_refl _)) (HI'.out.below h (Nat.le_refl _))
      have hco := fun (V : World) (h : Later w V) => op_equal o o S S c c V (by omega) (by omega) (HI.out.below h (Nat.le_refl _)) (HI.out.below h (Nat.le_refl _))
      rw [decide_eq_true rfl] at hco
      generalize decide (o = q) = dq at *
      have e5 : (dq == dq) = true := by simp
      have h56 : Later wc w6 := hb6
      have h06 := H05.out.trans h56
      have hk6 := h56.blk Hk5.out
      have hk6' := h56.blk Hk5'.out
      clear hb6 x0 x1 x2 x3 x4 x5 x6 x7 H05 Hk5 Hk5'
      obtain ⟨x0, x1, x2, x3, x4, x5, x6, x7⟩ := op_cells hk6
      have H56 := Lib.hid h56
      have H06 := Lib.hid h06
      have Hk6 := Lib.hid hk6
      have Hk6' := Lib.hid hk6'
      have Hcp := Lib.hid hcp
      have Hcq := Lib.hid hcq
      have Hco := Lib.hid hco
      clear h56 h06 hk6 hk6' hcp hcq hco
      go_wp2_with fail
      refine (Hcp.out _ H06.out).mono ?_
      rintro e w7 ⟨rfl, hb7⟩
      first | rw [HP.out] | skip
      have h67 : Later w6 w7 := hb7
      have h07 := H06.out.trans h67
      have hk7 := h67.blk Hk6.out
      have hk7' := h67.blk Hk6'.out
      clear hb7 x0 x1 x2 x3 x4 x5 x6 x7 H06 Hk6 Hk6' H56
      obtain ⟨x0, x1, x2, x3, x4, x5, x6, x7⟩ := op_cells hk7
      obtain ⟨y0, y1, y2, y3, y4, y5, y6, y7⟩ := op_cells hk7'
      have H67 := Lib.hid h67
      have H07 := Lib.hid h07
      have Hk7 := Lib.hid hk7
      have Hk7' := Lib.hid hk7'
      clear h67 h07 hk7 hk7'
      go_wp2_with fail
      refine (Hcq.out _ H07.out).mono ?_
      rintro e w8 ⟨rfl, hb8⟩
      have h78 : Later w7 w8 := hb8
      have h08 := H07.out.trans h78
      have hk8 := h78.blk Hk7.out
      clear hb8 x0 x1 x2 x3 x4 x5 x6 x7 y0 y1 y2 y3 y4 y5 y6 y7 H07 Hk7 Hk7' H67
      obtain ⟨x0, x1, x2, x3, x4, x5, x6, x7⟩ := op_cells hk8
      have H78 := Lib.hid h78
      have H08 := Lib.hid h08
      have Hk8 := Lib.hid hk8
      clear h78 h08 hk8
      go_wp2_with fail
      refine (Hco.out _ H08.out).mono ?_
      rintro e w9 ⟨rfl, hb9⟩
      have h09 := H08.out.call hb9
      clear hb9 x0 x1 x2 x3 x4 x5 x6 x7
      have H09 := Lib.hid h09
      clear h09
      go_wp2_with fail
      refine (awake10 _).mono ?_
      rintro e wz ⟨rfl, hbz⟩
      go_wp2_with fail
      go_ret
      exact ⟨rfl, H09.out.call hbz⟩
end Go.Proofs.Ytdliekbodbjkoaa
namespace Go.Proofs.Ytdliekbodbjkoaa.opRight
open Go.ChangeShapes Go.WideShapes Go.ChangeAt Go.RowKit
open Go.ChangeMaps (open_string shut_string)

theorem own : ownKnob Try.prog.godebug = none := by kernel_rfl
theorem laidOut : laidOutB Try.prog = true := by kernel_rfl

set_option maxRecDepth 100000 in
theorem lifted (os : Os) (started : os.Started) (H : Type) (enc : TypeId × Value → H) :
    ReturnsInHanded {} Try.checked os 3 .any (Rows.opRightSpec.pre6 enc Try.prog Try.f3 Rows.opRightRow.domain false) (Rows.opRightSpec.post enc Try.prog Try.f3 false true false false) := by
  refine returnsInHanded_of_change (C := Try.checked) own started (by kernel_rfl) Try.func3
    (ChangeSpec.witness6 (enc := enc) (C := Try.checked) false ⟨#[], #[.agg #[.int .i64 0, .int .i64 0, .int .i64 0, .int .i64 0, .int .i64 0, .int .i64 0, .int .i64 0, .slice none 0 0], .agg #[.int .i64 0, .int .i64 0, .int .i64 0, .int .i64 0, .int .i64 0, .int .i64 0, .int .i64 0, .slice none 0 0]], []⟩ 8 (by kernel_rfl) (by kernel_rfl) (by kernel_rfl) (by kernel_rfl)) ?_
  intro W base args ds gs before hval0 hW hcnd _
  have hval : ∀ (j : Nat) t v, Try.f3.params[j]? = some t → args[j]? = some v → Value.okWide Try.prog W .any base t v := hval0
  have hW' := hW
  obtain ⟨p, q, hA0, hV, rfl, hfz, hnd⟩ := hW
  have hA : DataW.TrodAll enc Try.prog W 0 (fun _ => true) true Try.f3.params.toList args.toList ds p := hA0
  rw [Try.params3] at hA hval
  obtain ⟨v0, vs0, d0, ds0, p0, q0, hargs, rfl, rfl, h0, r0⟩ := trodAll_cons hA
  obtain ⟨v1, vs1, d1, ds1, p1, q1, rfl, rfl, rfl, h1, r1⟩ := trodAll_cons r0
  obtain ⟨rfl, rfl, rfl⟩ := trodAll_nil r1
  obtain rfl : args = #[v0, v1] := by cases args; simp_all
  obtain ⟨rfl, rfl⟩ := trodVars_none hV
  have k0 := h0
  have lt0 : ∀ x ∈ p0, x.block < W.heap.size := by obtain ⟨m, hm⟩ := k0; exact DataW.trod_lt m _ _ _ hm
  have k1 := h1
  have lt1 : ∀ x ∈ p1, x.block < W.heap.size := by obtain ⟨m, hm⟩ := k1; exact DataW.trod_lt m _ _ _ hm
  obtain ⟨S0, c0, o0, rfl, hI0, lc0, lm0, hw0⟩ := op_open (hval 0 26 v0 rfl rfl) h0
  obtain ⟨S1, c1, o1, rfl, hI1, lc1, lm1, hw1⟩ := op_open (hval 1 26 v1 rfl rfl) h1
  clear hA0 hval0
  refine (walkOpRight W S0 c0 o0 hI0 lc0 lm0 hw0 S1 c1 o1 hI1 lc1 lm1 hw1).mono fun e W' ⟨he, bel⟩ => ?_
  subst he
  exact ⟨_, rfl, _, _, _, [], _, [], hW', trodAll_mk1 (shut_bool Try.underlying4 _), (trodAll_cons_mk (Below.trod laidOut (by kernel_rfl) (of_decide_eq_true (by kernel_rfl)) k0 bel lt0) (trodAll_cons_mk (Below.trod laidOut (by kernel_rfl) (of_decide_eq_true (by kernel_rfl)) k1 bel lt1) trodAll_mk0)), rfl, bel.frame _, fun h => by cases h⟩

theorem over : Rows.opRightRow.holds Try.pinned (OpenSpec.ofChange Rows.opRightSpec) :=
  OpenClaim.holds_of_wide 3 Try.f3 rfl rfl rfl rfl rfl rfl rfl ⟨rfl, rfl, rfl, rfl, rfl⟩ rfl rfl rfl rfl rfl (by kernel_rfl) Try.func3 (by kernel_rfl)
    (of_decide_eq_true (by kernel_rfl)) (by unfold Func.isWrapper; first | (rw [if_pos (by decide +kernel)]; kernel_rfl) | (rw [if_neg (by decide +kernel)]; exact ⟨rfl, rfl⟩))
    (fun os started H enc _ => lifted os started H enc)
end Go.Proofs.Ytdliekbodbjkoaa.opRight
namespace Go.Proofs.Ytdliekbodbjkoaa
theorem opRight_holds : Rows.OpRightSaid := opRight.over
#print axioms opRight_holds
end Go.Proofs.Ytdliekbodbjkoaa

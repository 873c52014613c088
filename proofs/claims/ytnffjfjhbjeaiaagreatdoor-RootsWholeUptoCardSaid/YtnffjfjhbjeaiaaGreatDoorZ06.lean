/- Lemmas for the statements of this seat: contracts of functions and the plain laws. -/
import Derived.Deep.DeepCutAuto
import Derived.Deep.RegionHeld3
import Derived.Maps.AppendAt
import Derived.Test.YtnffjfjhbjeaiaaGreatDoorZ05
set_option linter.unusedVariables false
/- The reference of layer 10: Right: contract. -/
namespace Go.Proofs.YtnffjfjhbjeaiaaGreatDoor
open Go.RowKit
set_option maxHeartbeats 8000000 in
set_option maxRecDepth 20000 in
theorem ref10_right (o : OpD) (S : Option Addr) (c : Nat) (w : World) (hl : o.s.length ≤ 9223372036854775807) :
    Calls Tryz.prog 33 #[.agg #[.int .i64 o.kind, .int .i64 o.k, .int .i64 o.width, .int .i64 o.step, .int .i64 o.side, .int .i64 o.frm, .int .i64 o.to, .slice S o.s.length c]] w fun e w' => e = .returned (.bool (Od.refRight o)) ∧ Below w.heap.size w w' := by
  have hb0 : Below w.heap.size w (w.alloc (.cells #[.int .i64 o.kind, .int .i64 o.k, .int .i64 o.width, .int .i64 o.step, .int .i64 o.side, .int .i64 o.frm, .int .i64 o.to, .slice S o.s.length c] 80)) := (Below.refl _ _).alloc (Nat.le_refl _) _
  have hk0 := Blk.new w 80 #[.int .i64 o.kind, .int .i64 o.k, .int .i64 o.width, .int .i64 o.step, .int .i64 o.side, .int .i64 o.frm, .int .i64 o.to, .slice S o.s.length c]
  obtain ⟨y0, y1, y2, y3, y4, y5, y6, y7⟩ := op_cells hk0
  have HB := Lib.hid hb0
  clear hk0 hb0
  go_enter Tryz.func33, Tryz.ntmps33
  go_upto_region 1 with fail
  generalize (w.alloc (.cells #[.int .i64 o.kind, .int .i64 o.k, .int .i64 o.width, .int .i64 o.step, .int .i64 o.side, .int .i64 o.frm, .int .i64 o.to, .slice S o.s.length c] 80)) = w1 at *
  go_cut [10] (fun v wx => v = .bool (decide (o.kind < 1 ∨ 15 < o.kind)) ∧ w1 = wx)
  case first =>
    by_cases c1 : o.kind < 1
    · have e1 : decide (o.kind < 1) = true := by simp; omega
      have HX := Lib.hid (show decide (o.kind < 1 ∨ 15 < o.kind) = true by simp; omega)
      clear c1
      go_wp2_with fail
      go_meet
      exact ⟨by rw [HX.out], rfl⟩
    · have e1 : decide (o.kind < 1) = false := by simp; omega
      by_cases c2 : 15 < o.kind
      · have e2 : decide (15 < o.kind) = true := by simp; omega
        have HX := Lib.hid (show decide (o.kind < 1 ∨ 15 < o.kind) = true by simp; omega)
        clear c1 c2
        go_wp2_with fail
        go_meet
        exact ⟨by rw [HX.out], rfl⟩
      · have e2 : decide (15 < o.kind) = false := by simp; omega
        have HX := Lib.hid (show decide (o.kind < 1 ∨ 15 < o.kind) = false by simp; omega)
        clear c1 c2
        go_wp2_with fail
        go_meet
        exact ⟨by rw [HX.out], rfl⟩
  case rest =>
    obtain ⟨rfl, rfl⟩ := hcut
    by_cases f0 : o.kind < 1 ∨ 15 < o.kind
    · have q0 : decide (o.kind < 1 ∨ 15 < o.kind) = true := decide_eq_true f0
      have HX := Lib.hid (show Od.refRight o = false by unfold Od.refRight; rw [if_pos f0])
      clear f0
      rw [q0]
      clear q0
      go_wp2_with fail
      go_ret
      exact ⟨by rw [HX.out]; rfl, HB.out⟩
    · have q0 : decide (o.kind < 1 ∨ 15 < o.kind) = false := decide_eq_false f0
      rw [q0]
      clear q0
      go_upto_region 3 with fail
      go_cut [23] (fun v wx => v = .bool (decide (o.k ≠ 0 ∧ o.kind ≠ 2 ∧ o.kind ≠ 5)) ∧ w1 = wx)
      case first =>
        by_cases c1 : o.k = 0
        · have e1 : (o.k != 0) = false := by simp; omega
          have HX := Lib.hid (show decide (o.k ≠ 0 ∧ o.kind ≠ 2 ∧ o.kind ≠ 5) = false by simp; omega)
          clear c1
          go_wp2_with fail
          go_meet
          exact ⟨by rw [HX.out], rfl⟩
        · have e1 : (o.k != 0) = true := by simp; omega
          by_cases c2 : o.kind = 2
          · have e2 : (o.kind != 2) = false := by simp; omega
            have HX := Lib.hid (show decide (o.k ≠ 0 ∧ o.kind ≠ 2 ∧ o.kind ≠ 5) = false by simp; omega)
            clear c1 c2
            go_wp2_with fail
            go_meet
            exact ⟨by rw [HX.out], rfl⟩
          · have e2 : (o.kind != 2) = true := by simp; omega
            by_cases c3 : o.kind = 5
            · have e3 : (o.kind != 5) = false := by simp; omega
              have HX := Lib.hid (show decide (o.k ≠ 0 ∧ o.kind ≠ 2 ∧ o.kind ≠ 5) = false by simp; omega)
              clear c1 c2 c3
              go_wp2_with fail
              go_meet
              exact ⟨by rw [HX.out], rfl⟩
            · have e3 : (o.kind != 5) = true := by simp; omega
              have HX := Lib.hid (show decide (o.k ≠ 0 ∧ o.kind ≠ 2 ∧ o.kind ≠ 5) = true by simp; omega)
              clear c1 c2 c3
              go_wp2_with fail
              go_meet
              exact ⟨by rw [HX.out], rfl⟩
      case rest =>
        obtain ⟨rfl, rfl⟩ := hcut
        by_cases f1 : o.k ≠ 0 ∧ o.kind ≠ 2 ∧ o.kind ≠ 5
        · have q1 : decide (o.k ≠ 0 ∧ o.kind ≠ 2 ∧ o.kind ≠ 5) = true := decide_eq_true f1
          have HX := Lib.hid (show Od.refRight o = false by unfold Od.refRight; rw [if_neg f0, if_pos f1])
          clear f0 f1
          rw [q1]
          clear q1
          go_wp2_with fail
          go_ret
          exact ⟨by rw [HX.out]; rfl, HB.out⟩
        · have q1 : decide (o.k ≠ 0 ∧ o.kind ≠ 2 ∧ o.kind ≠ 5) = false := decide_eq_false f1
          rw [q1]
          clear q1
          go_upto_region 5 with fail
          go_cut [36] (fun v wx => v = .bool (decide (o.width ≠ 0 ∧ o.kind ≠ 11 ∧ o.kind ≠ 12)) ∧ w1 = wx)
          case first =>
            by_cases c1 : o.width = 0
            · have e1 : (o.width != 0) = false := by simp; omega
              have HX := Lib.hid (show decide (o.width ≠ 0 ∧ o.kind ≠ 11 ∧ o.kind ≠ 12) = false by simp; omega)
              clear c1
              go_wp2_with fail
              go_meet
              exact ⟨by rw [HX.out], rfl⟩
            · have e1 : (o.width != 0) = true := by simp; omega
              by_cases c2 : o.kind = 11
              · have e2 : (o.kind != 11) = false := by simp; omega
                have HX := Lib.hid (show decide (o.width ≠ 0 ∧ o.kind ≠ 11 ∧ o.kind ≠ 12) = false by simp; omega)
                clear c1 c2
                go_wp2_with fail
                go_meet
                exact ⟨by rw [HX.out], rfl⟩
              · have e2 : (o.kind != 11) = true := by simp; omega
                by_cases c3 : o.kind = 12
                · have e3 : (o.kind != 12) = false := by simp; omega
                  have HX := Lib.hid (show decide (o.width ≠ 0 ∧ o.kind ≠ 11 ∧ o.kind ≠ 12) = false by simp; omega)
                  clear c1 c2 c3
                  go_wp2_with fail
                  go_meet
                  exact ⟨by rw [HX.out], rfl⟩
                · have e3 : (o.kind != 12) = true := by simp; omega
                  have HX := Lib.hid (show decide (o.width ≠ 0 ∧ o.kind ≠ 11 ∧ o.kind ≠ 12) = true by simp; omega)
                  clear c1 c2 c3
                  go_wp2_with fail
                  go_meet
                  exact ⟨by rw [HX.out], rfl⟩
          case rest =>
            obtain ⟨rfl, rfl⟩ := hcut
            by_cases f2 : o.width ≠ 0 ∧ o.kind ≠ 11 ∧ o.kind ≠ 12
            · have q2 : decide (o.width ≠ 0 ∧ o.kind ≠ 11 ∧ o.kind ≠ 12) = true := decide_eq_true f2
              have HX := Lib.hid (show Od.refRight o = false by unfold Od.refRight; rw [if_neg f0, if_neg f1, if_pos f2])
              clear f0 f1 f2
              rw [q2]
              clear q2
              go_wp2_with fail
              go_ret
              exact ⟨by rw [HX.out]; rfl, HB.out⟩
            · have q2 : decide (o.width ≠ 0 ∧ o.kind ≠ 11 ∧ o.kind ≠ 12) = false := decide_eq_false f2
              rw [q2]
              clear q2
              go_upto_region 7 with fail
              go_cut [49] (fun v wx => v = .bool (decide (o.step ≠ 0 ∧ (o.kind < 10 ∨ 12 < o.kind))) ∧ w1 = wx)
              case first =>
                by_cases c1 : o.step = 0
                · have e1 : (o.step != 0) = false := by simp; omega
                  have HX := Lib.hid (show decide (o.step ≠ 0 ∧ (o.kind < 10 ∨ 12 < o.kind)) = false by simp; omega)
                  clear c1
                  go_wp2_with fail
                  go_meet
                  exact ⟨by rw [HX.out], rfl⟩
                · have e1 : (o.step != 0) = true := by simp; omega
                  by_cases c2 : o.kind < 10
                  · have e2 : decide (o.kind < 10) = true := by simp; omega
                    have HX := Lib.hid (show decide (o.step ≠ 0 ∧ (o.kind < 10 ∨ 12 < o.kind)) = true by simp; omega)
                    clear c1 c2
                    go_wp2_with fail
                    go_meet
                    exact ⟨by rw [HX.out], rfl⟩
                  · have e2 : decide (o.kind < 10) = false := by simp; omega
                    by_cases c3 : 12 < o.kind
                    · have e3 : decide (12 < o.kind) = true := by simp; omega
                      have HX := Lib.hid (show decide (o.step ≠ 0 ∧ (o.kind < 10 ∨ 12 < o.kind)) = true by simp; omega)
                      clear c1 c2 c3
                      go_wp2_with fail
                      go_meet
                      exact ⟨by rw [HX.out], rfl⟩
                    · have e3 : decide (12 < o.kind) = false := by simp; omega
                      have HX := Lib.hid (show decide (o.step ≠ 0 ∧ (o.kind < 10 ∨ 12 < o.kind)) = false by simp; omega)
                      clear c1 c2 c3
                      go_wp2_with fail
                      go_meet
                      exact ⟨by rw [HX.out], rfl⟩
              case rest =>
                obtain ⟨rfl, rfl⟩ := hcut
                by_cases f3 : o.step ≠ 0 ∧ (o.kind < 10 ∨ 12 < o.kind)
                · have q3 : decide (o.step ≠ 0 ∧ (o.kind < 10 ∨ 12 < o.kind)) = true := decide_eq_true f3
                  have HX := Lib.hid (show Od.refRight o = false by unfold Od.refRight; rw [if_neg f0, if_neg f1, if_neg f2, if_pos f3])
                  clear f0 f1 f2 f3
                  rw [q3]
                  clear q3
                  go_wp2_with fail
                  go_ret
                  exact ⟨by rw [HX.out]; rfl, HB.out⟩
                · have q3 : decide (o.step ≠ 0 ∧ (o.kind < 10 ∨ 12 < o.kind)) = false := decide_eq_false f3
                  rw [q3]
                  clear q3
                  go_upto_region 9 with fail
                  go_cut [62] (fun v wx => v = .bool (decide (o.side ≠ 0 ∧ o.kind ≠ 13 ∧ o.kind ≠ 14)) ∧ w1 = wx)
                  case first =>
                    by_cases c1 : o.side = 0
                    · have e1 : (o.side != 0) = false := by simp; omega
                      have HX := Lib.hid (show decide (o.side ≠ 0 ∧ o.kind ≠ 13 ∧ o.kind ≠ 14) = false by simp; omega)
                      clear c1
                      go_wp2_with fail
                      go_meet
                      exact ⟨by rw [HX.out], rfl⟩
                    · have e1 : (o.side != 0) = true := by simp; omega
                      by_cases c2 : o.kind = 13
                      · have e2 : (o.kind != 13) = false := by simp; omega
                        have HX := Lib.hid (show decide (o.side ≠ 0 ∧ o.kind ≠ 13 ∧ o.kind ≠ 14) = false by simp; omega)
                        clear c1 c2
                        go_wp2_with fail
                        go_meet
                        exact ⟨by rw [HX.out], rfl⟩
                      · have e2 : (o.kind != 13) = true := by simp; omega
                        by_cases c3 : o.kind = 14
                        · have e3 : (o.kind != 14) = false := by simp; omega
                          have HX := Lib.hid (show decide (o.side ≠ 0 ∧ o.kind ≠ 13 ∧ o.kind ≠ 14) = false by simp; omega)
                          clear c1 c2 c3
                          go_wp2_with fail
                          go_meet
                          exact ⟨by rw [HX.out], rfl⟩
                        · have e3 : (o.kind != 14) = true := by simp; omega
                          have HX := Lib.hid (show decide (o.side ≠ 0 ∧ o.kind ≠ 13 ∧ o.kind ≠ 14) = true by simp; omega)
                          clear c1 c2 c3
                          go_wp2_with fail
                          go_meet
                          exact ⟨by rw [HX.out], rfl⟩
                  case rest =>
                    obtain ⟨rfl, rfl⟩ := hcut
                    by_cases f4 : o.side ≠ 0 ∧ o.kind ≠ 13 ∧ o.kind ≠ 14
                    · have q4 : decide (o.side ≠ 0 ∧ o.kind ≠ 13 ∧ o.kind ≠ 14) = true := decide_eq_true f4
                      have HX := Lib.hid (show Od.refRight o = false by unfold Od.refRight; rw [if_neg f0, if_neg f1, if_neg f2, if_neg f3, if_pos f4])
                      clear f0 f1 f2 f3 f4
                      rw [q4]
                      clear q4
                      go_wp2_with fail
                      go_ret
                      exact ⟨by rw [HX.out]; rfl, HB.out⟩
                    · have q4 : decide (o.side ≠ 0 ∧ o.kind ≠ 13 ∧ o.kind ≠ 14) = false := decide_eq_false f4
                      rw [q4]
                      clear q4
                      go_upto_region 11 with fail
                      go_cut [75] (fun v wx => v = .bool (decide ((o.frm ≠ 0 ∨ o.to ≠ 0) ∧ o.kind ≠ 14)) ∧ w1 = wx)
                      case first =>
                        by_cases c1 : o.frm = 0
                        · have e1 : (o.frm != 0) = false := by simp; omega
                          by_cases c2 : o.to = 0
                          · have e2 : (o.to != 0) = false := by simp; omega
                            have HX := Lib.hid (show decide ((o.frm ≠ 0 ∨ o.to ≠ 0) ∧ o.kind ≠ 14) = false by simp; omega)
                            clear c1 c2
                            go_wp2_with fail
                            go_meet
                            exact ⟨by rw [HX.out], rfl⟩
                          · have e2 : (o.to != 0) = true := by simp; omega
                            by_cases c3 : o.kind = 14
                            · have e3 : (o.kind != 14) = false := by simp; omega
                              have HX := Lib.hid (show decide ((o.frm ≠ 0 ∨ o.to ≠ 0) ∧ o.kind ≠ 14) = false by simp; omega)
                              clear c1 c2 c3
                              go_wp2_with fail
                              go_meet
                              exact ⟨by rw [HX.out], rfl⟩
                            · have e3 : (o.kind != 14) = true := by simp; omega
                              have HX := Lib.hid (show decide ((o.frm ≠ 0 ∨ o.to ≠ 0) ∧ o.kind ≠ 14) = true by simp; omega)
                              clear c1 c2 c3
                              go_wp2_with fail
                              go_meet
                              exact ⟨by rw [HX.out], rfl⟩
                        · have e1 : (o.frm != 0) = true := by simp; omega
                          by_cases c2 : o.kind = 14
                          · have e2 : (o.kind != 14) = false := by simp; omega
                            have HX := Lib.hid (show decide ((o.frm ≠ 0 ∨ o.to ≠ 0) ∧ o.kind ≠ 14) = false by simp; omega)
                            clear c1 c2
                            go_wp2_with fail
                            go_meet
                            exact ⟨by rw [HX.out], rfl⟩
                          · have e2 : (o.kind != 14) = true := by simp; omega
                            have HX := Lib.hid (show decide ((o.frm ≠ 0 ∨ o.to ≠ 0) ∧ o.kind ≠ 14) = true by simp; omega)
                            clear c1 c2
                            go_wp2_with fail
                            go_meet
                            exact ⟨by rw [HX.out], rfl⟩
                      case rest =>
                        obtain ⟨rfl, rfl⟩ := hcut
                        by_cases f5 : (o.frm ≠ 0 ∨ o.to ≠ 0) ∧ o.kind ≠ 14
                        · have q5 : decide ((o.frm ≠ 0 ∨ o.to ≠ 0) ∧ o.kind ≠ 14) = true := decide_eq_true f5
                          have HX := Lib.hid (show Od.refRight o = false by unfold Od.refRight; rw [if_neg f0, if_neg f1, if_neg f2, if_neg f3, if_neg f4, if_pos f5])
                          clear f0 f1 f2 f3 f4 f5
                          rw [q5]
                          clear q5
                          go_wp2_with fail
                          go_ret
                          exact ⟨by rw [HX.out]; rfl, HB.out⟩
                        · have q5 : decide ((o.frm ≠ 0 ∨ o.to ≠ 0) ∧ o.kind ≠ 14) = false := decide_eq_false f5
                          rw [q5]
                          clear q5
                          have HF := Lib.hid (show Od.refRight o = decide (o.s = [] ∨ o.kind = 15) by unfold Od.refRight; rw [if_neg f0, if_neg f1, if_neg f2, if_neg f3, if_neg f4, if_neg f5])
                          clear f0 f1 f2 f3 f4 f5
                          by_cases h1 : o.s = []
                          · have HX := Lib.hid (show decide (o.s = [] ∨ o.kind = 15) = true by simp [h1])
                            have e1 : ((o.s.length : Int) == 0) = true := by simp [h1]
                            have e2 : o.s.length = 0 := by simp [h1]
                            rw [e2] at *
                            clear h1
                            go_wp2_with fail
                            go_ret
                            exact ⟨by rw [HF.out, HX.out]; rfl, HB.out⟩
                          · have e1 : ((o.s.length : Int) == 0) = false := by simp [h1]
                            have e2 : (o.s.length == 0) = false := by simp [h1]
                            by_cases h2 : o.kind = 15
                            · have HX := Lib.hid (show decide (o.s = [] ∨ o.kind = 15) = true by simp [h2])
                              have e3 : (o.kind == 15) = true := by simp [h2]
                              clear h1 h2
                              go_wp2_with fail
                              go_ret
                              exact ⟨by rw [HF.out, HX.out]; rfl, HB.out⟩
                            · have HX := Lib.hid (show decide (o.s = [] ∨ o.kind = 15) = false by simp [h1, h2])
                              have e3 : (o.kind == 15) = false := by simp [h2]
                              clear h1 h2
                              go_wp2_with fail
                              go_ret
                              exact ⟨by rw [HF.out, HX.out]; rfl, HB.out⟩
end Go.Proofs.YtnffjfjhbjeaiaaGreatDoor
/- The reference of layer 10: with, joined: contracts. -/
namespace Go.Proofs.YtnffjfjhbjeaiaaGreatDoor
open Go.RowKit
/-- A shape and an error's number are answered. -/
def RefP (r : List Int × Int) (w : World) (e : Ending) (w' : World) : Prop :=
  ∃ S c, e = .returned (.tuple #[.slice S r.1.length c, .int .i64 r.2]) ∧ Ints .i64 w' S r.1 ∧ r.1.length ≤ c ∧ c ≤ 9223372036854775807 ∧ Below w.heap.size w w'
def WithP (zs : List Int) (w : World) (e : Ending) (w' : World) : Prop :=
  ∃ g, e = .returned (.slice (some ⟨g, 0, none⟩) zs.length zs.length) ∧ Ints .i64 w' (some ⟨g, 0, none⟩) zs ∧ w.heap.size ≤ g ∧ Below w.heap.size w w'
set_option maxHeartbeats 4000000 in
theorem ref10_with (A : Option Addr) (c : Nat) (zs : List Int) (i : Nat) (v : Int) (w : World) (hl : zs.length ≤ 17592186043904) (hI : Ints .i64 w A zs) (hi' : i < zs.length) :
    Calls Tryz.prog 85 #[.slice A zs.length c, .int .i64 (i : Int), .int .i64 v] w (WithP (zs.set i v) w) := by
  obtain ⟨i0, hi, hz0, hz1, hz2⟩ := info_parts int_info
  have HI := Lib.hid hI
  clear hI
  go_enter Tryz.func85, Tryz.ntmps85
  go_wp2_with (at_make; refine wpList_make_full _ rfl _ _ 22 rfl w.heap.size 3 i0 (.int .i64 0) 1 Tryz.underlying22 hi hz0 hz1 _ _ _ _ zs.length rfl rfl (by first | rfl | simp) (by first | rfl | simp) ?b2 ?b3 (Nat.le_refl _) ?_)
  case b2 => rw [hz2]; omega
  case b3 => unfold maxLen; omega
  intro w1 hown hgrow
  have hblk := own_cur hown
  have hb1 : Below w.heap.size w w1 := (Below.refl _ w).grown hgrow (Nat.le_refl _) (by simp)
  have hlen := hown.1
  have HI1 := Lib.hid (HI.out.below hb1 (Nat.le_refl _))
  generalize (madeCells #[Value.int .i64 0] zs.length).toList = cur at *
  clear hown hgrow HI
  go_wp2_with (with_reducible refine wpList_copy_splice rfl (.tmp 11) (.tmp 12) 22 22 rfl 3 Tryz.underlying22 ?d1 (some ⟨w.heap.size, 0, none⟩) A zs.length zs.length zs.length c rfl rfl w.heap.size 0 cur 3 hblk (zs.map (Value.int .i64)) ?d2 ?d3 ?d4 ?d5 w.heap.size w hb1 (Nat.le_refl _) ?_)
  case d1 => kernel_rfl
  case d2 => simp
  case d3 => intro hp; exact HI1.out.src' (by simpa using hp)
  case d4 => simp at hlen ⊢; omega
  case d5 => intro v hv; obtain ⟨x, _, rfl⟩ := List.mem_map.1 hv; rfl
  intro w2 hw2 hb2
  have hs := splice_all (cur := cur) (cs := zs.map (Value.int .i64)) (by simp at hlen ⊢; omega)
  have hk : Blk w2 w.heap.size 3 (zs.map (Value.int .i64)).toArray := by unfold Blk; rw [← hs]; exact hw2.out
  have y : w2.cell? ⟨w.heap.size, i, none⟩ = some (.int .i64 zs[i]) := by rw [hk.cell]; simp [hi']
  have f := hk.frozen i
  have hk2 := hk.set_ i (.int .i64 v)
  have l0 : (0 : Int) ≤ (i : Int) := by omega
  have l1 : (i : Int) < (zs.length : Int) := by omega
  have Hk := Lib.hid hk
  have Hk2 := Lib.hid hk2
  clear hk hk2
  clear hw2 hb1 hlen hs hblk
  go_wp2_with fail
  go_ret
  refine ⟨w.heap.size, by rw [List.length_set]; rfl, Ints.of_row fun j hj => ?_, Nat.le_refl _, hb2.setCell (Nat.le_refl _) _⟩
  rw [Nat.zero_add, Hk2.out.cell j]
  rw [getD_at hj]
  simp at hj
  simp [List.getElem_set, hj]
  split <;> simp_all
theorem joinAll_append (side : Int) : ∀ (a b : List (List Int)) (s : List Int), Od.joinAll side s (a ++ b) = if (Od.joinAll side s a).2 = 0 then Od.joinAll side (Od.joinAll side s a).1 b else ([], (Od.joinAll side s a).2)
  | [], b, s => by simp [Od.joinAll]
  | t :: a, b, s => by
    rw [List.cons_append, Od.joinAll, Od.joinAll]
    split
    · exact joinAll_append side a b _
    · rename_i h; simp
theorem joinAll_step {side : Int} {l : List (List Int)} {s s1 : List Int} {k : Nat} (hk : k < l.length) (h : Od.joinAll side s (l.take k) = (s1, 0)) :
    ((Od.join s1 l[k] side).2 = 0 → Od.joinAll side s (l.take (k + 1)) = ((Od.join s1 l[k] side).1, 0)) ∧ ((Od.join s1 l[k] side).2 ≠ 0 → Od.joinAll side s l = ([], (Od.join s1 l[k] side).2)) := by
  refine ⟨fun e => ?_, fun e => ?_⟩
  · rw [List.take_succ_eq_append_getElem hk, joinAll_append, h]
    simp [Od.joinAll, e]
  · have : l = l.take k ++ l[k] :: l.drop (k + 1) := by rw [← List.drop_eq_getElem_cons hk, List.take_append_drop]
    have e2 := congrArg (Od.joinAll side s) this
    rw [e2, joinAll_append, h]
    simp [Od.joinAll, e]
def joinTo (s t : List Int) (side : Int) (m : Nat) : Prop := ∀ j, j < m → (j : Int) = side ∨ s.getD j 0 = t.getD j 0
theorem joinTo_all {s t : List Int} {side : Int} (h : joinTo s t side s.length) : Od.joinOk s t side = true := by
  unfold Od.joinOk
  rw [List.all_eq_true]
  intro i hi
  have := h i (List.mem_range.1 hi)
  simpa using this
theorem joinTo_not {s t : List Int} {side : Int} {m : Nat} (hm : m < s.length) (h1 : (m : Int) ≠ side) (h2 : s.getD m 0 ≠ t.getD m 0) : Od.joinOk s t side = false := by
  unfold Od.joinOk
  rw [List.all_eq_false]
  exact ⟨m, List.mem_range.2 hm, by simp [h1] ; simpa using h2⟩
set_option maxRecDepth 20000 in
set_option maxHeartbeats 8000000 in
theorem ref10_joined (side : Int) (X : Option Addr) (c : Nat) (xs : List (List Int)) (w : World) (hX : Shps w X xs) (hl : xs.length ≤ 1048576) (h1 : 1 ≤ xs.length) (hr : ∀ s ∈ xs, Sh.right s = true) :
    Calls Tryz.prog 86 #[.int .i64 side, .slice X xs.length c] w (RefP (Od.joined side xs) w) := by
  obtain ⟨b0, off0, S0, c0, rfl, -, y0, hI0, hc0, hm0⟩ := hX 0 (by omega)
  have hr0 := hr xs[0] (List.getElem_mem (by omega))
  have hx0 : xs.getD 0 [] = xs[0] := gets_at (by omega)
  have hdrop : xs.drop 1 = xs.drop 1 := rfl
  have hjd : Od.joined side xs = if xs.length = 1 ∧ Od.inR side xs[0] = false then ([], 11) else Od.joinAll side xs[0] (xs.drop 1) := by unfold Od.joined; rw [hx0]
  have hsl := (right_short hr0).2
  rw [Nat.add_zero] at y0
  by_cases hone : xs.length = 1 ∧ Od.inR side xs[0] = false
  · have HQ := Lib.hid (show Od.joined side xs = ([], 11) by rw [hjd, if_pos hone])
    have hb := hone.2
    have e1 : ((xs.length : Int) == 1) = true := by simp; omega
    have e1' : (xs.length == 1) = true := by simp; omega
    simp [Od.inR] at hb
    clear hjd hdrop hx0
    generalize xs[0] = s at *
    have HX := Lib.hid hX
    have Hr := Lib.hid hr
    have HI0 := Lib.hid hI0
    have Hr0 := Lib.hid hr0
    have Hone := Lib.hid hone
    clear hX hr hI0 hr0 hone
    by_cases hneg : side < 0
    · have e2 : decide (side < 0) = true := by simpa using hneg
      clear hb
      go_enter Tryz.func86, Tryz.ntmps86
      go_wp2_with fail
      go_ret2
      exact ⟨none, 0, by rw [HQ.out]; rfl, by rw [HQ.out]; exact Ints.nil, by rw [HQ.out]; exact Nat.le_refl _, by omega, Below.refl _ _⟩
    · have e2 : decide (side < 0) = false := by simpa using hneg
      have e3 : decide ((s.length : Int) ≤ side) = true := by simpa using hb (by omega)
      clear hb
      go_enter Tryz.func86, Tryz.ntmps86
      go_wp2_with fail
      go_ret2
      exact ⟨none, 0, by rw [HQ.out]; rfl, by rw [HQ.out]; exact Ints.nil, by rw [HQ.out]; exact Nat.le_refl _, by omega, Below.refl _ _⟩
  · rw [if_neg hone] at hjd
    have hrd : ∀ t ∈ xs.drop 1, Sh.right t = true := fun t ht => hr t (List.mem_of_mem_drop ht)
    have hdl : (xs.drop 1).length = xs.length - 1 := by simp
    have hat : ∀ k (h : k < (xs.drop 1).length), ∃ S c, w.cell? ⟨b0, off0 + (k + 1), none⟩ = some (.slice S (xs.drop 1)[k].length c) ∧ Ints .i64 w S (xs.drop 1)[k] := fun k h => by
      obtain ⟨b, off, S, c, e, -, hc, hI, -⟩ := hX (k + 1) (by omega)
      injection e with e
      injection e with e1 e2
      subst e1 e2
      rw [List.getElem_drop]
      simp only [Nat.add_comm 1 k]
      exact ⟨S, c, hc, hI⟩
    have hone2 : xs.length = 1 → Od.inR side xs[0] = true := fun h => by by_cases q : Od.inR side xs[0] = true; exact q; exact absurd ⟨h, by simpa using q⟩ hone
    generalize xs[0] = s0 at *
    obtain ⟨l, hl'⟩ : ∃ l, xs.drop 1 = l := ⟨_, rfl⟩
    rw [hl'] at hrd hdl hat hjd
    clear hdrop hx0 hone hl'
    have HX := Lib.hid hX
    have Hr := Lib.hid hr
    have HI0 := Lib.hid hI0
    have Hjd := Lib.hid hjd
    have Hrd := Lib.hid hrd
    have Hat := Lib.hid hat
    clear hX hr hI0 hjd hrd hat
    go_enter Tryz.func86, Tryz.ntmps86
    go_upto_region 2 with fail
    go_cut [24] (fun v wx => v = .bool false ∧ w = wx)
    case first =>
      by_cases hx1 : xs.length = 1
      · have hin := hone2 hx1
        simp [Od.inR] at hin
        obtain ⟨p1, p2⟩ := hin
        have e1 : ((xs.length : Int) == 1) = true := by simp; omega
        have e1' : (xs.length == 1) = true := by simp; omega
        have e2 : decide (side < 0) = false := by simp; omega
        have e3 : decide ((s0.length : Int) ≤ side) = false := by simp; omega
        clear hone2 hx1
        go_wp2_with fail
        go_meet
        exact ⟨rfl, rfl⟩
      · have e1 : ((xs.length : Int) == 1) = false := by simp; omega
        have e1' : (xs.length == 1) = false := by simp; omega
        clear hone2 hx1
        go_wp2_with fail
        go_meet
        exact ⟨rfl, rfl⟩
    case rest =>
      obtain ⟨rfl, rfl⟩ := hcut
      clear hone2
      go_wp2_with fail
      go_loopw [6, 7] (fun o i wr => ∃ (k : Nat) (S : Option Addr) (d : Nat) (s : List Int), k ≤ l.length ∧ i = .int .i64 ((k : Int) + 1) ∧ o = .slice S s.length d ∧ Ints .i64 wr S s ∧ s.length ≤ d ∧ d ≤ 9223372036854775807 ∧ Sh.right s = true ∧ Od.joinAll side s0 (l.take k) = (s, 0) ∧ Below w.heap.size w wr) (fun _ i _ => l.length + 1 - (intOf i).toNat)
      case atStart => exact ⟨0, S0, c0, s0, Nat.zero_le _, rfl, rfl, HI0.out, hc0, hm0, hr0, rfl, Below.refl _ _⟩
      case round =>
        obtain ⟨k, S, d, s, hk, rfl, rfl, hI, hs1, hs2, hrs, hja, hbw⟩ := hrel
        by_cases hlt : k < l.length
        · obtain ⟨St, ct, yt, hIt⟩ := Hat.out k hlt
          have hrt := Hrd.out _ (List.getElem_mem hlt)
          obtain ⟨hst, hfl⟩ := joinAll_step hlt hja
          generalize l[k] = t at *
          have y1 := cell_below hbw yt
          have hIt1 := hIt.below hbw (Nat.le_refl _)
          obtain ⟨s3, s4⟩ := right_short hrs
          obtain ⟨t3, t4⟩ := right_short hrt
          have k1 : ((k : Int) + 1) < (xs.length : Int) := by omega
          have k2 : ((k : Int) + 1).toNat = k + 1 := by omega
          have k0 : (0 : Int) ≤ (k : Int) + 1 := by omega
          have k3 : IntKind.i64.wrap ((k : Int) + 1 + 1) = (k : Int) + 1 + 1 := IntWalk.i64_in _ (by omega)
          by_cases hle : t.length = s.length
          rotate_left
          · have e1 : ((t.length : Int) != (s.length : Int)) = true := by rw [bne_iff_ne]; omega
            have e2 : (t.length != s.length) = true := by rw [bne_iff_ne]; omega
            have hj : Od.join s t side = ([], 20) := by unfold Od.join; rw [if_neg]; simp; intro _ _ h; exact absurd h.symm hle
            have HQ := Lib.hid (Hjd.out.trans (hfl (by rw [hj]; simp)))
            have HJ := Lib.hid hj
            clear hst hfl hle hj hja
            have HI := Lib.hid hI
            have HIt := Lib.hid hIt
            have HIt1 := Lib.hid hIt1
            have Hrs := Lib.hid hrs
            have Hrt := Lib.hid hrt
            clear hI hIt hIt1 hrs hrt
            go_wp2_with fail
            go_ret2
            exact ⟨none, 0, by rw [HQ.out, HJ.out]; rfl, by rw [HQ.out]; exact Ints.nil, by rw [HQ.out]; exact Nat.le_refl _, by omega, hbw⟩
          · by_cases hin : Od.inR side s = true
            rotate_left
            · have hj : Od.join s t side = ([], 11) := by unfold Od.join; rw [if_pos (by simp [hrs, hrt, hle]), if_neg hin]
              have HQ := Lib.hid (Hjd.out.trans (hfl (by rw [hj]; simp)))
              have HJ := Lib.hid hj
              simp [Od.inR] at hin
              rw [hle] at y1
              clear hst hfl hle hj hja
              have HI := Lib.hid hI
              have HIt := Lib.hid hIt
              have HIt1 := Lib.hid hIt1
              have Hrs := Lib.hid hrs
              have Hrt := Lib.hid hrt
              clear hI hIt hIt1 hrs hrt
              by_cases hneg : side < 0
              · have e2 : decide (side < 0) = true := by simpa using hneg
                clear hin
                go_wp2_with fail
                go_ret2
                exact ⟨none, 0, by rw [HQ.out, HJ.out]; rfl, by rw [HQ.out]; exact Ints.nil, by rw [HQ.out]; exact Nat.le_refl _, by omega, hbw⟩
              · have e2 : decide (side < 0) = false := by simpa using hneg
                have e3 : decide ((s.length : Int) ≤ side) = true := by simpa using hin (by omega)
                clear hin
                go_wp2_with fail
                go_ret2
                exact ⟨none, 0, by rw [HQ.out, HJ.out]; rfl, by rw [HQ.out]; exact Ints.nil, by rw [HQ.out]; exact Nat.le_refl _, by omega, hbw⟩
            · have hjo : Od.join s t side = if Od.joinOk s t side && Sh.right (Od.joinL s t side) then (Od.joinL s t side, 0) else ([], 20) := by unfold Od.join; rw [if_pos (by simp [hrs, hrt, hle]), if_pos hin]
              simp [Od.inR] at hin
              obtain ⟨sd, rfl⟩ : ∃ sd : Nat, side = (sd : Int) := ⟨side.toNat, by omega⟩
              have hsd : sd < s.length := by omega
              have e2 : decide ((sd : Int) < 0) = false := by simp
              have e3 : decide ((s.length : Int) ≤ (sd : Int)) = false := by simp; omega
              have e3' : decide (s.length ≤ sd) = false := by simp; omega
              rw [hle] at y1
              clear hin
              obtain ⟨bS, offS, rfl, -, -⟩ := hI 0 s3
              obtain ⟨bT, offT, rfl, -, -⟩ := hIt1 0 t3
              have hbs := (Sh.right_mul hrs).2.2.2.1 s[sd] (List.getElem_mem hsd)
              have hlt2 : sd < t.length := by omega
              have hbt := (Sh.right_mul hrt).2.2.2.1 (t[sd]'hlt2) (List.getElem_mem hlt2)
              have hjl : Od.joinL s t (sd : Int) = s.set sd (s[sd] + t[sd]'hlt2) := by unfold Od.joinL Od.at_; rw [Int.toNat_natCast, getD_at hsd, getD_at hlt2]
              have hcS : ∀ m (h : m < s.length), wr.cell? ⟨bS, offS + m, none⟩ = some (.int .i64 s[m]) := fun m h => by
                obtain ⟨b, o, e, -, hc⟩ := hI m h
                injection e with e; injection e with e1 e2; subst e1 e2
                rw [hc, getD_at h]
              have hcT : ∀ m (h : m < t.length), wr.cell? ⟨bT, offT + m, none⟩ = some (.int .i64 t[m]) := fun m h => by
                obtain ⟨b, o, e, -, hc⟩ := hIt1 m h
                injection e with e; injection e with e1 e2; subst e1 e2
                rw [hc, getD_at h]
              have hnot := fun m (hm : m < s.length) => @joinTo_not s t (sd : Int) m hm
              have HI := Lib.hid hI
              have HIt := Lib.hid hIt
              have HIt1 := Lib.hid hIt1
              have Hrs := Lib.hid hrs
              have Hrt := Lib.hid hrt
              have Hst := Lib.hid hst
              have Hfl := Lib.hid hfl
              have Hjo := Lib.hid hjo
              have Hja := Lib.hid hja
              have Hle := Lib.hid hle
              have Hjl := Lib.hid hjl
              have HcS := Lib.hid hcS
              have HcT := Lib.hid hcT
              have Hnot := Lib.hid hnot
              clear hI hIt hIt1 hrs hrt hst hfl hjo hja hle hjl hcS hcT hnot
              go_wp2_with fail
              obtain ⟨wo, rfl⟩ : ∃ wo, wo = wr := ⟨wr, rfl⟩
              go_loopw [8] (fun i wx => ∃ m q : Nat, m ≤ s.length ∧ i = .int .i64 (m : Int) ∧ joinTo s t (sd : Int) m ∧ wx = wo.drewN q) (fun i _ => s.length - (intOf i).toNat)
              case atStart => exact ⟨0, 0, Nat.zero_le _, rfl, fun j hj => by omega, rfl⟩
              case round =>
                obtain ⟨m, q, hm, rfl, hto, rfl⟩ := hrel
                by_cases hlm : m < s.length
                · have hlm2 : m < t.length := by have := Hle.out; omega
                  have z1 := HcS.out m hlm
                  have z2 := HcT.out m hlm2
                  have m0 : (0 : Int) ≤ (m : Int) := by omega
                  have m1 : (m : Int) < (s.length : Int) := by omega
                  by_cases hms : m = sd
                  · have e4 : ((m : Int) != (sd : Int)) = false := by simp [hms]
                    have e4' : (m != sd) = false := by simp [hms]
                    have HT := Lib.hid (show joinTo s t (sd : Int) (m + 1) from fun j hj => by
                      by_cases e : j = m
                      · left; omega
                      · exact hto j (by omega))
                    clear hto hms
                    go_wp2_with fail
                    go_quiet (fail)
                    go_wp2_with fail
                    go_roundw
                    case rel => exact ⟨m + 1, _, by omega, by go_num, HT.out, by first | rfl | exact World.drewN_drewN _ _ _⟩
                    case measure => simp [intOf]; omega
                  · have e4 : ((m : Int) != (sd : Int)) = true := by rw [bne_iff_ne]; omega
                    have e4' : (m != sd) = true := by rw [bne_iff_ne]; exact hms
                    by_cases heq : s[m] = t[m]
                    · have e5 : (s[m] != t[m]) = false := by simp [heq]
                      have HT := Lib.hid (show joinTo s t (sd : Int) (m + 1) from fun j hj => by
                        by_cases e : j = m
                        · right; subst e; rw [getD_at hlm, getD_at hlm2, heq]
                        · exact hto j (by omega))
                      clear hto hms heq
                      generalize s[m] = x at *
                      generalize t[m] = y at *
                      go_wp2_with fail
                      go_quiet (fail)
                      go_wp2_with fail
                      go_roundw
                      case rel => exact ⟨m + 1, _, by omega, by go_num, HT.out, by first | rfl | exact World.drewN_drewN _ _ _⟩
                      case measure => simp [intOf]; omega
                    · have e5 : (s[m] != t[m]) = true := by simp [heq]
                      have hno := Hnot.out m hlm (by omega) (by rw [getD_at hlm, getD_at hlm2]; exact heq)
                      have hj : Od.join s t (sd : Int) = ([], 20) := by rw [Hjo.out, hno]; simp
                      have HQ := Lib.hid (Hjd.out.trans (Hfl.out (by rw [hj]; simp)))
                      have HJ := Lib.hid hj
                      clear hto hms heq hno hj
                      generalize s[m] = x at *
                      generalize t[m] = y at *
                      go_wp2_with fail
                      go_quiet (fail)
                      go_wp2_with fail
                      go_ret2
                      exact ⟨none, 0, by rw [HQ.out, HJ.out]; rfl, by rw [HQ.out]; exact Ints.nil, by rw [HQ.out]; exact Nat.le_refl _, by omega, by first | exact Bdrawn hbw _ | (rw [World.drewN_drewN]; exact Bdrawn hbw _)⟩
                · obtain rfl : m = s.length := by omega
                  have hall := joinTo_all hto
                  have z1 := HcS.out sd hsd
                  have z2 := HcT.out sd hlt2
                  have hIo := HI.out.drewN q
                  have m0 : (0 : Int) ≤ (sd : Int) := by omega
                  have m1 : (sd : Int) < (s.length : Int) := by omega
                  have hjl := Hjl.out
                  have hjo := Hjo.out
                  rw [hall, Bool.true_and, hjl] at hjo
                  have hst := Hst.out
                  have hfl := Hfl.out
                  generalize s[sd] = x at *
                  generalize t[sd] = y at *
                  have ww : IntKind.i64.wrap (x + y) = x + y := IntWalk.i64_in _ (by omega)
                  clear hto hall
                  have HIo := Lib.hid hIo
                  have Hjl := Lib.hid hjl
                  have Hjo := Lib.hid hjo
                  have Hst := Lib.hid hst
                  have Hfl := Lib.hid hfl
                  clear hIo hjl hjo hst hfl
                  go_upto_region 16 with fail
                  go_region_held3 (fun w' => w'.cell? ⟨bS, offS + sd, none⟩ = some (.int .i64 x) ∧ w'.cell? ⟨b0, off0 + (k + 1), none⟩ = some (.slice (some ⟨bT, offT, none⟩) s.length ct) ∧ w'.cell? ⟨bT, offT + sd, none⟩ = some (.int .i64 y)) (first | go_keep | (exact ⟨cell_below hb9 z1, cell_below hb9 y1, cell_below hb9 z2⟩))
                    ((go_at_call 85; refine (ref10_with _ _ s sd (x + y) _ (by omega) (by exact HIo.out) hsd).mono ?_; rintro e w9 ⟨g, rfl, hI9, hg9, hb9⟩))
                  have hb10 := hbw.trans ((show Below wo.heap.size wo w9 from ⟨hb9.os, hb9.tape, hb9.output, hb9.size, hb9.block⟩).mono hbw.size)
                  have hls : (s.set sd (x + y)).length = s.length := List.length_set
                  obtain ⟨s', hs'⟩ : ∃ s', s.set sd (x + y) = s' := ⟨_, rfl⟩
                  have hjo := Hjo.out
                  rw [hs'] at hI9 hls hjo
                  have hcall := ref03_right (some ⟨g, 0, none⟩) s.length s' w9 (by omega) hI9
                  rw [hls] at hcall
                  have Hcall := Lib.hid hcall
                  have HI9 := Lib.hid hI9
                  have Hls := Lib.hid hls
                  have Hjo := Lib.hid hjo
                  have Hs' := Lib.hid hs'
                  clear hcall hI9 hls hjo hs'
                  go_wp2_with fail
                  refine (Hcall.out).mono ?_
                  rintro e w10 ⟨rfl, rfl⟩
                  by_cases hr' : Sh.right s' = true
                  · have hj := Hjo.out
                    rw [if_pos hr'] at hj
                    have HS := Lib.hid (Hst.out (by rw [hj]))
                    have HJ := Lib.hid hj
                    have HR := Lib.hid hr'
                    rw [hr']
                    clear hj hr' z1 z2 y1
                    go_wp2_with fail
                    go_roundw
                    case rel => exact ⟨k + 1, some ⟨g, 0, none⟩, s.length, s', by omega, by go_num, by rw [Hls.out], HI9.out, by have := Hls.out; omega, by omega, HR.out, by rw [HS.out, HJ.out], hb10⟩
                    case measure => simp [intOf]; omega
                  · have hj := Hjo.out
                    rw [if_neg hr'] at hj
                    have HQ := Lib.hid (Hjd.out.trans (Hfl.out (by rw [hj]; simp)))
                    have HJ := Lib.hid hj
                    have hr2 : Sh.right s' = false := by simpa using hr'
                    rw [hr2]
                    clear hj hr' hr2 z1 z2 y1
                    go_wp2_with fail
                    go_ret2
                    exact ⟨none, 0, by rw [HQ.out, HJ.out]; rfl, by rw [HQ.out]; exact Ints.nil, by rw [HQ.out]; exact Nat.le_refl _, by omega, hb10⟩
        · obtain rfl : k = l.length := by omega
          rw [List.take_length] at hja
          have HQ := Lib.hid (Hjd.out.trans hja)
          have k1 : ¬ ((l.length : Int) + 1) < (xs.length : Int) := by omega
          have HI := Lib.hid hI
          have Hja := Lib.hid hja
          have Hrs := Lib.hid hrs
          clear hI hja hrs
          go_wp2_with fail
          go_ret2
          exact ⟨S, d, by rw [HQ.out]; rfl, by rw [HQ.out]; exact HI.out, by rw [HQ.out]; exact hs1, hs2, hbw⟩
end Go.Proofs.YtnffjfjhbjeaiaaGreatDoor
/- The reference of layer 10: Shape: contract, kind by kind (printed by gen/refshape.py). -/
namespace Go.Proofs.YtnffjfjhbjeaiaaGreatDoor
open Go.RowKit
theorem Shps.each {w : World} {b off : Nat} {xs : List (List Int)} (h : Shps w (some ⟨b, off, none⟩) xs) {k : Nat} (hk : k < xs.length) :
    ∃ S c, w.cell? ⟨b, off + k, none⟩ = some (.slice S xs[k].length c) ∧ Ints .i64 w S xs[k] ∧ xs[k].length ≤ c ∧ c ≤ 9223372036854775807 := by
  obtain ⟨b', o', S, c, e, -, hc, hI, h1, h2⟩ := h k hk
  injection e with e
  injection e with e1 e2
  subst e1 e2
  exact ⟨S, c, hc, hI, h1, h2⟩
theorem Ints.at_ {k : IntKind} {w : World} {b off : Nat} {zs : List Int} (h : Ints k w (some ⟨b, off, none⟩) zs) {j : Nat} (hj : j < zs.length) : w.cell? ⟨b, off + j, none⟩ = some (.int k zs[j]) := by
  obtain ⟨b', o', e, -, hc⟩ := h j hj
  injection e with e
  injection e with e1 e2
  subst e1 e2
  rw [hc, getD_at hj]
theorem RefP.err {r : List Int × Int} {w w' : World} {n : Int} (h : r = ([], n)) (hb : Below w.heap.size w w') : RefP r w (.returned (.tuple #[.slice none 0 0, .int .i64 n])) w' :=
  ⟨none, 0, by rw [h]; rfl, by rw [h]; exact Ints.nil, by rw [h]; exact Nat.le_refl _, by omega, hb⟩
theorem RefP.ok {r : List Int × Int} {w w' : World} {S : Option Addr} {s : List Int} {c n : Nat} (h : r = (s, 0)) (hn : s.length = n) (hI : Ints .i64 w' S s) (h1 : s.length ≤ c) (h2 : c ≤ 9223372036854775807) (hb : Below w.heap.size w w') : RefP r w (.returned (.tuple #[.slice S n c, .int .i64 0])) w' := by
  subst hn
  exact ⟨S, c, by rw [h], by rw [h]; exact hI, by rw [h]; exact h1, h2, hb⟩
theorem Bdrawn2 {B : Nat} {a w : World} (h : Below B a w) (n m : Nat) : Below B a ((w.drewN n).drewN m) := Bdrawn (Bdrawn h n) m
theorem list_two {l : List Int} (h : l.length = 2) : ∃ a b, l = [a, b] := by
  match l, h with
  | [a, b], _ => exact ⟨a, b, rfl⟩
theorem list_one' {l : List Int} (h : l.length = 1) : ∃ x, l = [x] := by
  match l, h with
  | [x], _ => exact ⟨x, rfl⟩
set_option maxRecDepth 20000 in
set_option maxHeartbeats 8000000 in
theorem ref10_shape_pt (o : OpD) (S P X : Option Addr) (c d f : Nat) (p x : List (List Int)) (w : World) (hk : o.kind ≤ 7) (ho : o.s.length ≤ 1099511627776) (hsc : o.s.length ≤ c) (hsm : c ≤ 9223372036854775807) (hw : o.wide) (hS : Ints .i64 w S o.s) (hP : Shps w P p) (hX : Shps w X x) (hxl : x.length ≤ 1048576) (h1 : 1 ≤ x.length) (hp : ∀ s ∈ p, Sh.right s = true) (hx : ∀ s ∈ x, Sh.right s = true) :
    Calls Tryz.prog 68 #[.agg #[.int .i64 o.kind, .int .i64 o.k, .int .i64 o.width, .int .i64 o.step, .int .i64 o.side, .int .i64 o.frm, .int .i64 o.to, .slice S o.s.length c], .slice P p.length d, .slice X x.length f] w (RefP (Od.byKind o p x) w) := by
  have hq : Od.byKind o p x = Od.same x := by unfold Od.byKind; rw [if_neg (by omega), if_neg (by omega), if_neg (by omega), if_neg (by omega), if_neg (by omega), if_neg (by omega), if_neg (by omega)]
  obtain ⟨bx, ox, S0, c0, rfl, -⟩ := hX 0 h1
  have hb0 : Below w.heap.size w (w.alloc (.cells #[.int .i64 o.kind, .int .i64 o.k, .int .i64 o.width, .int .i64 o.step, .int .i64 o.side, .int .i64 o.frm, .int .i64 o.to, .slice S o.s.length c] 80)) := (Below.refl _ _).alloc (Nat.le_refl _) _
  have hk0 := Blk.new w 80 #[.int .i64 o.kind, .int .i64 o.k, .int .i64 o.width, .int .i64 o.step, .int .i64 o.side, .int .i64 o.frm, .int .i64 o.to, .slice S o.s.length c]
  obtain ⟨z0, z1, z2, z3, z4, z5, z6, z7⟩ := op_cells hk0
  have hX1 := hX.below hb0 (Nat.le_refl _)
  have hP1 := hP.below hb0 (Nat.le_refl _)
  have hS1 := hS.below hb0 (Nat.le_refl _)
  have hr0 := hx x[0] (List.getElem_mem h1)
  have hx0 : x.getD 0 [] = x[0] := gets_at h1
  first | rw [hx0] at hq | skip
  have e1 : decide (o.kind ≤ 7) = true := by simpa using hk
  clear hk
  have Hk0 := Lib.hid hk0
  have HX := Lib.hid hX
  have HP := Lib.hid hP
  have HS := Lib.hid hS
  have Hp := Lib.hid hp
  have Hx := Lib.hid hx
  clear hk0 hX hP hS hp hx
  go_enter Tryz.func68, Tryz.ntmps68
  go_upto_region 1 with fail
  generalize (w.alloc (.cells #[.int .i64 o.kind, .int .i64 o.k, .int .i64 o.width, .int .i64 o.step, .int .i64 o.side, .int .i64 o.frm, .int .i64 o.to, .slice S o.s.length c] 80)) = w1 at *
  obtain ⟨S0', c0', y0, hI0, hc0, hm0⟩ := hX1.each h1
  rw [Nat.add_zero] at y0
  clear S0
  generalize hs0 : x[0] = s0 at *
  have hbs := (Sh.right_mul hr0).2.2.2.1
  obtain ⟨s3, s4⟩ := right_short hr0
  have HX1 := Lib.hid hX1
  have HP1 := Lib.hid hP1
  have HS1 := Lib.hid hS1
  have HI0 := Lib.hid hI0
  have Hr0 := Lib.hid hr0
  have Hq := Lib.hid hq
  have Hx0 := Lib.hid hx0
  have Hs0 := Lib.hid hs0
  have Hbs := Lib.hid hbs
  have Hw := Lib.hid hw
  clear hX1 hP1 hS1 hI0 hr0 hq hx0 hs0 hbs hw
  go_wp2_with fail
  refine (ref03_size S0' c0' s0 w1 Hr0.out HI0.out).mono ?_
  rintro e w2 ⟨rfl, rfl⟩
  go_wp2_with fail
  go_loopw [10] (fun i wx => ∃ k q : Nat, k ≤ x.length ∧ i = .int .i64 (k : Int) ∧ (∀ j (hj : j < x.length), j < k → x[j] = s0) ∧ wx = w1.drewN q) (fun i _ => x.length - (intOf i).toNat)
  case atStart => exact ⟨0, 0, Nat.zero_le _, rfl, fun j hj h => by omega, rfl⟩
  case round =>
    obtain ⟨k, q, hk, rfl, hall, rfl⟩ := hrel
    by_cases hlt : k < x.length
    · obtain ⟨Sk, ck, yk, hIk, hck, hmk⟩ := HX1.out.each hlt
      have k0 : (0 : Int) ≤ (k : Int) := by omega
      have k1 : (k : Int) < (x.length : Int) := by omega
      have hgo : x[k] = s0 → ∀ j (hj : j < x.length), j < k + 1 → x[j] = s0 := fun e j hj hjk => by
        by_cases h : j = k
        · subst h; exact e
        · exact hall j hj (by omega)
      have hno : x[k] ≠ s0 → Od.same x = ([], 20) := fun e => by
        unfold Od.same
        rw [if_neg]
        rw [List.all_eq_true]
        intro h
        have := h x[k] (List.getElem_mem hlt)
        rw [Hx0.out] at this
        exact e (by simpa using this)
      have hxk := Hx.out x[k] (List.getElem_mem hlt)
      obtain ⟨a3, a4⟩ := right_short hxk
      generalize x[k] = t at *
      have HIk := Lib.hid hIk
      have Hall := Lib.hid hall
      have Hgo := Lib.hid hgo
      have Hno := Lib.hid hno
      have Hxk := Lib.hid hxk
      clear hIk hall hgo hno hxk
      go_wp2_with fail
      refine (ref03_same Sk S0' ck c0' t s0 _ (by omega) (by omega) (HIk.out.drewN q) (HI0.out.drewN q)).mono ?_
      rintro e w3 ⟨rfl, q2, rfl⟩
      by_cases he : t = s0
      · have e1 : decide (t = s0) = true := by simpa using he
        have HG := Lib.hid (Hgo.out he)
        rw [e1]
        clear he e1
        go_wp2_with fail
        go_roundw
        case rel => exact ⟨k + 1, _, by omega, by go_num, HG.out, by first | rfl | exact World.drewN_drewN _ _ _⟩
        case measure => simp [intOf]; omega
      · have e1 : decide (t = s0) = false := by simpa using he
        have HN := Lib.hid (Hq.out.trans (Hno.out he))
        rw [e1]
        clear he e1
        go_wp2_with fail
        go_ret2
        exact RefP.err HN.out (by first | exact Bdrawn2 hb0 _ _ | exact Bdrawn hb0 _)
    · obtain rfl : k = x.length := by omega
      have HN := Lib.hid (Hq.out.trans (show Od.same x = (s0, 0) by
        unfold Od.same
        rw [Hx0.out, if_pos]
        rw [List.all_eq_true]
        intro t ht
        obtain ⟨j, hj, rfl⟩ := List.getElem_of_mem ht
        simpa using hall j hj hj))
      clear hall
      go_wp2_with fail
      go_ret2
      exact RefP.ok HN.out rfl (HI0.out.drewN q) hc0 hm0 (by first | exact Bdrawn2 hb0 _ _ | exact Bdrawn hb0 _)

set_option maxRecDepth 20000 in
set_option maxHeartbeats 8000000 in
theorem ref10_shape_scale (o : OpD) (S P X : Option Addr) (c d f : Nat) (p x : List (List Int)) (w : World) (hk : o.kind = 9) (hpl : p.length = 1) (ho : o.s.length ≤ 1099511627776) (hsc : o.s.length ≤ c) (hsm : c ≤ 9223372036854775807) (hw : o.wide) (hS : Ints .i64 w S o.s) (hP : Shps w P p) (hX : Shps w X x) (hxl : x.length ≤ 1048576) (h1 : 1 ≤ x.length) (hp : ∀ s ∈ p, Sh.right s = true) (hx : ∀ s ∈ x, Sh.right s = true) :
    Calls Tryz.prog 68 #[.agg #[.int .i64 o.kind, .int .i64 o.k, .int .i64 o.width, .int .i64 o.step, .int .i64 o.side, .int .i64 o.frm, .int .i64 o.to, .slice S o.s.length c], .slice P p.length d, .slice X x.length f] w (RefP (Od.byKind o p x) w) := by
  have hq : Od.byKind o p x = Od.same [p.getD 0 [], x.getD 0 []] := by unfold Od.byKind; simp [hk]
  obtain ⟨bx, ox, S0, c0, rfl, -⟩ := hX 0 h1
  obtain ⟨bp, op, T0, d0, rfl, -⟩ := hP 0 (by omega)
  have hb0 : Below w.heap.size w (w.alloc (.cells #[.int .i64 o.kind, .int .i64 o.k, .int .i64 o.width, .int .i64 o.step, .int .i64 o.side, .int .i64 o.frm, .int .i64 o.to, .slice S o.s.length c] 80)) := (Below.refl _ _).alloc (Nat.le_refl _) _
  have hk0 := Blk.new w 80 #[.int .i64 o.kind, .int .i64 o.k, .int .i64 o.width, .int .i64 o.step, .int .i64 o.side, .int .i64 o.frm, .int .i64 o.to, .slice S o.s.length c]
  obtain ⟨z0, z1, z2, z3, z4, z5, z6, z7⟩ := op_cells hk0
  have hX1 := hX.below hb0 (Nat.le_refl _)
  have hP1 := hP.below hb0 (Nat.le_refl _)
  have hS1 := hS.below hb0 (Nat.le_refl _)
  have hr0 := hx x[0] (List.getElem_mem h1)
  have hx0 : x.getD 0 [] = x[0] := gets_at h1
  first | rw [hx0] at hq | skip
  have hrp := hp p[0] (List.getElem_mem (by omega))
  have hp0 : p.getD 0 [] = p[0] := gets_at (by omega)
  first | rw [hp0] at hq | skip
  have l7 : decide (o.kind ≤ 7) = false := by simp; omega
  have e8 : (o.kind == 8) = false := by simp; omega
  have e9 : (o.kind == 9) = true := by simp; omega
  clear hk
  have Hk0 := Lib.hid hk0
  have HX := Lib.hid hX
  have HP := Lib.hid hP
  have HS := Lib.hid hS
  have Hp := Lib.hid hp
  have Hx := Lib.hid hx
  clear hk0 hX hP hS hp hx
  go_enter Tryz.func68, Tryz.ntmps68
  go_upto_region 1 with fail
  generalize (w.alloc (.cells #[.int .i64 o.kind, .int .i64 o.k, .int .i64 o.width, .int .i64 o.step, .int .i64 o.side, .int .i64 o.frm, .int .i64 o.to, .slice S o.s.length c] 80)) = w1 at *
  obtain ⟨S0', c0', y0, hI0, hc0, hm0⟩ := hX1.each h1
  rw [Nat.add_zero] at y0
  obtain ⟨T0', d0', v0, hJ0, hd0, hn0⟩ := hP1.each (show 0 < p.length by omega)
  rw [Nat.add_zero] at v0
  clear T0
  clear S0
  generalize hs0 : x[0] = s0 at *
  generalize hsp : p[0] = t0 at *
  obtain ⟨q3, q4⟩ := right_short hrp
  have hbs := (Sh.right_mul hr0).2.2.2.1
  obtain ⟨s3, s4⟩ := right_short hr0
  have HX1 := Lib.hid hX1
  have HP1 := Lib.hid hP1
  have HS1 := Lib.hid hS1
  have HI0 := Lib.hid hI0
  have Hr0 := Lib.hid hr0
  have Hq := Lib.hid hq
  have Hx0 := Lib.hid hx0
  have Hs0 := Lib.hid hs0
  have Hbs := Lib.hid hbs
  have Hw := Lib.hid hw
  have HJ0 := Lib.hid hJ0
  have Hrp := Lib.hid hrp
  have Hp0 := Lib.hid hp0
  have Hsp := Lib.hid hsp
  clear hX1 hP1 hS1 hI0 hr0 hq hx0 hs0 hbs hw hJ0 hrp hp0 hsp
  go_wp2_with fail
  refine (ref03_size S0' c0' s0 w1 Hr0.out HI0.out).mono ?_
  rintro e w2 ⟨rfl, rfl⟩
  go_wp2_with fail
  refine (ref03_same T0' S0' d0' c0' t0 s0 _ (by omega) (by omega) HJ0.out HI0.out).mono ?_
  rintro e w3 ⟨rfl, q2, rfl⟩
  by_cases he : t0 = s0
  · have e1 : decide (t0 = s0) = true := by simpa using he
    have HN := Lib.hid (Hq.out.trans (show Od.same [t0, s0] = (s0, 0) by simp [Od.same, he]))
    rw [e1]
    clear he e1
    go_wp2_with fail
    go_ret2
    exact RefP.ok HN.out rfl (HI0.out.drewN q2) hc0 hm0 (Bdrawn hb0 _)
  · have e1 : decide (t0 = s0) = false := by simpa using he
    have HN := Lib.hid (Hq.out.trans (show Od.same [t0, s0] = ([], 20) by
      unfold Od.same
      rw [if_neg]
      simp
      intro e
      exact he e.symm))
    rw [e1]
    clear he e1
    go_wp2_with fail
    go_ret2
    exact RefP.err HN.out (Bdrawn hb0 _)

set_option maxRecDepth 20000 in
set_option maxHeartbeats 8000000 in
theorem ref10_shape_join (o : OpD) (S P X : Option Addr) (c d f : Nat) (p x : List (List Int)) (w : World) (hk : o.kind = 13) (ho : o.s.length ≤ 1099511627776) (hsc : o.s.length ≤ c) (hsm : c ≤ 9223372036854775807) (hw : o.wide) (hS : Ints .i64 w S o.s) (hP : Shps w P p) (hX : Shps w X x) (hxl : x.length ≤ 1048576) (h1 : 1 ≤ x.length) (hp : ∀ s ∈ p, Sh.right s = true) (hx : ∀ s ∈ x, Sh.right s = true) :
    Calls Tryz.prog 68 #[.agg #[.int .i64 o.kind, .int .i64 o.k, .int .i64 o.width, .int .i64 o.step, .int .i64 o.side, .int .i64 o.frm, .int .i64 o.to, .slice S o.s.length c], .slice P p.length d, .slice X x.length f] w (RefP (Od.byKind o p x) w) := by
  have hq : Od.byKind o p x = Od.joined o.side x := by unfold Od.byKind; simp [hk]
  obtain ⟨bx, ox, S0, c0, rfl, -⟩ := hX 0 h1
  have hb0 : Below w.heap.size w (w.alloc (.cells #[.int .i64 o.kind, .int .i64 o.k, .int .i64 o.width, .int .i64 o.step, .int .i64 o.side, .int .i64 o.frm, .int .i64 o.to, .slice S o.s.length c] 80)) := (Below.refl _ _).alloc (Nat.le_refl _) _
  have hk0 := Blk.new w 80 #[.int .i64 o.kind, .int .i64 o.k, .int .i64 o.width, .int .i64 o.step, .int .i64 o.side, .int .i64 o.frm, .int .i64 o.to, .slice S o.s.length c]
  obtain ⟨z0, z1, z2, z3, z4, z5, z6, z7⟩ := op_cells hk0
  have hX1 := hX.below hb0 (Nat.le_refl _)
  have hP1 := hP.below hb0 (Nat.le_refl _)
  have hS1 := hS.below hb0 (Nat.le_refl _)
  have hr0 := hx x[0] (List.getElem_mem h1)
  have hx0 : x.getD 0 [] = x[0] := gets_at h1
  first | rw [hx0] at hq | skip
  have l7 : decide (o.kind ≤ 7) = false := by simp; omega
  have l12 : decide (o.kind ≤ 12) = false := by simp; omega
  have e8 : (o.kind == 8) = false := by simp; omega
  have e9 : (o.kind == 9) = false := by simp; omega
  have e10 : (o.kind == 10) = false := by simp; omega
  have e13 : (o.kind == 13) = true := by simp; omega
  clear hk
  have Hk0 := Lib.hid hk0
  have HX := Lib.hid hX
  have HP := Lib.hid hP
  have HS := Lib.hid hS
  have Hp := Lib.hid hp
  have Hx := Lib.hid hx
  clear hk0 hX hP hS hp hx
  go_enter Tryz.func68, Tryz.ntmps68
  go_upto_region 1 with fail
  generalize (w.alloc (.cells #[.int .i64 o.kind, .int .i64 o.k, .int .i64 o.width, .int .i64 o.step, .int .i64 o.side, .int .i64 o.frm, .int .i64 o.to, .slice S o.s.length c] 80)) = w1 at *
  obtain ⟨S0', c0', y0, hI0, hc0, hm0⟩ := hX1.each h1
  rw [Nat.add_zero] at y0
  clear S0
  generalize hs0 : x[0] = s0 at *
  have hbs := (Sh.right_mul hr0).2.2.2.1
  obtain ⟨s3, s4⟩ := right_short hr0
  have HX1 := Lib.hid hX1
  have HP1 := Lib.hid hP1
  have HS1 := Lib.hid hS1
  have HI0 := Lib.hid hI0
  have Hr0 := Lib.hid hr0
  have Hq := Lib.hid hq
  have Hx0 := Lib.hid hx0
  have Hs0 := Lib.hid hs0
  have Hbs := Lib.hid hbs
  have Hw := Lib.hid hw
  clear hX1 hP1 hS1 hI0 hr0 hq hx0 hs0 hbs hw
  go_wp2_with fail
  refine (ref03_size S0' c0' s0 w1 Hr0.out HI0.out).mono ?_
  rintro e w2 ⟨rfl, rfl⟩
  go_wp2_with fail
  refine (ref10_joined o.side (some ⟨bx, ox, none⟩) f x _ HX1.out hxl h1 Hx.out).mono ?_
  rintro e w3 ⟨S9, c9, rfl, hI9, h91, h92, hb9⟩
  have hb10 := hb0.trans (hb9.mono hb0.size)
  have hqe := Hq.out
  generalize Od.joined o.side x = r at *
  have HI9 := Lib.hid hI9
  have Hqe := Lib.hid hqe
  clear hI9 hqe
  go_wp2_with fail
  go_ret2
  exact ⟨S9, c9, by rw [Hqe.out]; rfl, by rw [Hqe.out]; exact HI9.out, by rw [Hqe.out]; exact h91, h92, hb10⟩

set_option maxRecDepth 20000 in
set_option maxHeartbeats 8000000 in
theorem ref10_shape_turn (o : OpD) (S P X : Option Addr) (c d f : Nat) (p x : List (List Int)) (w : World) (hk : o.kind = 15) (ho : o.s.length ≤ 1099511627776) (hsc : o.s.length ≤ c) (hsm : c ≤ 9223372036854775807) (hw : o.wide) (hS : Ints .i64 w S o.s) (hP : Shps w P p) (hX : Shps w X x) (hxl : x.length ≤ 1048576) (h1 : 1 ≤ x.length) (hp : ∀ s ∈ p, Sh.right s = true) (hx : ∀ s ∈ x, Sh.right s = true) :
    Calls Tryz.prog 68 #[.agg #[.int .i64 o.kind, .int .i64 o.k, .int .i64 o.width, .int .i64 o.step, .int .i64 o.side, .int .i64 o.frm, .int .i64 o.to, .slice S o.s.length c], .slice P p.length d, .slice X x.length f] w (RefP (Od.byKind o p x) w) := by
  have hq : Od.byKind o p x = Od.turned (x.getD 0 []) o.s := by unfold Od.byKind; simp [hk]
  obtain ⟨bx, ox, S0, c0, rfl, -⟩ := hX 0 h1
  have hb0 : Below w.heap.size w (w.alloc (.cells #[.int .i64 o.kind, .int .i64 o.k, .int .i64 o.width, .int .i64 o.step, .int .i64 o.side, .int .i64 o.frm, .int .i64 o.to, .slice S o.s.length c] 80)) := (Below.refl _ _).alloc (Nat.le_refl _) _
  have hk0 := Blk.new w 80 #[.int .i64 o.kind, .int .i64 o.k, .int .i64 o.width, .int .i64 o.step, .int .i64 o.side, .int .i64 o.frm, .int .i64 o.to, .slice S o.s.length c]
  obtain ⟨z0, z1, z2, z3, z4, z5, z6, z7⟩ := op_cells hk0
  have hX1 := hX.below hb0 (Nat.le_refl _)
  have hP1 := hP.below hb0 (Nat.le_refl _)
  have hS1 := hS.below hb0 (Nat.le_refl _)
  have hr0 := hx x[0] (List.getElem_mem h1)
  have hx0 : x.getD 0 [] = x[0] := gets_at h1
  first | rw [hx0] at hq | skip
  have l7 : decide (o.kind ≤ 7) = false := by simp; omega
  have l12 : decide (o.kind ≤ 12) = false := by simp; omega
  have e8 : (o.kind == 8) = false := by simp; omega
  have e9 : (o.kind == 9) = false := by simp; omega
  have e10 : (o.kind == 10) = false := by simp; omega
  have e13 : (o.kind == 13) = false := by simp; omega
  have e14 : (o.kind == 14) = false := by simp; omega
  clear hk
  have Hk0 := Lib.hid hk0
  have HX := Lib.hid hX
  have HP := Lib.hid hP
  have HS := Lib.hid hS
  have Hp := Lib.hid hp
  have Hx := Lib.hid hx
  clear hk0 hX hP hS hp hx
  go_enter Tryz.func68, Tryz.ntmps68
  go_upto_region 1 with fail
  generalize (w.alloc (.cells #[.int .i64 o.kind, .int .i64 o.k, .int .i64 o.width, .int .i64 o.step, .int .i64 o.side, .int .i64 o.frm, .int .i64 o.to, .slice S o.s.length c] 80)) = w1 at *
  obtain ⟨S0', c0', y0, hI0, hc0, hm0⟩ := hX1.each h1
  rw [Nat.add_zero] at y0
  clear S0
  generalize hs0 : x[0] = s0 at *
  have hbs := (Sh.right_mul hr0).2.2.2.1
  obtain ⟨s3, s4⟩ := right_short hr0
  have HX1 := Lib.hid hX1
  have HP1 := Lib.hid hP1
  have HS1 := Lib.hid hS1
  have HI0 := Lib.hid hI0
  have Hr0 := Lib.hid hr0
  have Hq := Lib.hid hq
  have Hx0 := Lib.hid hx0
  have Hs0 := Lib.hid hs0
  have Hbs := Lib.hid hbs
  have Hw := Lib.hid hw
  clear hX1 hP1 hS1 hI0 hr0 hq hx0 hs0 hbs hw
  go_wp2_with fail
  refine (ref03_size S0' c0' s0 w1 Hr0.out HI0.out).mono ?_
  rintro e w2 ⟨rfl, rfl⟩
  go_wp2_with fail
  refine (ref03_right S c o.s _ (by omega) HS1.out).mono ?_
  rintro e w3 ⟨rfl, rfl⟩
  by_cases hr : Sh.right o.s = true
  · rw [hr]
    have hn := Hq.out
    unfold Od.turned at hn
    rw [Hr0.out, hr, Bool.true_and, Bool.true_and] at hn
    have HRS := Lib.hid hr
    have HN := Lib.hid hn
    clear hr hn
    go_wp2_with fail
    refine (ref03_size S c o.s _ HRS.out HS1.out).mono ?_
    rintro e w3 ⟨rfl, rfl⟩
    by_cases he : Safe.prod o.s = Safe.prod s0
    · have e1 : (Safe.prod o.s != Safe.prod s0) = false := by simp [he]
      have HM := Lib.hid (HN.out.trans (if_pos (decide_eq_true he)))
      clear he
      go_wp2_with fail
      go_ret2
      exact RefP.ok HM.out rfl HS1.out hsc hsm hb0
    · have e1 : (Safe.prod o.s != Safe.prod s0) = true := by simp [he]
      have HM := Lib.hid (HN.out.trans (if_neg (by simpa using he)))
      clear he
      go_wp2_with fail
      go_ret2
      exact RefP.err HM.out hb0
  · have hr' : Sh.right o.s = false := by simpa using hr
    rw [hr']
    have HM := Lib.hid (Hq.out.trans (show Od.turned s0 o.s = ([], 20) by unfold Od.turned; rw [hr']; simp))
    clear hr hr'
    go_wp2_with fail
    go_ret2
    exact RefP.err HM.out hb0

set_option maxRecDepth 20000 in
set_option maxHeartbeats 8000000 in
theorem ref10_shape_pool (o : OpD) (S P X : Option Addr) (c d f : Nat) (p x : List (List Int)) (w : World) (hk : o.kind = 11 ∨ o.kind = 12) (ho : o.s.length ≤ 1099511627776) (hsc : o.s.length ≤ c) (hsm : c ≤ 9223372036854775807) (hw : o.wide) (hS : Ints .i64 w S o.s) (hP : Shps w P p) (hX : Shps w X x) (hxl : x.length ≤ 1048576) (h1 : 1 ≤ x.length) (hp : ∀ s ∈ p, Sh.right s = true) (hx : ∀ s ∈ x, Sh.right s = true) :
    Calls Tryz.prog 68 #[.agg #[.int .i64 o.kind, .int .i64 o.k, .int .i64 o.width, .int .i64 o.step, .int .i64 o.side, .int .i64 o.frm, .int .i64 o.to, .slice S o.s.length c], .slice P p.length d, .slice X x.length f] w (RefP (Od.byKind o p x) w) := by
  have hq : Od.byKind o p x = Od.pool (x.getD 0 []) o.width o.step := by unfold Od.byKind; rw [if_neg (by omega), if_neg (by omega), if_neg (by omega), if_pos hk]
  obtain ⟨bx, ox, S0, c0, rfl, -⟩ := hX 0 h1
  have hb0 : Below w.heap.size w (w.alloc (.cells #[.int .i64 o.kind, .int .i64 o.k, .int .i64 o.width, .int .i64 o.step, .int .i64 o.side, .int .i64 o.frm, .int .i64 o.to, .slice S o.s.length c] 80)) := (Below.refl _ _).alloc (Nat.le_refl _) _
  have hk0 := Blk.new w 80 #[.int .i64 o.kind, .int .i64 o.k, .int .i64 o.width, .int .i64 o.step, .int .i64 o.side, .int .i64 o.frm, .int .i64 o.to, .slice S o.s.length c]
  obtain ⟨z0, z1, z2, z3, z4, z5, z6, z7⟩ := op_cells hk0
  have hX1 := hX.below hb0 (Nat.le_refl _)
  have hP1 := hP.below hb0 (Nat.le_refl _)
  have hS1 := hS.below hb0 (Nat.le_refl _)
  have hr0 := hx x[0] (List.getElem_mem h1)
  have hx0 : x.getD 0 [] = x[0] := gets_at h1
  first | rw [hx0] at hq | skip
  have l7 : decide (o.kind ≤ 7) = false := by simp; omega
  have e8 : (o.kind == 8) = false := by simp; omega
  have e9 : (o.kind == 9) = false := by simp; omega
  have e10 : (o.kind == 10) = false := by simp; omega
  have l12 : decide (o.kind ≤ 12) = true := by simp; omega
  clear hk
  have Hk0 := Lib.hid hk0
  have HX := Lib.hid hX
  have HP := Lib.hid hP
  have HS := Lib.hid hS
  have Hp := Lib.hid hp
  have Hx := Lib.hid hx
  clear hk0 hX hP hS hp hx
  go_enter Tryz.func68, Tryz.ntmps68
  go_upto_region 1 with fail
  generalize (w.alloc (.cells #[.int .i64 o.kind, .int .i64 o.k, .int .i64 o.width, .int .i64 o.step, .int .i64 o.side, .int .i64 o.frm, .int .i64 o.to, .slice S o.s.length c] 80)) = w1 at *
  obtain ⟨S0', c0', y0, hI0, hc0, hm0⟩ := hX1.each h1
  rw [Nat.add_zero] at y0
  clear S0
  generalize hs0 : x[0] = s0 at *
  have hbs := (Sh.right_mul hr0).2.2.2.1
  obtain ⟨s3, s4⟩ := right_short hr0
  have HX1 := Lib.hid hX1
  have HP1 := Lib.hid hP1
  have HS1 := Lib.hid hS1
  have HI0 := Lib.hid hI0
  have Hr0 := Lib.hid hr0
  have Hq := Lib.hid hq
  have Hx0 := Lib.hid hx0
  have Hs0 := Lib.hid hs0
  have Hbs := Lib.hid hbs
  have Hw := Lib.hid hw
  clear hX1 hP1 hS1 hI0 hr0 hq hx0 hs0 hbs hw
  go_wp2_with fail
  refine (ref03_size S0' c0' s0 w1 Hr0.out HI0.out).mono ?_
  rintro e w2 ⟨rfl, rfl⟩
  have hl1 : s0.length - 1 < s0.length := by omega
  have hwin := Hq.out
  unfold Od.pool at hwin
  rw [if_pos Hr0.out, getD_at hl1] at hwin
  obtain ⟨bs, os, rfl, -, -⟩ := HI0.out 0 s3
  have g0 := HI0.out.at_ hl1
  have hbl := Hbs.out _ (List.getElem_mem hl1)
  have i1 : IntKind.i64.wrap ((s0.length : Int) - 1) = ((s0.length - 1 : Nat) : Int) := by rw [IntWalk.i64_in _ (by omega)]; omega
  have i2 : (0 : Int) ≤ ((s0.length - 1 : Nat) : Int) := by omega
  have i3 : ((s0.length - 1 : Nat) : Int) < (s0.length : Int) := by omega
  have hcall := fun n : Nat => ref07_window s0[s0.length - 1] o.width o.step (w1.drewN n)
  have hok := @Od.window_ok s0[s0.length - 1] o.width o.step
  have herr := @Od.window_err s0[s0.length - 1] o.width o.step
  generalize s0[s0.length - 1] = z at *
  have hset : ∀ v, (s0.set (s0.length - 1) v).length = s0.length := fun v => List.length_set
  have hwith := fun (n : Nat) (v : Int) => ref10_with (some ⟨bs, os, none⟩) c0' s0 (s0.length - 1) v (w1.drewN n) (by omega) (HI0.out.drewN n) hl1
  obtain ⟨l, hl⟩ : ∃ l : Nat, s0.length - 1 = l := ⟨_, rfl⟩
  have hls : (s0.length : Int) - 1 = (l : Int) := by omega
  rw [hl] at g0 i1 i2 i3 hwith hwin hset
  have i4 : l < s0.length := by omega
  have Hwin := Lib.hid hwin
  have Hcall := Lib.hid hcall
  have Hok := Lib.hid hok
  have Herr := Lib.hid herr
  have Hset := Lib.hid hset
  have Hl := Lib.hid hl
  have Hls := Lib.hid hls
  clear hwin hcall hok herr hset hl hls
  have HWI := Lib.hid hwith
  clear hwith hl1
  go_wp2_with fail
  go_quiet ((go_at_call 84; exact quiet_same (Hcall.out _)))
  rename_i nq
  generalize hwv : Od.window z o.width o.step = wv at *
  by_cases hz : wv.2 = 0
  · have hb := Hok.out hz
    have e1 : (wv.1 == 0) = false := by simp; omega
    have HN := Lib.hid (Hwin.out.trans (if_pos hz))
    have HC := Lib.hid (HWI.out nq wv.1)
    clear hz hb
    have Hwv := Lib.hid hwv
    clear hwv
    go_wp2_with fail
    refine (HC.out).mono ?_
    rintro e w3 ⟨g, rfl, hI9, hg9, hb9⟩
    have hb10 := (Bdrawn hb0 nq).trans (hb9.mono hb0.size)
    have hsz := Hset.out wv.1
    generalize s0.set l wv.1 = s9 at *
    have HI9 := Lib.hid hI9
    have Hsz := Lib.hid hsz
    clear hI9 hsz
    go_wp2_with fail
    go_ret2
    exact RefP.ok HN.out rfl HI9.out (Nat.le_refl _) (by have := Hsz.out; omega) hb10
  · have hb := Herr.out hz
    have e1 : (wv.1 == 0) = true := by rw [hb]; rfl
    have HN := Lib.hid (Hwin.out.trans (if_neg hz))
    clear hz hb
    have Hwv := Lib.hid hwv
    clear hwv
    go_wp2_with fail
    go_ret2
    exact RefP.err HN.out (Bdrawn hb0 _)

set_option maxRecDepth 20000 in
set_option maxHeartbeats 8000000 in
theorem ref10_shape_cut (o : OpD) (S P X : Option Addr) (c d f : Nat) (p x : List (List Int)) (w : World) (hk : o.kind = 14) (ho : o.s.length ≤ 1099511627776) (hsc : o.s.length ≤ c) (hsm : c ≤ 9223372036854775807) (hw : o.wide) (hS : Ints .i64 w S o.s) (hP : Shps w P p) (hX : Shps w X x) (hxl : x.length ≤ 1048576) (h1 : 1 ≤ x.length) (hp : ∀ s ∈ p, Sh.right s = true) (hx : ∀ s ∈ x, Sh.right s = true) :
    Calls Tryz.prog 68 #[.agg #[.int .i64 o.kind, .int .i64 o.k, .int .i64 o.width, .int .i64 o.step, .int .i64 o.side, .int .i64 o.frm, .int .i64 o.to, .slice S o.s.length c], .slice P p.length d, .slice X x.length f] w (RefP (Od.byKind o p x) w) := by
  have hq : Od.byKind o p x = Od.cut (x.getD 0 []) o.side o.frm o.to := by unfold Od.byKind; simp [hk]
  obtain ⟨bx, ox, S0, c0, rfl, -⟩ := hX 0 h1
  have hb0 : Below w.heap.size w (w.alloc (.cells #[.int .i64 o.kind, .int .i64 o.k, .int .i64 o.width, .int .i64 o.step, .int .i64 o.side, .int .i64 o.frm, .int .i64 o.to, .slice S o.s.length c] 80)) := (Below.refl _ _).alloc (Nat.le_refl _) _
  have hk0 := Blk.new w 80 #[.int .i64 o.kind, .int .i64 o.k, .int .i64 o.width, .int .i64 o.step, .int .i64 o.side, .int .i64 o.frm, .int .i64 o.to, .slice S o.s.length c]
  obtain ⟨z0, z1, z2, z3, z4, z5, z6, z7⟩ := op_cells hk0
  have hX1 := hX.below hb0 (Nat.le_refl _)
  have hP1 := hP.below hb0 (Nat.le_refl _)
  have hS1 := hS.below hb0 (Nat.le_refl _)
  have hr0 := hx x[0] (List.getElem_mem h1)
  have hx0 : x.getD 0 [] = x[0] := gets_at h1
  first | rw [hx0] at hq | skip
  have l7 : decide (o.kind ≤ 7) = false := by simp; omega
  have l12 : decide (o.kind ≤ 12) = false := by simp; omega
  have e8 : (o.kind == 8) = false := by simp; omega
  have e9 : (o.kind == 9) = false := by simp; omega
  have e10 : (o.kind == 10) = false := by simp; omega
  have e13 : (o.kind == 13) = false := by simp; omega
  have e14 : (o.kind == 14) = true := by simp; omega
  clear hk
  have Hk0 := Lib.hid hk0
  have HX := Lib.hid hX
  have HP := Lib.hid hP
  have HS := Lib.hid hS
  have Hp := Lib.hid hp
  have Hx := Lib.hid hx
  clear hk0 hX hP hS hp hx
  go_enter Tryz.func68, Tryz.ntmps68
  go_upto_region 1 with fail
  generalize (w.alloc (.cells #[.int .i64 o.kind, .int .i64 o.k, .int .i64 o.width, .int .i64 o.step, .int .i64 o.side, .int .i64 o.frm, .int .i64 o.to, .slice S o.s.length c] 80)) = w1 at *
  obtain ⟨S0', c0', y0, hI0, hc0, hm0⟩ := hX1.each h1
  rw [Nat.add_zero] at y0
  clear S0
  generalize hs0 : x[0] = s0 at *
  have hbs := (Sh.right_mul hr0).2.2.2.1
  obtain ⟨s3, s4⟩ := right_short hr0
  have HX1 := Lib.hid hX1
  have HP1 := Lib.hid hP1
  have HS1 := Lib.hid hS1
  have HI0 := Lib.hid hI0
  have Hr0 := Lib.hid hr0
  have Hq := Lib.hid hq
  have Hx0 := Lib.hid hx0
  have Hs0 := Lib.hid hs0
  have Hbs := Lib.hid hbs
  have Hw := Lib.hid hw
  clear hX1 hP1 hS1 hI0 hr0 hq hx0 hs0 hbs hw
  go_wp2_with fail
  refine (ref03_size S0' c0' s0 w1 Hr0.out HI0.out).mono ?_
  rintro e w2 ⟨rfl, rfl⟩
  have hcut := Hq.out
  unfold Od.cut at hcut
  rw [if_pos Hr0.out] at hcut
  by_cases a1 : o.side < 0
  · have d1 : decide (o.side < 0) = true := by simpa using a1
    have HN := Lib.hid (hcut.trans (if_neg (by simp [Od.inR]; omega)))
    clear hcut
    go_wp2_with fail
    go_quiet (fail)
    go_wp2_with fail
    go_ret2
    exact RefP.err HN.out (Bdrawn hb0 _)
  · have d1 : decide (o.side < 0) = false := by simpa using a1
    by_cases a2 : (s0.length : Int) ≤ o.side
    · have d2 : decide ((s0.length : Int) ≤ o.side) = true := by simpa using a2
      have HN := Lib.hid (hcut.trans (if_neg (by simp [Od.inR]; omega)))
      clear hcut
      go_wp2_with fail
      go_quiet (fail)
      go_wp2_with fail
      go_ret2
      exact RefP.err HN.out (Bdrawn hb0 _)
    · have d2 : decide ((s0.length : Int) ≤ o.side) = false := by simpa using a2
      obtain ⟨sd, hsd⟩ : ∃ sd : Nat, o.side = (sd : Int) := ⟨o.side.toNat, by omega⟩
      have hsl : sd < s0.length := by omega
      have hin : Od.inR o.side s0 = true := by simp [Od.inR]; omega
      have hat : Od.at_ s0 o.side = s0[sd] := by unfold Od.at_; rw [hsd, Int.toNat_natCast, getD_at hsl]
      rw [hin, Bool.true_and, hat] at hcut
      have hbz := Hbs.out _ (List.getElem_mem hsl)
      obtain ⟨bs, os, rfl, -, -⟩ := HI0.out 0 s3
      have g0 := HI0.out.at_ hsl
      have hwith := fun (n : Nat) (v : Int) => ref10_with (some ⟨bs, os, none⟩) c0' s0 sd v (w1.drewN n) (by omega) (HI0.out.drewN n) hsl
      have hset : ∀ v, (s0.set sd v).length = s0.length := fun v => List.length_set
      have i1 : (sd : Int) < (s0.length : Int) := by omega
      have d2' : decide (s0.length ≤ sd) = false := by simp; omega
      rw [hsd] at z4 d1 d2 hcut
      generalize s0[sd] = z at *
      rw [hsd]
      rw [Int.toNat_natCast] at hcut
      clear a1 a2 hin hat
      have HWI := Lib.hid hwith
      have Hset := Lib.hid hset
      have Hsd := Lib.hid hsd
      clear hset hsd
      clear hwith
      by_cases a3 : o.frm < 0
      · have d3 : decide (o.frm < 0) = true := by simpa using a3
        have HN := Lib.hid (hcut.trans (if_neg (by simp; omega)))
        clear hcut a3
        go_wp2_with fail
        go_quiet (fail)
        go_wp2_with fail
        go_ret2
        exact RefP.err HN.out (Bdrawn hb0 _)
      · have d3 : decide (o.frm < 0) = false := by simpa using a3
        by_cases a4 : z < o.to
        · have d4 : decide (z < o.to) = true := by simpa using a4
          have HN := Lib.hid (hcut.trans (if_neg (by simp; omega)))
          clear hcut a3 a4
          go_wp2_with fail
          go_quiet (fail)
          go_wp2_with fail
          go_ret2
          exact RefP.err HN.out (Bdrawn hb0 _)
        · have d4 : decide (z < o.to) = false := by simpa using a4
          by_cases a5 : o.to ≤ o.frm
          · have d5 : decide (o.to ≤ o.frm) = true := by simpa using a5
            have HN := Lib.hid (hcut.trans (if_neg (by simp; omega)))
            clear hcut a3 a4 a5
            go_wp2_with fail
            go_quiet (fail)
            go_wp2_with fail
            go_ret2
            exact RefP.err HN.out (Bdrawn hb0 _)
          · have d5 : decide (o.to ≤ o.frm) = false := by simpa using a5
            have HN := Lib.hid (hcut.trans (if_pos (by simp; omega)))
            have ww : IntKind.i64.wrap (o.to - o.frm) = o.to - o.frm := IntWalk.i64_in _ (by omega)
            clear hcut
            go_wp2_with fail
            go_quiet (fail)
            rename_i nq
            clear d1 d2 d2' d3 d4 d5
            go_wp2_with fail
            refine (HWI.out nq (o.to - o.frm)).mono ?_
            rintro e w3 ⟨g, rfl, hI9, hg9, hb9⟩
            have hb10 := (Bdrawn hb0 nq).trans (hb9.mono hb0.size)
            have hsz := Hset.out (o.to - o.frm)
            generalize s0.set sd (o.to - o.frm) = s9 at *
            have HI9 := Lib.hid hI9
            have Hsz := Lib.hid hsz
            clear hI9 hsz
            go_wp2_with fail
            go_ret2
            exact RefP.ok HN.out rfl HI9.out (Nat.le_refl _) (by have := Hsz.out; omega) hb10

end Go.Proofs.YtnffjfjhbjeaiaaGreatDoor
/- The reference of layer 10: Shape: contract, the other kinds, and all (printed by gen/refshape.py). -/
namespace Go.Proofs.YtnffjfjhbjeaiaaGreatDoor
open Go.RowKit
set_option maxRecDepth 20000 in
set_option maxHeartbeats 8000000 in
theorem ref10_shape_dense (o : OpD) (S P X : Option Addr) (c d f : Nat) (p x : List (List Int)) (w : World) (hk : o.kind = 8) (hpl : p.length = 2) (ho : o.s.length ≤ 1099511627776) (hsc : o.s.length ≤ c) (hsm : c ≤ 9223372036854775807) (hw : o.wide) (hS : Ints .i64 w S o.s) (hP : Shps w P p) (hX : Shps w X x) (hxl : x.length ≤ 1048576) (h1 : 1 ≤ x.length) (hp : ∀ s ∈ p, Sh.right s = true) (hx : ∀ s ∈ x, Sh.right s = true) :
    Calls Tryz.prog 68 #[.agg #[.int .i64 o.kind, .int .i64 o.k, .int .i64 o.width, .int .i64 o.step, .int .i64 o.side, .int .i64 o.frm, .int .i64 o.to, .slice S o.s.length c], .slice P p.length d, .slice X x.length f] w (RefP (Od.byKind o p x) w) := by
  have hq : Od.byKind o p x = Od.dense (p.getD 0 []) (p.getD 1 []) (x.getD 0 []) := by unfold Od.byKind; simp [hk]
  obtain ⟨bx, ox, S0, c0, rfl, -⟩ := hX 0 h1
  obtain ⟨bp, op, T0, d0, rfl, -⟩ := hP 0 (by omega)
  have hb0 : Below w.heap.size w (w.alloc (.cells #[.int .i64 o.kind, .int .i64 o.k, .int .i64 o.width, .int .i64 o.step, .int .i64 o.side, .int .i64 o.frm, .int .i64 o.to, .slice S o.s.length c] 80)) := (Below.refl _ _).alloc (Nat.le_refl _) _
  have hk0 := Blk.new w 80 #[.int .i64 o.kind, .int .i64 o.k, .int .i64 o.width, .int .i64 o.step, .int .i64 o.side, .int .i64 o.frm, .int .i64 o.to, .slice S o.s.length c]
  obtain ⟨z0, z1, z2, z3, z4, z5, z6, z7⟩ := op_cells hk0
  have hX1 := hX.below hb0 (Nat.le_refl _)
  have hP1 := hP.below hb0 (Nat.le_refl _)
  have hS1 := hS.below hb0 (Nat.le_refl _)
  have hr0 := hx x[0] (List.getElem_mem h1)
  have hx0 : x.getD 0 [] = x[0] := gets_at h1
  first | rw [hx0] at hq | skip
  have hrp := hp p[0] (List.getElem_mem (by omega))
  have hp0 : p.getD 0 [] = p[0] := gets_at (by omega)
  first | rw [hp0] at hq | skip
  have l7 : decide (o.kind ≤ 7) = false := by simp; omega
  have e8 : (o.kind == 8) = true := by simp; omega
  clear hk
  have Hk0 := Lib.hid hk0
  have HX := Lib.hid hX
  have HP := Lib.hid hP
  have HS := Lib.hid hS
  have Hp := Lib.hid hp
  have Hx := Lib.hid hx
  clear hk0 hX hP hS hp hx
  go_enter Tryz.func68, Tryz.ntmps68
  go_upto_region 1 with fail
  generalize (w.alloc (.cells #[.int .i64 o.kind, .int .i64 o.k, .int .i64 o.width, .int .i64 o.step, .int .i64 o.side, .int .i64 o.frm, .int .i64 o.to, .slice S o.s.length c] 80)) = w1 at *
  obtain ⟨S0', c0', y0, hI0, hc0, hm0⟩ := hX1.each h1
  rw [Nat.add_zero] at y0
  obtain ⟨T0', d0', v0, hJ0, hd0, hn0⟩ := hP1.each (show 0 < p.length by omega)
  rw [Nat.add_zero] at v0
  clear T0
  clear S0
  generalize hs0 : x[0] = s0 at *
  generalize hsp : p[0] = t0 at *
  obtain ⟨q3, q4⟩ := right_short hrp
  have hbs := (Sh.right_mul hr0).2.2.2.1
  obtain ⟨s3, s4⟩ := right_short hr0
  have HX1 := Lib.hid hX1
  have HP1 := Lib.hid hP1
  have HS1 := Lib.hid hS1
  have HI0 := Lib.hid hI0
  have Hr0 := Lib.hid hr0
  have Hq := Lib.hid hq
  have Hx0 := Lib.hid hx0
  have Hs0 := Lib.hid hs0
  have Hbs := Lib.hid hbs
  have Hw := Lib.hid hw
  have HJ0 := Lib.hid hJ0
  have Hrp := Lib.hid hrp
  have Hp0 := Lib.hid hp0
  have Hsp := Lib.hid hsp
  clear hX1 hP1 hS1 hI0 hr0 hq hx0 hs0 hbs hw hJ0 hrp hp0 hsp
  go_wp2_with fail
  refine (ref03_size S0' c0' s0 w1 Hr0.out HI0.out).mono ?_
  rintro e w2 ⟨rfl, rfl⟩
  obtain ⟨T1, d1, v1, hJ1, hd1, hn1⟩ := HP1.out.each (show 1 < p.length by omega)
  have hrp1 := Hp.out p[1] (List.getElem_mem (by omega))
  have hp1 : p.getD 1 [] = p[1] := gets_at (by omega)
  have hq2 := Hq.out
  rw [hp1] at hq2
  generalize hsp1 : p[1] = t1 at *
  obtain ⟨q5, q6⟩ := right_short hrp1
  obtain ⟨bt, ot, rfl, -, -⟩ := HJ0.out 0 q3
  unfold Od.dense at hq2
  by_cases hl2 : t0.length = 2
  rotate_left
  · have f1 : ((t0.length : Int) != 2) = true := by rw [bne_iff_ne]; omega
    have f2 : (t0.length != 2) = true := by rw [bne_iff_ne]; omega
    have HN := Lib.hid (hq2.trans (if_neg (by intro h; exact hl2 h.1)))
    have HJ1 := Lib.hid hJ1
    have Hrp1 := Lib.hid hrp1
    have Hp1 := Lib.hid hp1
    have Hsp1 := Lib.hid hsp1
    clear hJ1 hrp1 hp1 hsp1
    clear hq2 hl2
    go_wp2_with fail
    go_quiet (fail)
    go_wp2_with fail
    go_ret2
    exact RefP.err HN.out (Bdrawn hb0 _)
  · obtain ⟨a, b, rfl⟩ := list_two hl2
    have g1 := HJ0.out.at_ (show 1 < [a, b].length by simp)
    have g1 : w1.cell? ⟨bt, ot + 1, none⟩ = some (.int .i64 b) := g1
    have hJa : Ints .i64 w1 (some ⟨bt, ot, none⟩) [a] := Ints.of_row fun j hj => by
      have hj0 : j = 0 := by simp at hj; exact hj
      subst hj0
      exact HJ0.out.at_ (show 0 < [a, b].length by simp)
    have hd2 : (1 : Int) ≤ (d0' : Int) := by simp at hd0; omega
    have hcall := fun n : Nat => ref03_same T1 (some ⟨bt, ot, none⟩) d1 d0' t1 [a] (w1.drewN n) (by omega) (by simp) (hJ1.drewN n) (hJa.drewN n)
    have f1 : ((2 : Int) != 2) = false := rfl
    have v0' : w1.cell? ⟨bp, op, none⟩ = some (.slice (some ⟨bt, ot, none⟩) 2 d0') := v0
    have hpl2 : (1 : Int) < (p.length : Int) := by omega
    clear v0 hd0 q3 q4
    by_cases hs : t1 = [a]
    · rw [decide_eq_true hs] at hcall
      have hq3 : Od.byKind o p x = if Safe.prod s0 = b then ([a], 0) else ([], 20) := by
        rw [hq2]
        by_cases e : Safe.prod s0 = b
        · rw [if_pos e, if_pos ⟨rfl, by rw [hs]; rfl, by rw [hs]; rfl, Hr0.out, e⟩]; rfl
        · rw [if_neg e, if_neg]; rintro ⟨_, _, _, _, h⟩; exact e h
      have HJ1 := Lib.hid hJ1
      have Hrp1 := Lib.hid hrp1
      have Hp1 := Lib.hid hp1
      have Hsp1 := Lib.hid hsp1
      have Hcall := Lib.hid hcall
      have HJa := Lib.hid hJa
      have Hq3 := Lib.hid hq3
      clear hJ1 hrp1 hp1 hsp1 hcall hJa hq3
      clear hq2 hl2 hs
      by_cases e : Safe.prod s0 = b
      · have f3 : (b != Safe.prod s0) = false := by simp [e]
        have HN := Lib.hid (Hq3.out.trans (if_pos e))
        clear e
        go_wp2_with fail
        go_quiet ((go_at_call 21; exact quiet_drawn (Hcall.out _)))
        go_wp2_with fail
        go_ret2
        exact RefP.ok HN.out rfl (HJa.out.drewN _) (by simp; omega) hn0 (Bdrawn hb0 _)
      · have f3 : (b != Safe.prod s0) = true := by rw [bne_iff_ne]; exact fun h => e h.symm
        have HN := Lib.hid (Hq3.out.trans (if_neg e))
        clear e
        go_wp2_with fail
        go_quiet ((go_at_call 21; exact quiet_drawn (Hcall.out _)))
        go_wp2_with fail
        go_ret2
        exact RefP.err HN.out (Bdrawn hb0 _)
    · rw [decide_eq_false hs] at hcall
      have HN := Lib.hid (hq2.trans (if_neg (by
        rintro ⟨_, h2, h3, _⟩
        obtain ⟨z, rfl⟩ := list_one' h2
        exact hs (by simp at h3; rw [h3]))))
      have HJ1 := Lib.hid hJ1
      have Hrp1 := Lib.hid hrp1
      have Hp1 := Lib.hid hp1
      have Hsp1 := Lib.hid hsp1
      have Hcall := Lib.hid hcall
      have HJa := Lib.hid hJa
      clear hJ1 hrp1 hp1 hsp1 hcall hJa
      clear hq2 hl2 hs
      go_wp2_with fail
      go_quiet ((go_at_call 21; exact quiet_drawn (Hcall.out _)))
      go_wp2_with fail
      go_ret2
      exact RefP.err HN.out (Bdrawn hb0 _)

set_option maxRecDepth 20000 in
set_option maxHeartbeats 8000000 in
theorem ref10_shape_conv (o : OpD) (S P X : Option Addr) (c d f : Nat) (p x : List (List Int)) (w : World) (hk : o.kind = 10) (hpl : p.length = 1) (ho : o.s.length ≤ 1099511627776) (hsc : o.s.length ≤ c) (hsm : c ≤ 9223372036854775807) (hw : o.wide) (hS : Ints .i64 w S o.s) (hP : Shps w P p) (hX : Shps w X x) (hxl : x.length ≤ 1048576) (h1 : 1 ≤ x.length) (hp : ∀ s ∈ p, Sh.right s = true) (hx : ∀ s ∈ x, Sh.right s = true) :
    Calls Tryz.prog 68 #[.agg #[.int .i64 o.kind, .int .i64 o.k, .int .i64 o.width, .int .i64 o.step, .int .i64 o.side, .int .i64 o.frm, .int .i64 o.to, .slice S o.s.length c], .slice P p.length d, .slice X x.length f] w (RefP (Od.byKind o p x) w) := by
  have hq : Od.byKind o p x = Od.conv (p.getD 0 []) (x.getD 0 []) o.step := by unfold Od.byKind; simp [hk]
  obtain ⟨bx, ox, S0, c0, rfl, -⟩ := hX 0 h1
  obtain ⟨bp, op, T0, d0, rfl, -⟩ := hP 0 (by omega)
  have hb0 : Below w.heap.size w (w.alloc (.cells #[.int .i64 o.kind, .int .i64 o.k, .int .i64 o.width, .int .i64 o.step, .int .i64 o.side, .int .i64 o.frm, .int .i64 o.to, .slice S o.s.length c] 80)) := (Below.refl _ _).alloc (Nat.le_refl _) _
  have hk0 := Blk.new w 80 #[.int .i64 o.kind, .int .i64 o.k, .int .i64 o.width, .int .i64 o.step, .int .i64 o.side, .int .i64 o.frm, .int .i64 o.to, .slice S o.s.length c]
  obtain ⟨z0, z1, z2, z3, z4, z5, z6, z7⟩ := op_cells hk0
  have hX1 := hX.below hb0 (Nat.le_refl _)
  have hP1 := hP.below hb0 (Nat.le_refl _)
  have hS1 := hS.below hb0 (Nat.le_refl _)
  have hr0 := hx x[0] (List.getElem_mem h1)
  have hx0 : x.getD 0 [] = x[0] := gets_at h1
  first | rw [hx0] at hq | skip
  have hrp := hp p[0] (List.getElem_mem (by omega))
  have hp0 : p.getD 0 [] = p[0] := gets_at (by omega)
  first | rw [hp0] at hq | skip
  have l7 : decide (o.kind ≤ 7) = false := by simp; omega
  have e8 : (o.kind == 8) = false := by simp; omega
  have e9 : (o.kind == 9) = false := by simp; omega
  have e10 : (o.kind == 10) = true := by simp; omega
  clear hk
  have Hk0 := Lib.hid hk0
  have HX := Lib.hid hX
  have HP := Lib.hid hP
  have HS := Lib.hid hS
  have Hp := Lib.hid hp
  have Hx := Lib.hid hx
  clear hk0 hX hP hS hp hx
  go_enter Tryz.func68, Tryz.ntmps68
  go_upto_region 1 with fail
  generalize (w.alloc (.cells #[.int .i64 o.kind, .int .i64 o.k, .int .i64 o.width, .int .i64 o.step, .int .i64 o.side, .int .i64 o.frm, .int .i64 o.to, .slice S o.s.length c] 80)) = w1 at *
  obtain ⟨S0', c0', y0, hI0, hc0, hm0⟩ := hX1.each h1
  rw [Nat.add_zero] at y0
  obtain ⟨T0', d0', v0, hJ0, hd0, hn0⟩ := hP1.each (show 0 < p.length by omega)
  rw [Nat.add_zero] at v0
  clear T0
  clear S0
  generalize hs0 : x[0] = s0 at *
  generalize hsp : p[0] = t0 at *
  obtain ⟨q3, q4⟩ := right_short hrp
  have hbs := (Sh.right_mul hr0).2.2.2.1
  obtain ⟨s3, s4⟩ := right_short hr0
  have HX1 := Lib.hid hX1
  have HP1 := Lib.hid hP1
  have HS1 := Lib.hid hS1
  have HI0 := Lib.hid hI0
  have Hr0 := Lib.hid hr0
  have Hq := Lib.hid hq
  have Hx0 := Lib.hid hx0
  have Hs0 := Lib.hid hs0
  have Hbs := Lib.hid hbs
  have Hw := Lib.hid hw
  have HJ0 := Lib.hid hJ0
  have Hrp := Lib.hid hrp
  have Hp0 := Lib.hid hp0
  have Hsp := Lib.hid hsp
  clear hX1 hP1 hS1 hI0 hr0 hq hx0 hs0 hbs hw hJ0 hrp hp0 hsp
  go_wp2_with fail
  refine (ref03_size S0' c0' s0 w1 Hr0.out HI0.out).mono ?_
  rintro e w2 ⟨rfl, rfl⟩
  have hq2 := Hq.out
  unfold Od.conv at hq2
  rw [Hrp.out, Hr0.out, Bool.true_and, Bool.true_and] at hq2
  obtain ⟨i0, hi, hz0, hz1, hz2⟩ := info_parts int_info
  obtain ⟨bs, os, rfl, -, -⟩ := HI0.out 0 s3
  obtain ⟨bt, ot, rfl, -, -⟩ := HJ0.out 0 q3
  have g0 := HI0.out.at_ s3
  have g2 := HJ0.out.at_ q3
  rw [Nat.add_zero] at g0 g2
  have hg0 : s0.getD 0 0 = s0[0] := getD_at s3
  have hgt : t0.getD 0 0 = t0[0] := getD_at q3
  by_cases a1 : t0.length = s0.length + 1
  rotate_left
  · have f1 : ((t0.length : Int) != (s0.length : Int) + 1) = true := by rw [bne_iff_ne]; omega
    have HN := Lib.hid (hq2.trans (if_neg (by simp; omega)))
    clear hq2 a1 hg0 hgt g0 g2
    go_wp2_with fail
    go_quiet (fail)
    go_wp2_with fail
    go_ret2
    exact RefP.err HN.out (Bdrawn hb0 _)
  · have f1 : ((t0.length : Int) != (s0.length : Int) + 1) = false := by simp; omega
    by_cases a2 : s0.length < 2
    · have f2 : decide ((s0.length : Int) < 2) = true := by simp; omega
      have HN := Lib.hid (hq2.trans (if_neg (by simp; omega)))
      clear hq2 a1 hg0 hgt g0 g2
      go_wp2_with fail
      go_quiet (fail)
      go_wp2_with fail
      go_ret2
      exact RefP.err HN.out (Bdrawn hb0 _)
    · have f2 : decide ((s0.length : Int) < 2) = false := by simp; omega
      by_cases a3 : 3 < s0.length
      · have f3 : decide ((3 : Int) < (s0.length : Int)) = true := by simp; omega
        have HN := Lib.hid (hq2.trans (if_neg (by simp; omega)))
        clear hq2 a1 hg0 hgt g0 g2
        go_wp2_with fail
        go_quiet (fail)
        go_wp2_with fail
        go_ret2
        exact RefP.err HN.out (Bdrawn hb0 _)
      · have f3 : decide ((3 : Int) < (s0.length : Int)) = false := by simp; omega
        have ht1 : 1 < t0.length := by omega
        have g1 := HJ0.out.at_ ht1
        have j1 : (1 : Int) < (t0.length : Int) := by omega
        rw [hg0, getD_at ht1] at hq2
        by_cases a4 : t0[1] = s0[0]
        rotate_left
        · have f4 : (t0[1] != s0[0]) = true := by simp [a4]
          have HN := Lib.hid (hq2.trans (if_neg (by simp; intro _ _ _; exact a4)))
          generalize t0[1] = tb at *
          generalize s0[0] = sa at *
          clear hq2 a1 hg0 hgt a4 g2
          go_wp2_with fail
          go_quiet (fail)
          go_wp2_with fail
          go_ret2
          exact RefP.err HN.out (Bdrawn hb0 _)
        · have f4 : (t0[1] != s0[0]) = false := by simp [a4]
          rw [if_pos (by simp; omega)] at hq2
          have Ha1 := Lib.hid a1
          generalize t0[1] = tb at *
          generalize s0[0] = sa at *
          generalize t0[0] = ta at *
          clear a4 a1 hg0
          have Hq2 := Lib.hid hq2
          have Hgt := Lib.hid hgt
          clear hq2 hgt
          have z3' : w1.cell? ⟨w.heap.size, 3, none⟩ = some (.int .i64 o.step) := z3
          go_wp2_with fail
          go_quiet (fail)
          rename_i nq
          clear f1 f2 f3 f4 g0 g1 z0 z1 z2 z3 z4 z5 z6 z7
          go_wp2_with fail
          clear g2 y0 v0
          have hbn : Below w1.heap.size w1 (w1.drewN nq) := Bdrawn (Below.refl _ _) nq
          have hk9 := Blk.new (w1.drewN nq) 3 #[.int .i64 ta]
          have hb9 : Below w1.heap.size w1 ((w1.drewN nq).alloc (.cells #[.int .i64 ta] 3)) := hbn.alloc (Nat.le_refl _) _
          have hown0 : ((w1.drewN nq).alloc (.cells #[.int .i64 ta] 3)).ownsRow w1.heap.size 3 1 (.slice (some ⟨w1.heap.size, 0, none⟩) 1 1) 1 ((Od.outs t0 s0 o.step 0).map (Value.int .i64)) := own_of_row (by
            have : Od.outs t0 s0 o.step 0 = [ta] := by simp only [Od.outs, Hgt.out]; rfl
            rw [this]; exact hk9) (Nat.le_refl _) (by simp [Od.outs]) (by unfold maxLen; omega)
          have Hk9 := Lib.hid hk9
          have Hown0 := Lib.hid hown0
          clear hk9 hown0
          go_loopw [12, 13] (fun v i wx => ∃ k : Nat, k ≤ s0.length - 1 ∧ i = .int .i64 ((k : Int) + 1) ∧ wx.ownsRow w1.heap.size 3 1 v (k + 1) ((Od.outs t0 s0 o.step k).map (Value.int .i64)) ∧ (∀ j, j < k → (Od.wn t0 s0 o.step j).2 = 0) ∧ Below w1.heap.size w1 wx) (fun _ i _ => s0.length - (intOf i).toNat)
          case atStart => exact ⟨0, Nat.zero_le _, rfl, Hown0.out, fun j hj => by omega, hb9⟩
          case round =>
            obtain ⟨k, hk, rfl, hown, hall, hbx⟩ := hrel
            clear Hown0 Hk9 hb9 hbn
            obtain ⟨Ao, co, rfl⟩ := own_form hown
            by_cases hlt : k + 1 < s0.length
            · have ht2 : k + 2 < t0.length := by have := Ha1.out; omega
              have m1 := cell_below hbx (HI0.out.at_ hlt)
              have m2 := cell_below hbx (HJ0.out.at_ ht2)
              have m3 := cell_below hbx z3'
              have hwn : Od.wn t0 s0 o.step k = Od.window s0[k + 1] t0[k + 2] o.step := by unfold Od.wn; rw [getD_at hlt, getD_at ht2]
              have hcall := fun n : Nat => ref07_window s0[k + 1] t0[k + 2] o.step (wr.drewN n)
              rw [← hwn] at hcall
              have hok := @Od.window_ok s0[k + 1] t0[k + 2] o.step
              have herr := @Od.window_err s0[k + 1] t0[k + 2] o.step
              rw [← hwn] at hok herr
              have i1 : IntKind.i64.wrap ((k : Int) + 1 + 1) = ((k + 2 : Nat) : Int) := by rw [IntWalk.i64_in _ (by omega)]; omega
              have i2 : ((k : Int) + 1) < (s0.length : Int) := by omega
              have i3 : ((k + 2 : Nat) : Int) < (t0.length : Int) := by omega
              have i4 : (0 : Int) ≤ (k : Int) + 1 := by omega
              have i5 : ((k : Int) + 1).toNat = k + 1 := by omega
              have i6 : (0 : Int) ≤ ((k + 2 : Nat) : Int) := by omega
              have hosucc : Od.outs t0 s0 o.step (k + 1) = Od.outs t0 s0 o.step k ++ [(Od.wn t0 s0 o.step k).1] := by simp [Od.outs, List.range_succ]
              have hol : (Od.outs t0 s0 o.step k).length = k + 1 := by simp [Od.outs]
              have hnx : (Od.wn t0 s0 o.step k).2 = 0 → ∀ j, j < k + 1 → (Od.wn t0 s0 o.step j).2 = 0 := fun e j hj => by
                by_cases h : j = k
                · subst h; exact e
                · exact hall j (by omega)
              have hno : (Od.wn t0 s0 o.step k).2 ≠ 0 → Od.byKind o p x = ([], 11) := fun e => by
                rw [Hq2.out, if_neg]
                rw [List.all_eq_true]
                intro h
                have := h k (List.mem_range.2 (by omega))
                exact e (by simpa using this)
              generalize s0[k + 1] = sk at *
              generalize t0[k + 2] = tk at *
              generalize Od.wn t0 s0 o.step k = wv at *
              have Hwn := Lib.hid hwn
              have Hcall := Lib.hid hcall
              have Hok := Lib.hid hok
              have Herr := Lib.hid herr
              have Hosucc := Lib.hid hosucc
              have Hol := Lib.hid hol
              have Hnx := Lib.hid hnx
              have Hno := Lib.hid hno
              have Hall := Lib.hid hall
              have Hown := Lib.hid hown
              clear hwn hcall hok herr hosucc hol hnx hno hall hown
              go_wp2_with fail
              go_quiet ((go_at_call 84; exact quiet_same (Hcall.out _)))
              clear m1 m2 m3 i1 i3 i6
              by_cases hz : wv.2 = 0
              · have hb := Hok.out hz
                have e1 : (wv.1 == 0) = false := by simp; omega
                have HNX := Lib.hid (Hnx.out hz)
                have ho := ownsRow_new (ownsRow_heap (w' := wr.drewN nq) Hown.out (fun g _ => rfl)) (.cells #[.int .i64 wv.1] 3)
                have hbx2 := ((Bdrawn hbx nq).alloc hbx.size (.cells #[.int .i64 wv.1] 3))
                have hlo : ∀ b, (Value.slice Ao (k + 1) co).ownBlock = some b → w1.heap.size ≤ b := fun b hb => (Hown.out.lt b hb).1
                clear hz hb
                have Hlo := Lib.hid hlo
                clear hlo
                go_wp2_with (at_builtin; refine wpList_append_own_at _ rfl _ _ 22 rfl w1.heap.size 3 i0 (.int .i64 0) 1 8 Tryz.underlying22 hi hz0 hz1 hz2 rfl (by decide) _ _ _ rfl ho ⟨wr.heap.size, 0, none⟩ 1 1 [.int .i64 wv.1] rfl rfl ?c1 (by intro u hu; simp at hu; subst hu; rfl) (by unfold maxLen; omega) (by omega) ?c2 ?_)
                case c1 => exact one_new (wr.drewN nq) _ _
                case c2 => exact hbx2.size
                intro v' w3 hown' hgrow _ hat
                have hb3 : Below w1.heap.size w1 w3 := hbx2.grown hgrow hbx2.size (fun b hb => Hlo.out b hb)
                have HO3 := Lib.hid (show w3.ownsRow w1.heap.size 3 1 v' (k + 1 + 1) ((Od.outs t0 s0 o.step (k + 1)).map (Value.int .i64)) by rw [Hosucc.out]; simpa using hown')
                clear hown' hgrow hat ho hbx2 Hlo
                go_wp2_with fail
                go_roundw
                case rel => exact ⟨k + 1, by omega, by go_num, HO3.out, HNX.out, hb3⟩
                case measure => simp [intOf]; omega
              · have hb := Herr.out hz
                have e1 : (wv.1 == 0) = true := by rw [hb]; rfl
                have HN := Lib.hid (Hno.out hz)
                clear hz hb
                go_wp2_with fail
                go_ret2
                exact RefP.err HN.out (Bdrawn (hb0.trans (hbx.mono hb0.size)) _)
            · obtain rfl : k = s0.length - 1 := by omega
              have i2 : ¬ ((s0.length - 1 : Nat) : Int) + 1 < (s0.length : Int) := by omega
              have hol : (Od.outs t0 s0 o.step (s0.length - 1)).length = s0.length - 1 + 1 := by simp [Od.outs]
              have hq3 : Od.byKind o p x = if Sh.right (Od.outs t0 s0 o.step (s0.length - 1)) = true then (Od.outs t0 s0 o.step (s0.length - 1), 0) else ([], 20) := by
                rw [Hq2.out, if_pos]
                rw [List.all_eq_true]
                intro j hj
                simpa using hall j (List.mem_range.1 hj)
              generalize Od.outs t0 s0 o.step (s0.length - 1) = os9 at *
              generalize s0.length - 1 = m at *
              rw [← hol] at hown
              obtain ⟨hIo, ho1, ho2⟩ := own_ints (by rw [hol] at hown ⊢; exact hown)
              have hcall := ref03_right Ao co os9 wr (by omega) hIo
              rw [hol] at hcall
              have Hown := Lib.hid hown
              have Hall := Lib.hid hall
              have Hol := Lib.hid hol
              have Hq3 := Lib.hid hq3
              have HIo := Lib.hid hIo
              have Hcall := Lib.hid hcall
              clear hown hall hol hq3 hIo hcall
              go_wp2_with fail
              refine (Hcall.out).mono ?_
              rintro e w9 ⟨rfl, rfl⟩
              by_cases hr9 : Sh.right os9 = true
              · have HN := Lib.hid (Hq3.out.trans (if_pos hr9))
                rw [hr9]
                clear hr9
                go_wp2_with fail
                go_ret2
                exact RefP.ok HN.out Hol.out HIo.out ho1 ho2 (hb0.trans (hbx.mono hb0.size))
              · have HN := Lib.hid (Hq3.out.trans (if_neg hr9))
                have hr' : Sh.right os9 = false := by simpa using hr9
                rw [hr']
                clear hr9 hr'
                go_wp2_with fail
                go_ret2
                exact RefP.err HN.out (hb0.trans (hbx.mono hb0.size))

theorem ref10_shape (o : OpD) (S P X : Option Addr) (c d f : Nat) (p x : List (List Int)) (w : World) (hr : Od.right o = true) (hcnt : Od.counts o p.length x.length = 0) (ho : o.s.length ≤ 1099511627776) (hsc : o.s.length ≤ c) (hsm : c ≤ 9223372036854775807) (hw : o.wide) (hS : Ints .i64 w S o.s) (hP : Shps w P p) (hX : Shps w X x) (hp : ∀ s ∈ p, Sh.right s = true) (hx : ∀ s ∈ x, Sh.right s = true) :
    Calls Tryz.prog 68 #[.agg #[.int .i64 o.kind, .int .i64 o.k, .int .i64 o.width, .int .i64 o.step, .int .i64 o.side, .int .i64 o.frm, .int .i64 o.to, .slice S o.s.length c], .slice P p.length d, .slice X x.length f] w (RefP (Od.byKind o p x) w) := by
  have hk := Od.right_kind hr
  obtain ⟨-, c1, c2, c3⟩ := Od.counts_ok hcnt
  have c4 := Od.least_pos hr
  have c5 := Od.most_le hr
  have hpar : Od.params o = if o.kind = 8 then 2 else if o.kind = 9 ∨ o.kind = 10 then 1 else 0 := by unfold Od.params; rw [if_pos hr]
  have h1 : 1 ≤ x.length := by omega
  have hxl : x.length ≤ 1048576 := by omega
  by_cases k7 : o.kind ≤ 7
  · exact ref10_shape_pt o S P X c d f p x w k7 ho hsc hsm hw hS hP hX hxl h1 hp hx
  · have hh : o.kind = 8 ∨ o.kind = 9 ∨ o.kind = 10 ∨ (o.kind = 11 ∨ o.kind = 12) ∨ o.kind = 13 ∨ o.kind = 14 ∨ o.kind = 15 := by omega
    rcases hh with k | k | k | k | k | k | k
    · exact ref10_shape_dense o S P X c d f p x w k (by rw [hpar, if_pos k] at c3; omega) ho hsc hsm hw hS hP hX hxl h1 hp hx
    · exact ref10_shape_scale o S P X c d f p x w k (by rw [hpar, if_neg (by omega), if_pos (by omega)] at c3; omega) ho hsc hsm hw hS hP hX hxl h1 hp hx
    · exact ref10_shape_conv o S P X c d f p x w k (by rw [hpar, if_neg (by omega), if_pos (by omega)] at c3; omega) ho hsc hsm hw hS hP hX hxl h1 hp hx
    · exact ref10_shape_pool o S P X c d f p x w k ho hsc hsm hw hS hP hX hxl h1 hp hx
    · exact ref10_shape_join o S P X c d f p x w k ho hsc hsm hw hS hP hX hxl h1 hp hx
    · exact ref10_shape_cut o S P X c d f p x w k ho hsc hsm hw hS hP hX hxl h1 hp hx
    · exact ref10_shape_turn o S P X c d f p x w k ho hsc hsm hw hS hP hX hxl h1 hp hx
end Go.Proofs.YtnffjfjhbjeaiaaGreatDoor
/- A node's cells. No program is named here. -/
namespace Go.Proofs.YtnffjfjhbjeaiaaGreatDoor
open Go.RowKit
theorem node_cells10 {W : World} {g : Nat} {t : TypeId} {v : NodeD} {S J Q : Option Addr} {c ic qc : Nat} (h : Blk W g t #[.int .i64 v.op.kind, .int .i64 v.op.k, .int .i64 v.op.width, .int .i64 v.op.step, .int .i64 v.op.side, .int .i64 v.op.frm, .int .i64 v.op.to, .slice S v.op.s.length c, .slice J v.ins.length ic, .slice Q v.p.length qc]) :
    W.cell? ⟨g, 0, none⟩ = some (.int .i64 v.op.kind) ∧ W.cell? ⟨g, 1, none⟩ = some (.int .i64 v.op.k) ∧ W.cell? ⟨g, 2, none⟩ = some (.int .i64 v.op.width) ∧ W.cell? ⟨g, 3, none⟩ = some (.int .i64 v.op.step) ∧ W.cell? ⟨g, 4, none⟩ = some (.int .i64 v.op.side) ∧ W.cell? ⟨g, 5, none⟩ = some (.int .i64 v.op.frm) ∧ W.cell? ⟨g, 6, none⟩ = some (.int .i64 v.op.to) ∧ W.cell? ⟨g, 7, none⟩ = some (.slice S v.op.s.length c) ∧ W.cell? ⟨g, 8, none⟩ = some (.slice J v.ins.length ic) ∧ W.cell? ⟨g, 9, none⟩ = some (.slice Q v.p.length qc) :=
  ⟨h.cell 0, h.cell 1, h.cell 2, h.cell 3, h.cell 4, h.cell 5, h.cell 6, h.cell 7, h.cell 8, h.cell 9⟩
end Go.Proofs.YtnffjfjhbjeaiaaGreatDoor
/- The reference of layer 11: shape: contract. -/
namespace Go.Proofs.YtnffjfjhbjeaiaaGreatDoor
open Go.RowKit
/-- Slice values that read as shapes. -/
def RowOf (w : World) (vs : List Value) (ss : List (List Int)) : Prop :=
  vs.length = ss.length ∧ ∀ j (hj : j < ss.length), ∃ S c, vs[j]? = some (.slice S ss[j].length c) ∧ Ints .i64 w S ss[j] ∧ ss[j].length ≤ c ∧ c ≤ 9223372036854775807
theorem RowOf.nil (w : World) : RowOf w [] [] := ⟨rfl, fun j hj => absurd hj (by simp)⟩
theorem RowOf.push {w : World} {vs : List Value} {ss : List (List Int)} {S : Option Addr} {s : List Int} {c : Nat} (h : RowOf w vs ss) (hI : Ints .i64 w S s) (h1 : s.length ≤ c) (h2 : c ≤ 9223372036854775807) : RowOf w (vs ++ [.slice S s.length c]) (ss ++ [s]) := by
  refine ⟨by simp [h.1], fun j hj => ?_⟩
  simp at hj
  by_cases e : j < ss.length
  · obtain ⟨S', c', e1, e2⟩ := h.2 j e
    refine ⟨S', c', ?_, ?_⟩
    · rw [List.getElem?_append_left (by rw [h.1]; exact e), e1]; simp [e]
    · simpa [e] using e2
  · obtain rfl : j = ss.length := by omega
    refine ⟨S, c, ?_, ?_⟩
    · rw [List.getElem?_append_right (by have := h.1; omega)]; simp [h.1]
    · simp; exact ⟨hI, h1, h2⟩
theorem RowOf.below {w w' : World} {vs : List Value} {ss : List (List Int)} {B : Nat} (h : RowOf w vs ss) (hb : Below B w w') (hB : w.heap.size ≤ B) : RowOf w' vs ss :=
  ⟨h.1, fun j hj => by obtain ⟨S, c, e1, e2, e3⟩ := h.2 j hj; exact ⟨S, c, e1, e2.below hb hB, e3⟩⟩
/-- A row of the call's own, of slices that were there, is a slice of shapes. -/
theorem RowOf.shps {w w' : World} {vs : List Value} {ss : List (List Int)} {B n : Nat} {t : TypeId} {v : Value} (h : RowOf w vs ss) (hown : w'.ownsRow B t 1 v n vs) (hb : Below w.heap.size w w') :
    ∃ A c, v = .slice A ss.length c ∧ n = ss.length ∧ Shps w' A ss ∧ ss.length ≤ c ∧ c ≤ 9223372036854775807 := by
  have hn : n = ss.length := by have := hown.1; have := h.1; omega
  subst hn
  rcases hown.2 with ⟨rfl, h0⟩ | ⟨g, cap, cur, rfl, hB, hh, r1, r2, r3, r4⟩
  · have : ss = [] := List.eq_nil_of_length_eq_zero h0
    subst this
    exact ⟨none, 0, rfl, rfl, Shps.nil, by simp, by omega⟩
  · refine ⟨_, cap, rfl, rfl, fun j hj => ?_, r1, by unfold maxLen at r2; omega⟩
    obtain ⟨S, c, e1, e2, e3⟩ := h.2 j hj
    refine ⟨g, 0, S, c, rfl, lt_of_block hh, ?_, e2.below hb (Nat.le_refl _), e3⟩
    rw [Nat.zero_add, hown.cellAt j (by omega)]
    exact e1
theorem shpsT_info : (Tryz.prog.info? 22).map (fun i => (i.zero, i.size, i.bytes)) = some (some (.slice none 0 0), 1, 24) := by kernel_rfl
theorem pick_take (sh : List (List Int)) (l : List Int) {k : Nat} (hk : k < l.length) : Nt.pick sh (l.take (k + 1)) = Nt.pick sh (l.take k) ++ [sh.getD l[k].toNat []] := by
  unfold Nt.pick
  rw [List.take_succ_eq_append_getElem hk, List.map_append]
  rfl
set_option maxRecDepth 20000 in
set_option maxHeartbeats 8000000 in
theorem ref11_shape (v : NodeD) (S J Q : Option Addr) (c ic qc g gc : Nat) (sh : List (List Int)) (w : World) (hok : v.ok) (hr : Od.right v.op = true) (hsc : v.op.s.length ≤ c) (hsm : c ≤ 9223372036854775807) (hS : Ints .i64 w S v.op.s) (hJ : Ints .i64 w J v.ins) (hQ : Shps w Q v.p) (hX : Shps w (some ⟨g, 0, none⟩) sh)
    (hin : ∀ i ∈ v.ins, 0 ≤ i ∧ i.toNat < sh.length ∧ Sh.right (sh.getD i.toNat []) = true) :
    Calls Tryz.prog 34 #[.agg #[.int .i64 v.op.kind, .int .i64 v.op.k, .int .i64 v.op.width, .int .i64 v.op.step, .int .i64 v.op.side, .int .i64 v.op.frm, .int .i64 v.op.to, .slice S v.op.s.length c, .slice J v.ins.length ic, .slice Q v.p.length qc], .slice (some ⟨g, 0, none⟩) sh.length gc] w (RefP (Od.shape v.op v.p (Nt.pick sh v.ins)) w) := by
  obtain ⟨i1, hj, hy0, hy1, hy2⟩ := info_parts shpsT_info
  have hb0 : Below w.heap.size w (w.alloc (.cells #[.int .i64 v.op.kind, .int .i64 v.op.k, .int .i64 v.op.width, .int .i64 v.op.step, .int .i64 v.op.side, .int .i64 v.op.frm, .int .i64 v.op.to, .slice S v.op.s.length c, .slice J v.ins.length ic, .slice Q v.p.length qc] 82)) := (Below.refl _ _).alloc (Nat.le_refl _) _
  have hk0 := Blk.new w 82 #[.int .i64 v.op.kind, .int .i64 v.op.k, .int .i64 v.op.width, .int .i64 v.op.step, .int .i64 v.op.side, .int .i64 v.op.frm, .int .i64 v.op.to, .slice S v.op.s.length c, .slice J v.ins.length ic, .slice Q v.p.length qc]
  obtain ⟨y0, y1, y2, y3, y4, y5, y6, y7, y8, y9⟩ := node_cells10 hk0
  have hS1 := hS.below hb0 (Nat.le_refl _)
  have hJ1 := hJ.below hb0 (Nat.le_refl _)
  have hQ1 := hQ.below hb0 (Nat.le_refl _)
  have hX1 := hX.below hb0 (Nat.le_refl _)
  have hkd := Od.right_kind hr
  have hil := hok.2.2.1
  have hpl := hok.2.2.2.1
  have hpk : (Nt.pick sh v.ins).length = v.ins.length := by simp [Nt.pick]
  have hri := refIns_right hr
  have hrp := refPar_right hr
  have hcnt : Od.counts v.op v.p.length (Nt.pick sh v.ins).length = if ((v.ins.length : Int) < Od.least v.op ∨ Od.most v.op < (v.ins.length : Int) ∨ (v.p.length : Int) ≠ Od.params v.op) then 20 else 0 := by unfold Od.counts; rw [if_pos hr, hpk]
  have hbad : Od.counts v.op v.p.length (Nt.pick sh v.ins).length = 20 → Od.shape v.op v.p (Nt.pick sh v.ins) = ([], 20) := fun h => by unfold Od.shape; rw [if_pos (by rw [h]; omega), h]
  have Hok := Lib.hid hok
  have Hr := Lib.hid hr
  have HS := Lib.hid hS
  have HJ := Lib.hid hJ
  have HQ := Lib.hid hQ
  have HX := Lib.hid hX
  have Hin := Lib.hid hin
  have HS1 := Lib.hid hS1
  have HJ1 := Lib.hid hJ1
  have HQ1 := Lib.hid hQ1
  have HX1 := Lib.hid hX1
  have Hk0 := Lib.hid hk0
  have Hpk := Lib.hid hpk
  have Hri := Lib.hid hri
  have Hrp := Lib.hid hrp
  have Hcnt := Lib.hid hcnt
  have Hbad := Lib.hid hbad
  clear hok hr hS hJ hQ hX hin hS1 hJ1 hQ1 hX1 hk0 hpk hri hrp hcnt hbad
  go_enter Tryz.func34, Tryz.ntmps34
  go_upto_region 1 with fail
  generalize w.alloc (.cells #[.int .i64 v.op.kind, .int .i64 v.op.k, .int .i64 v.op.width, .int .i64 v.op.step, .int .i64 v.op.side, .int .i64 v.op.frm, .int .i64 v.op.to, .slice S v.op.s.length c, .slice J v.ins.length ic, .slice Q v.p.length qc] 82) = w1 at *
  go_wp2_with fail
  refine (ref10_ins v.op.kind _ hkd).mono ?_
  rintro e w2 ⟨rfl, rfl⟩
  rw [Hri.out]
  have hcall := fun n : Nat => ref10_params v.op.kind (w1.drewN n)
  rw [Hrp.out] at hcall
  have hcnt := Hcnt.out
  have hmost := Od.most_le Hr.out
  have hleast := Od.least_pos Hr.out
  generalize hL : Od.least v.op = L at *
  generalize hM : Od.most v.op = M at *
  generalize hPa : Od.params v.op = PA at *
  have Hcall := Lib.hid hcall
  have HL := Lib.hid hL
  have HM := Lib.hid hM
  have HPa := Lib.hid hPa
  clear hcall hL hM hPa
  have Hcn := Lib.hid hcnt
  clear hcnt Hcnt Hri Hrp
  by_cases a1 : (v.p.length : Int) = PA
  rotate_left
  · have d1 : ((v.p.length : Int) != PA) = true := by rw [bne_iff_ne]; exact a1
    have HN := Lib.hid (Hbad.out (by rw [Hcn.out, if_pos (by omega)]))
    clear a1
    go_wp2_with fail
    go_quiet ((go_at_call 67; exact quiet_same (Hcall.out _)))
    go_wp2_with fail
    go_ret2
    exact RefP.err HN.out (Bdrawn hb0 _)
  · have d1 : ((v.p.length : Int) != PA) = false := by simp [a1]
    by_cases a2 : (v.ins.length : Int) < L
    · have d2 : decide ((v.ins.length : Int) < L) = true := by simpa using a2
      have HN := Lib.hid (Hbad.out (by rw [Hcn.out, if_pos (by omega)]))
      have Ha1 := Lib.hid a1
      clear a1
      go_wp2_with fail
      go_quiet ((go_at_call 67; exact quiet_same (Hcall.out _)))
      go_wp2_with fail
      go_ret2
      exact RefP.err HN.out (Bdrawn hb0 _)
    · have d2 : decide ((v.ins.length : Int) < L) = false := by simpa using a2
      by_cases a3 : M < (v.ins.length : Int)
      · have d3 : decide (M < (v.ins.length : Int)) = true := by simpa using a3
        have HN := Lib.hid (Hbad.out (by rw [Hcn.out, if_pos (by omega)]))
        have Ha1 := Lib.hid a1
        clear a1
        go_wp2_with fail
        go_quiet ((go_at_call 67; exact quiet_same (Hcall.out _)))
        go_wp2_with fail
        go_ret2
        exact RefP.err HN.out (Bdrawn hb0 _)
      · have d3 : decide (M < (v.ins.length : Int)) = false := by simpa using a3
        have hc0 : Od.counts v.op v.p.length (Nt.pick sh v.ins).length = 0 := by rw [Hcn.out, if_neg (by omega)]
        have hi8 : v.ins.length ≤ 8 := by omega
        have Ha1 := Lib.hid a1
        clear a1 a2 a3
        have Hc0 := Lib.hid hc0
        clear hc0
        go_wp2_with fail
        go_quiet ((go_at_call 67; exact quiet_same (Hcall.out _)))
        rename_i nq
        clear d1 d2 d3
        have hbn := Bdrawn hb0 nq
        have hS2 := HS1.out.drewN nq
        have hJ2 := HJ1.out.drewN nq
        have hQ2 := HQ1.out.drewN nq
        have hX2 := HX1.out.drewN nq
        have HS2 := Lib.hid hS2
        have HJ2 := Lib.hid hJ2
        have HQ2 := Lib.hid hQ2
        have HX2 := Lib.hid hX2
        clear hS2 hJ2 hQ2 hX2
        clear HS1 HJ1 HQ1 HX1 Hcall
        go_wp2_with fail
        go_loop [8] (fun i => ∃ k : Nat, k ≤ v.p.length ∧ i = .int .i64 (k : Int) ∧ (v.p.take k).all Sh.right = true) (fun i => v.p.length - (intOf i).toNat)
        case atStart => exact ⟨0, Nat.zero_le _, rfl, rfl⟩
        case round =>
          obtain ⟨k, hk, rfl, hall⟩ := hrel
          by_cases hlt : k < v.p.length
          · obtain ⟨b, off, Sk, ck, rfl, -, hc, hIk, hk1, hk2⟩ := HQ2.out k hlt
            have hpl2 := Hok.out.2.2.2.2.1 _ (List.getElem_mem hlt)
            have hall2 : Sh.right v.p[k] = true → (v.p.take (k + 1)).all Sh.right = true := fun h => by rw [List.take_succ_eq_append_getElem hlt, List.all_append, hall]; simp [h]
            have hnot : Sh.right v.p[k] = false → Od.shape v.op v.p (Nt.pick sh v.ins) = ([], 20) := fun h => by
              unfold Od.shape
              rw [if_neg (by rw [Hc0.out]; simp), if_neg]
              intro h2
              rw [Bool.and_eq_true] at h2
              have := List.all_eq_true.1 h2.1 _ (List.getElem_mem hlt)
              rw [h] at this
              cases this
            generalize v.p[k] = s at *
            have HIk := Lib.hid hIk
            have Hall := Lib.hid hall
            have Hall2 := Lib.hid hall2
            have Hnot := Lib.hid hnot
            clear hIk hall hall2 hnot
            go_wp2_with fail
            refine (ref03_right Sk ck s _ (by omega) HIk.out).mono ?_
            rintro e w3 ⟨rfl, rfl⟩
            by_cases hrs : Sh.right s = true
            · have HA := Lib.hid (Hall2.out hrs)
              rw [hrs]
              clear hrs
              go_wp2_with fail
              go_round
              case rel => exact ⟨k + 1, by omega, by go_num, HA.out⟩
              case measure => simp [intOf]; omega
            · have hrs' : Sh.right s = false := by simpa using hrs
              have HN := Lib.hid (Hnot.out hrs')
              rw [hrs']
              clear hrs hrs'
              go_wp2_with fail
              go_ret2
              exact RefP.err HN.out hbn
          · obtain rfl : k = v.p.length := by omega
            rw [List.take_length] at hall
            have hpr : ∀ s ∈ v.p, Sh.right s = true := List.all_eq_true.1 hall
            have hxr : ∀ s ∈ Nt.pick sh v.ins, Sh.right s = true := fun s hs => by
              obtain ⟨i, hi, rfl⟩ := List.mem_map.1 hs
              exact (Hin.out i hi).2.2
            have hsh : Od.shape v.op v.p (Nt.pick sh v.ins) = Od.byKind v.op v.p (Nt.pick sh v.ins) := Od.shape_go Hc0.out hall (List.all_eq_true.2 hxr)
            have Hall := Lib.hid hall
            have Hpr := Lib.hid hpr
            have Hxr := Lib.hid hxr
            have Hsh := Lib.hid hsh
            clear hall hpr hxr hsh
            go_wp2_with fail
            clear y0 y1 y2 y3 y4 y5 y6 y7
            obtain ⟨w2, hw2⟩ : ∃ w2, w1.drewN nq = w2 := ⟨_, rfl⟩
            have hkn : Blk w2 w.heap.size 82 #[.int .i64 v.op.kind, .int .i64 v.op.k, .int .i64 v.op.width, .int .i64 v.op.step, .int .i64 v.op.side, .int .i64 v.op.frm, .int .i64 v.op.to, .slice S v.op.s.length c, .slice J v.ins.length ic, .slice Q v.p.length qc] := by rw [← hw2]; exact Hk0.out.drewN nq
            rw [hw2] at hbn HS2 HJ2 HQ2 HX2 ⊢
            clear hw2 y8 y9 Hk0
            have Hkn := Lib.hid hkn
            clear hkn
            go_loopw [9, 10] (fun o i wx => ∃ (k : Nat) (vs : List Value), k ≤ v.ins.length ∧ i = .int .i64 (k : Int) ∧ wx.ownsRow w2.heap.size 22 1 o k vs ∧ RowOf w2 vs (Nt.pick sh (v.ins.take k)) ∧ Below w2.heap.size w2 wx) (fun _ i _ => v.ins.length - (intOf i).toNat)
            case atStart => exact ⟨0, [], Nat.zero_le _, rfl, World.ownsRow_nil _ _ _ _, RowOf.nil _, Below.refl _ _⟩
            case round =>
              obtain ⟨k, vs, hk, rfl, hown, hrow, hbx⟩ := hrel
              have hknx := Hkn.out.below hbx Hkn.out.lt
              have y8 : wr.cell? ⟨w.heap.size, 8, none⟩ = some (.slice J v.ins.length ic) := by rw [hknx.cell]; rfl
              by_cases hlt : k < v.ins.length
              · obtain ⟨Ao, co, rfl⟩ := own_form hown
                obtain ⟨b1, off1, rfl, -, hc⟩ := HJ2.out.below hbx (Nat.le_refl _) k hlt
                rw [getD_at hlt] at hc
                obtain ⟨r1, r2, r3⟩ := Hin.out _ (List.getElem_mem hlt)
                have hpt := pick_take sh v.ins hlt
                obtain ⟨u, hu⟩ : ∃ u : Nat, v.ins[k] = (u : Int) := ⟨v.ins[k].toNat, by omega⟩
                rw [hu] at hc hpt r2
                rw [Int.toNat_natCast] at hpt r2
                rw [gets_at r2] at hpt
                obtain ⟨Su, cu, yu, hIu, u1, u2⟩ := HX2.out.each r2
                rw [Nat.zero_add] at yu
                have yu' := cell_below hbx yu
                have hpush := hrow.push hIu u1 u2
                rw [← hpt] at hpush
                generalize sh[u] = s at *
                have j0 : (0 : Int) ≤ (u : Int) := by omega
                have j1 : (u : Int) < (sh.length : Int) := by omega
                have ho := ownsRow_new hown (.cells #[.slice Su s.length cu] 22)
                have hbx2 := hbx.alloc hbx.size (.cells #[.slice Su s.length cu] 22)
                have hlo : ∀ b, (Value.slice Ao k co).ownBlock = some b → w2.heap.size ≤ b := fun b hb => (hown.lt b hb).1
                have Hknx := Lib.hid hknx
                have Hrow := Lib.hid hrow
                have Hpush := Lib.hid hpush
                have Hlo := Lib.hid hlo
                have HIu := Lib.hid hIu
                have Hpt := Lib.hid hpt
                clear hknx hrow hpush hlo hIu hpt
                clear hown r1 r3 hu yu
                go_wp2_with (at_builtin; refine wpList_append_own_at _ rfl _ _ 34 rfl w2.heap.size 22 i1 (.slice none 0 0) 1 24 Tryz.underlying34 hj hy0 hy1 hy2 rfl (by decide) _ _ _ rfl ho ⟨wr.heap.size, 0, none⟩ 1 1 [.slice Su s.length cu] rfl rfl ?c1 (by intro u hu; simp at hu; subst hu; rfl) (by unfold maxLen; omega) (by omega) ?c2 ?_)
                first | (case c1 => exact one_new wr _ _) | skip
                case c2 => first | exact hbx2.size | (have := hbx.size; omega)
                intro v' w3 hown' hgrow _ hat
                have hb3 : Below w2.heap.size w2 w3 := hbx2.grown hgrow hbx2.size (fun b hb => Hlo.out b hb)
                have HO3 := Lib.hid hown'
                clear hown' hgrow hat ho hbx2
                go_wp2_with fail
                go_roundw
                case rel => exact ⟨k + 1, _, by omega, by go_num, HO3.out, Hpush.out, hb3⟩
                case measure => simp [intOf]; omega
              · obtain rfl : k = v.ins.length := by omega
                rw [List.take_length] at hrow
                obtain ⟨Ao, co, rfl, hno, hSo, ho1, ho2⟩ := hrow.shps hown hbx
                obtain ⟨y0, y1, y2, y3, y4, y5, y6, y7, -, y9⟩ := node_cells10 hknx
                have hw := Hok.out.1
                have hol := Hok.out.2.1
                have hcall := ref10_shape v.op S Q Ao c qc co v.p (Nt.pick sh v.ins) wr Hr.out Hc0.out (by omega) hsc hsm hw (HS2.out.below hbx (Nat.le_refl _)) (HQ2.out.below hbx (Nat.le_refl _)) hSo Hpr.out Hxr.out
                have hbz := hbn.trans (hbx.mono hbn.size)
                rw [← Hsh.out] at hcall
                generalize Od.shape v.op v.p (Nt.pick sh v.ins) = r at *
                have Hcall := Lib.hid hcall
                have Hrow := Lib.hid hrow
                have Hown := Lib.hid hown
                have HSo := Lib.hid hSo
                have Hknx := Lib.hid hknx
                have Hw := Lib.hid hw
                have Hno := Lib.hid hno
                clear hcall hrow hown hSo hknx hw hno
                go_wp2_with fail
                clear y0 y1 y2 y3 y4 y5 y6 y7 y8 y9
                refine (Hcall.out).mono ?_
                rintro e w9 ⟨S9, c9, rfl, hI9, h91, h92, hb9⟩
                have HI9 := Lib.hid hI9
                clear hI9
                have hb10 := hbz.trans (hb9.mono hbz.size)
                go_wp2_with fail
                go_ret2
                exact ⟨S9, c9, rfl, HI9.out, h91, h92, hb10⟩
end Go.Proofs.YtnffjfjhbjeaiaaGreatDoor
/- Layer 11 (net): Users, copies, the equalities: contracts. -/
namespace Go.Proofs.YtnffjfjhbjeaiaaGreatDoor
open Go.RowKit
def AnyBool (w : World) (e : Ending) (w' : World) : Prop := ∃ b, e = .returned (.bool b) ∧ Below w.heap.size w w'
end Go.Proofs.YtnffjfjhbjeaiaaGreatDoor
/- Layer 11 (net): copies: contract. -/
namespace Go.Proofs.YtnffjfjhbjeaiaaGreatDoor
open Go.RowKit
/-- Block g, from B on, is a row of shapes, each in a block of its own from B on; block by block. -/
def FRow (B : Nat) (w : World) (g : Nat) (t : TypeId) (ss : List (List Int)) : Prop :=
  B ≤ g ∧ ∃ hs : List Nat, hs.length = ss.length ∧ (∃ vs : List Value, vs.length = ss.length ∧ Blk w g t vs.toArray ∧ ∀ j (hj : j < ss.length) (hj2 : j < hs.length), vs[j]? = some (.slice (some ⟨hs[j], 0, none⟩) ss[j].length ss[j].length)) ∧
    ∀ j (hj : j < ss.length) (hj2 : j < hs.length), B ≤ hs[j] ∧ hs[j] ≠ g ∧ Blk w hs[j] 3 (ss[j].map (Value.int .i64)).toArray
theorem FRow.shps {B : Nat} {w : World} {g : Nat} {t : TypeId} {ss : List (List Int)} (h : FRow B w g t ss) (hm : ∀ s ∈ ss, s.length ≤ 9223372036854775807) : Shps w (some ⟨g, 0, none⟩) ss := fun j hj => by
  obtain ⟨_, hs, hl, ⟨vs, hvl, hk, hv⟩, hb⟩ := h
  have h1 := hv j hj (by omega)
  obtain ⟨_, _, hB⟩ := hb j hj (by omega)
  refine ⟨g, 0, _, _, rfl, hk.lt, by rw [Nat.zero_add, hk.cell j]; simpa using h1, Ints.of_row fun i hi => ?_, Nat.le_refl _, hm _ (List.getElem_mem hj)⟩
  rw [Nat.zero_add, hB.cell i, getD_at hi]
  simp [hi]
theorem FRow.fr {B : Nat} {w w' : World} {g : Nat} {t : TypeId} {ss : List (List Int)} {S : Nat → Prop} (h : FRow B w g t ss) (hf : Fr S w w') (hS : ∀ b, B ≤ b → b < w.heap.size → ¬ S b) : FRow B w' g t ss := by
  obtain ⟨hg, hs, hl, ⟨vs, hvl, hk, hv⟩, hb⟩ := h
  refine ⟨hg, hs, hl, ⟨vs, hvl, hf.blk hk (hS _ hg hk.lt), hv⟩, fun j hj hj2 => ?_⟩
  obtain ⟨h1, h2, h3⟩ := hb j hj hj2
  exact ⟨h1, h2, hf.blk h3 (hS _ h1 h3.lt)⟩
theorem FRow.base {B B' : Nat} {w : World} {g : Nat} {t : TypeId} {ss : List (List Int)} (h : FRow B w g t ss) (hB : B' ≤ B) : FRow B' w g t ss := by
  obtain ⟨hg, hs, hl, hv, hb⟩ := h
  exact ⟨Nat.le_trans hB hg, hs, hl, hv, fun j hj hj2 => ⟨Nat.le_trans hB (hb j hj hj2).1, (hb j hj hj2).2⟩⟩
def CopiesP (ss : List (List Int)) (w : World) (e : Ending) (w' : World) : Prop :=
  ∃ g, e = .returned (.slice (some ⟨g, 0, none⟩) ss.length ss.length) ∧ FRow w.heap.size w' g 23 ss ∧ Below w.heap.size w w'
end Go.Proofs.YtnffjfjhbjeaiaaGreatDoor

/- The reference of layer 10: Right: contract. -/
import Derived.Test.YtjkhpbngpceenaaRefS
import Derived.Deep.DeepCutAuto
namespace Go.Proofs.Ytjkhpbngpceenaa
open Go.RowKit
set_option maxHeartbeats 8000000 in
set_option maxRecDepth 20000 in
theorem ref10_right (o : OpD) (S : Option Addr) (c : Nat) (w : World) (hl : o.s.length ≤ 9223372036854775807) :
    Calls Try.prog 39 #[.agg #[.int .i64 o.kind, .int .i64 o.k, .int .i64 o.width, .int .i64 o.step, .int .i64 o.side, .int .i64 o.frm, .int .i64 o.to, .slice S o.s.length c]] w fun e w' => e = .returned (.bool (Od.refRight o)) ∧ Below w.heap.size w w' := by
  have hb0 : Below w.heap.size w (w.alloc (.cells #[.int .i64 o.kind, .int .i64 o.k, .int .i64 o.width, .int .i64 o.step, .int .i64 o.side, .int .i64 o.frm, .int .i64 o.to, .slice S o.s.length c] 72)) := (Below.refl _ _).alloc (Nat.le_refl _) _
  have hk0 := Blk.new w 72 #[.int .i64 o.kind, .int .i64 o.k, .int .i64 o.width, .int .i64 o.step, .int .i64 o.side, .int .i64 o.frm, .int .i64 o.to, .slice S o.s.length c]
  obtain ⟨y0, y1, y2, y3, y4, y5, y6, y7⟩ := op_cells hk0
  have HB := Lib.hid hb0
  clear hk0 hb0
  go_enter Try.func39, Try.ntmps39
  go_upto_region 1 with fail
  generalize (w.alloc (.cells #[.int .i64 o.kind, .int .i64 o.k, .int .i64 o.width, .int .i64 o.step, .int .i64 o.side, .int .i64 o.frm, .int .i64 o.to, .slice S o.s.length c] 72)) = w1 at *
  go_cut [10] (fun v wx => v = .bool (decide (o.kind < 1 ∨ 15 < o.kind)) ∧ w1 = wx)
  case first =>
    by_cases c1 : o.kind < 1
    · have e1 : decide (o.kind < 1) = true := by simp; omega
      have HX := Lib.hid (show decide (o.kind < 1 ∨ 15 < o.kind) = true by simp; omega)
      clear c1
      go_wp2_with fail
      go_meet
      exact ⟨by rw [HX.out], rfl⟩
    · have e1 : decide (o.kind < 1) = false := by simp; omega
      by_cases c2 : 15 < o.kind
      · have e2 : decide (15 < o.kind) = true := by simp; omega
        have HX := Lib.hid (show decide (o.kind < 1 ∨ 15 < o.kind) = true by simp; omega)
        clear c1 c2
        go_wp2_with fail
        go_meet
        exact ⟨by rw [HX.out], rfl⟩
      · have e2 : decide (15 < o.kind) = false := by simp; omega
        have HX := Lib.hid (show decide (o.kind < 1 ∨ 15 < o.kind) = false by simp; omega)
        clear c1 c2
        go_wp2_with fail
        go_meet
        exact ⟨by rw [HX.out], rfl⟩
  case rest =>
    obtain ⟨rfl, rfl⟩ := hcut
    by_cases f0 : o.kind < 1 ∨ 15 < o.kind
    · have q0 : decide (o.kind < 1 ∨ 15 < o.kind) = true := decide_eq_true f0
      have HX := Lib.hid (show Od.refRight o = false by unfold Od.refRight; rw [if_pos f0])
      clear f0
      rw [q0]
      clear q0
      go_wp2_with fail
      go_ret
      exact ⟨by rw [HX.out]; rfl, HB.out⟩
    · have q0 : decide (o.kind < 1 ∨ 15 < o.kind) = false := decide_eq_false f0
      rw [q0]
      clear q0
      go_upto_region 3 with fail
      go_cut [23] (fun v wx => v = .bool (decide (o.k ≠ 0 ∧ o.kind ≠ 2 ∧ o.kind ≠ 5)) ∧ w1 = wx)
      case first =>
        by_cases c1 : o.k = 0
        · have e1 : (o.k != 0) = false := by simp; omega
          have HX := Lib.hid (show decide (o.k ≠ 0 ∧ o.kind ≠ 2 ∧ o.kind ≠ 5) = false by simp; omega)
          clear c1
          go_wp2_with fail
          go_meet
          exact ⟨by rw [HX.out], rfl⟩
        · have e1 : (o.k != 0) = true := by simp; omega
          by_cases c2 : o.kind = 2
          · have e2 : (o.kind != 2) = false := by simp; omega
            have HX := Lib.hid (show decide (o.k ≠ 0 ∧ o.kind ≠ 2 ∧ o.kind ≠ 5) = false by simp; omega)
            clear c1 c2
            go_wp2_with fail
            go_meet
            exact ⟨by rw [HX.out], rfl⟩
          · have e2 : (o.kind != 2) = true := by simp; omega
            by_cases c3 : o.kind = 5
            · have e3 : (o.kind != 5) = false := by simp; omega
              have HX := Lib.hid (show decide (o.k ≠ 0 ∧ o.kind ≠ 2 ∧ o.kind ≠ 5) = false by simp; omega)
              clear c1 c2 c3
              go_wp2_with fail
              go_meet
              exact ⟨by rw [HX.out], rfl⟩
            · have e3 : (o.kind != 5) = true := by simp; omega
              have HX := Lib.hid (show decide (o.k ≠ 0 ∧ o.kind ≠ 2 ∧ o.kind ≠ 5) = true by simp; omega)
              clear c1 c2 c3
              go_wp2_with fail
              go_meet
              exact ⟨by rw [HX.out], rfl⟩
      case rest =>
        obtain ⟨rfl, rfl⟩ := hcut
        by_cases f1 : o.k ≠ 0 ∧ o.kind ≠ 2 ∧ o.kind ≠ 5
        · have q1 : decide (o.k ≠ 0 ∧ o.kind ≠ 2 ∧ o.kind ≠ 5) = true := decide_eq_true f1
          have HX := Lib.hid (show Od.refRight o = false by unfold Od.refRight; rw [if_neg f0, if_pos f1])
          clear f0 f1
          rw [q1]
          clear q1
          go_wp2_with fail
          go_ret
          exact ⟨by rw [HX.out]; rfl, HB.out⟩
        · have q1 : decide (o.k ≠ 0 ∧ o.kind ≠ 2 ∧ o.kind ≠ 5) = false := decide_eq_false f1
          rw [q1]
          clear q1
          go_upto_region 5 with fail
          go_cut [36] (fun v wx => v = .bool (decide (o.width ≠ 0 ∧ o.kind ≠ 11 ∧ o.kind ≠ 12)) ∧ w1 = wx)
          case first =>
            by_cases c1 : o.width = 0
            · have e1 : (o.width != 0) = false := by simp; omega
              have HX := Lib.hid (show decide (o.width ≠ 0 ∧ o.kind ≠ 11 ∧ o.kind ≠ 12) = false by simp; omega)
              clear c1
              go_wp2_with fail
              go_meet
              exact ⟨by rw [HX.out], rfl⟩
            · have e1 : (o.width != 0) = true := by simp; omega
              by_cases c2 : o.kind = 11
              · have e2 : (o.kind != 11) = false := by simp; omega
                have HX := Lib.hid (show decide (o.width ≠ 0 ∧ o.kind ≠ 11 ∧ o.kind ≠ 12) = false by simp; omega)
                clear c1 c2
                go_wp2_with fail
                go_meet
                exact ⟨by rw [HX.out], rfl⟩
              · have e2 : (o.kind != 11) = true := by simp; omega
                by_cases c3 : o.kind = 12
                · have e3 : (o.kind != 12) = false := by simp; omega
                  have HX := Lib.hid (show decide (o.width ≠ 0 ∧ o.kind ≠ 11 ∧ o.kind ≠ 12) = false by simp; omega)
                  clear c1 c2 c3
                  go_wp2_with fail
                  go_meet
                  exact ⟨by rw [HX.out], rfl⟩
                · have e3 : (o.kind != 12) = true := by simp; omega
                  have HX := Lib.hid (show decide (o.width ≠ 0 ∧ o.kind ≠ 11 ∧ o.kind ≠ 12) = true by simp; omega)
                  clear c1 c2 c3
                  go_wp2_with fail
                  go_meet
                  exact ⟨by rw [HX.out], rfl⟩
          case rest =>
            obtain ⟨rfl, rfl⟩ := hcut
            by_cases f2 : o.width ≠ 0 ∧ o.kind ≠ 11 ∧ o.kind ≠ 12
            · have q2 : decide (o.width ≠ 0 ∧ o.kind ≠ 11 ∧ o.kind ≠ 12) = true := decide_eq_true f2
              have HX := Lib.hid (show Od.refRight o = false by unfold Od.refRight; rw [if_neg f0, if_neg f1, if_pos f2])
              clear f0 f1 f2
              rw [q2]
              clear q2
              go_wp2_with fail
              go_ret
              exact ⟨by rw [HX.out]; rfl, HB.out⟩
            · have q2 : decide (o.width ≠ 0 ∧ o.kind ≠ 11 ∧ o.kind ≠ 12) = false := decide_eq_false f2
              rw [q2]
              clear q2
              go_upto_region 7 with fail
              go_cut [49] (fun v wx => v = .bool (decide (o.step ≠ 0 ∧ (o.kind < 10 ∨ 12 < o.kind))) ∧ w1 = wx)
              case first =>
                by_cases c1 : o.step = 0
                · have e1 : (o.step != 0) = false := by simp; omega
                  have HX := Lib.hid (show decide (o.step ≠ 0 ∧ (o.kind < 10 ∨ 12 < o.kind)) = false by simp; omega)
                  clear c1
                  go_wp2_with fail
                  go_meet
                  exact ⟨by rw [HX.out], rfl⟩
                · have e1 : (o.step != 0) = true := by simp; omega
                  by_cases c2 : o.kind < 10
                  · have e2 : decide (o.kind < 10) = true := by simp; omega
                    have HX := Lib.hid (show decide (o.step ≠ 0 ∧ (o.kind < 10 ∨ 12 < o.kind)) = true by simp; omega)
                    clear c1 c2
                    go_wp2_with fail
                    go_meet
                    exact ⟨by rw [HX.out], rfl⟩
                  · have e2 : decide (o.kind < 10) = false := by simp; omega
                    by_cases c3 : 12 < o.kind
                    · have e3 : decide (12 < o.kind) = true := by simp; omega
                      have HX := Lib.hid (show decide (o.step ≠ 0 ∧ (o.kind < 10 ∨ 12 < o.kind)) = true by simp; omega)
                      clear c1 c2 c3
                      go_wp2_with fail
                      go_meet
                      exact ⟨by rw [HX.out], rfl⟩
                    · have e3 : decide (12 < o.kind) = false := by simp; omega
                      have HX := Lib.hid (show decide (o.step ≠ 0 ∧ (o.kind < 10 ∨ 12 < o.kind)) = false by simp; omega)
                      clear c1 c2 c3
                      go_wp2_with fail
                      go_meet
                      exact ⟨by rw [HX.out], rfl⟩
              case rest =>
                obtain ⟨rfl, rfl⟩ := hcut
                by_cases f3 : o.step ≠ 0 ∧ (o.kind < 10 ∨ 12 < o.kind)
                · have q3 : decide (o.step ≠ 0 ∧ (o.kind < 10 ∨ 12 < o.kind)) = true := decide_eq_true f3
                  have HX := Lib.hid (show Od.refRight o = false by unfold Od.refRight; rw [if_neg f0, if_neg f1, if_neg f2, if_pos f3])
                  clear f0 f1 f2 f3
                  rw [q3]
                  clear q3
                  go_wp2_with fail
                  go_ret
                  exact ⟨by rw [HX.out]; rfl, HB.out⟩
                · have q3 : decide (o.step ≠ 0 ∧ (o.kind < 10 ∨ 12 < o.kind)) = false := decide_eq_false f3
                  rw [q3]
                  clear q3
                  go_upto_region 9 with fail
                  go_cut [62] (fun v wx => v = .bool (decide (o.side ≠ 0 ∧ o.kind ≠ 13 ∧ o.kind ≠ 14)) ∧ w1 = wx)
                  case first =>
                    by_cases c1 : o.side = 0
                    · have e1 : (o.side != 0) = false := by simp; omega
                      have HX := Lib.hid (show decide (o.side ≠ 0 ∧ o.kind ≠ 13 ∧ o.kind ≠ 14) = false by simp; omega)
                      clear c1
                      go_wp2_with fail
                      go_meet
                      exact ⟨by rw [HX.out], rfl⟩
                    · have e1 : (o.side != 0) = true := by simp; omega
                      by_cases c2 : o.kind = 13
                      · have e2 : (o.kind != 13) = false := by simp; omega
                        have HX := Lib.hid (show decide (o.side ≠ 0 ∧ o.kind ≠ 13 ∧ o.kind ≠ 14) = false by simp; omega)
                        clear c1 c2
                        go_wp2_with fail
                        go_meet
                        exact ⟨by rw [HX.out], rfl⟩
                      · have e2 : (o.kind != 13) = true := by simp; omega
                        by_cases c3 : o.kind = 14
                        · have e3 : (o.kind != 14) = false := by simp; omega
                          have HX := Lib.hid (show decide (o.side ≠ 0 ∧ o.kind ≠ 13 ∧ o.kind ≠ 14) = false by simp; omega)
                          clear c1 c2 c3
                          go_wp2_with fail
                          go_meet
                          exact ⟨by rw [HX.out], rfl⟩
                        · have e3 : (o.kind != 14) = true := by simp; omega
                          have HX := Lib.hid (show decide (o.side ≠ 0 ∧ o.kind ≠ 13 ∧ o.kind ≠ 14) = true by simp; omega)
                          clear c1 c2 c3
                          go_wp2_with fail
                          go_meet
                          exact ⟨by rw [HX.out], rfl⟩
                  case rest =>
                    obtain ⟨rfl, rfl⟩ := hcut
                    by_cases f4 : o.side ≠ 0 ∧ o.kind ≠ 13 ∧ o.kind ≠ 14
                    · have q4 : decide (o.side ≠ 0 ∧ o.kind ≠ 13 ∧ o.kind ≠ 14) = true := decide_eq_true f4
                      have HX := Lib.hid (show Od.refRight o = false by unfold Od.refRight; rw [if_neg f0, if_neg f1, if_neg f2, if_neg f3, if_pos f4])
                      clear f0 f1 f2 f3 f4
                      rw [q4]
                      clear q4
                      go_wp2_with fail
                      go_ret
                      exact ⟨by rw [HX.out]; rfl, HB.out⟩
                    · have q4 : decide (o.side ≠ 0 ∧ o.kind ≠ 13 ∧ o.kind ≠ 14) = false := decide_eq_false f4
                      rw [q4]
                      clear q4
                      go_upto_region 11 with fail
                      go_cut [75] (fun v wx => v = .bool (decide ((o.frm ≠ 0 ∨ o.to ≠ 0) ∧ o.kind ≠ 14)) ∧ w1 = wx)
                      case first =>
                        by_cases c1 : o.frm = 0
                        · have e1 : (o.frm != 0) = false := by simp; omega
                          by_cases c2 : o.to = 0
                          · have e2 : (o.to != 0) = false := by simp; omega
                            have HX := Lib.hid (show decide ((o.frm ≠ 0 ∨ o.to ≠ 0) ∧ o.kind ≠ 14) = false by simp; omega)
                            clear c1 c2
                            go_wp2_with fail
                            go_meet
                            exact ⟨by rw [HX.out], rfl⟩
                          · have e2 : (o.to != 0) = true := by simp; omega
                            by_cases c3 : o.kind = 14
                            · have e3 : (o.kind != 14) = false := by simp; omega
                              have HX := Lib.hid (show decide ((o.frm ≠ 0 ∨ o.to ≠ 0) ∧ o.kind ≠ 14) = false by simp; omega)
                              clear c1 c2 c3
                              go_wp2_with fail
                              go_meet
                              exact ⟨by rw [HX.out], rfl⟩
                            · have e3 : (o.kind != 14) = true := by simp; omega
                              have HX := Lib.hid (show decide ((o.frm ≠ 0 ∨ o.to ≠ 0) ∧ o.kind ≠ 14) = true by simp; omega)
                              clear c1 c2 c3
                              go_wp2_with fail
                              go_meet
                              exact ⟨by rw [HX.out], rfl⟩
                        · have e1 : (o.frm != 0) = true := by simp; omega
                          by_cases c2 : o.kind = 14
                          · have e2 : (o.kind != 14) = false := by simp; omega
                            have HX := Lib.hid (show decide ((o.frm ≠ 0 ∨ o.to ≠ 0) ∧ o.kind ≠ 14) = false by simp; omega)
                            clear c1 c2
                            go_wp2_with fail
                            go_meet
                            exact ⟨by rw [HX.out], rfl⟩
                          · have e2 : (o.kind != 14) = true := by simp; omega
                            have HX := Lib.hid (show decide ((o.frm ≠ 0 ∨ o.to ≠ 0) ∧ o.kind ≠ 14) = true by simp; omega)
                            clear c1 c2
                            go_wp2_with fail
                            go_meet
                            exact ⟨by rw [HX.out], rfl⟩
                      case rest =>
                        obtain ⟨rfl, rfl⟩ := hcut
                        by_cases f5 : (o.frm ≠ 0 ∨ o.to ≠ 0) ∧ o.kind ≠ 14
                        · have q5 : decide ((o.frm ≠ 0 ∨ o.to ≠ 0) ∧ o.kind ≠ 14) = true := decide_eq_true f5
                          have HX := Lib.hid (show Od.refRight o = false by unfold Od.refRight; rw [if_neg f0, if_neg f1, if_neg f2, if_neg f3, if_neg f4, if_pos f5])
                          clear f0 f1 f2 f3 f4 f5
                          rw [q5]
                          clear q5
                          go_wp2_with fail
                          go_ret
                          exact ⟨by rw [HX.out]; rfl, HB.out⟩
                        · have q5 : decide ((o.frm ≠ 0 ∨ o.to ≠ 0) ∧ o.kind ≠ 14) = false := decide_eq_false f5
                          rw [q5]
                          clear q5
                          have HF := Lib.hid (show Od.refRight o = decide (o.s = [] ∨ o.kind = 15) by unfold Od.refRight; rw [if_neg f0, if_neg f1, if_neg f2, if_neg f3, if_neg f4, if_neg f5])
                          clear f0 f1 f2 f3 f4 f5
                          by_cases h1 : o.s = []
                          · have HX := Lib.hid (show decide (o.s = [] ∨ o.kind = 15) = true by simp [h1])
                            have e1 : ((o.s.length : Int) == 0) = true := by simp [h1]
                            have e2 : o.s.length = 0 := by simp [h1]
                            rw [e2] at *
                            clear h1
                            go_wp2_with fail
                            go_ret
                            exact ⟨by rw [HF.out, HX.out]; rfl, HB.out⟩
                          · have e1 : ((o.s.length : Int) == 0) = false := by simp [h1]
                            have e2 : (o.s.length == 0) = false := by simp [h1]
                            by_cases h2 : o.kind = 15
                            · have HX := Lib.hid (show decide (o.s = [] ∨ o.kind = 15) = true by simp [h2])
                              have e3 : (o.kind == 15) = true := by simp [h2]
                              clear h1 h2
                              go_wp2_with fail
                              go_ret
                              exact ⟨by rw [HF.out, HX.out]; rfl, HB.out⟩
                            · have HX := Lib.hid (show decide (o.s = [] ∨ o.kind = 15) = false by simp [h1, h2])
                              have e3 : (o.kind == 15) = false := by simp [h2]
                              clear h1 h2
                              go_wp2_with fail
                              go_ret
                              exact ⟨by rw [HF.out, HX.out]; rfl, HB.out⟩
end Go.Proofs.Ytjkhpbngpceenaa

/- Layer 10 (op): equal and right ops: contracts. -/
import Derived.Test.YtjkhpbngpceenaaOp1
import Derived.ChangeKeysEq
namespace Go.Proofs.Ytjkhpbngpceenaa
open Go.RowKit

theorem arr_stood : Try.prog.stoodInHeld 102 = false := by kernel_rfl
theorem arr_guard : Try.prog.eqGuardType Try.prog.depth 102 = false := by kernel_rfl
theorem i64_one : Try.prog.cellsOf 2 = 1 := by kernel_rfl
theorem run_eql_nums (w : World) (a0 a1 a2 a3 a4 a5 a6 b0 b1 b2 b3 b4 b5 b6 : Int) : (binOp .eql 102 (.agg #[.int .i64 a0, .int .i64 a1, .int .i64 a2, .int .i64 a3, .int .i64 a4, .int .i64 a5, .int .i64 a6]) (.agg #[.int .i64 b0, .int .i64 b1, .int .i64 b2, .int .i64 b3, .int .i64 b4, .int .i64 b5, .int .i64 b6])).run Try.prog w =
    .ok (.bool (a0 == b0 && a1 == b1 && a2 == b2 && a3 == b3 && a4 == b4 && a5 == b5 && a6 == b6)) w := by
  obtain ⟨i0, hi, _, _, _⟩ := info_parts i64_info
  have hA := run_equalIn_array (P := Try.prog) (w := w) 9999 #[.int .i64 a0, .int .i64 a1, .int .i64 a2, .int .i64 a3, .int .i64 a4, .int .i64 a5, .int .i64 a6] #[.int .i64 b0, .int .i64 b1, .int .i64 b2, .int .i64 b3, .int .i64 b4, .int .i64 b5, .int .i64 b6] Try.underlying102 hi
  rw [i64_one] at hA
  have g1 := arr_stood
  have g2 := arr_guard
  simp [go_sem, g1]
  rw [hA]
  rw [show List.range 7 = [0, 1, 2, 3, 4, 5, 6] from rfl]
  clear hA
  cases h0 : (a0 == b0)
  · simp [Op.eqItems, go_sem, h0]
  cases h1 : (a1 == b1)
  · simp [Op.eqItems, go_sem, h0, h1]
  cases h2 : (a2 == b2)
  · simp [Op.eqItems, go_sem, h0, h1, h2]
  cases h3 : (a3 == b3)
  · simp [Op.eqItems, go_sem, h0, h1, h2, h3]
  cases h4 : (a4 == b4)
  · simp [Op.eqItems, go_sem, h0, h1, h2, h3, h4]
  cases h5 : (a5 == b5)
  · simp [Op.eqItems, go_sem, h0, h1, h2, h3, h4, h5]
  cases h6 : (a6 == b6)
  all_goals simp [Op.eqItems, go_sem, h0, h1, h2, h3, h4, h5, h6]

theorem op_eq_iff (o q : OpD) : decide (o = q) = ((o.kind == q.kind && o.k == q.k && o.width == q.width && o.step == q.step && o.side == q.side && o.frm == q.frm && o.to == q.to) && (o.s == q.s)) := by
  obtain ⟨a0, a1, a2, a3, a4, a5, a6, a7⟩ := o
  obtain ⟨b0, b1, b2, b3, b4, b5, b6, b7⟩ := q
  rw [Bool.eq_iff_iff]
  simp [and_assoc]

set_option maxHeartbeats 4000000 in
theorem op_equal (o q : OpD) (S T : Option Addr) (c d : Nat) (w : World) (ho : o.s.length ≤ 17592186043904) (hq : q.s.length ≤ 17592186043904) (hI : Ints .i64 w S o.s) (hJ : Ints .i64 w T q.s) :
    Calls Try.prog 48 #[.agg #[.int .i64 o.kind, .int .i64 o.k, .int .i64 o.width, .int .i64 o.step, .int .i64 o.side, .int .i64 o.frm, .int .i64 o.to, .slice S o.s.length c], .agg #[.int .i64 q.kind, .int .i64 q.k, .int .i64 q.width, .int .i64 q.step, .int .i64 q.side, .int .i64 q.frm, .int .i64 q.to, .slice T q.s.length d]] w fun e w' => e = .returned (.bool (decide (o = q))) ∧ Below w.heap.size w w' := by
  have hrun := fun W => run_eql_nums W o.kind o.k o.width o.step o.side o.frm o.to q.kind q.k q.width q.step q.side q.frm q.to
  have HE := Lib.hid (op_eq_iff o q)
  have hk0 := (Blk.new w 43 #[.int .i64 o.kind, .int .i64 o.k, .int .i64 o.width, .int .i64 o.step, .int .i64 o.side, .int .i64 o.frm, .int .i64 o.to, .slice S o.s.length c]).alloc (.cells #[.int .i64 q.kind, .int .i64 q.k, .int .i64 q.width, .int .i64 q.step, .int .i64 q.side, .int .i64 q.frm, .int .i64 q.to, .slice T q.s.length d] 43)
  have hk1 := Blk.new (w.alloc (.cells #[.int .i64 o.kind, .int .i64 o.k, .int .i64 o.width, .int .i64 o.step, .int .i64 o.side, .int .i64 o.frm, .int .i64 o.to, .slice S o.s.length c] 43)) 43 #[.int .i64 q.kind, .int .i64 q.k, .int .i64 q.width, .int .i64 q.step, .int .i64 q.side, .int .i64 q.frm, .int .i64 q.to, .slice T q.s.length d]
  have hb0 := below2 w (.cells #[.int .i64 o.kind, .int .i64 o.k, .int .i64 o.width, .int .i64 o.step, .int .i64 o.side, .int .i64 o.frm, .int .i64 o.to, .slice S o.s.length c] 43) (.cells #[.int .i64 q.kind, .int .i64 q.k, .int .i64 q.width, .int .i64 q.step, .int .i64 q.side, .int .i64 q.frm, .int .i64 q.to, .slice T q.s.length d] 43)
  rw [World.size_alloc] at hk1
  go_enter Try.func48, Try.ntmps48
  go_wp2_with fail
  generalize ((w.alloc (.cells #[.int .i64 o.kind, .int .i64 o.k, .int .i64 o.width, .int .i64 o.step, .int .i64 o.side, .int .i64 o.frm, .int .i64 o.to, .slice S o.s.length c] 43)).alloc (.cells #[.int .i64 q.kind, .int .i64 q.k, .int .i64 q.width, .int .i64 q.step, .int .i64 q.side, .int .i64 q.frm, .int .i64 q.to, .slice T q.s.length d] 43)) = w0 at *
  have hlt0 := hk0.lt
  have hlt1 := hk1.lt
  have hcells : ∀ W, Below w0.heap.size w0 W → W.cell? ⟨w.heap.size, 0, none⟩ = some (.int .i64 o.kind) ∧ W.cell? ⟨w.heap.size, 1, none⟩ = some (.int .i64 o.k) ∧ W.cell? ⟨w.heap.size, 2, none⟩ = some (.int .i64 o.width) ∧ W.cell? ⟨w.heap.size, 3, none⟩ = some (.int .i64 o.step) ∧ W.cell? ⟨w.heap.size, 4, none⟩ = some (.int .i64 o.side) ∧ W.cell? ⟨w.heap.size, 5, none⟩ = some (.int .i64 o.frm) ∧ W.cell? ⟨w.heap.size, 6, none⟩ = some (.int .i64 o.to) ∧ W.cell? ⟨w.heap.size, 7, none⟩ = some (.slice S o.s.length c) ∧ W.cell? ⟨w.heap.size + 1, 0, none⟩ = some (.int .i64 q.kind) ∧ W.cell? ⟨w.heap.size + 1, 1, none⟩ = some (.int .i64 q.k) ∧ W.cell? ⟨w.heap.size + 1, 2, none⟩ = some (.int .i64 q.width) ∧ W.cell? ⟨w.heap.size + 1, 3, none⟩ = some (.int .i64 q.step) ∧ W.cell? ⟨w.heap.size + 1, 4, none⟩ = some (.int .i64 q.side) ∧ W.cell? ⟨w.heap.size + 1, 5, none⟩ = some (.int .i64 q.frm) ∧ W.cell? ⟨w.heap.size + 1, 6, none⟩ = some (.int .i64 q.to) ∧ W.cell? ⟨w.heap.size + 1, 7, none⟩ = some (.slice T q.s.length d) := fun W hW => by
    have k0 := hk0.below hW hlt0
    have k1 := hk1.below hW hlt1
    have e := fun i => k0.cell i
    have f := fun i => k1.cell i
    refine ⟨?_, ?_, ?_, ?_, ?_, ?_, ?_, ?_, ?_, ?_, ?_, ?_, ?_, ?_, ?_, ?_⟩
    all_goals first | (rw [e]; rfl) | (rw [f]; rfl)
  have hself : Below w0.heap.size w0 w0.drew := (Below.refl _ _).drew
  have hall := hcells _ hself
  generalize hbv : (o.kind == q.kind && o.k == q.k && o.width == q.width && o.step == q.step && o.side == q.side && o.frm == q.frm && o.to == q.to) = bv at *
  have Hcells := Lib.hid hcells
  have HI := Lib.hid hI
  have HJ := Lib.hid hJ
  have Hk0 := Lib.hid hk0
  have Hk1 := Lib.hid hk1
  have Hbv := Lib.hid hbv
  clear hcells hI hJ hk0 hk1 hbv
  obtain ⟨x0, x1, x2, x3, x4, x5, x6, x7, y0, y1, y2, y3, y4, y5, y6, y7⟩ := hall
  cases bv
  · first
      | (go_region_with (first
          | (go_at_call_of 67 (Value.agg #[.int .i64 o.kind, .int .i64 o.k, .int .i64 o.width, .int .i64 o.step, .int .i64 o.side, .int .i64 o.frm, .int .i64 o.to, .slice S o.s.length c]); refine (op_numbers o S c _).mono ?_; rintro e wa ⟨rfl, ha⟩; have hbb := hself.trans (ha.mono hself.size); obtain ⟨u0, u1, u2, u3, u4, u5, u6, u7, u8, u9, u10, u11, u12, u13, u14, u15⟩ := Hcells.out _ hbb)
          | (go_at_call 67; refine (op_numbers q T d _).mono ?_; rintro e wb ⟨rfl, hb⟩; have hbb := hbb.trans (hb.mono hbb.size); obtain ⟨v0, v1, v2, v3, v4, v5, v6, v7, v8, v9, v10, v11, v12, v13, v14, v15⟩ := Hcells.out _ hbb)))
      | skip
    all_goals
      go_wp2_with fail
      go_ret
      exact ⟨by rw [HE.out]; rfl, hb0.trans (hbb.mono hb0.size)⟩
  · go_region_held3 (fun W => W.cell? ⟨w.heap.size, 0, none⟩ = some (.int .i64 o.kind) ∧ W.cell? ⟨w.heap.size, 1, none⟩ = some (.int .i64 o.k) ∧ W.cell? ⟨w.heap.size, 2, none⟩ = some (.int .i64 o.width) ∧ W.cell? ⟨w.heap.size, 3, none⟩ = some (.int .i64 o.step) ∧ W.cell? ⟨w.heap.size, 4, none⟩ = some (.int .i64 o.side) ∧ W.cell? ⟨w.heap.size, 5, none⟩ = some (.int .i64 o.frm) ∧ W.cell? ⟨w.heap.size, 6, none⟩ = some (.int .i64 o.to) ∧ W.cell? ⟨w.heap.size, 7, none⟩ = some (.slice S o.s.length c) ∧ W.cell? ⟨w.heap.size + 1, 0, none⟩ = some (.int .i64 q.kind) ∧ W.cell? ⟨w.heap.size + 1, 1, none⟩ = some (.int .i64 q.k) ∧ W.cell? ⟨w.heap.size + 1, 2, none⟩ = some (.int .i64 q.width) ∧ W.cell? ⟨w.heap.size + 1, 3, none⟩ = some (.int .i64 q.step) ∧ W.cell? ⟨w.heap.size + 1, 4, none⟩ = some (.int .i64 q.side) ∧ W.cell? ⟨w.heap.size + 1, 5, none⟩ = some (.int .i64 q.frm) ∧ W.cell? ⟨w.heap.size + 1, 6, none⟩ = some (.int .i64 q.to) ∧ W.cell? ⟨w.heap.size + 1, 7, none⟩ = some (.slice T q.s.length d)) (first | exact Hcells.out _ hbc | exact Hcells.out _ hbb | exact Hcells.out _ hself)
      (first
        | (go_at_call_of 67 (Value.agg #[.int .i64 o.kind, .int .i64 o.k, .int .i64 o.width, .int .i64 o.step, .int .i64 o.side, .int .i64 o.frm, .int .i64 o.to, .slice S o.s.length c]); refine (op_numbers o S c _).mono ?_; rintro e wa ⟨rfl, ha⟩; have hbb := hself.trans (ha.mono hself.size))
        | (go_at_call 67; refine (op_numbers q T d _).mono ?_; rintro e wb ⟨rfl, hb⟩; have hbb := hbb.trans (hb.mono hbb.size))
        | (go_at_call 45; refine (shape_equal S T c d o.s q.s _ ho hq (HI.out.below (hb0.trans (hbb.mono hb0.size)) (Nat.le_refl _)) (HJ.out.below (hb0.trans (hbb.mono hb0.size)) (Nat.le_refl _))).mono ?_; rintro e wd ⟨rfl, nd, rfl⟩; have hbc := Bdrawn hbb nd))
    all_goals
      go_wp2_with fail
      go_ret
      exact ⟨by rw [HE.out]; rfl, hb0.trans (hbc.mono hb0.size)⟩
end Go.Proofs.Ytjkhpbngpceenaa

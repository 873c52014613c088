/- Lemmas for the statements of this seat: contracts of functions and the plain laws. -/
import Derived.BigQuiet
import Derived.ChangeKeysEq
import Derived.Deep.AppendLies
import Derived.Deep.DeepCutAuto
import Derived.Deep.RegionHeld3
import Derived.Deep.RegionLaw
import Derived.Maps.AppendAt
import Derived.Test.YtbnnpkcfifejmaaGreatZ02
set_option linter.unusedVariables false
namespace Go.Proofs.YtbnnpkcfifejmaaGreat
open Go.RowKit
def opCells (o : OpD) (S : Option Addr) (c : Nat) : Array Value := #[.int .i64 o.kind, .int .i64 o.k, .int .i64 o.width, .int .i64 o.step, .int .i64 o.side, .int .i64 o.frm, .int .i64 o.to, .slice S o.s.length c]
def opNums (o : OpD) : Value := .agg #[.int .i64 o.kind, .int .i64 o.k, .int .i64 o.width, .int .i64 o.step, .int .i64 o.side, .int .i64 o.frm, .int .i64 o.to]
theorem below2 (w : World) (a b : Obj) : Below w.heap.size w ((w.alloc a).alloc b) := ((Below.refl _ w).alloc (Nat.le_refl _) a).alloc (by simp) b
theorem below3 (w : World) (a b c : Obj) : Below w.heap.size w (((w.alloc a).alloc b).alloc c) := (below2 w a b).alloc (by simp; omega) c
def UsedP (o : OpD) (S : Option Addr) (c : Nat) (w : World) (e : Ending) (w' : World) : Prop :=
 ∃ S' c', e = .returned (.agg #[.int .i64 (Od.used o).kind, .int .i64 (Od.used o).k, .int .i64 (Od.used o).width, .int .i64 (Od.used o).step, .int .i64 (Od.used o).side, .int .i64 (Od.used o).frm, .int .i64 (Od.used o).to, .slice S' (Od.used o).s.length c']) ∧ (S' = S ∧ (Od.used o).s = o.s ∨ (Od.used o).s = []) ∧ Below w.heap.size w w'
set_option maxHeartbeats 1000000 in
theorem op_numbers (o : OpD) (S : Option Addr) (c : Nat) (w : World) :
  Calls Tryz.prog 157 #[.agg #[.int .i64 o.kind, .int .i64 o.k, .int .i64 o.width, .int .i64 o.step, .int .i64 o.side, .int .i64 o.frm, .int .i64 o.to, .slice S o.s.length c]] w fun e w' => e = .returned (.agg #[.int .i64 o.kind, .int .i64 o.k, .int .i64 o.width, .int .i64 o.step, .int .i64 o.side, .int .i64 o.frm, .int .i64 o.to]) ∧ Below w.heap.size w w' := by
 go_enter Tryz.func157, Tryz.ntmps157
 go_wp2_with fail
 refine bodyPost_ret (v := .agg #[.int .i64 o.kind, .int .i64 o.k, .int .i64 o.width, .int .i64 o.step, .int .i64 o.side, .int .i64 o.frm, .int .i64 o.to]) (by simp [results, Tryz.results157, go_sem]) rfl ?_
 exact ⟨rfl, below2 w _ _⟩
set_option maxHeartbeats 2000000 in
set_option maxRecDepth 100000 in
theorem op_used (o : OpD) (S : Option Addr) (c : Nat) (w : World) :
  Calls Tryz.prog 146 #[.agg #[.int .i64 o.kind, .int .i64 o.k, .int .i64 o.width, .int .i64 o.step, .int .i64 o.side, .int .i64 o.frm, .int .i64 o.to, .slice S o.s.length c]] w (UsedP o S c w) := by
 obtain ⟨kind, k, width, step, side, frm, tz, s⟩ := o
 by_cases hk : kind = 2 ∨ kind = 5 ∨ kind = 10 ∨ kind = 11 ∨ kind = 12 ∨ kind = 13 ∨ kind = 14 ∨ kind = 15
 ·rcases hk with rfl | rfl | rfl | rfl | rfl | rfl | rfl | rfl
  all_goals
   go_enter Tryz.func146, Tryz.ntmps146
   go_wp2_with fail
   try go_region_with (fail)
  all_goals try go_wp2_with fail
  all_goals refine bodyPost_ret (by simp [results, Tryz.results146, go_sem]; rfl) rfl ?_
  all_goals refine ⟨_, _, rfl, by simp [Od.used], ?_⟩
  all_goals (repeat' first | exact Below.refl _ _ | exact below3 _ _ _ _ | refine Below.drew ?_ | refine Below.setCell ?_ (by simp) _ | refine Below.alloc ?_ (by simp) _)
 ·have n2 : (kind == 2) = false := by simp; omega
  have n5 : (kind == 5) = false := by simp; omega
  have n10 : (kind == 10) = false := by simp; omega
  have n11 : (kind == 11) = false := by simp; omega
  have n12 : (kind == 12) = false := by simp; omega
  have n13 : (kind == 13) = false := by simp; omega
  have n14 : (kind == 14) = false := by simp; omega
  have n15 : (kind == 15) = false := by simp; omega
  have HU := Lib.hid (show Od.used ⟨kind, k, width, step, side, frm, tz, s⟩ = ⟨kind, 0, 0, 0, 0, 0, 0, []⟩ by unfold Od.used; simp only; rw [if_neg (by omega), if_neg (by omega), if_neg (by omega), if_neg (by omega), if_neg (by omega), if_neg (by omega)])
  clear hk
  go_enter Tryz.func146, Tryz.ntmps146
  go_wp2_with fail
  refine bodyPost_ret (by simp [results, Tryz.results146, go_sem]; rfl) rfl ?_
  exact ⟨none, 0, by rw [HU.out]; rfl, .inr (by rw [HU.out]), below3 w _ _ _⟩
end Go.Proofs.YtbnnpkcfifejmaaGreat
namespace Go.Proofs.YtbnnpkcfifejmaaGreat
open Go.RowKit
theorem arr_stood : Tryz.prog.stoodInHeld 220 = false := by kernel_rfl
theorem arr_guard : Tryz.prog.eqGuardType Tryz.prog.depth 220 = false := by kernel_rfl
theorem i64_one : Tryz.prog.cellsOf 2 = 1 := by kernel_rfl
theorem run_eql_nums (w : World) (a0 a1 a2 a3 a4 a5 a6 b0 b1 b2 b3 b4 b5 b6 : Int) : (binOp .eql 220 (.agg #[.int .i64 a0, .int .i64 a1, .int .i64 a2, .int .i64 a3, .int .i64 a4, .int .i64 a5, .int .i64 a6]) (.agg #[.int .i64 b0, .int .i64 b1, .int .i64 b2, .int .i64 b3, .int .i64 b4, .int .i64 b5, .int .i64 b6])).run Tryz.prog w =
  .ok (.bool (a0 == b0 && a1 == b1 && a2 == b2 && a3 == b3 && a4 == b4 && a5 == b5 && a6 == b6)) w := by
 obtain ⟨i0, hi, _, _, _⟩ := info_parts i64_info
 have hA := run_equalIn_array (P := Tryz.prog) (w := w) 9999 #[.int .i64 a0, .int .i64 a1, .int .i64 a2, .int .i64 a3, .int .i64 a4, .int .i64 a5, .int .i64 a6] #[.int .i64 b0, .int .i64 b1, .int .i64 b2, .int .i64 b3, .int .i64 b4, .int .i64 b5, .int .i64 b6] Tryz.underlying220 hi
 rw [i64_one] at hA
 have g1 := arr_stood
 have g2 := arr_guard
 simp [go_sem]
 rw [hA]
 rw [show List.range 7 = [0, 1, 2, 3, 4, 5, 6] from rfl]
 clear hA
 cases h0 : (a0 == b0)
 ·simp [Op.eqItems, go_sem, h0]
 cases h1 : (a1 == b1)
 ·simp [Op.eqItems, go_sem, h0, h1]
 cases h2 : (a2 == b2)
 ·simp [Op.eqItems, go_sem, h0, h1, h2]
 cases h3 : (a3 == b3)
 ·simp [Op.eqItems, go_sem, h0, h1, h2, h3]
 cases h4 : (a4 == b4)
 ·simp [Op.eqItems, go_sem, h0, h1, h2, h3, h4]
 cases h5 : (a5 == b5)
 ·simp [Op.eqItems, go_sem, h0, h1, h2, h3, h4, h5]
 cases h6 : (a6 == b6)
 all_goals simp [Op.eqItems, go_sem, h0, h1, h2, h3, h4, h5, h6]
theorem op_eq_iff (o q : OpD) : decide (o = q) = ((o.kind == q.kind && o.k == q.k && o.width == q.width && o.step == q.step && o.side == q.side && o.frm == q.frm && o.to == q.to) && (o.s == q.s)) := by
 obtain ⟨a0, a1, a2, a3, a4, a5, a6, a7⟩ := o
 obtain ⟨b0, b1, b2, b3, b4, b5, b6, b7⟩ := q
 rw [Bool.eq_iff_iff]
 simp [and_assoc]
set_option maxHeartbeats 4000000 in
theorem op_equal (o q : OpD) (S T : Option Addr) (c d : Nat) (w : World) (ho : o.s.length ≤ 17592186043904) (hq : q.s.length ≤ 17592186043904) (hI : Ints .i64 w S o.s) (hJ : Ints .i64 w T q.s) :
  Calls Tryz.prog 145 #[.agg #[.int .i64 o.kind, .int .i64 o.k, .int .i64 o.width, .int .i64 o.step, .int .i64 o.side, .int .i64 o.frm, .int .i64 o.to, .slice S o.s.length c], .agg #[.int .i64 q.kind, .int .i64 q.k, .int .i64 q.width, .int .i64 q.step, .int .i64 q.side, .int .i64 q.frm, .int .i64 q.to, .slice T q.s.length d]] w fun e w' => e = .returned (.bool (decide (o = q))) ∧ Below w.heap.size w w' := by
 have hrun := fun W => run_eql_nums W o.kind o.k o.width o.step o.side o.frm o.to q.kind q.k q.width q.step q.side q.frm q.to
 have HE := Lib.hid (op_eq_iff o q)
 have hk0 := (Blk.new w 26 #[.int .i64 o.kind, .int .i64 o.k, .int .i64 o.width, .int .i64 o.step, .int .i64 o.side, .int .i64 o.frm, .int .i64 o.to, .slice S o.s.length c]).alloc (.cells #[.int .i64 q.kind, .int .i64 q.k, .int .i64 q.width, .int .i64 q.step, .int .i64 q.side, .int .i64 q.frm, .int .i64 q.to, .slice T q.s.length d] 26)
 have hk1 := Blk.new (w.alloc (.cells #[.int .i64 o.kind, .int .i64 o.k, .int .i64 o.width, .int .i64 o.step, .int .i64 o.side, .int .i64 o.frm, .int .i64 o.to, .slice S o.s.length c] 26)) 26 #[.int .i64 q.kind, .int .i64 q.k, .int .i64 q.width, .int .i64 q.step, .int .i64 q.side, .int .i64 q.frm, .int .i64 q.to, .slice T q.s.length d]
 have hb0 := below2 w (.cells #[.int .i64 o.kind, .int .i64 o.k, .int .i64 o.width, .int .i64 o.step, .int .i64 o.side, .int .i64 o.frm, .int .i64 o.to, .slice S o.s.length c] 26) (.cells #[.int .i64 q.kind, .int .i64 q.k, .int .i64 q.width, .int .i64 q.step, .int .i64 q.side, .int .i64 q.frm, .int .i64 q.to, .slice T q.s.length d] 26)
 rw [World.size_alloc] at hk1
 go_enter Tryz.func145, Tryz.ntmps145
 go_wp2_with fail
 generalize ((w.alloc (.cells #[.int .i64 o.kind, .int .i64 o.k, .int .i64 o.width, .int .i64 o.step, .int .i64 o.side, .int .i64 o.frm, .int .i64 o.to, .slice S o.s.length c] 26)).alloc (.cells #[.int .i64 q.kind, .int .i64 q.k, .int .i64 q.width, .int .i64 q.step, .int .i64 q.side, .int .i64 q.frm, .int .i64 q.to, .slice T q.s.length d] 26)) = w0 at *
 have hlt0 := hk0.lt
 have hlt1 := hk1.lt
 have hcells : ∀ W, Below w0.heap.size w0 W → W.cell? ⟨w.heap.size, 0, none⟩ = some (.int .i64 o.kind) ∧ W.cell? ⟨w.heap.size, 1, none⟩ = some (.int .i64 o.k) ∧ W.cell? ⟨w.heap.size, 2, none⟩ = some (.int .i64 o.width) ∧ W.cell? ⟨w.heap.size, 3, none⟩ = some (.int .i64 o.step) ∧ W.cell? ⟨w.heap.size, 4, none⟩ = some (.int .i64 o.side) ∧ W.cell? ⟨w.heap.size, 5, none⟩ = some (.int .i64 o.frm) ∧ W.cell? ⟨w.heap.size, 6, none⟩ = some (.int .i64 o.to) ∧ W.cell? ⟨w.heap.size, 7, none⟩ = some (.slice S o.s.length c) ∧ W.cell? ⟨w.heap.size + 1, 0, none⟩ = some (.int .i64 q.kind) ∧ W.cell? ⟨w.heap.size + 1, 1, none⟩ = some (.int .i64 q.k) ∧ W.cell? ⟨w.heap.size + 1, 2, none⟩ = some (.int .i64 q.width) ∧ W.cell? ⟨w.heap.size + 1, 3, none⟩ = some (.int .i64 q.step) ∧ W.cell? ⟨w.heap.size + 1, 4, none⟩ = some (.int .i64 q.side) ∧ W.cell? ⟨w.heap.size + 1, 5, none⟩ = some (.int .i64 q.frm) ∧ W.cell? ⟨w.heap.size + 1, 6, none⟩ = some (.int .i64 q.to) ∧ W.cell? ⟨w.heap.size + 1, 7, none⟩ = some (.slice T q.s.length d) := fun W hW => by
  have k0 := hk0.below hW hlt0
  have k1 := hk1.below hW hlt1
  have e := fun i => k0.cell i
  have f := fun i => k1.cell i
  refine ⟨?_, ?_, ?_, ?_, ?_, ?_, ?_, ?_, ?_, ?_, ?_, ?_, ?_, ?_, ?_, ?_⟩
  all_goals first | (rw [e]; rfl) | (rw [f]; rfl)
 have hself : Below w0.heap.size w0 w0.drew := (Below.refl _ _).drew
 have hall := hcells _ hself
 generalize hbv : (o.kind == q.kind && o.k == q.k && o.width == q.width && o.step == q.step && o.side == q.side && o.frm == q.frm && o.to == q.to) = bv at *
 have Hcells := Lib.hid hcells
 have HI := Lib.hid hI
 have HJ := Lib.hid hJ
 have Hk0 := Lib.hid hk0
 have Hk1 := Lib.hid hk1
 have Hbv := Lib.hid hbv
 clear hcells hI hJ hk0 hk1 hbv
 obtain ⟨x0, x1, x2, x3, x4, x5, x6, x7, y0, y1, y2, y3, y4, y5, y6, y7⟩ := hall
 cases bv
 ·first
   | (go_region_with (first
     | (go_at_call_of 157 (Value.agg #[.int .i64 o.kind, .int .i64 o.k, .int .i64 o.width, .int .i64 o.step, .int .i64 o.side, .int .i64 o.frm, .int .i64 o.to, .slice S o.s.length c]); refine (op_numbers o S c _).mono ?_; rintro e wa ⟨rfl, ha⟩; have hbb := hself.trans (ha.mono hself.size); obtain ⟨u0, u1, u2, u3, u4, u5, u6, u7, u8, u9, u10, u11, u12, u13, u14, u15⟩ := Hcells.out _ hbb)
     | (go_at_call 157; refine (op_numbers q T d _).mono ?_; rintro e wb ⟨rfl, hb⟩; have hbb := hbb.trans (hb.mono hbb.size); obtain ⟨v0, v1, v2, v3, v4, v5, v6, v7, v8, v9, v10, v11, v12, v13, v14, v15⟩ := Hcells.out _ hbb)))
   | skip
  all_goals
   go_wp2_with fail
   go_ret
   exact ⟨by rw [HE.out]; rfl, hb0.trans (hbb.mono hb0.size)⟩
 ·go_region_held3 (fun W => W.cell? ⟨w.heap.size, 0, none⟩ = some (.int .i64 o.kind) ∧ W.cell? ⟨w.heap.size, 1, none⟩ = some (.int .i64 o.k) ∧ W.cell? ⟨w.heap.size, 2, none⟩ = some (.int .i64 o.width) ∧ W.cell? ⟨w.heap.size, 3, none⟩ = some (.int .i64 o.step) ∧ W.cell? ⟨w.heap.size, 4, none⟩ = some (.int .i64 o.side) ∧ W.cell? ⟨w.heap.size, 5, none⟩ = some (.int .i64 o.frm) ∧ W.cell? ⟨w.heap.size, 6, none⟩ = some (.int .i64 o.to) ∧ W.cell? ⟨w.heap.size, 7, none⟩ = some (.slice S o.s.length c) ∧ W.cell? ⟨w.heap.size + 1, 0, none⟩ = some (.int .i64 q.kind) ∧ W.cell? ⟨w.heap.size + 1, 1, none⟩ = some (.int .i64 q.k) ∧ W.cell? ⟨w.heap.size + 1, 2, none⟩ = some (.int .i64 q.width) ∧ W.cell? ⟨w.heap.size + 1, 3, none⟩ = some (.int .i64 q.step) ∧ W.cell? ⟨w.heap.size + 1, 4, none⟩ = some (.int .i64 q.side) ∧ W.cell? ⟨w.heap.size + 1, 5, none⟩ = some (.int .i64 q.frm) ∧ W.cell? ⟨w.heap.size + 1, 6, none⟩ = some (.int .i64 q.to) ∧ W.cell? ⟨w.heap.size + 1, 7, none⟩ = some (.slice T q.s.length d)) (first | exact Hcells.out _ hbc | exact Hcells.out _ hbb | exact Hcells.out _ hself)
   (first
    | (go_at_call_of 157 (Value.agg #[.int .i64 o.kind, .int .i64 o.k, .int .i64 o.width, .int .i64 o.step, .int .i64 o.side, .int .i64 o.frm, .int .i64 o.to, .slice S o.s.length c]); refine (op_numbers o S c _).mono ?_; rintro e wa ⟨rfl, ha⟩; have hbb := hself.trans (ha.mono hself.size))
    | (go_at_call 157; refine (op_numbers q T d _).mono ?_; rintro e wb ⟨rfl, hb⟩; have hbb := hbb.trans (hb.mono hbb.size))
    | (go_at_call 43; refine (shape_equal S T c d o.s q.s _ ho hq (HI.out.below (hb0.trans (hbb.mono hb0.size)) (Nat.le_refl _)) (HJ.out.below (hb0.trans (hbb.mono hb0.size)) (Nat.le_refl _))).mono ?_; rintro e wd ⟨rfl, nd, rfl⟩; have hbc := Bdrawn hbb nd))
  all_goals
   go_wp2_with fail
   go_ret
   exact ⟨by rw [HE.out]; rfl, hb0.trans (hbc.mono hb0.size)⟩
end Go.Proofs.YtbnnpkcfifejmaaGreat
namespace Go.Proofs.YtbnnpkcfifejmaaGreat
open Go.RowKit
theorem used_len (o : OpD) : (Od.used o).s.length ≤ o.s.length := by
 unfold Od.used
 repeat' split
 all_goals simp
set_option maxHeartbeats 4000000 in
theorem op_right (o : OpD) (S : Option Addr) (c : Nat) (w : World) (ho : o.s.length ≤ 17592186043904) (hI : Ints .i64 w S o.s) :
  Calls Tryz.prog 103 #[.agg #[.int .i64 o.kind, .int .i64 o.k, .int .i64 o.width, .int .i64 o.step, .int .i64 o.side, .int .i64 o.frm, .int .i64 o.to, .slice S o.s.length c]] w fun e w' => e = .returned (.bool (Od.right o)) ∧ Below w.heap.size w w' := by
 have hk0 := Blk.new w 26 #[.int .i64 o.kind, .int .i64 o.k, .int .i64 o.width, .int .i64 o.step, .int .i64 o.side, .int .i64 o.frm, .int .i64 o.to, .slice S o.s.length c]
 have hb0 : Below w.heap.size w (w.alloc (.cells #[.int .i64 o.kind, .int .i64 o.k, .int .i64 o.width, .int .i64 o.step, .int .i64 o.side, .int .i64 o.frm, .int .i64 o.to, .slice S o.s.length c] 26)) := (Below.refl _ _).alloc (Nat.le_refl _) _
 have hlt0 := hk0.lt
 have hul := used_len o
 by_cases h1 : 1 ≤ o.kind
 case neg =>
  have HR := Lib.hid (show Od.right o = false by simp [Od.right]; omega)
  have d1 : decide (1 ≤ o.kind) = false := by simp; omega
  have d1' : decide (o.kind ≥ 1) = false := d1
  go_enter Tryz.func103, Tryz.ntmps103
  go_wp2_with fail
  first
   | (go_region_with (fail))
   | skip
  all_goals
   go_wp2_with fail
   go_ret
   exact ⟨by rw [HR.out]; rfl, by first | exact hb0 | exact hb0.drew⟩
 by_cases h15 : o.kind ≤ 15
 case neg =>
  have HR := Lib.hid (show Od.right o = false by simp [Od.right]; omega)
  have d1 : decide (1 ≤ o.kind) = true := by simp; omega
  have d2 : decide (o.kind ≤ 15) = false := by simp; omega
  go_enter Tryz.func103, Tryz.ntmps103
  go_wp2_with fail
  first
   | (go_region_with (fail))
   | skip
  all_goals
   go_wp2_with fail
   go_ret
   exact ⟨by rw [HR.out]; rfl, by first | exact hb0 | exact hb0.drew⟩
 have HR := Lib.hid (show Od.right o = decide (o = Od.used o) by simp [Od.right, h1, h15])
 have d1 : decide (1 ≤ o.kind) = true := by simp; omega
 have d2 : decide (o.kind ≤ 15) = true := by simp; omega
 go_enter Tryz.func103, Tryz.ntmps103
 go_wp2_with fail
 generalize (w.alloc (.cells #[.int .i64 o.kind, .int .i64 o.k, .int .i64 o.width, .int .i64 o.step, .int .i64 o.side, .int .i64 o.frm, .int .i64 o.to, .slice S o.s.length c] 26)) = w0 at *
 have hcells : ∀ W, Below w0.heap.size w0 W → W.cell? ⟨w.heap.size, 0, none⟩ = some (.int .i64 o.kind) ∧ W.cell? ⟨w.heap.size, 1, none⟩ = some (.int .i64 o.k) ∧ W.cell? ⟨w.heap.size, 2, none⟩ = some (.int .i64 o.width) ∧ W.cell? ⟨w.heap.size, 3, none⟩ = some (.int .i64 o.step) ∧ W.cell? ⟨w.heap.size, 4, none⟩ = some (.int .i64 o.side) ∧ W.cell? ⟨w.heap.size, 5, none⟩ = some (.int .i64 o.frm) ∧ W.cell? ⟨w.heap.size, 6, none⟩ = some (.int .i64 o.to) ∧ W.cell? ⟨w.heap.size, 7, none⟩ = some (.slice S o.s.length c) := fun W hW => by
  have k0 := hk0.below hW hlt0
  have e := fun i => k0.cell i
  refine ⟨?_, ?_, ?_, ?_, ?_, ?_, ?_, ?_⟩
  all_goals (rw [e]; rfl)
 have hself : Below w0.heap.size w0 w0.drew := (Below.refl _ _).drew
 obtain ⟨x0, x1, x2, x3, x4, x5, x6, x7⟩ := hcells _ hself
 have Hcells := Lib.hid hcells
 have HI := Lib.hid hI
 have Hk0 := Lib.hid hk0
 clear hcells hI hk0
 go_region_held3 (fun W => W.cell? ⟨w.heap.size, 0, none⟩ = some (.int .i64 o.kind) ∧ W.cell? ⟨w.heap.size, 1, none⟩ = some (.int .i64 o.k) ∧ W.cell? ⟨w.heap.size, 2, none⟩ = some (.int .i64 o.width) ∧ W.cell? ⟨w.heap.size, 3, none⟩ = some (.int .i64 o.step) ∧ W.cell? ⟨w.heap.size, 4, none⟩ = some (.int .i64 o.side) ∧ W.cell? ⟨w.heap.size, 5, none⟩ = some (.int .i64 o.frm) ∧ W.cell? ⟨w.heap.size, 6, none⟩ = some (.int .i64 o.to) ∧ W.cell? ⟨w.heap.size, 7, none⟩ = some (.slice S o.s.length c)) (first | exact Hcells.out _ hbc | exact Hcells.out _ hbb | exact Hcells.out _ hself)
  (first
   | (go_at_call 146; refine (op_used o S c _).mono ?_; rintro e wa ⟨S', c', rfl, hcase, ha⟩; have hbb := hself.trans (ha.mono hself.size); have HC := Lib.hid hcase; clear hcase)
   | (go_at_call 145; refine (op_equal o (Od.used o) S S' c c' _ ho (by omega) (HI.out.below (hb0.trans (hbb.mono hb0.size)) (Nat.le_refl _)) (by rcases HC.out with ⟨e1, e2⟩ | e2; (rw [e1, e2]; exact HI.out.below (hb0.trans (hbb.mono hb0.size)) (Nat.le_refl _)); (rw [e2]; exact Ints.nil))).mono ?_; rintro e wd ⟨rfl, hd⟩; have hbc := hbb.trans (hd.mono hbb.size)))
 all_goals
  go_wp2_with fail
  go_ret
  exact ⟨by rw [HR.out]; rfl, hb0.trans (hbc.mono hb0.size)⟩
end Go.Proofs.YtbnnpkcfifejmaaGreat
namespace Go.Proofs.YtbnnpkcfifejmaaGreat
open Go.RowKit
theorem op_cells {W : World} {g : Nat} {t : TypeId} {o : OpD} {S : Option Addr} {c : Nat} (h : Blk W g t #[.int .i64 o.kind, .int .i64 o.k, .int .i64 o.width, .int .i64 o.step, .int .i64 o.side, .int .i64 o.frm, .int .i64 o.to, .slice S o.s.length c]) :
  W.cell? ⟨g, 0, none⟩ = some (.int .i64 o.kind) ∧ W.cell? ⟨g, 1, none⟩ = some (.int .i64 o.k) ∧ W.cell? ⟨g, 2, none⟩ = some (.int .i64 o.width) ∧ W.cell? ⟨g, 3, none⟩ = some (.int .i64 o.step) ∧ W.cell? ⟨g, 4, none⟩ = some (.int .i64 o.side) ∧ W.cell? ⟨g, 5, none⟩ = some (.int .i64 o.frm) ∧ W.cell? ⟨g, 6, none⟩ = some (.int .i64 o.to) ∧ W.cell? ⟨g, 7, none⟩ = some (.slice S o.s.length c) := by
 have e := fun i => h.cell i
 refine ⟨?_, ?_, ?_, ?_, ?_, ?_, ?_, ?_⟩
 all_goals (rw [e]; rfl)
set_option maxHeartbeats 1000000 in
theorem point_ins (k : Int) (w : World) : Calls Tryz.prog 119 #[.int .i64 k] w fun e w' => e = .returned (.int .i64 (Od.ptIns k)) ∧ w = w' := by
 by_cases h : 1 ≤ k ∧ k ≤ 7
 ·have hk : k = 1 ∨ k = 2 ∨ k = 3 ∨ k = 4 ∨ k = 5 ∨ k = 6 ∨ k = 7 := by omega
  rcases hk with rfl | rfl | rfl | rfl | rfl | rfl | rfl
  all_goals
   go_enter Tryz.func119, Tryz.ntmps119
   go_wp2_with fail
   go_ret
   exact ⟨rfl, rfl⟩
 ·have HP := Lib.hid (show Od.ptIns k = 0 by unfold Od.ptIns; rw [if_neg (by omega), if_neg (by omega)])
  have n1 : (k == 1) = false := by simp; omega
  have n2 : (k == 2) = false := by simp; omega
  have n3 : (k == 3) = false := by simp; omega
  have n4 : (k == 4) = false := by simp; omega
  have n5 : (k == 5) = false := by simp; omega
  have n6 : (k == 6) = false := by simp; omega
  have n7 : (k == 7) = false := by simp; omega
  clear h
  go_enter Tryz.func119, Tryz.ntmps119
  go_wp2_with fail
  go_ret
  exact ⟨by rw [HP.out]; rfl, rfl⟩
set_option maxHeartbeats 1000000 in
theorem op_ins (o : OpD) (S : Option Addr) (c : Nat) (w : World) (ho : o.s.length ≤ 17592186043904) (hI : Ints .i64 w S o.s) :
  Calls Tryz.prog 104 #[.agg #[.int .i64 o.kind, .int .i64 o.k, .int .i64 o.width, .int .i64 o.step, .int .i64 o.side, .int .i64 o.frm, .int .i64 o.to, .slice S o.s.length c]] w fun e w' => e = .returned (.tuple #[.int .i64 (Od.least o), .int .i64 (Od.most o)]) ∧ Below w.heap.size w w' := by
 have hk0 := Blk.new w 26 #[.int .i64 o.kind, .int .i64 o.k, .int .i64 o.width, .int .i64 o.step, .int .i64 o.side, .int .i64 o.frm, .int .i64 o.to, .slice S o.s.length c]
 have hb0 : Below w.heap.size w (w.alloc (.cells #[.int .i64 o.kind, .int .i64 o.k, .int .i64 o.width, .int .i64 o.step, .int .i64 o.side, .int .i64 o.frm, .int .i64 o.to, .slice S o.s.length c] 26)) := (Below.refl _ _).alloc (Nat.le_refl _) _
 have hlt0 := hk0.lt
 have hr := op_right o S c (w.alloc (.cells #[.int .i64 o.kind, .int .i64 o.k, .int .i64 o.width, .int .i64 o.step, .int .i64 o.side, .int .i64 o.frm, .int .i64 o.to, .slice S o.s.length c] 26)) ho (hI.alloc _)
 cases hq : Od.right o
 ·have HL := Lib.hid (show Od.least o = 0 ∧ Od.most o = 0 by simp [Od.least, Od.most, hq])
  rw [hq] at hr
  have Hr := Lib.hid hr
  have Hk0 := Lib.hid hk0
  have Hq := Lib.hid hq
  have HI := Lib.hid hI
  clear hr hk0 hq hI
  go_enter Tryz.func104, Tryz.ntmps104
  go_wp2_with fail
  refine (Hr.out).mono ?_
  rintro e w1 ⟨rfl, h1⟩
  go_wp2_with fail
  go_ret2
  exact ⟨by rw [HL.out.1, HL.out.2]; rfl, hb0.trans (h1.mono hb0.size)⟩
 ·have hkd := Od.right_kind hq
  rw [hq] at hr
  by_cases h7 : o.kind ≤ 7
  ·have HL := Lib.hid (show Od.least o = Od.ptIns o.kind ∧ Od.most o = Od.ptIns o.kind by simp [Od.least, Od.most, hq, h7])
   have Hr := Lib.hid hr
   have Hk0 := Lib.hid hk0
   have Hq := Lib.hid hq
   have HI := Lib.hid hI
   clear hr hk0 hq hI
   go_enter Tryz.func104, Tryz.ntmps104
   go_wp2_with fail
   refine (Hr.out).mono ?_
   rintro e w1 ⟨rfl, h1⟩
   obtain ⟨x0, -⟩ := op_cells (Hk0.out.below h1 hlt0)
   go_wp2_with fail
   refine (point_ins o.kind _).mono ?_
   rintro e w2 ⟨rfl, rfl⟩
   go_wp2_with fail
   go_ret2
   exact ⟨by rw [HL.out.1, HL.out.2]; rfl, hb0.trans (h1.mono hb0.size)⟩
  ·by_cases h13 : o.kind = 13
   ·have HL := Lib.hid (show Od.least o = 1 ∧ Od.most o = 8 by simp [Od.least, Od.most, hq, h13])
    have Hr := Lib.hid hr
    have Hk0 := Lib.hid hk0
    have Hq := Lib.hid hq
    have HI := Lib.hid hI
    have H13 := Lib.hid h13
    clear hr hk0 hq hI h13
    go_enter Tryz.func104, Tryz.ntmps104
    go_wp2_with fail
    refine (Hr.out).mono ?_
    rintro e w1 ⟨rfl, h1⟩
    obtain ⟨x0, -⟩ := op_cells (Hk0.out.below h1 hlt0)
    rw [H13.out] at x0
    go_wp2_with fail
    go_ret2
    exact ⟨by rw [HL.out.1, HL.out.2]; rfl, hb0.trans (h1.mono hb0.size)⟩
   ·have HL := Lib.hid (show Od.least o = 1 ∧ Od.most o = 1 by simp [Od.least, Od.most, hq, h13, h7])
    have n13 : (o.kind == 13) = false := by simp; omega
    have Hr := Lib.hid hr
    have Hk0 := Lib.hid hk0
    have Hq := Lib.hid hq
    have HI := Lib.hid hI
    clear hr hk0 hq hI
    go_enter Tryz.func104, Tryz.ntmps104
    go_wp2_with fail
    refine (Hr.out).mono ?_
    rintro e w1 ⟨rfl, h1⟩
    obtain ⟨x0, -⟩ := op_cells (Hk0.out.below h1 hlt0)
    go_wp2_with fail
    go_ret2
    exact ⟨by rw [HL.out.1, HL.out.2]; rfl, hb0.trans (h1.mono hb0.size)⟩
set_option maxHeartbeats 1000000 in
theorem op_params (o : OpD) (S : Option Addr) (c : Nat) (w : World) (ho : o.s.length ≤ 17592186043904) (hI : Ints .i64 w S o.s) :
  Calls Tryz.prog 44 #[.agg #[.int .i64 o.kind, .int .i64 o.k, .int .i64 o.width, .int .i64 o.step, .int .i64 o.side, .int .i64 o.frm, .int .i64 o.to, .slice S o.s.length c]] w fun e w' => e = .returned (.int .i64 (Od.params o)) ∧ Below w.heap.size w w' := by
 have hk0 := Blk.new w 26 #[.int .i64 o.kind, .int .i64 o.k, .int .i64 o.width, .int .i64 o.step, .int .i64 o.side, .int .i64 o.frm, .int .i64 o.to, .slice S o.s.length c]
 have hb0 : Below w.heap.size w (w.alloc (.cells #[.int .i64 o.kind, .int .i64 o.k, .int .i64 o.width, .int .i64 o.step, .int .i64 o.side, .int .i64 o.frm, .int .i64 o.to, .slice S o.s.length c] 26)) := (Below.refl _ _).alloc (Nat.le_refl _) _
 have hlt0 := hk0.lt
 have hr := op_right o S c (w.alloc (.cells #[.int .i64 o.kind, .int .i64 o.k, .int .i64 o.width, .int .i64 o.step, .int .i64 o.side, .int .i64 o.frm, .int .i64 o.to, .slice S o.s.length c] 26)) ho (hI.alloc _)
 cases hq : Od.right o
 ·have HL := Lib.hid (show Od.params o = 0 by simp [Od.params, hq])
  rw [hq] at hr
  have Hr := Lib.hid hr
  have Hk0 := Lib.hid hk0
  have Hq := Lib.hid hq
  have HI := Lib.hid hI
  clear hr hk0 hq hI
  go_enter Tryz.func44, Tryz.ntmps44
  go_wp2_with fail
  refine (Hr.out).mono ?_
  rintro e w1 ⟨rfl, h1⟩
  go_wp2_with fail
  go_ret
  exact ⟨by rw [HL.out]; rfl, hb0.trans (h1.mono hb0.size)⟩
 ·rw [hq] at hr
  by_cases h8 : o.kind = 8 ∨ o.kind = 9 ∨ o.kind = 10
  ·have HL := Lib.hid (show Od.params o = if o.kind = 8 then 2 else 1 by unfold Od.params; rw [if_pos hq]; rcases h8 with h | h | h <;> simp [h])
   have Hr := Lib.hid hr
   have Hk0 := Lib.hid hk0
   have Hq := Lib.hid hq
   have HI := Lib.hid hI
   clear hr hk0 hq hI
   rcases h8 with h8 | h8 | h8
   all_goals
    have H8 := Lib.hid h8
    clear h8
    go_enter Tryz.func44, Tryz.ntmps44
    go_wp2_with fail
    refine (Hr.out).mono ?_
    rintro e w1 ⟨rfl, h1⟩
    obtain ⟨x0, -⟩ := op_cells (Hk0.out.below h1 hlt0)
    rw [H8.out] at x0
    go_wp2_with fail
    go_ret
    exact ⟨by rw [HL.out, H8.out]; rfl, hb0.trans (h1.mono hb0.size)⟩
  ·have HL := Lib.hid (show Od.params o = 0 by unfold Od.params; rw [if_pos hq, if_neg (by omega), if_neg (by omega)])
   have n8 : (o.kind == 8) = false := by simp; omega
   have n9 : (o.kind == 9) = false := by simp; omega
   have n10 : (o.kind == 10) = false := by simp; omega
   have Hr := Lib.hid hr
   have Hk0 := Lib.hid hk0
   have Hq := Lib.hid hq
   have HI := Lib.hid hI
   clear hr hk0 hq hI
   clear h8
   go_enter Tryz.func44, Tryz.ntmps44
   go_wp2_with fail
   refine (Hr.out).mono ?_
   rintro e w1 ⟨rfl, h1⟩
   obtain ⟨x0, -⟩ := op_cells (Hk0.out.below h1 hlt0)
   go_wp2_with fail
   go_ret
   exact ⟨by rw [HL.out]; rfl, hb0.trans (h1.mono hb0.size)⟩
set_option maxHeartbeats 1000000 in
theorem op_counts (o : OpD) (S : Option Addr) (c : Nat) (p x : Int) (w : World) (ho : o.s.length ≤ 17592186043904) (hI : Ints .i64 w S o.s) :
  Calls Tryz.prog 45 #[.agg #[.int .i64 o.kind, .int .i64 o.k, .int .i64 o.width, .int .i64 o.step, .int .i64 o.side, .int .i64 o.frm, .int .i64 o.to, .slice S o.s.length c], .int .i64 p, .int .i64 x] w fun e w' => e = .returned (.int .i64 (Od.counts o p x)) ∧ Below w.heap.size w w' := by
 have hk0 := Blk.new w 26 #[.int .i64 o.kind, .int .i64 o.k, .int .i64 o.width, .int .i64 o.step, .int .i64 o.side, .int .i64 o.frm, .int .i64 o.to, .slice S o.s.length c]
 have hb0 : Below w.heap.size w (w.alloc (.cells #[.int .i64 o.kind, .int .i64 o.k, .int .i64 o.width, .int .i64 o.step, .int .i64 o.side, .int .i64 o.frm, .int .i64 o.to, .slice S o.s.length c] 26)) := (Below.refl _ _).alloc (Nat.le_refl _) _
 have hlt0 := hk0.lt
 have hr := op_right o S c (w.alloc (.cells #[.int .i64 o.kind, .int .i64 o.k, .int .i64 o.width, .int .i64 o.step, .int .i64 o.side, .int .i64 o.frm, .int .i64 o.to, .slice S o.s.length c] 26)) ho (hI.alloc _)
 cases hq : Od.right o
 ·have HL := Lib.hid (show Od.counts o p x = 21 by simp [Od.counts, hq])
  rw [hq] at hr
  have Hr := Lib.hid hr
  have Hk0 := Lib.hid hk0
  have Hq := Lib.hid hq
  have HI := Lib.hid hI
  clear hr hk0 hq hI
  go_enter Tryz.func45, Tryz.ntmps45
  go_wp2_with fail
  refine (Hr.out).mono ?_
  rintro e w1 ⟨rfl, h1⟩
  go_wp2_with fail
  go_ret
  exact ⟨by rw [HL.out]; rfl, hb0.trans (h1.mono hb0.size)⟩
 ·rw [hq] at hr
  have HL := Lib.hid (show Od.counts o p x = if x < Od.least o ∨ Od.most o < x ∨ p ≠ Od.params o then 20 else 0 by simp [Od.counts, hq])
  have Hr := Lib.hid hr
  have Hk0 := Lib.hid hk0
  have Hq := Lib.hid hq
  have HI := Lib.hid hI
  clear hr hk0 hq hI
  go_enter Tryz.func45, Tryz.ntmps45
  go_wp2_with fail
  refine (Hr.out).mono ?_
  rintro e w1 ⟨rfl, h1⟩
  obtain ⟨x0, x1, x2, x3, x4, x5, x6, x7⟩ := op_cells (Hk0.out.below h1 hlt0)
  go_wp2_with fail
  refine (op_ins o S c _ ho (HI.out.below (hb0.trans (h1.mono hb0.size)) (Nat.le_refl _))).mono ?_
  rintro e w2 ⟨rfl, h2⟩
  clear x0 x1 x2 x3 x4 x5 x6 x7
  have hb2 := h1.trans (h2.mono h1.size)
  by_cases hx1 : x < Od.least o
  ·go_wp2_with fail
   go_ret
   exact ⟨by rw [HL.out, if_pos (.inl hx1)]; rfl, hb0.trans (hb2.mono hb0.size)⟩
  ·by_cases hx2 : Od.most o < x
   ·go_wp2_with fail
    go_ret
    exact ⟨by rw [HL.out, if_pos (.inr (.inl hx2))]; rfl, hb0.trans (hb2.mono hb0.size)⟩
   ·obtain ⟨x0, x1, x2, x3, x4, x5, x6, x7⟩ := op_cells (Hk0.out.below hb2 hlt0)
    go_wp2_with fail
    refine (op_params o S c _ ho (HI.out.below (hb0.trans (hb2.mono hb0.size)) (Nat.le_refl _))).mono ?_
    rintro e w3 ⟨rfl, h3⟩
    clear x0 x1 x2 x3 x4 x5 x6 x7
    have hb3 := hb2.trans (h3.mono hb2.size)
    by_cases hp : p = Od.params o
    ·have hp' : (p != Od.params o) = false := by simp [hp]
     have HE := Lib.hid (show Od.counts o p x = 0 by rw [HL.out, if_neg (by omega)])
     clear hp
     go_wp2_with fail
     go_ret
     exact ⟨by rw [HE.out]; rfl, hb0.trans (hb3.mono hb0.size)⟩
    ·have hp' : (p != Od.params o) = true := by simp [hp]
     have HE := Lib.hid (show Od.counts o p x = 20 by rw [HL.out, if_pos (.inr (.inr hp))])
     clear hp
     go_wp2_with fail
     go_ret
     exact ⟨by rw [HE.out]; rfl, hb0.trans (hb3.mono hb0.size)⟩
end Go.Proofs.YtbnnpkcfifejmaaGreat
namespace Go.Proofs.YtbnnpkcfifejmaaGreat
open Go.RowKit
def Later (w w' : World) : Prop := Below w.heap.size w w'
section
variable {w w1 w2 : World}
theorem Later.refl (w : World) : Later w w := Below.refl _ _
theorem Later.alloc (h : Later w w1) (o : Obj) : Later w (w1.alloc o) := Below.alloc h h.size o
theorem Later.drew (h : Later w w1) : Later w w1.drew := Below.drew h
theorem Later.drewN (h : Later w w1) (n : Nat) : Later w (w1.drewN n) := Bdrawn h n
theorem Later.call (h : Later w w1) (k : Below w1.heap.size w1 w2) : Later w w2 := Below.trans h (k.mono h.size)
theorem Later.trans (h : Later w w1) (k : Later w1 w2) : Later w w2 := h.call k
theorem Later.set (h : Later w w1) {p : Addr} (hp : w.heap.size ≤ p.block) (u : Value) : Later w (w1.setCell p u) := Below.setCell h hp u
theorem Later.cell {p : Addr} {v : Value} (h : Later w w1) (hc : w.cell? p = some v) : w1.cell? p = some v := (Below.cell h (World.block_lt_of_cell? _ _ hc)).trans hc
theorem Later.blk {g : Nat} {t : TypeId} {cs : Array Value} (h : Later w w1) (hb : Blk w g t cs) : Blk w1 g t cs := hb.below h hb.lt
theorem Later.below {B : Nat} {w0 : World} (h : Later w w1) (hb : Below B w0 w) (hB : B ≤ w.heap.size) : Below B w0 w1 := hb.trans (Below.mono h hB)
end
end Go.Proofs.YtbnnpkcfifejmaaGreat
namespace Go.Proofs.YtbnnpkcfifejmaaGreat
open Go.RowKit
theorem kinds7 {k : Int} (h1 : 1 ≤ k) (h7 : k ≤ 7) : k = 1 ∨ k = 2 ∨ k = 3 ∨ k = 4 ∨ k = 5 ∨ k = 6 ∨ k = 7 := by omega
theorem point_line (x : Int) (w : World) (hx : Fx.In x) : Calls Tryz.prog 121 #[.int .i64 x] w fun e w' => e = .returned (.int .i64 (Ly.line x)) ∧ w = w' := by
 have Hx := Lib.hid hx
 clear hx
 go_enter Tryz.func121, Tryz.ntmps121
 go_wp2_with fail
 refine (fix_mul x 1073741824 _ Hx.out (by unfold Fx.In; omega)).mono ?_
 rintro e w1 ⟨rfl, rfl⟩
 go_wp2_with fail
 refine (fix_add (Fx.mul x 1073741824) 2147483648 _ (Fx.mul_in _ _) (by unfold Fx.In; omega)).mono ?_
 rintro e w1 ⟨rfl, rfl⟩
 go_wp2_with fail
 go_ret
 exact ⟨rfl, rfl⟩
namespace Ly
theorem cell_in {kind k x y : Int} (hx : Fx.In x) : Fx.In (cell kind k x y) := by
 unfold cell
 have o1 : Fx.In 4294967296 := by unfold Fx.In; omega
 have o2 : Fx.In (-4294967296) := by unfold Fx.In; omega
 repeat' split
 all_goals first | exact hx | exact Fx.in_zero | exact Fx.mul_in _ _ | exact Fx.add_in _ _ | exact Fx.held_in hx o2 o1 | exact Fx.held_in (Fx.add_in _ _) Fx.in_zero o1
theorem slope_in {kind k x y g : Int} (hg : Fx.In g) : Fx.In (slope kind k x y g).1 ∧ Fx.In (slope kind k x y g).2 := by
 unfold slope
 repeat' split
 all_goals refine ⟨?_, ?_⟩
 all_goals first | exact hg | exact Fx.in_zero | exact Fx.mul_in _ _
theorem cell1 (k x y : Int) : cell 1 k x y = if x < 0 then 0 else x := by unfold cell; rw [if_pos (by decide)]
theorem cell2 (k x y : Int) : cell 2 k x y = if 0 < x then x else Fx.mul x k := by unfold cell; rw [if_neg (by decide)]; rw [if_pos (by decide)]
theorem cell3 (k x y : Int) : cell 3 k x y = Fx.held x (-4294967296) 4294967296 := by unfold cell; rw [if_neg (by decide)]; rw [if_neg (by decide)]; rw [if_pos (by decide)]
theorem cell4 (k x y : Int) : cell 4 k x y = Fx.held (line x) 0 4294967296 := by unfold cell; rw [if_neg (by decide)]; rw [if_neg (by decide)]; rw [if_neg (by decide)]; rw [if_pos (by decide)]
theorem cell5 (k x y : Int) : cell 5 k x y = Fx.mul x k := by unfold cell; rw [if_neg (by decide)]; rw [if_neg (by decide)]; rw [if_neg (by decide)]; rw [if_neg (by decide)]; rw [if_pos (by decide)]
theorem cell6 (k x y : Int) : cell 6 k x y = Fx.add x y := by unfold cell; rw [if_neg (by decide)]; rw [if_neg (by decide)]; rw [if_neg (by decide)]; rw [if_neg (by decide)]; rw [if_neg (by decide)]; rw [if_pos (by decide)]
theorem cell7 (k x y : Int) : cell 7 k x y = Fx.mul x y := by unfold cell; rw [if_neg (by decide)]; rw [if_neg (by decide)]; rw [if_neg (by decide)]; rw [if_neg (by decide)]; rw [if_neg (by decide)]; rw [if_neg (by decide)]; rw [if_pos (by decide)]
theorem slope1 (k x y g : Int) : slope 1 k x y g = if 0 < x then (g, 0) else (0, 0) := by unfold slope; rw [if_pos (by decide)]
theorem slope2 (k x y g : Int) : slope 2 k x y g = if 0 < x then (g, 0) else (Fx.mul g k, 0) := by unfold slope; rw [if_neg (by decide)]; rw [if_pos (by decide)]
theorem slope3 (k x y g : Int) : slope 3 k x y g = if -4294967296 < x ∧ x < 4294967296 then (g, 0) else (0, 0) := by unfold slope; rw [if_neg (by decide)]; rw [if_neg (by decide)]; rw [if_pos (by decide)]
theorem slope4 (k x y g : Int) : slope 4 k x y g = if 0 < line x ∧ line x < 4294967296 then (Fx.mul g 1073741824, 0) else (0, 0) := by unfold slope; rw [if_neg (by decide)]; rw [if_neg (by decide)]; rw [if_neg (by decide)]; rw [if_pos (by decide)]
theorem slope5 (k x y g : Int) : slope 5 k x y g = (Fx.mul g k, 0) := by unfold slope; rw [if_neg (by decide)]; rw [if_neg (by decide)]; rw [if_neg (by decide)]; rw [if_neg (by decide)]; rw [if_pos (by decide)]
theorem slope6 (k x y g : Int) : slope 6 k x y g = (g, g) := by unfold slope; rw [if_neg (by decide)]; rw [if_neg (by decide)]; rw [if_neg (by decide)]; rw [if_neg (by decide)]; rw [if_neg (by decide)]; rw [if_pos (by decide)]
theorem slope7 (k x y g : Int) : slope 7 k x y g = (Fx.mul g y, Fx.mul g x) := by unfold slope; rw [if_neg (by decide)]; rw [if_neg (by decide)]; rw [if_neg (by decide)]; rw [if_neg (by decide)]; rw [if_neg (by decide)]; rw [if_neg (by decide)]; rw [if_pos (by decide)]
end Ly
theorem point_cell (kind k x y : Int) (w : World) (h1 : 1 ≤ kind) (h7 : kind ≤ 7) (hk : Fx.In k) (hx : Fx.In x) (hy : Fx.In y) :
  Calls Tryz.prog 144 #[.int .i64 kind, .int .i64 k, .int .i64 x, .int .i64 y] w fun e w' => e = .returned (.int .i64 (Ly.cell kind k x y)) ∧ w = w' := by
 have Hk := Lib.hid hk
 have Hx := Lib.hid hx
 have Hy := Lib.hid hy
 clear hk hx hy
 rcases kinds7 h1 h7 with rfl | rfl | rfl | rfl | rfl | rfl | rfl
 all_goals clear h1 h7
 ·by_cases h : x < 0
  ·have hm := Lib.hid (show Ly.cell 1 k x y = 0 by rw [Ly.cell1, if_pos h])
   have d1 : decide (x < 0) = true := by simpa using h
   have d2 : decide (0 < x) = false := by simp; omega
   have d3 : decide (x ≤ 0) = true := by simp; omega
   have d4 : decide (0 ≤ x) = false := by simp; omega
   go_enter Tryz.func144, Tryz.ntmps144
   go_wp2_with fail
   go_ret
   exact ⟨by (rw [hm.out] <;> simp <;> omega), rfl⟩
  ·have hm := Lib.hid (show Ly.cell 1 k x y = x by rw [Ly.cell1, if_neg h])
   have d1 : decide (x < 0) = false := by simpa using h
   have d4 : decide (0 ≤ x) = true := by simp; omega
   go_enter Tryz.func144, Tryz.ntmps144
   go_wp2_with fail
   go_ret
   exact ⟨by (rw [hm.out] <;> simp <;> omega), rfl⟩
 ·by_cases h : 0 < x
  ·have hm := Lib.hid (show x = Ly.cell 2 k x y by rw [Ly.cell2, if_pos h])
   go_enter Tryz.func144, Tryz.ntmps144
   go_wp2_with fail
   go_ret
   exact ⟨ret_int hm.out, rfl⟩
  ·have hm := Lib.hid (show Fx.mul x k = Ly.cell 2 k x y by rw [Ly.cell2, if_neg h])
   go_enter Tryz.func144, Tryz.ntmps144
   go_wp2_with fail
   refine (fix_mul x k _ Hx.out Hk.out).mono ?_
   rintro e w1 ⟨rfl, rfl⟩
   go_wp2_with fail
   go_ret
   exact ⟨ret_int hm.out, rfl⟩
 ·go_enter Tryz.func144, Tryz.ntmps144
  go_wp2_with fail
  refine (fix_neg_one _).mono ?_
  rintro e w1 ⟨rfl, rfl⟩
  go_wp2_with fail
  refine (fix_clamp _ _ _ _).mono ?_
  rintro e w1 ⟨rfl, rfl⟩
  go_wp2_with fail
  go_ret
  exact ⟨ret_int (Ly.cell3 k x y).symm, rfl⟩
 ·go_enter Tryz.func144, Tryz.ntmps144
  go_wp2_with fail
  refine (point_line x _ Hx.out).mono ?_
  rintro e w1 ⟨rfl, rfl⟩
  go_wp2_with fail
  refine (fix_clamp _ _ _ _).mono ?_
  rintro e w1 ⟨rfl, rfl⟩
  go_wp2_with fail
  go_ret
  exact ⟨ret_int (Ly.cell4 k x y).symm, rfl⟩
 ·go_enter Tryz.func144, Tryz.ntmps144
  go_wp2_with fail
  refine (fix_mul x k _ Hx.out Hk.out).mono ?_
  rintro e w1 ⟨rfl, rfl⟩
  go_wp2_with fail
  go_ret
  exact ⟨ret_int (Ly.cell5 k x y).symm, rfl⟩
 ·go_enter Tryz.func144, Tryz.ntmps144
  go_wp2_with fail
  refine (fix_add x y _ Hx.out Hy.out).mono ?_
  rintro e w1 ⟨rfl, rfl⟩
  go_wp2_with fail
  go_ret
  exact ⟨ret_int (Ly.cell6 k x y).symm, rfl⟩
 ·go_enter Tryz.func144, Tryz.ntmps144
  go_wp2_with fail
  refine (fix_mul x y _ Hx.out Hy.out).mono ?_
  rintro e w1 ⟨rfl, rfl⟩
  go_wp2_with fail
  go_ret
  exact ⟨ret_int (Ly.cell7 k x y).symm, rfl⟩
theorem ret_pair {a b a' b' : Int} (h : (a, b) = (a', b')) : Ending.returned (.tuple #[.int .i64 a, .int .i64 b]) = .returned (.tuple #[.int .i64 a', .int .i64 b']) := by injection h with h1 h2; rw [h1, h2]
theorem point_slope (kind k x y g : Int) (w : World) (h1 : 1 ≤ kind) (h7 : kind ≤ 7) (hk : Fx.In k) (hx : Fx.In x) (hy : Fx.In y) (hg : Fx.In g) :
  Calls Tryz.prog 67 #[.int .i64 kind, .int .i64 k, .int .i64 x, .int .i64 y, .int .i64 g] w fun e w' => e = .returned (.tuple #[.int .i64 (Ly.slope kind k x y g).1, .int .i64 (Ly.slope kind k x y g).2]) ∧ w = w' := by
 have Hk := Lib.hid hk
 have Hx := Lib.hid hx
 have Hy := Lib.hid hy
 have Hg := Lib.hid hg
 clear hk hx hy hg
 rcases kinds7 h1 h7 with rfl | rfl | rfl | rfl | rfl | rfl | rfl
 all_goals clear h1 h7
 ·by_cases h : 0 < x
  ·have hm := Lib.hid (show (g, 0) = Ly.slope 1 k x y g by rw [Ly.slope1, if_pos h])
   go_enter Tryz.func67, Tryz.ntmps67
   go_wp2_with fail
   go_ret2
   exact ⟨ret_pair hm.out, rfl⟩
  ·have hm := Lib.hid (show (0, 0) = Ly.slope 1 k x y g by rw [Ly.slope1, if_neg h])
   go_enter Tryz.func67, Tryz.ntmps67
   go_wp2_with fail
   go_ret2
   exact ⟨ret_pair hm.out, rfl⟩
 ·by_cases h : 0 < x
  ·have hm := Lib.hid (show (g, 0) = Ly.slope 2 k x y g by rw [Ly.slope2, if_pos h])
   go_enter Tryz.func67, Tryz.ntmps67
   go_wp2_with fail
   go_ret2
   exact ⟨ret_pair hm.out, rfl⟩
  ·have hm := Lib.hid (show (Fx.mul g k, 0) = Ly.slope 2 k x y g by rw [Ly.slope2, if_neg h])
   go_enter Tryz.func67, Tryz.ntmps67
   go_wp2_with fail
   refine (fix_mul g k _ Hg.out Hk.out).mono ?_
   rintro e w1 ⟨rfl, rfl⟩
   go_wp2_with fail
   go_ret2
   exact ⟨ret_pair hm.out, rfl⟩
 ·by_cases h : -4294967296 < x
  ·by_cases h2 : x < 4294967296
   ·have hm := Lib.hid (show (g, 0) = Ly.slope 3 k x y g by rw [Ly.slope3, if_pos ⟨h, h2⟩])
    go_enter Tryz.func67, Tryz.ntmps67
    go_wp2_with fail
    refine (fix_neg_one _).mono ?_
    rintro e w1 ⟨rfl, rfl⟩
    go_wp2_with fail
    go_ret2
    exact ⟨ret_pair hm.out, rfl⟩
   ·have hm := Lib.hid (show (0, 0) = Ly.slope 3 k x y g by rw [Ly.slope3, if_neg (fun k => h2 k.2)])
    go_enter Tryz.func67, Tryz.ntmps67
    go_wp2_with fail
    refine (fix_neg_one _).mono ?_
    rintro e w1 ⟨rfl, rfl⟩
    go_wp2_with fail
    go_ret2
    exact ⟨ret_pair hm.out, rfl⟩
  ·have hm := Lib.hid (show (0, 0) = Ly.slope 3 k x y g by rw [Ly.slope3, if_neg (fun k => h k.1)])
   go_enter Tryz.func67, Tryz.ntmps67
   go_wp2_with fail
   refine (fix_neg_one _).mono ?_
   rintro e w1 ⟨rfl, rfl⟩
   go_wp2_with fail
   go_ret2
   exact ⟨ret_pair hm.out, rfl⟩
 ·by_cases h : 0 < Ly.line x
  ·by_cases h2 : Ly.line x < 4294967296
   ·have hm := Lib.hid (show (Fx.mul g 1073741824, 0) = Ly.slope 4 k x y g by rw [Ly.slope4, if_pos ⟨h, h2⟩])
    go_enter Tryz.func67, Tryz.ntmps67
    go_wp2_with fail
    refine (point_line x _ Hx.out).mono ?_
    rintro e w1 ⟨rfl, rfl⟩
    go_wp2_with fail
    refine (fix_mul g 1073741824 _ Hg.out (by unfold Fx.In; omega)).mono ?_
    rintro e w1 ⟨rfl, rfl⟩
    go_wp2_with fail
    go_ret2
    exact ⟨ret_pair hm.out, rfl⟩
   ·have hm := Lib.hid (show (0, 0) = Ly.slope 4 k x y g by rw [Ly.slope4, if_neg (fun k => h2 k.2)])
    go_enter Tryz.func67, Tryz.ntmps67
    go_wp2_with fail
    refine (point_line x _ Hx.out).mono ?_
    rintro e w1 ⟨rfl, rfl⟩
    go_wp2_with fail
    go_ret2
    exact ⟨ret_pair hm.out, rfl⟩
  ·have hm := Lib.hid (show (0, 0) = Ly.slope 4 k x y g by rw [Ly.slope4, if_neg (fun k => h k.1)])
   go_enter Tryz.func67, Tryz.ntmps67
   go_wp2_with fail
   refine (point_line x _ Hx.out).mono ?_
   rintro e w1 ⟨rfl, rfl⟩
   go_wp2_with fail
   go_ret2
   exact ⟨ret_pair hm.out, rfl⟩
 ·go_enter Tryz.func67, Tryz.ntmps67
  go_wp2_with fail
  refine (fix_mul g k _ Hg.out Hk.out).mono ?_
  rintro e w1 ⟨rfl, rfl⟩
  go_wp2_with fail
  go_ret2
  exact ⟨ret_pair (Ly.slope5 k x y g).symm, rfl⟩
 ·go_enter Tryz.func67, Tryz.ntmps67
  go_wp2_with fail
  go_ret2
  exact ⟨ret_pair (Ly.slope6 k x y g).symm, rfl⟩
 ·go_enter Tryz.func67, Tryz.ntmps67
  go_wp2_with fail
  refine (fix_mul g y _ Hg.out Hy.out).mono ?_
  rintro e w1 ⟨rfl, rfl⟩
  go_wp2_with fail
  refine (fix_mul g x _ Hg.out Hx.out).mono ?_
  rintro e w1 ⟨rfl, rfl⟩
  go_wp2_with fail
  go_ret2
  exact ⟨ret_pair (Ly.slope7 k x y g).symm, rfl⟩
end Go.Proofs.YtbnnpkcfifejmaaGreat
namespace Go.Proofs.YtbnnpkcfifejmaaGreat
open Go.RowKit
structure TenIn (w : World) (S C : Option Addr) (c d : Nat) (t : Ten) : Prop where
 r : TenR w S C t
 s1 : t.s.length ≤ c
 s2 : c ≤ 9223372036854775807
 c1 : t.c.length ≤ d
 c2 : d ≤ 9223372036854775807
 l1 : t.s.length ≤ 1048576
 l2 : t.c.length ≤ 1048576
 num : Ly.In t
theorem TenIn.below {B : Nat} {w w' : World} {S C : Option Addr} {c d : Nat} {t : Ten} (h : TenIn w S C c d t) (hb : Below B w w') (hB : w.heap.size ≤ B) : TenIn w' S C c d t := { h with r := h.r.below hb hB }
theorem TenIn.later {w w' : World} {S C : Option Addr} {c d : Nat} {t : Ten} (h : TenIn w S C c d t) (hb : Later w w') : TenIn w' S C c d t := h.below hb (Nat.le_refl _)
theorem TenIn.cell {w : World} {S C : Option Addr} {c d : Nat} {t : Ten} (h : TenIn w S C c d t) {k : Nat} (hk : k < t.c.length) : ∃ b off, C = some ⟨b, off, none⟩ ∧ b < w.heap.size ∧ w.cell? ⟨b, off + k, none⟩ = some (.int .i64 (Ly.at_ t.c k)) := h.r.2 k hk
def Tns (w : World) (A : Option Addr) (ts : List Ten) : Prop :=
 ∀ j (hj : j < ts.length), ∃ b off S c C d, A = some ⟨b, off, none⟩ ∧ b < w.heap.size ∧ w.cell? ⟨b, off + j * 2, none⟩ = some (.slice S ts[j].s.length c) ∧ w.cell? ⟨b, off + j * 2 + 1, none⟩ = some (.slice C ts[j].c.length d) ∧ TenIn w S C c d ts[j]
theorem Tns.below {B : Nat} {w w' : World} {A : Option Addr} {ts : List Ten} (h : Tns w A ts) (hb : Below B w w') (hB : w.heap.size ≤ B) : Tns w' A ts := fun j hj => by
 obtain ⟨b, off, S, c, C, d, e, hl, c0, c1, hT⟩ := h j hj
 exact ⟨b, off, S, c, C, d, e, Nat.lt_of_lt_of_le hl hb.size, (hb.cell (p := ⟨b, off + j * 2, none⟩) (Nat.lt_of_lt_of_le hl hB)).trans c0, (hb.cell (p := ⟨b, off + j * 2 + 1, none⟩) (Nat.lt_of_lt_of_le hl hB)).trans c1, hT.below hb hB⟩
theorem Tns.later {w w' : World} {A : Option Addr} {ts : List Ten} (h : Tns w A ts) (hb : Later w w') : Tns w' A ts := h.below hb (Nat.le_refl _)
theorem got_at {l : List Ten} {k : Nat} (h : k < l.length) : Ly.got l k = l[k] := by unfold Ly.got; rw [List.getD_eq_getElem?_getD, List.getElem?_eq_getElem h]; rfl
theorem Tns.at_ {w : World} {A : Option Addr} {ts : List Ten} (h : Tns w A ts) {j : Nat} (hj : j < ts.length) :
  ∃ b off S c C d, A = some ⟨b, off, none⟩ ∧ b < w.heap.size ∧ w.cell? ⟨b, off + j * 2, none⟩ = some (.slice S (Ly.got ts j).s.length c) ∧ w.cell? ⟨b, off + j * 2 + 1, none⟩ = some (.slice C (Ly.got ts j).c.length d) ∧ TenIn w S C c d (Ly.got ts j) := by
 rw [got_at hj]
 exact h j hj
theorem Tns.first {w : World} {A : Option Addr} {ts : List Ten} (h : Tns w A ts) (hj : 0 < ts.length) :
  ∃ b off S c C d, A = some ⟨b, off, none⟩ ∧ b < w.heap.size ∧ w.cell? ⟨b, off, none⟩ = some (.slice S (Ly.got ts 0).s.length c) ∧ w.cell? ⟨b, off + 1, none⟩ = some (.slice C (Ly.got ts 0).c.length d) ∧ TenIn w S C c d (Ly.got ts 0) := by
 obtain ⟨b, off, S, c, C, d, h1, h2, h3, h4, h5⟩ := h.at_ hj
 exact ⟨b, off, S, c, C, d, h1, h2, by simpa using h3, by simpa using h4, h5⟩
def TenO (B : Nat) (w : World) (v : Value) (t : Ten) : Prop :=
 ∃ S c C d, v = .agg #[.slice S t.s.length c, .slice C t.c.length d] ∧ TenIn w S C c d t ∧ (∀ a, S = some a → B ≤ a.block) ∧ (∀ a, C = some a → B ≤ a.block ∧ a.block < w.heap.size ∧ ∀ j, w.frozen? ⟨a.block, j, none⟩ = false)
theorem TenO.later {B : Nat} {w w' : World} {v : Value} {t : Ten} (h : TenO B w v t) (hb : Later w w') : TenO B w' v t := by
 obtain ⟨S, c, C, d, h1, h2, h3, h4⟩ := h
 refine ⟨S, c, C, d, h1, h2.later hb, h3, fun a e => ?_⟩
 obtain ⟨k1, k2, k3⟩ := h4 a e
 exact ⟨k1, Nat.lt_of_lt_of_le k2 hb.size, fun j => (Below.frozen hb (p := ⟨a.block, j, none⟩) k2).trans (k3 j)⟩
theorem TenO.base {B B' : Nat} {w : World} {v : Value} {t : Ten} (h : TenO B w v t) (hB : B' ≤ B) : TenO B' w v t := by
 obtain ⟨S, c, C, d, h1, h2, h3, h4⟩ := h
 exact ⟨S, c, C, d, h1, h2, fun a e => Nat.le_trans hB (h3 a e), fun a e => ⟨Nat.le_trans hB (h4 a e).1, (h4 a e).2⟩⟩
theorem TenN.o {B : Nat} {w : World} {v : Value} {t : Ten} (h : TenN B w v t) (h1 : t.s.length ≤ 1048576) (h2 : t.c.length ≤ 1048576) (hn : Ly.In t) : TenO B w v t := by
 obtain ⟨g, i, rfl, hg, hi, kg, ki⟩ := h
 refine ⟨_, _, _, _, rfl, ⟨⟨kg.ints, ki.ints⟩, Nat.le_refl _, by omega, Nat.le_refl _, by omega, h1, h2, hn⟩, fun a e => ?_, fun a e => ?_⟩
 ·injection e with e; subst e; exact hg
 ·injection e with e; subst e; exact ⟨hi, ki.lt, fun j => ki.frozen j⟩
theorem Blk.intsL {w : World} {g : Nat} {t : TypeId} (l : List Int) (h : Blk w g t (l.map (Value.int .i64)).toArray) : Ints .i64 w (some ⟨g, 0, none⟩) l := Ints.of_row fun j hj => by
 rw [Nat.zero_add, h.cell]
 simp [hj]
theorem cell_setfar {w : World} {p q : Addr} {u v : Value} (h : w.cell? q = some v) (hne : q.block ≠ p.block) : (w.setCell p u).cell? q = some v := (World.cell?_of_block (Below.heap_setCell w p u q.block hne)).trans h
theorem far_block {w : World} {p b : Nat} (hne : b ≠ p) (u u2 : Value) : ((w.setCell ⟨p, 0, none⟩ u).setCell ⟨p, 1, none⟩ u2).heap[b]? = w.heap[b]? :=
 (Below.heap_setCell _ ⟨p, 1, none⟩ u2 b hne).trans (Below.heap_setCell w ⟨p, 0, none⟩ u b hne)
theorem Ints.box {w : World} {A : Option Addr} {zs : List Int} {p : Nat} {T : TypeId} (h : Ints .i64 w A zs) (hz : Blk w p T #[.slice none 0 0, .slice none 0 0]) (u u2 : Value) : Ints .i64 ((w.setCell ⟨p, 0, none⟩ u).setCell ⟨p, 1, none⟩ u2) A zs := fun j hj => by
 obtain ⟨b, off, e, hl, hc⟩ := h j hj
 have hne : b ≠ p := by
  rintro rfl
  rw [hz.cell] at hc
  match h : off + j with
  | 0 => rw [h] at hc; simp at hc
  | 1 => rw [h] at hc; simp at hc
  | n + 2 => rw [h] at hc; simp at hc
 exact ⟨b, off, e, by simpa using hl, (World.cell?_of_block (far_block hne u u2)).trans hc⟩
theorem TenO.box {B : Nat} {w : World} {v u u2 : Value} {t : Ten} {p : Nat} {T : TypeId} (h : TenO B w v t) (hz : Blk w p T #[.slice none 0 0, .slice none 0 0]) : TenO B ((w.setCell ⟨p, 0, none⟩ u).setCell ⟨p, 1, none⟩ u2) v t := by
 obtain ⟨S, c, C, d, h1, h2, h3, h4⟩ := h
 refine ⟨S, c, C, d, h1, { h2 with r := ⟨h2.r.1.box hz u u2, h2.r.2.box hz u u2⟩ }, h3, fun a e => ?_⟩
 obtain ⟨k1, k2, k3⟩ := h4 a e
 exact ⟨k1, by simpa using k2, fun j => by rw [World.frozen?_setCell, World.frozen?_setCell]; exact k3 j⟩
def GoP (r : Ten × Int) (w : World) (e : Ending) (w' : World) : Prop :=
 (r.2 ≠ 0 ∧ e = .returned (.tuple #[.agg #[.slice none 0 0, .slice none 0 0], .int .i64 r.2]) ∨ r.2 = 0 ∧ ∃ v, e = .returned (.tuple #[v, .int .i64 0]) ∧ TenO w.heap.size w' v r.1) ∧ Below w.heap.size w w'
theorem GoP.fail {n : Int} {r : Ten × Int} {w w' : World} (hr : r = (Ly.none_, n)) (hn : n ≠ 0) (hb : Below w.heap.size w w') : GoP r w (.returned (.tuple #[.agg #[.slice none 0 0, .slice none 0 0], .int .i64 n])) w' := by
 subst hr; exact ⟨.inl ⟨hn, rfl⟩, hb⟩
theorem GoP.fail2 {n : Int} {r : Ten × Int} {w w' : World} (hr : r.2 = n) (hn : n ≠ 0) (hb : Below w.heap.size w w') : GoP r w (.returned (.tuple #[.agg #[.slice none 0 0, .slice none 0 0], .int .i64 n])) w' := by
 subst hr; exact ⟨.inl ⟨hn, rfl⟩, hb⟩
theorem GoP.ok {t : Ten} {r : Ten × Int} {v : Value} {w w' : World} (hr : r = (t, 0)) (hv : TenO w.heap.size w' v t) (hb : Below w.heap.size w w') : GoP r w (.returned (.tuple #[v, .int .i64 0])) w' := by
 subst hr; exact ⟨.inr ⟨rfl, v, rfl, hv⟩, hb⟩
theorem GoP.from_ {r : Ten × Int} {w w1 w' : World} {e : Ending} (h : GoP r w1 e w') (hb : Below w.heap.size w w1) : GoP r w e w' := by
 refine ⟨?_, hb.trans (h.2.mono hb.size)⟩
 rcases h.1 with h1 | ⟨h1, v, h2, h3⟩
 ·exact .inl h1
 ·exact .inr ⟨h1, v, h2, h3.base hb.size⟩
namespace Ly
theorem tab_len (n : Nat) (f : Nat → Int) : (tab n f).length = n := by simp [tab]
theorem tab_get {n : Nat} {f : Nat → Int} {k : Nat} (hk : k < (tab n f).length) : (tab n f)[k] = f k := by simp [tab]
theorem tab_in {n : Nat} {f : Nat → Int} (h : ∀ i, i < n → Fx.In (f i)) : ∀ z ∈ tab n f, Fx.In z := fun z hz => by
 unfold tab at hz
 obtain ⟨i, hi, rfl⟩ := List.mem_map.1 hz
 exact h i (List.mem_range.1 hi)
theorem at_in {l : List Int} (h : ∀ z ∈ l, Fx.In z) (i : Nat) : Fx.In (at_ l i) := by
 unfold at_
 rw [List.getD_eq_getElem?_getD]
 rcases Nat.lt_or_ge i l.length with hi | hi
 ·rw [List.getElem?_eq_getElem hi]; exact h _ (List.getElem_mem hi)
 ·rw [List.getElem?_eq_none hi]; exact Fx.in_zero
theorem at_get {l : List Int} {i : Nat} (hi : i < l.length) : at_ l i = l[i] := by unfold at_; rw [List.getD_eq_getElem?_getD, List.getElem?_eq_getElem hi]; rfl
theorem got_in {l : List Ten} (h : ∀ t ∈ l, In t) (i : Nat) : In (got l i) := by
 unfold got
 rw [List.getD_eq_getElem?_getD]
 rcases Nat.lt_or_ge i l.length with hi | hi
 ·rw [List.getElem?_eq_getElem hi]; exact h _ (List.getElem_mem hi)
 ·rw [List.getElem?_eq_none hi]; intro z hz; simp [none_] at hz
theorem mid_step (C L : List Int) {k : Nat} (hk : k < C.length) (hn : C.length = L.length) : (C.take k ++ L.drop k).set k C[k] = C.take (k + 1) ++ L.drop (k + 1) := by
 have h1 : (C.take k).length = k := by simp; omega
 rw [List.set_append_right _ _ (by omega), h1, Nat.sub_self, List.drop_eq_getElem_cons (by omega), List.set_cons_zero, List.take_succ_eq_append_getElem hk, List.append_assoc]
 rfl
theorem mid_len (C L : List Int) (k : Nat) (hk : k ≤ C.length) (hn : C.length = L.length) : (C.take k ++ L.drop k).length = C.length := by simp; omega
theorem mid_end (C L : List Int) (k : Nat) (hk : k = C.length) (hn : C.length = L.length) : C.take k ++ L.drop k = C := by subst hk; rw [List.take_length, hn, List.drop_length, List.append_nil]
end Ly
theorem Tns.in_ {w : World} {A : Option Addr} {ts : List Ten} (h : Tns w A ts) : ∀ t ∈ ts, Ly.In t := fun t ht => by
 obtain ⟨j, hj, rfl⟩ := List.getElem_of_mem ht
 obtain ⟨b, off, S, c, C, d, h1, h2, h3, h4, h5⟩ := h j hj
 exact h5.num
end Go.Proofs.YtbnnpkcfifejmaaGreat
namespace Go.Proofs.YtbnnpkcfifejmaaGreat
open Go.RowKit
theorem own_form {w : World} {B e s n : Nat} {v : Value} {xs : List Value} (h : w.ownsRow B e s v n xs) : ∃ A c, v = .slice A n c := by
 rcases h.2 with ⟨rfl, h0⟩ | ⟨g, cap, cur, rfl, _⟩
 ·exact ⟨none, 0, by rw [h0]⟩
 ·exact ⟨_, cap, rfl⟩
theorem own_ints {w : World} {B e n c : Nat} {A : Option Addr} {zs : List Int} (h : w.ownsRow B e 1 (.slice A zs.length c) n (zs.map (Value.int .i64))) : Ints .i64 w A zs ∧ zs.length ≤ c ∧ c ≤ 9223372036854775807 := by
 obtain ⟨A1, c1, e1, rfl, hI⟩ := Ints.of_own h
 injection e1 with e1 _ e2
 subst e1 e2
 refine ⟨hI, ?_⟩
 rcases h.2 with ⟨h1, h0⟩ | ⟨g, cap, cur, h1, _, _, h3, h4, _⟩
 ·injection h1 with _ _ h1; omega
 ·injection h1 with _ _ h1; unfold maxLen at h4; omega
theorem ownsRow_new {w : World} {B e s n : Nat} {v : Value} {xs : List Value} (h : w.ownsRow B e s v n xs) (o : Obj) : (w.alloc o).ownsRow B e s v n xs := ownsRow_heap h fun g hg => Below.heap_alloc w o g (h.lt g hg).2
theorem ownsRow_grown {w w' : World} {B e s n : Nat} {v : Value} {xs : List Value} {row : Option Nat} (h : w.ownsRow B e s v n xs) (hg : w.grownBy w' row) (hr : ∀ b, v.ownBlock = some b → row ≠ some b) : w'.ownsRow B e s v n xs := ownsRow_heap h fun g k => hg.block g (h.lt g k).2 fun e => hr g k e.symm
theorem ownsRow_fr {w w' : World} {B e s n : Nat} {v : Value} {xs : List Value} {S : Nat → Prop} (h : w.ownsRow B e s v n xs) (hg : Fr S w w') (hr : ∀ b, v.ownBlock = some b → ¬ S b) : w'.ownsRow B e s v n xs := ownsRow_heap h fun g k => hg.2 g (h.lt g k).2 (hr g k)
theorem right_short {s : List Int} (h : Sh.right s = true) : 0 < s.length ∧ s.length ≤ 4 := by
 obtain ⟨_, a, b, _⟩ := Sh.right_mul h
 exact ⟨by omega, a⟩
end Go.Proofs.YtbnnpkcfifejmaaGreat
namespace Go.Proofs.YtbnnpkcfifejmaaGreat
open Go.RowKit
theorem append_nil_run {P : Program} (w : World) (t ty e : TypeId) (i : TypeInfo) (ht : P.underlying t = some (.slice e)) (hi : P.info? e = some i) (g n cap c : Nat) (hn : n ≤ cap) :
  (Builtin.append_ #[t, t] ty #[.slice (some ⟨g, 0, none⟩) n cap, .slice none 0 c]).run P w = .ok (.slice (some ⟨g, 0, none⟩) n cap) w := by
 simp [Builtin.append_, run_underlying ht, sizeOf, typeInfo, hi, Builtin.lenOf, Builtin.firstCells, loadCells, storeCells, hn]
def RowT (w : World) (vs : List Value) (ts : List Ten) : Prop :=
 vs.length = ts.length * 2 ∧ ∀ j (hj : j < ts.length), ∃ S c C d, vs[j * 2]? = some (.slice S ts[j].s.length c) ∧ vs[j * 2 + 1]? = some (.slice C ts[j].c.length d) ∧ TenIn w S C c d ts[j]
theorem RowT.nil (w : World) : RowT w [] [] := ⟨rfl, fun j hj => absurd hj (by simp)⟩
theorem RowT.one {w : World} {S C : Option Addr} {c d : Nat} {t : Ten} (h : TenIn w S C c d t) : RowT w [.slice S t.s.length c, .slice C t.c.length d] [t] := by
 refine ⟨rfl, fun j hj => ?_⟩
 obtain rfl : j = 0 := by simp at hj; omega
 exact ⟨S, c, C, d, rfl, rfl, h⟩
theorem RowT.below {w w' : World} {vs : List Value} {ts : List Ten} {B : Nat} (h : RowT w vs ts) (hb : Below B w w') (hB : w.heap.size ≤ B) : RowT w' vs ts :=
 ⟨h.1, fun j hj => by obtain ⟨S, c, C, d, e1, e2, e3⟩ := h.2 j hj; exact ⟨S, c, C, d, e1, e2, e3.below hb hB⟩⟩
theorem RowT.append {w : World} {vs us : List Value} {p x : List Ten} (h : RowT w vs p) (k : RowT w us x) : RowT w (vs ++ us) (p ++ x) := by
 have hl := h.1
 refine ⟨by simp [h.1, k.1, Nat.add_mul], fun j hj => ?_⟩
 by_cases e : j < p.length
 ·obtain ⟨S, c, C, d, e1, e2, e3⟩ := h.2 j e
  refine ⟨S, c, C, d, ?_, ?_, ?_⟩
  ·rw [List.getElem?_append_left (by omega), e1]; simp [e]
  ·rw [List.getElem?_append_left (by omega), e2]; simp [e]
  ·simpa [e] using e3
 ·have hj2 : j - p.length < x.length := by simp at hj; omega
  obtain ⟨S, c, C, d, e1, e2, e3⟩ := k.2 (j - p.length) hj2
  refine ⟨S, c, C, d, ?_, ?_, ?_⟩
  ·rw [List.getElem?_append_right (by omega), show j * 2 - vs.length = (j - p.length) * 2 by omega, e1, List.getElem_append_right (by omega)]
  ·rw [List.getElem?_append_right (by omega), show j * 2 + 1 - vs.length = (j - p.length) * 2 + 1 by omega, e2, List.getElem_append_right (by omega)]
  ·rw [List.getElem_append_right (by omega)]; exact e3
theorem RowT.cell {w : World} {vs : List Value} {ts : List Ten} (h : RowT w vs ts) : ∀ u ∈ vs, ∃ A n c, u = .slice A n c := fun u hu => by
 obtain ⟨k, hk, rfl⟩ := List.getElem_of_mem hu
 have hl := h.1
 obtain ⟨S, c, C, d, e1, e2, -⟩ := h.2 (k / 2) (by omega)
 rcases Nat.mod_two_eq_zero_or_one k with e | e
 ·have hk2 : k / 2 * 2 = k := by omega
  rw [hk2, List.getElem?_eq_getElem hk] at e1
  injection e1 with e1
  exact ⟨_, _, _, e1⟩
 ·have hk2 : k / 2 * 2 + 1 = k := by omega
  rw [hk2, List.getElem?_eq_getElem hk] at e2
  injection e2 with e2
  exact ⟨_, _, _, e2⟩
theorem RowT.slices {w : World} {vs : List Value} {ts : List Ten} (h : RowT w vs ts) : ∀ u ∈ vs, u.oneCell' = true := fun u hu => by
 obtain ⟨A, n, c, rfl⟩ := h.cell u hu
 rfl
def rowCells (w : World) (ad : Addr) (n : Nat) : List Value := (List.range n).map fun j => (w.cell? (ad.add j)).getD undef
theorem rowCells_at {w : World} {ad : Addr} {n j : Nat} (hj : j < n) : (rowCells w ad n)[j]? = some ((w.cell? (ad.add j)).getD undef) := by simp [rowCells, hj]
theorem addr_add (b off k : Nat) : (⟨b, off, none⟩ : Addr).add k = ⟨b, off + k, none⟩ := by simp [Addr.add]
theorem Tns.rowT {w : World} {ad : Addr} {ts : List Ten} (h : Tns w (some ad) ts) : RowT w (rowCells w ad (ts.length * 2)) ts ∧ ∀ j u, (rowCells w ad (ts.length * 2))[j]? = some u → w.cell? (ad.add j) = some u := by
 refine ⟨⟨by simp [rowCells], fun j hj => ?_⟩, fun j u hu => ?_⟩
 ·obtain ⟨b, off, S, c, C, d, e, hl, c0, c1, hT⟩ := h j hj
  injection e with e
  subst e
  refine ⟨S, c, C, d, ?_, ?_, hT⟩
  ·rw [rowCells_at (by omega), addr_add, c0]; rfl
  ·rw [rowCells_at (by omega), addr_add, ← Nat.add_assoc, c1]; rfl
 ·have hj : j < ts.length * 2 := by
   rcases Nat.lt_or_ge j (ts.length * 2) with hk | hk
   ·exact hk
   ·rw [List.getElem?_eq_none (by simpa [rowCells] using hk)] at hu; cases hu
  rw [rowCells_at hj] at hu
  obtain ⟨b, off, S, c, C, d, e, hl, c0, c1, hT⟩ := h (j / 2) (by omega)
  injection e with e
  subst e
  rw [addr_add] at hu ⊢
  rcases Nat.mod_two_eq_zero_or_one j with e | e
  ·rw [show j / 2 * 2 = j by omega] at c0
   rw [c0] at hu ⊢
   exact hu
  ·rw [Nat.add_assoc, show j / 2 * 2 + 1 = j by omega] at c1
   rw [c1] at hu ⊢
   exact hu
theorem Tns.nil_of {w : World} {ts : List Ten} (h : Tns w none ts) : ts = [] := by
 rcases ts with _ | ⟨t, r⟩
 ·rfl
 ·obtain ⟨_, _, _, _, _, _, e, _⟩ := h 0 (by simp)
  cases e
theorem Tns.nil (w : World) (A : Option Addr) : Tns w A [] := fun j hj => absurd hj (by simp)
theorem RowT.tns {w w' : World} {vs : List Value} {ts : List Ten} {B n : Nat} {t : TypeId} {v : Value} (h : RowT w vs ts) (hown : w'.ownsRow B t 2 v n vs) (hb : Below w.heap.size w w') :
  ∃ A c, v = .slice A ts.length c ∧ n = ts.length ∧ Tns w' A ts ∧ ts.length ≤ c ∧ c ≤ 9223372036854775807 := by
 have hn : n = ts.length := by have := hown.1; have := h.1; omega
 subst hn
 rcases hown.2 with ⟨rfl, h0⟩ | ⟨g, cap, cur, rfl, hB, hh, r1, r2, r3, r4⟩
 ·have : ts = [] := List.eq_nil_of_length_eq_zero h0
  subst this
  exact ⟨none, 0, rfl, rfl, Tns.nil _ _, by simp, by omega⟩
 ·refine ⟨_, cap, rfl, rfl, fun j hj => ?_, r1, by unfold maxLen at r2; omega⟩
  obtain ⟨S, c, C, d, e1, e2, e3⟩ := h.2 j hj
  refine ⟨g, 0, S, c, C, d, rfl, lt_of_block hh, ?_, ?_, e3.below hb (Nat.le_refl _)⟩
  ·rw [Nat.zero_add, hown.cellAt (j * 2) (by omega)]
   exact e1
  ·rw [Nat.zero_add, hown.cellAt (j * 2 + 1) (by omega)]
   exact e2
theorem wp_append_tens {P : Program} {o : Oper} {a : Act} {K : Act → World → Prop} {Q : Exit → Act → World → Prop} {w : World} (s x : Operand) (t : TypeId)
  (ho : o.op = .call { callee := .builtin .append, args := #[s, x], argTypes := #[t, t] })
  (base : Nat) (e : TypeId) (i : TypeInfo) (ht : P.underlying t = some (.slice e)) (hi : P.info? e = some i) (hz : i.zero = some (.agg #[.slice none 0 0, .slice none 0 0])) (hsize : i.size = 2) (hby : i.bytes = 48)
  (g n cap : Nat) (xs : List Value) (ys : List Ten) (hs : a.eval s = .slice (some ⟨g, 0, none⟩) n cap) (hown : w.ownsRow base e 2 (.slice (some ⟨g, 0, none⟩) n cap) n xs)
  (w0 : World) (hrow : RowT w0 xs ys) (X : Option Addr) (f : Nat) (l : List Ten) (hx : a.eval x = .slice X l.length f) (hX : Tns w0 X l) (hb : Below w0.heap.size w0 w) (hB : w0.heap.size ≤ base) (hbase : base ≤ w.heap.size) (hn : n + l.length ≤ 1000000000)
  (h : ∀ g' cap' w' xs', w'.ownsRow base e 2 (.slice (some ⟨g', 0, none⟩) (n + l.length) cap') (n + l.length) xs' → RowT w0 xs' (ys ++ l) → Below w0.heap.size w0 w' → Below base w w' → K (a.put o.dst (.slice (some ⟨g', 0, none⟩) (n + l.length) cap')) w') :
  Oper.wp P o a w K Q := by
 rcases X with _ | ad
 ·obtain rfl := hX.nil_of
  have hcap : n ≤ cap := by
   rcases hown.2 with ⟨e1, h0⟩ | ⟨_, _, _, e1, _, _, h3, _⟩
   ·cases e1
   ·injection e1 with _ _ e1; omega
  unfold Oper.wp execOp
  simp only [ho, resolve, invoke, builtin, Sem.run_bind, Sem.run_pure, Result.andThen_ok, List.map_toArray, List.map_cons, List.map_nil, hs, hx, List.length_nil, append_nil_run w t o.type e i ht hi g n cap f hcap]
  exact h g cap w xs hown (by simpa using hrow) hb (Below.refl _ _)
 ·obtain ⟨hr, hc⟩ := hX.rowT
  obtain ⟨v', w', hrun, hown', hgrow, hnil, hat⟩ := run_append_own_at (P := P) w base t o.type e i (.agg #[.slice none 0 0, .slice none 0 0]) 2 48 ht hi hz hsize hby rfl (by decide) (.slice (some ⟨g, 0, none⟩) n cap) n xs hown ad l.length f (rowCells w0 ad (l.length * 2)) hr.1
   (fun j u hu => by
    have := hc j u hu
    exact (hb.cell (World.block_lt_of_cell? _ _ this)).trans this) hr.slices (by unfold maxLen; omega) (by omega) hbase
  rcases hown'.2 with ⟨e1, _⟩ | ⟨g', cap', cur, rfl, _⟩
  ·have := hnil.1 e1
   cases this.1
  ·unfold Oper.wp execOp
   simp only [ho, resolve, invoke, builtin, Sem.run_bind, Sem.run_pure, Result.andThen_ok, List.map_toArray, List.map_cons, List.map_nil, hs, hx, hrun]
   refine h g' cap' w' _ hown' (hrow.append hr) (hb.grown hgrow hb.size fun b hb2 => ?_) ((Below.refl base w).grown hgrow hbase fun b hb2 => (hown.lt b hb2).1)
   have := (hown.lt b hb2).1
   omega
theorem step_append_tens {P : Program} {ops : Array Oper} {o : Oper} {a : Act} {K : Act → World → Prop} {Q : Exit → Act → World → Prop} {E : Prop} {w : World} (hgd : o.guard = none) (s x : Operand) (t : TypeId)
  (ho : o.op = .call { callee := .builtin .append, args := #[s, x], argTypes := #[t, t] })
  (base : Nat) (e : TypeId) (i : TypeInfo) (ht : P.underlying t = some (.slice e)) (hi : P.info? e = some i) (hz : i.zero = some (.agg #[.slice none 0 0, .slice none 0 0])) (hsize : i.size = 2) (hby : i.bytes = 48)
  (g n cap : Nat) (xs : List Value) (ys : List Ten) (hs : a.eval s = .slice (some ⟨g, 0, none⟩) n cap) (hown : w.ownsRow base e 2 (.slice (some ⟨g, 0, none⟩) n cap) n xs)
  (w0 : World) (hrow : RowT w0 xs ys) (X : Option Addr) (f : Nat) (l : List Ten) (hx : a.eval x = .slice X l.length f) (hX : Tns w0 X l) (hb : Below w0.heap.size w0 w) (hB : w0.heap.size ≤ base) (hbase : base ≤ w.heap.size) (hn : n + l.length ≤ 1000000000)
  (h : ∀ g' cap' w' xs', w'.ownsRow base e 2 (.slice (some ⟨g', 0, none⟩) (n + l.length) cap') (n + l.length) xs' → RowT w0 xs' (ys ++ l) → Below w0.heap.size w0 w' → Below base w w' → K (a.put o.dst (.slice (some ⟨g', 0, none⟩) (n + l.length) cap')) w') :
  if Region.wanted o (yielded ops a.tmps) = true then Oper.wp P o a w K Q else E := by
 have hw : Region.wanted o (yielded ops a.tmps) = true := by simp [Region.wanted, hgd]
 rw [if_pos hw]
 exact wp_append_tens s x t ho base e i ht hi hz hsize hby g n cap xs ys hs hown w0 hrow X f l hx hX hb hB hbase hn h
end Go.Proofs.YtbnnpkcfifejmaaGreat
namespace Go.Proofs.YtbnnpkcfifejmaaGreat
open Go.RowKit
namespace Ly
theorem counts_ok {o : OpD} {p x : Int} (h : Od.counts o p x = 0) : Od.right o = true ∧ Od.least o ≤ x ∧ x ≤ Od.most o ∧ p = Od.params o := by
 unfold Od.counts at h
 cases hr : Od.right o
 ·simp [hr] at h
 ·rw [hr] at h
  simp only [if_true] at h
  split at h
  ·simp at h
  ·rename_i hc; simp only [not_or] at hc; exact ⟨rfl, by omega, by omega, by omega⟩
theorem right_s {t : Ten} (h : Tn.right t = true) : Sh.right t.s = true ∧ (t.c.length : Int) = Safe.prod t.s := by simpa [Tn.right] using h
theorem shape_of {o : OpD} {p x : List Ten} (hc : Od.counts o p.length x.length = 0) (hp : ∀ t ∈ p, Sh.right t.s = true) (hx : ∀ t ∈ x, Sh.right t.s = true) :
  Od.shape o (p.map Ten.s) (x.map Ten.s) = Od.byKind o (p.map Ten.s) (x.map Ten.s) := by
 unfold Od.shape
 rw [List.length_map, List.length_map, if_neg (by simp [hc]), if_pos]
 simp only [Bool.and_eq_true, List.all_eq_true, List.mem_map]
 exact ⟨by rintro s ⟨t, ht, rfl⟩; exact hp t ht, by rintro s ⟨t, ht, rfl⟩; exact hx t ht⟩
theorem joined_map {sd : Int} : ∀ {r : List Ten} {s : List Int}, (joinedS sd s r).2 = 0 → Od.joinAll sd s (r.map Ten.s) = joinedS sd s r ∧ ∀ t ∈ r, Sh.right t.s = true
 | [], _, _ => ⟨rfl, by simp⟩
 | t :: r, s, h => by
  simp only [joinedS, List.map_cons, Od.joinAll] at h ⊢
  split at h
  ·rename_i ht
   rw [if_pos ht]
   split at h
   ·rename_i hj
    rw [if_pos hj, if_pos hj]
    obtain ⟨h1, h2⟩ := joined_map h
    refine ⟨h1, fun u hu => ?_⟩
    rcases List.mem_cons.1 hu with rfl | hu
    ·exact (right_s ht).1
    ·exact h2 u hu
   ·rename_i hj; exact absurd h hj
  ·simp at h
theorem joined_shape {sd : Int} {x : List Ten} (h : (joined sd x).2 = 0) : Od.joined sd (x.map Ten.s) = joined sd x ∧ ∀ t ∈ x, Sh.right t.s = true := by
 cases x with
 | nil => simp [joined] at h
 | cons t r =>
  simp only [joined] at h ⊢
  split at h
  ·rename_i ht
   rw [if_pos ht]
   split at h
   ·simp at h
   ·rename_i hc
    rw [if_neg hc]
    obtain ⟨h1, h2⟩ := joined_map h
    refine ⟨?_, fun u hu => ?_⟩
    ·unfold Od.joined
     rw [if_neg]
     ·exact h1
     ·rintro ⟨hl, hi⟩
      refine hc ⟨by simpa using hl, ?_⟩
      simp [Od.inR] at hi
      omega
    ·rcases List.mem_cons.1 hu with rfl | hu
     ·exact (right_s ht).1
     ·exact h2 u hu
  ·simp at h
theorem one_of {l : List Ten} (h : l.length = 1) : ∃ a, l = [a] := List.length_eq_one_iff.1 h
theorem two_of {l : List Ten} (h : l.length = 2) : ∃ a b, l = [a, b] := by
 match l, h with
 | [a, b], _ => exact ⟨a, b, rfl⟩
theorem none_of {l : List Ten} (h : l.length = 0) : l = [] := List.length_eq_zero_iff.1 h
set_option maxHeartbeats 4000000 in
theorem lay_shape {o : OpD} {p x : List Ten} (hc : Od.counts o p.length x.length = 0) (h : (lay o p x).2 = 0) : Od.shape o (p.map Ten.s) (x.map Ten.s) = ((lay o p x).1.s, 0) := by
 obtain ⟨hr, h1, h2, h3⟩ := counts_ok hc
 have hk := Od.right_kind hr
 unfold Od.least Od.most at *
 unfold Od.params at h3
 rw [if_pos hr] at h1 h2 h3
 have hcases : o.kind ≤ 7 ∨ o.kind = 8 ∨ o.kind = 9 ∨ o.kind = 10 ∨ o.kind = 11 ∨ o.kind = 12 ∨ o.kind = 13 ∨ o.kind = 14 ∨ o.kind = 15 := by omega
 rcases hcases with hk1 | hk1 | hk1 | hk1 | hk1 | hk1 | hk1 | hk1 | hk1
 ·have e : lay o p x = point o.kind o.k x := by unfold lay; rw [if_neg (by omega), if_neg (by omega), if_neg (by omega), if_neg (by omega), if_neg (by omega), if_neg (by omega), if_neg (by omega), if_neg (by omega)]
  have hp0 : p = [] := none_of (by rw [if_neg (by omega), if_neg (by omega)] at h3; omega)
  rw [e] at h ⊢
  unfold point at h ⊢
  split at h
  ·rename_i ha
   rw [if_pos ha]
   unfold ptAgree at ha
   split at ha
   ·simp at ha
   ·split at ha
    ·simp at ha
    ·split at ha
     ·rename_i hall
      simp only [List.all_eq_true, Bool.and_eq_true, decide_eq_true_eq] at hall
      rw [shape_of hc (by rw [hp0]; simp) (fun t ht => (right_s (hall t ht).1).1)]
      unfold Od.byKind
      rw [if_neg (by omega), if_neg (by omega), if_neg (by omega), if_neg (by omega), if_neg (by omega), if_neg (by omega), if_neg (by omega)]
      have hx1 : 0 < x.length := by
       rcases Nat.eq_zero_or_pos x.length with h0 | h0
       ·rename_i hn0 hn1; simp [h0] at hn1; omega
       ·exact h0
      have e0 : (x.map Ten.s).getD 0 [] = (got x 0).s := by
       cases x with
       | nil => simp at hx1
       | cons a r => rfl
      unfold Od.same
      rw [e0, if_pos]
      simp only [List.all_eq_true, List.mem_map, decide_eq_true_eq]
      rintro s ⟨t, ht, rfl⟩
      exact (hall t ht).2
     ·simp at ha
  ·rename_i ha; exact absurd h ha
 ·obtain ⟨a, b, rfl⟩ := two_of (l := p) (by simp [hk1] at h3; omega)
  obtain ⟨t, rfl⟩ := one_of (l := x) (by simp [hk1] at h1 h2; omega)
  have e : lay o [a, b] [t] = dense a b t := by unfold lay; rw [if_pos hk1]; rfl
  rw [e] at h ⊢
  unfold dense at h ⊢
  split at h
  ·rename_i ha
   rw [if_pos ha]
   simp only [denseOk, Bool.and_eq_true, decide_eq_true_eq] at ha
   obtain ⟨⟨⟨⟨⟨a1, a2⟩, a3⟩, a4⟩, a5⟩, a6⟩ := ha
   rw [shape_of hc (by simp [(right_s a1).1, (right_s a3).1]) (by simp [(right_s a4).1])]
   have h6 := (right_s a4).2
   have h7 := (right_s a4).1
   unfold Od.byKind Od.dense
   rw [if_pos hk1]
   simp only [List.map_cons, List.map_nil, List.getD_cons_zero, List.getD_cons_succ]
   rw [if_pos ⟨a2, by rw [a5]; rfl, by rw [a5]; rfl, h7, by rw [← h6, a6]; rfl⟩, a5]
   rfl
  ·simp at h
 ·obtain ⟨b, rfl⟩ := one_of (l := p) (by simp [hk1] at h3; omega)
  obtain ⟨t, rfl⟩ := one_of (l := x) (by simp [hk1] at h1 h2; omega)
  have e : lay o [b] [t] = add t b := by unfold lay; rw [if_neg (by omega), if_pos hk1]; rfl
  rw [e] at h ⊢
  unfold add at h ⊢
  split at h
  ·rename_i ha
   rw [if_pos ha]
   simp only [alike, Bool.and_eq_true, decide_eq_true_eq] at ha
   obtain ⟨⟨a1, a2⟩, a3⟩ := ha
   rw [shape_of hc (by simp [(right_s a2).1]) (by simp [(right_s a1).1])]
   unfold Od.byKind Od.same
   rw [if_neg (by omega), if_pos hk1]
   simp [a3]
  ·simp at h
 ·obtain ⟨b, rfl⟩ := one_of (l := p) (by simp [hk1] at h3; omega)
  obtain ⟨t, rfl⟩ := one_of (l := x) (by simp [hk1] at h1 h2; omega)
  have e : lay o [b] [t] = conv b t o.step := by unfold lay; rw [if_neg (by omega), if_neg (by omega), if_pos hk1]; rfl
  rw [e] at h ⊢
  unfold conv at h ⊢
  split at h
  ·rename_i ha
   rw [if_pos ha]
   unfold convErr at ha
   split at ha
   ·rename_i hrr
    simp only [Bool.and_eq_true] at hrr
    rw [shape_of hc (by simp [(right_s hrr.1).1]) (by simp [(right_s hrr.2).1])]
    unfold Od.byKind
    rw [if_neg (by omega), if_neg (by omega), if_pos hk1]
    simp only [List.map_cons, List.map_nil, List.getD_cons_zero]
    exact Prod.ext rfl ha
   ·simp at ha
  ·rename_i ha; exact absurd h ha
 ·obtain rfl := none_of (l := p) (by rw [if_neg (by omega), if_neg (by omega)] at h3; omega)
  obtain ⟨t, rfl⟩ := one_of (l := x) (by simp [hk1] at h1 h2; omega)
  have e : lay o [] [t] = pool true t o.width o.step := by unfold lay; rw [if_neg (by omega), if_neg (by omega), if_neg (by omega), if_pos hk1]; rfl
  rw [e] at h ⊢
  unfold pool at h ⊢
  split at h
  ·rename_i ha
   rw [if_pos ha]
   unfold poolErr at ha
   split at ha
   ·rename_i hrr
    rw [shape_of hc (by simp) (by simp [(right_s hrr).1])]
    unfold Od.byKind
    rw [if_neg (by omega), if_neg (by omega), if_neg (by omega), if_pos (by omega)]
    simp only [List.map_cons, List.map_nil, List.getD_cons_zero]
    exact Prod.ext rfl ha
   ·simp at ha
  ·rename_i ha; exact absurd h ha
 ·obtain rfl := none_of (l := p) (by rw [if_neg (by omega), if_neg (by omega)] at h3; omega)
  obtain ⟨t, rfl⟩ := one_of (l := x) (by simp [hk1] at h1 h2; omega)
  have e : lay o [] [t] = pool false t o.width o.step := by unfold lay; rw [if_neg (by omega), if_neg (by omega), if_neg (by omega), if_neg (by omega), if_pos hk1]; rfl
  rw [e] at h ⊢
  unfold pool at h ⊢
  split at h
  ·rename_i ha
   rw [if_pos ha]
   unfold poolErr at ha
   split at ha
   ·rename_i hrr
    rw [shape_of hc (by simp) (by simp [(right_s hrr).1])]
    unfold Od.byKind
    rw [if_neg (by omega), if_neg (by omega), if_neg (by omega), if_pos (by omega)]
    simp only [List.map_cons, List.map_nil, List.getD_cons_zero]
    exact Prod.ext rfl ha
   ·simp at ha
  ·rename_i ha; exact absurd h ha
 ·obtain rfl := none_of (l := p) (by rw [if_neg (by omega), if_neg (by omega)] at h3; omega)
  have e : lay o [] x = join o.side x := by unfold lay; rw [if_neg (by omega), if_neg (by omega), if_neg (by omega), if_neg (by omega), if_neg (by omega), if_pos hk1]
  rw [e] at h ⊢
  unfold join at h ⊢
  split at h
  ·rename_i ha
   rw [if_pos ha]
   obtain ⟨j1, j2⟩ := joined_shape ha
   rw [shape_of hc (by simp) j2]
   unfold Od.byKind
   rw [if_neg (by omega), if_neg (by omega), if_neg (by omega), if_neg (by omega), if_pos (by omega), j1]
   exact Prod.ext rfl ha
  ·rename_i ha; exact absurd h ha
 ·obtain rfl := none_of (l := p) (by rw [if_neg (by omega), if_neg (by omega)] at h3; omega)
  obtain ⟨t, rfl⟩ := one_of (l := x) (by simp [hk1] at h1 h2; omega)
  have e : lay o [] [t] = cut t o.side o.frm o.to := by unfold lay; rw [if_neg (by omega), if_neg (by omega), if_neg (by omega), if_neg (by omega), if_neg (by omega), if_neg (by omega), if_pos hk1]; rfl
  rw [e] at h ⊢
  unfold cut at h ⊢
  split at h
  ·rename_i hrr
   rw [if_pos hrr]
   split at h
   ·rename_i ha
    rw [if_pos ha]
    rw [shape_of hc (by simp) (by simp [(right_s hrr).1])]
    unfold Od.byKind
    rw [if_neg (by omega), if_neg (by omega), if_neg (by omega), if_neg (by omega), if_neg (by omega), if_pos (by omega)]
    simp only [List.map_cons, List.map_nil, List.getD_cons_zero]
    exact Prod.ext rfl ha
   ·rename_i ha; exact absurd h ha
  ·simp at h
 ·obtain rfl := none_of (l := p) (by rw [if_neg (by omega), if_neg (by omega)] at h3; omega)
  obtain ⟨t, rfl⟩ := one_of (l := x) (by simp [hk1] at h1 h2; omega)
  have e : lay o [] [t] = turn t o.s := by unfold lay; rw [if_neg (by omega), if_neg (by omega), if_neg (by omega), if_neg (by omega), if_neg (by omega), if_neg (by omega), if_neg (by omega), if_pos hk1]; rfl
  rw [e] at h ⊢
  unfold turn of_ at h ⊢
  split at h
  ·rename_i hrr
   rw [if_pos hrr]
   split at h
   ·rename_i ha
    rw [if_pos ha]
    rw [shape_of hc (by simp) (by simp [(right_s hrr).1])]
    unfold Od.byKind Od.turned
    rw [if_neg (by omega), if_neg (by omega), if_neg (by omega), if_neg (by omega), if_neg (by omega), if_neg (by omega), if_pos (by omega)]
    have a1 := right_s hrr
    have a2 := right_s ha
    simp only [List.map_cons, List.map_nil, List.getD_cons_zero]
    rw [if_pos (by simp [a1.1, a2.1, ← a2.2, ← a1.2])]
   ·simp at h
  ·simp at h
theorem go_err {o : OpD} {p x : List Ten} (h : Od.counts o p.length x.length ≠ 0) : go o p x = (none_, Od.counts o p.length x.length) := by unfold go; rw [if_neg h]
theorem go_lay {o : OpD} {p x : List Ten} (h : Od.counts o p.length x.length = 0) : go o p x = lay o p x := by unfold go; rw [if_pos h]
end Ly
end Go.Proofs.YtbnnpkcfifejmaaGreat
namespace Go.Proofs.YtbnnpkcfifejmaaGreat
open Go.RowKit
namespace Ly
theorem dense_none {w b x : Ten} (h : (dense w b x).2 ≠ 0) : (dense w b x).1 = none_ := by
 unfold dense at h ⊢; split at h
 ·simp at h
 ·rename_i hc; rw [if_neg hc]
theorem add_none {a b : Ten} (h : (add a b).2 ≠ 0) : (add a b).1 = none_ := by
 unfold add at h ⊢; split at h
 ·simp at h
 ·rename_i hc; rw [if_neg hc]
theorem conv_none {w x : Ten} {st : Int} (h : (conv w x st).2 ≠ 0) : (conv w x st).1 = none_ := by
 unfold conv at h ⊢; split at h
 ·simp at h
 ·rename_i hc; rw [if_neg hc]
theorem pool_none {t : Bool} {x : Ten} {wd st : Int} (h : (pool t x wd st).2 ≠ 0) : (pool t x wd st).1 = none_ := by
 unfold pool at h ⊢; split at h
 ·simp at h
 ·rename_i hc; rw [if_neg hc]
theorem join_none {sd : Int} {x : List Ten} (h : (join sd x).2 ≠ 0) : (join sd x).1 = none_ := by
 unfold join at h ⊢; split at h
 ·simp at h
 ·rename_i hc; rw [if_neg hc]
theorem cut_none {x : Ten} {sd f t : Int} (h : (cut x sd f t).2 ≠ 0) : (cut x sd f t).1 = none_ := by
 unfold cut at h ⊢
 split at h
 ·rename_i h1
  rw [if_pos h1]
  split at h
  ·simp at h
  ·rename_i hc; rw [if_neg hc]
 ·rename_i hc; rw [if_neg hc]
theorem turn_none {x : Ten} {s : List Int} (h : (turn x s).2 ≠ 0) : (turn x s).1 = none_ := by
 unfold turn of_ at h ⊢
 split at h
 ·rename_i h1
  rw [if_pos h1]
  split at h
  ·simp at h
  ·rename_i hc; rw [if_neg hc]
 ·rename_i hc; rw [if_neg hc]
theorem point_none {k k0 : Int} {x : List Ten} (h : (point k k0 x).2 ≠ 0) : (point k k0 x).1 = none_ := by
 unfold point at h ⊢; split at h
 ·simp at h
 ·rename_i hc; rw [if_neg hc]
theorem lay8 {o : OpD} {p x : List Ten} (h : o.kind = 8) : lay o p x = dense (got p 0) (got p 1) (got x 0) := by unfold lay; rw [if_pos h]
theorem lay9 {o : OpD} {p x : List Ten} (h : o.kind = 9) : lay o p x = add (got x 0) (got p 0) := by unfold lay; rw [if_neg (by omega), if_pos h]
theorem lay10 {o : OpD} {p x : List Ten} (h : o.kind = 10) : lay o p x = conv (got p 0) (got x 0) o.step := by unfold lay; rw [if_neg (by omega), if_neg (by omega), if_pos h]
theorem lay11 {o : OpD} {p x : List Ten} (h : o.kind = 11) : lay o p x = pool true (got x 0) o.width o.step := by unfold lay; rw [if_neg (by omega), if_neg (by omega), if_neg (by omega), if_pos h]
theorem lay12 {o : OpD} {p x : List Ten} (h : o.kind = 12) : lay o p x = pool false (got x 0) o.width o.step := by unfold lay; rw [if_neg (by omega), if_neg (by omega), if_neg (by omega), if_neg (by omega), if_pos h]
theorem lay13 {o : OpD} {p x : List Ten} (h : o.kind = 13) : lay o p x = join o.side x := by unfold lay; rw [if_neg (by omega), if_neg (by omega), if_neg (by omega), if_neg (by omega), if_neg (by omega), if_pos h]
theorem lay14 {o : OpD} {p x : List Ten} (h : o.kind = 14) : lay o p x = cut (got x 0) o.side o.frm o.to := by unfold lay; rw [if_neg (by omega), if_neg (by omega), if_neg (by omega), if_neg (by omega), if_neg (by omega), if_neg (by omega), if_pos h]
theorem lay15 {o : OpD} {p x : List Ten} (h : o.kind = 15) : lay o p x = turn (got x 0) o.s := by unfold lay; rw [if_neg (by omega), if_neg (by omega), if_neg (by omega), if_neg (by omega), if_neg (by omega), if_neg (by omega), if_neg (by omega), if_pos h]
theorem lay7 {o : OpD} {p x : List Ten} (h : o.kind ≤ 7) : lay o p x = point o.kind o.k x := by unfold lay; rw [if_neg (by omega), if_neg (by omega), if_neg (by omega), if_neg (by omega), if_neg (by omega), if_neg (by omega), if_neg (by omega), if_neg (by omega)]
theorem lay_none {o : OpD} {p x : List Ten} (hk : o.kind ≤ 15) (h : (lay o p x).2 ≠ 0) : (lay o p x).1 = none_ := by
 have hcases : o.kind ≤ 7 ∨ o.kind = 8 ∨ o.kind = 9 ∨ o.kind = 10 ∨ o.kind = 11 ∨ o.kind = 12 ∨ o.kind = 13 ∨ o.kind = 14 ∨ o.kind = 15 := by omega
 rcases hcases with hk1 | hk1 | hk1 | hk1 | hk1 | hk1 | hk1 | hk1 | hk1
 ·rw [lay7 hk1] at h ⊢; exact point_none h
 ·rw [lay8 hk1] at h ⊢; exact dense_none h
 ·rw [lay9 hk1] at h ⊢; exact add_none h
 ·rw [lay10 hk1] at h ⊢; exact conv_none h
 ·rw [lay11 hk1] at h ⊢; exact pool_none h
 ·rw [lay12 hk1] at h ⊢; exact pool_none h
 ·rw [lay13 hk1] at h ⊢; exact join_none h
 ·rw [lay14 hk1] at h ⊢; exact cut_none h
 ·rw [lay15 hk1] at h ⊢; exact turn_none h
end Ly
def GoU (r : Ten × Int) (w : World) (e : Ending) (w' : World) : Prop :=
 ∃ S c C d, e = .returned (.tuple #[.agg #[.slice S r.1.s.length c, .slice C r.1.c.length d], .int .i64 r.2]) ∧
  (r.2 ≠ 0 → .agg #[.slice S r.1.s.length c, .slice C r.1.c.length d] = Value.agg #[.slice none 0 0, .slice none 0 0]) ∧ (r.2 = 0 → TenO w.heap.size w' (.agg #[.slice S r.1.s.length c, .slice C r.1.c.length d]) r.1) ∧ Below w.heap.size w w'
theorem GoP.u {r : Ten × Int} {w w' : World} {e : Ending} (h : GoP r w e w') (hn : r.2 ≠ 0 → r.1 = Ly.none_) : GoU r w e w' := by
 obtain ⟨h1 | ⟨h1, v, rfl, h3⟩, h2⟩ := h
 ·obtain ⟨h1, rfl⟩ := h1
  have e1 := hn h1
  refine ⟨none, 0, none, 0, by rw [e1]; rfl, fun _ => by rw [e1]; rfl, fun h => absurd h h1, h2⟩
 ·have h3' := h3
  obtain ⟨S, c, C, d, rfl, _, _, _⟩ := h3
  exact ⟨S, c, C, d, by rw [h1], fun h => absurd h1 h, fun _ => h3', h2⟩
theorem calls_goU {P : Program} {f : FuncId} {args : Array Value} {r : Ten × Int} {w : World} (h : Calls P f args w (GoP r w)) (hn : r.2 ≠ 0 → r.1 = Ly.none_) : Calls P f args w (GoU r w) := h.mono fun _ _ hq => hq.u hn
end Go.Proofs.YtbnnpkcfifejmaaGreat
namespace Go.Proofs.YtbnnpkcfifejmaaGreat
open Go.RowKit
theorem Later.au {w w1 : World} (h : Later w w1 := by with_reducible repeat (first | exact Later.refl _ | apply Later.drew | apply Later.drewN | apply Later.alloc | refine Later.call ?_ (by assumption))) : Later w w1 := h
theorem ga {α : Type} {xs : List α} {i : Nat} (h : i < xs.toArray.size) : xs.toArray[i] = xs[i] := List.getElem_toArray h
theorem gs {α : Type} (a : α) (al : List α) (i : Nat) (h : i + 1 < (a :: al).length) : (a :: al)[i + 1] = al[i]'(by simpa using h) := List.getElem_cons_succ ..
theorem gz {α : Type} (a : α) (al : List α) (h : 0 < (a :: al).length) : (a :: al)[0] = a := List.getElem_cons_zero ..
theorem sa {α : Type} (l : List α) (i : Nat) (a : α) : l.toArray.setIfInBounds i a = (l.set i a).toArray := List.setIfInBounds_toArray ..
theorem sz {α : Type} {x : α} {xs : List α} {a : α} : (x :: xs).set 0 a = a :: xs := List.set_cons_zero
theorem ss {α : Type} {x : α} {xs : List α} {i : Nat} {a : α} : (x :: xs).set (i + 1) a = x :: xs.set i a := List.set_cons_succ
section
variable {P : Program} {ops : Array Oper} {Q : Exit → Act → World → Prop} {md : Region.Mode} {S : World → Prop} {fuel : Nat} {listed : Array Bool} {a : Act} {w : World}
theorem tk (i : Nat) {oi : Oper} {v : Value} {a2 : Act} (h : wpAnyH P md ops Q S fuel (listed.setIfInBounds i true) a2 w)
  (hi : ops[i]? = some oi := by rfl) (hs : Region.noSelect ops = true := by kernel_rfl) (hf : Region.free md ops listed i = true := by kernel_rfl) (hr : (Region.ready md ops listed).contains i = true := by kernel_rfl)
  (hg : Region.wanted oi (yielded ops a.tmps) = true := by rfl)
  (hy : ∀ w, S w → (execOp a.eval oi).run P w = .ok (.value v) w := by (simp only [List.getElem_toArray, List.getElem_cons_succ, List.getElem_cons_zero]; intro w hSw; (try dsimp only at hSw); go_simp; first | done | with_reducible rfl))
  (hS : S w := by assumption)
  (ha : a.put oi.dst v = a2 := by ((try simp only [List.getElem_toArray, List.getElem_cons_succ, List.getElem_cons_zero, Act.put, List.setIfInBounds_toArray, List.set_cons_zero, List.set_cons_succ]) <;> rfl))
  (hQ : ∀ c a w, Q (.panic c) (a.put oi.dst v) w → Q (.panic c) a w := by exact fun _ _ _ h => h) : wpAnyH P md ops Q S (fuel + 1) listed a w :=
 wpAnyH_take hi hs hf hr hQ (.inl ⟨hg, hy⟩) hS (ha ▸ h)
theorem tn (i : Nat) {oi : Oper} {a2 : Act} (h : wpAnyH P md ops Q S fuel (listed.setIfInBounds i true) a2 w)
  (hi : ops[i]? = some oi := by rfl) (hs : Region.noSelect ops = true := by kernel_rfl) (hf : Region.free md ops listed i = true := by kernel_rfl) (hr : (Region.ready md ops listed).contains i = true := by kernel_rfl)
  (hg : Region.wanted oi (yielded ops a.tmps) = false := by rfl)
  (hS : S w := by assumption)
  (ha : a.put oi.dst undef = a2 := by ((try simp only [List.getElem_toArray, List.getElem_cons_succ, List.getElem_cons_zero, Act.put, List.setIfInBounds_toArray, List.set_cons_zero, List.set_cons_succ]) <;> rfl))
  (hQ : ∀ c a w, Q (.panic c) (a.put oi.dst undef) w → Q (.panic c) a w := by exact fun _ _ _ h => h) : wpAnyH P md ops Q S (fuel + 1) listed a w :=
 wpAnyH_take hi hs hf hr hQ (.inr ⟨hg, rfl⟩) hS (ha ▸ h)
theorem rd (i : Nat) {oi : Oper}
  (h : ∀ K' : Act → World → Prop, Shut (∀ a w, S w → (S w → wpAnyH P md ops Q S fuel (listed.setIfInBounds i true) a w) → K' a w) → if Region.wanted oi (yielded ops a.tmps) = true then Oper.wp P oi a w K' Q else K' (a.put oi.dst undef) w)
  (hr : Region.ready md ops listed = [i] := by kernel_rfl) (hi : ops[i]? = some oi := by rfl) : wpAnyH P md ops Q S (fuel + 1) listed a w :=
 wpAnyH_ready hr (by simp) (AllReadyH.cons hi h AllReadyH.nil)
end
end Go.Proofs.YtbnnpkcfifejmaaGreat
namespace Go.Proofs.YtbnnpkcfifejmaaGreat
open Go.RowKit
theorem second_lt {x : List Ten} (h : ¬ x.length < 2) (i : Nat) : Ly.second x i = Ly.at_ (Ly.got x 1).c i := by unfold Ly.second; rw [if_neg h]
theorem point_second (A : Option Addr) (c : Nat) (x : List Ten) (i : Nat) (w : World) (hl : x.length ≤ 1048576) (hT : Tns w A x) (hi : 2 ≤ x.length → i < (Ly.got x 1).c.length) :
  Calls Tryz.prog 68 #[.slice A x.length c, .int .i64 i] w fun e w' => e = .returned (.int .i64 (Ly.second x i)) ∧ w = w' := by
 by_cases h : x.length < 2
 ·have E := Lib.hid (show (0 : Int) = Ly.second x i by unfold Ly.second; rw [if_pos h])
  go_enter Tryz.func68, Tryz.ntmps68
  go_wp2_with fail
  go_ret
  exact ⟨ret_int E.out, rfl⟩
 ·obtain ⟨b, off, S, sc, C, d, rfl, hb, c0, c1, hten⟩ := hT.at_ (j := 1) (by omega)
  have hi := hi (by omega)
  have hl2 := hten.l2
  have hcd := hten.c1
  obtain ⟨b2, off2, rfl, -, hc⟩ := hten.cell hi
  have E := Lib.hid (second_lt h i).symm
  have k1 : (i : Int) < ((Ly.got x 1).c.length : Int) := by omega
  have k2 : (0 : Int) ≤ (i : Int) := by omega
  simp only [Nat.one_mul] at c0 c1
  generalize (Ly.got x 1).c.length = m at *
  generalize Ly.at_ (Ly.got x 1).c i = z at *
  clear hT hten
  go_enter Tryz.func68, Tryz.ntmps68
  go_wp2_with fail
  go_ret
  exact ⟨ret_int E.out, rfl⟩
namespace Ly
def okTo (x : List Ten) (t : Ten) : Bool := Tn.right t && decide (t.s = (got x 0).s)
theorem agree_op {kind : Int} {x : List Ten} (h : Od.ptIns kind = 0) : ptAgree kind x = 21 := by unfold ptAgree; rw [if_pos h]
theorem agree_len {kind : Int} {x : List Ten} (h : Od.ptIns kind ≠ 0) (h2 : (x.length : Int) ≠ Od.ptIns kind) : ptAgree kind x = 20 := by unfold ptAgree; rw [if_neg h, if_pos h2]
theorem agree_all {kind : Int} {x : List Ten} (h : Od.ptIns kind ≠ 0) (h2 : (x.length : Int) = Od.ptIns kind) : ptAgree kind x = if x.all (okTo x) then 0 else 20 := by unfold ptAgree okTo; rw [if_neg h, if_neg (fun k => k h2)]
theorem ptIns_cases (k : Int) : (Od.ptIns k = 0) ∨ (Od.ptIns k = 1 ∧ 1 ≤ k ∧ k ≤ 5) ∨ (Od.ptIns k = 2 ∧ 6 ≤ k ∧ k ≤ 7) := by
 unfold Od.ptIns
 split
 ·right; left; omega
 ·split
  ·right; right; omega
  ·left; rfl
theorem agree_yes {kind : Int} {x : List Ten} (h : ptAgree kind x = 0) : 1 ≤ kind ∧ kind ≤ 7 ∧ (x.length : Int) = Od.ptIns kind ∧ 1 ≤ x.length ∧ x.length ≤ 2 ∧ ∀ t ∈ x, okTo x t = true := by
 by_cases h1 : Od.ptIns kind = 0
 ·rw [agree_op h1] at h; omega
 by_cases h2 : (x.length : Int) = Od.ptIns kind
 ·rw [agree_all h1 h2] at h
  by_cases h3 : x.all (okTo x) = true
  ·have h4 := ptIns_cases kind
   exact ⟨by omega, by omega, h2, by omega, by omega, List.all_eq_true.1 h3⟩
  ·rw [if_neg h3] at h; omega
 ·rw [agree_len h1 h2] at h; omega
theorem ok_right {x : List Ten} {t : Ten} (h : okTo x t = true) : Tn.right t = true ∧ t.s = (got x 0).s := by simpa [okTo] using h
end Ly
set_option maxHeartbeats 4000000 in
theorem point_agree (kind : Int) (A : Option Addr) (f : Nat) (x : List Ten) (w : World) (hl : x.length ≤ 1048576) (hT : Tns w A x) :
  Calls Tryz.prog 66 #[.int .i64 kind, .slice A x.length f] w fun e w' => e = .returned (.int .i64 (Ly.ptAgree kind x)) ∧ Below w.heap.size w w' := by
 by_cases h1 : Od.ptIns kind = 0
 ·have E := Lib.hid (Ly.agree_op (x := x) h1).symm
  clear hT
  go_enter Tryz.func66, Tryz.ntmps66
  go_wp2_with fail
  refine (point_ins kind _).mono ?_
  rintro e w1 ⟨rfl, rfl⟩
  rw [h1]
  clear h1
  go_wp2_with fail
  go_ret
  exact ⟨ret_int E.out, Below.refl _ _⟩
 by_cases h2 : (x.length : Int) = Od.ptIns kind
 case neg =>
  have E := Lib.hid (Ly.agree_len h1 h2).symm
  have d1 : (Od.ptIns kind == 0) = false := by simpa using h1
  have d2 : ((x.length : Int) == Od.ptIns kind) = false := by simpa using h2
  have d3 : ((x.length : Int) != Od.ptIns kind) = true := by simpa using h2
  clear h1 h2 hT
  go_enter Tryz.func66, Tryz.ntmps66
  go_wp2_with fail
  refine (point_ins kind _).mono ?_
  rintro e w1 ⟨rfl, rfl⟩
  generalize Od.ptIns kind = n at *
  go_wp2_with fail
  go_ret
  exact ⟨ret_int E.out, Below.refl _ _⟩
 have HA := Lib.hid (Ly.agree_all h1 h2)
 have hpos : 1 ≤ x.length := by
  have := Ly.ptIns_cases kind
  omega
 obtain ⟨b, off, S0, sc0, C0, cd0, rfl, hb0, z0, z1, ht0⟩ := hT.first hpos
 have hT0 := ht0.r.1
 have hl0 := ht0.l1
 have H2 := Lib.hid h2
 have HT := Lib.hid hT
 have HT0 := Lib.hid hT0
 have Ht0 := Lib.hid ht0
 clear hT hT0 ht0
 clear h1 h2 z1
 have d1 : ((x.length : Int) == 0) = false := by have h3 : (x.length : Int) ≠ 0 := by omega
                                                 simpa using h3
 have k1 : (0 : Int) < (x.length : Int) := by omega
 have k2 : 0 < x.length := hpos
 go_enter Tryz.func66, Tryz.ntmps66
 go_wp2_with fail
 refine (point_ins kind _).mono ?_
 rintro e w1 ⟨rfl, rfl⟩
 rw [← H2.out]
 go_wp2_with fail
 generalize hs0 : (Ly.got x 0).s = s0 at *
 go_loopw [18] (fun i wx => ∃ k : Nat, k ≤ x.length ∧ i = .int .i64 (k : Int) ∧ (x.take k).all (Ly.okTo x) = true ∧ Later w wx) (fun i _ => x.length - (intOf i).toNat)
 case atStart => exact ⟨0, by omega, rfl, rfl, Later.refl _⟩
 case round =>
  obtain ⟨k, hk, rfl, hall, hlw⟩ := hrel
  by_cases hlt : k < x.length
  ·obtain ⟨b', off', S, sc, C, cd, e, -, y0, y1, ht⟩ := (HT.out.later hlw).at_ hlt
   injection e with e; injection e with e1 e2; subst e1 e2
   have y2 : wr.cell? ⟨b, off, none⟩ = some (.slice S0 s0.length sc0) := hlw.cell z0
   have hx : Ly.got x k = x[k] := got_at hlt
   have hgo := take_all_succ (p := Ly.okTo x) hlt hall
   have hno := all_false_at (p := Ly.okTo x) hlt
   have hok : Ly.okTo x x[k] = (Tn.right (Ly.got x k) && ((Ly.got x k).s == s0)) := by rw [← hx]; unfold Ly.okTo; rw [hs0]; congr 1; rw [Bool.eq_iff_iff]; simp
   rw [hok] at hgo hno
   have hsk := ht.l1
   have hck := ht.l2
   have hTk := ht.r.1
   have h2 : Later wr (wr.alloc (.cells #[.slice S (Ly.got x k).s.length sc, .slice C (Ly.got x k).c.length cd] 30)) := (Later.refl wr).alloc _
   have hkx := Blk.new wr 30 #[.slice S (Ly.got x k).s.length sc, .slice C (Ly.got x k).c.length cd]
   have hl2 := hlw.trans h2
   have HS0 := Lib.hid hs0
   clear hx hs0 hok hall
   generalize Ly.got x k = t at *
   have H2' := Lib.hid h2
   clear h2
   have Hlw := Lib.hid hlw
   have Ht := Lib.hid ht
   have HTk := Lib.hid hTk
   have Hkx := Lib.hid hkx
   have Hl2 := Lib.hid hl2
   have Hgo := Lib.hid hgo
   have Hno := Lib.hid hno
   clear hlw ht hTk hkx hl2 hgo hno
   go_wp2_with fail
   clear y0 y1
   generalize wr.alloc (.cells #[.slice S t.s.length sc, .slice C t.c.length cd] 30) = w2 at *
   have x0 : w2.cell? ⟨wr.heap.size, 0, none⟩ = some (.slice S t.s.length sc) := by rw [Hkx.out.cell]; rfl
   have x1 : w2.cell? ⟨wr.heap.size, 1, none⟩ = some (.slice C t.c.length cd) := by rw [Hkx.out.cell]; rfl
   have x2 : w2.cell? ⟨b, off, none⟩ = some (.slice S0 s0.length sc0) := H2'.out.cell y2
   clear y2
   have hc1 := fun (V : World) (h : Later w2 V) => tensor_right S C sc cd t V (by omega) (by omega) (HTk.out.below (H2'.out.trans h) (Nat.le_refl _))
   cases hr : Tn.right t
   ·rw [hr] at hc1
    have HN := Lib.hid (Hno.out (by rw [hr]; rfl))
    clear hr
    have Hc1 := Lib.hid hc1
    clear hc1
    first
     | (go_region_with ((go_at_call 51; (with_reducible refine (Hc1.out _ (Later.au : Later w2 _)).mono ?_); rintro e wa ⟨rfl, hba⟩)))
     | skip
    all_goals
     have hle := Hl2.out.trans (Later.au : Later w2 wa)
     have Hle := Lib.hid hle
     clear hle
     go_wp2_with fail
     go_ret
     exact ⟨ret_int (by rw [HA.out, HN.out]; rfl), Hle.out⟩
   ·have hc2 := fun (V : World) (h : Later w2 V) => shape_equal S S0 sc sc0 t.s s0 V (by omega) (by omega) (HTk.out.below (H2'.out.trans h) (Nat.le_refl _)) (HT0.out.below (Hl2.out.trans h) (Nat.le_refl _))
    rw [hr] at hc1
    cases he : (t.s == s0)
    ·have HN := Lib.hid (Hno.out (by rw [hr, he]; rfl))
     rw [he] at hc2
     clear hr he
     have Hc1 := Lib.hid hc1
     have Hc2 := Lib.hid hc2
     clear hc1 hc2
     go_region_held3 (fun W => W.cell? ⟨wr.heap.size, 0, none⟩ = some (.slice S t.s.length sc) ∧ W.cell? ⟨wr.heap.size, 1, none⟩ = some (.slice C t.c.length cd) ∧ W.cell? ⟨b, off, none⟩ = some (.slice S0 s0.length sc0)) (first | (with_reducible exact ⟨x0, x1, x2⟩) | exact ⟨Later.cell (Later.au : Later w2 _) x0, Later.cell (Later.au : Later w2 _) x1, Later.cell (Later.au : Later w2 _) x2⟩)
      (first
       | (go_at_call 51; (with_reducible refine (Hc1.out _ (Later.au : Later w2 _)).mono ?_); rintro e wa ⟨rfl, hba⟩)
       | (go_at_call 43; (with_reducible refine (Hc2.out _ (Later.au : Later w2 _)).mono ?_); rintro e wd ⟨rfl, qd, rfl⟩))
     all_goals
      have hle := Hl2.out.trans (Later.au : Later w2 (wa.drewN qd))
      have Hle := Lib.hid hle
      clear hle
      go_wp2_with fail
      go_ret
      exact ⟨ret_int (by rw [HA.out, HN.out]; rfl), Hle.out⟩
    ·have HN := Lib.hid (Hgo.out (by rw [hr, he]; rfl))
     rw [he] at hc2
     clear hr he
     have Hc1 := Lib.hid hc1
     have Hc2 := Lib.hid hc2
     clear hc1 hc2
     go_region_held3 (fun W => W.cell? ⟨wr.heap.size, 0, none⟩ = some (.slice S t.s.length sc) ∧ W.cell? ⟨wr.heap.size, 1, none⟩ = some (.slice C t.c.length cd) ∧ W.cell? ⟨b, off, none⟩ = some (.slice S0 s0.length sc0)) (first | (with_reducible exact ⟨x0, x1, x2⟩) | exact ⟨Later.cell (Later.au : Later w2 _) x0, Later.cell (Later.au : Later w2 _) x1, Later.cell (Later.au : Later w2 _) x2⟩)
      (first
       | (go_at_call 51; (with_reducible refine (Hc1.out _ (Later.au : Later w2 _)).mono ?_); rintro e wa ⟨rfl, hba⟩)
       | (go_at_call 43; (with_reducible refine (Hc2.out _ (Later.au : Later w2 _)).mono ?_); rintro e wd ⟨rfl, qd, rfl⟩))
     all_goals
      have hle := Hl2.out.trans (Later.au : Later w2 (wa.drewN qd))
      have Hle := Lib.hid hle
      clear hle
      go_wp2_with fail
      go_roundw
      case rel => exact ⟨k + 1, by omega, by go_num, HN.out, Hle.out⟩
      case measure => simp [intOf]; omega
  ·obtain rfl : k = x.length := by omega
   rw [List.take_length] at hall
   have Hall := Lib.hid hall
   have Hlw := Lib.hid hlw
   clear hall hlw
   go_wp2_with fail
   go_ret
   exact ⟨ret_int (by rw [HA.out, if_pos Hall.out]), Hlw.out⟩
end Go.Proofs.YtbnnpkcfifejmaaGreat
namespace Go.Proofs.YtbnnpkcfifejmaaGreat
open Go.RowKit
namespace Ly
theorem point_err {kind k : Int} {x : List Ten} (h : ptAgree kind x ≠ 0) : point kind k x = (none_, ptAgree kind x) := by unfold point; rw [if_neg h]
theorem point_ok {kind k : Int} {x : List Ten} (h : ptAgree kind x = 0) : point kind k x = (⟨(got x 0).s, tab (got x 0).c.length fun i => cell kind k (at_ (got x 0).c i) (second x i)⟩, 0) := by unfold point; rw [if_pos h]
theorem right_ok {t : Ten} (h : Tn.right t = true) : t.s.length ≤ 4 ∧ t.c.length ≤ 65536 := by have := Tn.right_len h; omega
theorem same_len {a b : Ten} (ha : Tn.right a = true) (hb : Tn.right b = true) (h : a.s = b.s) : a.c.length = b.c.length := by
 simp [Tn.right] at ha hb
 rw [h] at ha
 omega
end Ly
theorem Blk.row_get {w : World} {h : Nat} {t : TypeId} {l : List Int} {k : Nat} (hb : Blk w h t (l.map (Value.int .i64)).toArray) (hk : k < l.length) : w.cell? ⟨h, k, none⟩ = some (.int .i64 l[k]) := by
 rw [hb.cell, List.getElem?_toArray, List.getElem?_eq_getElem (by simpa using hk)]; simp
set_option maxHeartbeats 8000000 in
theorem point_go (kind k0 : Int) (A : Option Addr) (f : Nat) (x : List Ten) (w : World) (hl : x.length ≤ 1048576) (hT : Tns w A x) (hk0 : Fx.In k0) :
  Calls Tryz.prog 101 #[.int .i64 kind, .int .i64 k0, .slice A x.length f] w (GoP (Ly.point kind k0 x) w) := by
 have h01 : Later w (w.alloc (.cells #[.slice none 0 0, .slice none 0 0] 30)) := (Later.refl w).alloc _
 have hz := Blk.new w 30 #[.slice none 0 0, .slice none 0 0]
 have HT := Lib.hid hT
 have H01 := Lib.hid h01
 have Hz := Lib.hid hz
 have Hk0 := Lib.hid hk0
 clear hT h01 hz hk0
 go_enter Tryz.func101, Tryz.ntmps101
 go_wp2_with fail
 generalize w.alloc (.cells #[.slice none 0 0, .slice none 0 0] 30) = w1 at *
 refine (point_agree kind A f x w1 hl (HT.out.later H01.out)).mono ?_
 rintro e w2 ⟨rfl, hb2⟩
 have h02 := H01.out.call hb2
 have hz2 := (show Later w1 w2 from hb2).blk Hz.out
 clear hb2 Hz H01
 by_cases hg : Ly.ptAgree kind x = 0
 case neg =>
  have HE := Lib.hid (Ly.point_err (k := k0) hg)
  have d1 : (Ly.ptAgree kind x == 0) = false := by simpa using hg
  have d2 : (Ly.ptAgree kind x != 0) = true := by simpa using hg
  have Hg := Lib.hid hg
  clear hg
  generalize Ly.ptAgree kind x = g at *
  have c0 := hz2.cell 0
  have c1 := hz2.cell 1
  have f0 := hz2.frozen 0
  have f1 := hz2.frozen 1
  simp at c0 c1
  have H02 := Lib.hid h02
  have Hz2 := Lib.hid hz2
  clear h02 hz2
  go_wp2_with fail
  refine bodyPost_ret (v := .tuple #[.agg #[.slice none 0 0, .slice none 0 0], .int .i64 g]) (by simp [results, Tryz.results101, go_sem, c0, c1]) rfl ?_
  exact GoP.fail HE.out Hg.out ((H02.out.set (p := ⟨w.heap.size, 0, none⟩) (Nat.le_refl _) _).set (p := ⟨w.heap.size, 1, none⟩) (Nat.le_refl _) _)
 have HE := Lib.hid (Ly.point_ok (k := k0) hg)
 obtain ⟨k1, k7, -, l1, l2, hall⟩ := Ly.agree_yes hg
 rw [hg]
 obtain ⟨hr0, -⟩ := Ly.ok_right (hall _ (by rw [got_at (show 0 < x.length by omega)]; exact List.getElem_mem _) : Ly.okTo x (Ly.got x 0) = true)
 have hsec : 2 ≤ x.length → (Ly.got x 1).c.length = (Ly.got x 0).c.length := fun h => by
  obtain ⟨a, b⟩ := Ly.ok_right (hall _ (by rw [got_at (show 1 < x.length by omega)]; exact List.getElem_mem _) : Ly.okTo x (Ly.got x 1) = true)
  exact Ly.same_len a hr0 b
 have Hsec := Lib.hid hsec
 have Hg := Lib.hid hg
 clear hg hall hsec
 obtain ⟨b, off, S, sc, C, cd, rfl, hb0, z0, z1, ht⟩ := (HT.out.later h02).first (by omega)
 obtain ⟨r1, r2⟩ := Ly.right_ok hr0
 have hTR := ht.r
 have hnum := ht.num
 have hsecin : ∀ i, Fx.In (Ly.second x i) := fun i => by
  unfold Ly.second
  split
  ·exact Fx.in_zero
  ·exact Ly.at_in (Ly.got_in HT.out.in_ 1) i
 generalize hR : (Ly.tab (Ly.got x 0).c.length fun i => Ly.cell kind k0 (Ly.at_ (Ly.got x 0).c i) (Ly.second x i)) = R at *
 have hRl : R.length = (Ly.got x 0).c.length := by rw [← hR, Ly.tab_len]
 have hRg : ∀ i (hi : i < R.length), R[i] = Ly.cell kind k0 (Ly.at_ (Ly.got x 0).c i) (Ly.second x i) := fun i hi => by subst hR; exact Ly.tab_get hi
 have hRin : ∀ z ∈ R, Fx.In z := by rw [← hR]; exact Ly.tab_in fun i _ => Ly.cell_in (Ly.at_in hnum i)
 clear hR
 generalize ht0 : Ly.got x 0 = t at *
 have Ht0 := Lib.hid ht0
 have Hr0 := Lib.hid hr0
 have HRl := Lib.hid hRl
 clear ht0 hr0 hRl
 have y0 := Lib.hid z0
 have y1 := Lib.hid z1
 have H02 := Lib.hid h02
 have Hz2 := Lib.hid hz2
 have Ht := Lib.hid ht
 have HTR := Lib.hid hTR
 have Hnum := Lib.hid hnum
 have Hsecin := Lib.hid hsecin
 have HRg := Lib.hid hRg
 have HRin := Lib.hid hRin
 clear h02 hz2 ht hTR hnum hsecin hRg hRin
 go_wp2_with fail
 clear z0 z1
 refine (tensor_copy S C sc cd t w2 (by omega) (by omega) HTR.out).mono ?_
 rintro e w3 ⟨v, rfl, ⟨g, h, rfl, hg, hh, hG, hH⟩, hb3⟩
 have h23 : Later w2 w3 := hb3
 have h3a : Later w3 (w3.alloc (.cells #[.slice (some ⟨g, 0, none⟩) t.s.length t.s.length, .slice (some ⟨h, 0, none⟩) t.c.length t.c.length] 30)) := (Later.refl w3).alloc _
 have ho := Blk.new w3 30 #[.slice (some ⟨g, 0, none⟩) t.s.length t.s.length, .slice (some ⟨h, 0, none⟩) t.c.length t.c.length]
 have h24 := h23.trans h3a
 have h04 := H02.out.trans h24
 have hz4 := h24.blk Hz2.out
 have hG4 := h3a.blk hG
 have hH4 := h3a.blk hH
 have hs2 := H02.out.size
 have hs3 := h23.size
 have hhl := hH.lt
 have hgl := hG.lt
 have hzl := Hz2.out.lt
 have hgne : g ≠ h := by
  intro e
  subst e
  have h1 : (Obj.cells (t.s.map (Value.int .i64)).toArray 3 (0, 0)) = _ := Option.some.inj (hG.symm.trans hH)
  injection h1 with _ h2 _
  exact absurd h2 (by decide)
 have z1 := h24.cell y1.out
 clear hb3 Hz2 hG hH y0 y1
 have Z1 := Lib.hid z1
 clear z1
 have H23 := Lib.hid h23
 have H3a := Lib.hid h3a
 have Ho := Lib.hid ho
 have H24 := Lib.hid h24
 have H04 := Lib.hid h04
 have Hz4 := Lib.hid hz4
 have HG4 := Lib.hid hG4
 have HH4 := Lib.hid hH4
 clear h23 h3a ho h24 h04 hz4 hG4 hH4
 go_upto_region 5 with fail
 generalize w3.alloc (.cells #[.slice (some ⟨g, 0, none⟩) t.s.length t.s.length, .slice (some ⟨h, 0, none⟩) t.c.length t.c.length] 30) = w4 at *
 generalize hpe : w3.heap.size = p at *
 have hph : h < p := by omega
 have hpz : w.heap.size < p := by omega
 have z1 := Z1.out
 have HT4 := Lib.hid (HTR.out.2.below H24.out (Nat.le_refl _))
 clear Z1 H3a H23 hpe
 go_wp2_with fail
 clear z1
 have hI0 : Blk w4 h 22 ((R.take 0 ++ t.c.drop 0).map (Value.int .i64)).toArray := by simpa using HH4.out
 have HI0 := Lib.hid hI0
 clear hI0
 go_loopw [28] (fun i wx => ∃ k : Nat, k ≤ t.c.length ∧ i = .int .i64 (k : Int) ∧ Blk wx h 22 ((R.take k ++ t.c.drop k).map (Value.int .i64)).toArray ∧ Blk wx p 30 #[.slice (some ⟨g, 0, none⟩) t.s.length t.s.length, .slice (some ⟨h, 0, none⟩) t.c.length t.c.length] ∧ Blk wx w.heap.size 30 #[.slice none 0 0, .slice none 0 0] ∧ Blk wx g 3 (t.s.map (Value.int .i64)).toArray ∧ Later w wx ∧ Later w2 wx) (fun i _ => t.c.length - (intOf i).toNat)
 case atStart => exact ⟨0, Nat.zero_le _, rfl, HI0.out, Ho.out, Hz4.out, HG4.out, H04.out, H24.out⟩
 case round =>
  obtain ⟨k, hk, rfl, hm, hox, hzx, hgx, hlw, hlw2'⟩ := hrel
  clear HI0
  by_cases hlt : k < t.c.length
  ·obtain ⟨b2, off2, rfl, -, hc2⟩ := (HTR.out.2.below hlw2' (Nat.le_refl _)) k hlt
   rw [show t.c.getD k 0 = Ly.at_ t.c k from rfl] at hc2
   have hltR : k < R.length := by have := HRl.out; omega
   have hst := Ly.mid_step R t.c hltR HRl.out
   have hlen := Ly.mid_len R t.c k (by omega) HRl.out
   have hRk := HRg.out k hltR
   have hxin := Ly.at_in Hnum.out k
   have hsin := Hsecin.out k
   have hTx := HT.out.later hlw
   have hsecl : 2 ≤ x.length → k < (Ly.got x 1).c.length := fun h => by rw [Hsec.out h]; exact hlt
   have hc1 := fun (V : World) (hV : Later w V) => point_second (some ⟨b, off, none⟩) f x k V hl (HT.out.later hV) hsecl
   have hc3 := fun (V : World) => point_cell kind k0 (Ly.at_ t.c k) (Ly.second x k) V k1 k7 Hk0.out hxin hsin
   rw [hRk] at hst
   rw [← hRk] at hc3 hst
   have hc3' : ∀ (V : World), Calls Tryz.prog 144 #[.int .i64 kind, .int .i64 k0, .int .i64 (Ly.at_ t.c k), .int .i64 (Ly.second x k)] V fun e w' => e = .returned (.int .i64 R[k]) ∧ V = w' := hc3
   generalize hy : R[k] = y at *
   generalize Ly.at_ t.c k = xk at *
   generalize Ly.second x k = sk at *
   have o1 : wr.cell? ⟨p, 1, none⟩ = some (.slice (some ⟨h, 0, none⟩) t.c.length t.c.length) := by rw [hox.cell]; rfl
   obtain ⟨u, hu⟩ : ∃ u, wr.cell? ⟨h, k, none⟩ = some u := ⟨_, hm.row_get (by rw [hlen]; exact hltR)⟩
   have fu := hm.frozen k
   have hm2 : Blk (wr.setCell ⟨h, k, none⟩ (.int .i64 y)) h 22 ((R.take (k + 1) ++ t.c.drop (k + 1)).map (Value.int .i64)).toArray := by
    have := hm.set_ k (.int .i64 y)
    rw [← hst, List.map_set]
    simpa using this
   have hox2 := hox.far (p := ⟨h, k, none⟩) (by simp; omega) (.int .i64 y)
   have hzx2 := hzx.far (p := ⟨h, k, none⟩) (by simp; omega) (.int .i64 y)
   have hgx2 : Blk (wr.setCell ⟨h, k, none⟩ (.int .i64 y)) g 3 (t.s.map (Value.int .i64)).toArray := hgx.far (p := ⟨h, k, none⟩) hgne (.int .i64 y)
   have hlw2 := hlw.set (p := ⟨h, k, none⟩) (by simp; omega) (.int .i64 y)
   have hlw3 := hlw2'.set (p := ⟨h, k, none⟩) hh (.int .i64 y)
   have kk1 : (k : Int) < (t.c.length : Int) := by omega
   have kk2 : (0 : Int) ≤ (k : Int) := by omega
   clear hy hlen hRk hxin hsin hltR hc3
   have Hm := Lib.hid hm
   have Hox := Lib.hid hox
   have Hzx := Lib.hid hzx
   have Hgx := Lib.hid hgx
   have Hm2 := Lib.hid hm2
   have Hox2 := Lib.hid hox2
   have Hzx2 := Lib.hid hzx2
   have Hgx2 := Lib.hid hgx2
   have Hlw2 := Lib.hid hlw2
   have Hlw3 := Lib.hid hlw3
   have Hst := Lib.hid hst
   have Hc1 := Lib.hid hc1
   have Hc3' := Lib.hid hc3'
   have HTx := Lib.hid hTx
   have Hsecl := Lib.hid hsecl
   have Hlw2' := Lib.hid hlw2'
   have Hlw := Lib.hid hlw
   clear hm hox hzx hgx hm2 hox2 hzx2 hgx2 hlw2 hlw3 hst hc1 hc3' hTx hsecl hlw2' hlw
   go_wp2_with fail
   go_region_law ((first
    | (go_simp; go_at_call 68; (with_reducible refine (Hc1.out _ (by first | exact Hlw.out | exact Hlw.out.drew | exact Hlw.out.drewN _)).mono ?_); rintro e wa ⟨rfl, rfl⟩)
    | (go_simp; go_at_call 144; (with_reducible refine (Hc3'.out _).mono ?_); rintro e wb ⟨rfl, rfl⟩)))
   all_goals
    go_wp2_with fail
    go_roundw
    case rel => exact ⟨k + 1, by omega, by go_num, Hm2.out.drew, Hox2.out.drew, Hzx2.out.drew, Hgx2.out.drew, Hlw2.out.drew, Hlw3.out.drew⟩
    case measure => simp [intOf]; omega
  ·obtain rfl : k = t.c.length := by omega
   rw [Ly.mid_end R t.c _ HRl.out.symm HRl.out] at hm
   have o0 : wr.cell? ⟨p, 0, none⟩ = some (.slice (some ⟨g, 0, none⟩) t.s.length t.s.length) := by rw [hox.cell]; rfl
   have o1 : wr.cell? ⟨p, 1, none⟩ = some (.slice (some ⟨h, 0, none⟩) t.c.length t.c.length) := by rw [hox.cell]; rfl
   have c0 := hzx.cell 0
   have c1 := hzx.cell 1
   have f0 := hzx.frozen 0
   have f1 := hzx.frozen 1
   simp at c0 c1
   have hz3 := (hzx.set_ 0 (.slice (some ⟨g, 0, none⟩) t.s.length t.s.length)).set_ 1 (.slice (some ⟨h, 0, none⟩) t.c.length t.c.length)
   have d0 := hz3.cell 0
   have d1 := hz3.cell 1
   simp at d0 d1
   have hgz : g ≠ w.heap.size := by omega
   have hhz : h ≠ w.heap.size := by omega
   have Hm := Lib.hid hm
   have Hox := Lib.hid hox
   have Hzx := Lib.hid hzx
   have Hgx := Lib.hid hgx
   have Hlw := Lib.hid hlw
   have Hz3 := Lib.hid hz3
   clear hm hox hzx hgx hlw hz3
   go_wp2_with fail
   refine bodyPost_ret (v := .tuple #[.agg #[.slice (some ⟨g, 0, none⟩) t.s.length t.s.length, .slice (some ⟨h, 0, none⟩) t.c.length t.c.length], .int .i64 0]) (by simp [results, Tryz.results101, go_sem, d0, d1]) rfl ?_
   refine GoP.ok HE.out (TenN.o ⟨g, h, by simp [HRl.out], by omega, by omega, (Hgx.out.far (p := ⟨w.heap.size, 0, none⟩) hgz _).far (p := ⟨w.heap.size, 1, none⟩) hgz _, (Hm.out.far (p := ⟨w.heap.size, 0, none⟩) hhz _).far (p := ⟨w.heap.size, 1, none⟩) hhz _⟩ (by show t.s.length ≤ _; omega) (by have := HRl.out; show R.length ≤ _; omega) HRin.out) ((Hlw.out.set (p := ⟨w.heap.size, 0, none⟩) (Nat.le_refl _) _).set (p := ⟨w.heap.size, 1, none⟩) (Nat.le_refl _) _)
end Go.Proofs.YtbnnpkcfifejmaaGreat

/- Layer 10 (op): which ops are right and equal: contracts. -/
import Derived.Test.YtjkhpbngpceenaaNetM
import Derived.Deep.RegionHeld3
namespace Go.Proofs.Ytjkhpbngpceenaa
open Go.RowKit

def opCells (o : OpD) (S : Option Addr) (c : Nat) : Array Value := #[.int .i64 o.kind, .int .i64 o.k, .int .i64 o.width, .int .i64 o.step, .int .i64 o.side, .int .i64 o.frm, .int .i64 o.to, .slice S o.s.length c]
def opNums (o : OpD) : Value := .agg #[.int .i64 o.kind, .int .i64 o.k, .int .i64 o.width, .int .i64 o.step, .int .i64 o.side, .int .i64 o.frm, .int .i64 o.to]

theorem below2 (w : World) (a b : Obj) : Below w.heap.size w ((w.alloc a).alloc b) := ((Below.refl _ w).alloc (Nat.le_refl _) a).alloc (by simp) b
theorem below3 (w : World) (a b c : Obj) : Below w.heap.size w (((w.alloc a).alloc b).alloc c) := (below2 w a b).alloc (by simp; omega) c
/-- The op with what its kind uses, its shape where it was, or none. -/
def UsedP (o : OpD) (S : Option Addr) (c : Nat) (w : World) (e : Ending) (w' : World) : Prop :=
  ∃ S' c', e = .returned (.agg #[.int .i64 (Od.used o).kind, .int .i64 (Od.used o).k, .int .i64 (Od.used o).width, .int .i64 (Od.used o).step, .int .i64 (Od.used o).side, .int .i64 (Od.used o).frm, .int .i64 (Od.used o).to, .slice S' (Od.used o).s.length c']) ∧ (S' = S ∧ (Od.used o).s = o.s ∨ (Od.used o).s = []) ∧ Below w.heap.size w w'

set_option maxHeartbeats 1000000 in
theorem op_numbers (o : OpD) (S : Option Addr) (c : Nat) (w : World) :
    Calls Try.prog 67 #[.agg #[.int .i64 o.kind, .int .i64 o.k, .int .i64 o.width, .int .i64 o.step, .int .i64 o.side, .int .i64 o.frm, .int .i64 o.to, .slice S o.s.length c]] w fun e w' => e = .returned (.agg #[.int .i64 o.kind, .int .i64 o.k, .int .i64 o.width, .int .i64 o.step, .int .i64 o.side, .int .i64 o.frm, .int .i64 o.to]) ∧ Below w.heap.size w w' := by
  go_enter Try.func67, Try.ntmps67
  go_wp2_with fail
  refine bodyPost_ret (v := .agg #[.int .i64 o.kind, .int .i64 o.k, .int .i64 o.width, .int .i64 o.step, .int .i64 o.side, .int .i64 o.frm, .int .i64 o.to]) (by simp [results, Try.results67, go_sem]) rfl ?_
  exact ⟨rfl, below2 w _ _⟩

set_option maxHeartbeats 2000000 in
set_option maxRecDepth 100000 in
theorem op_used (o : OpD) (S : Option Addr) (c : Nat) (w : World) :
    Calls Try.prog 74 #[.agg #[.int .i64 o.kind, .int .i64 o.k, .int .i64 o.width, .int .i64 o.step, .int .i64 o.side, .int .i64 o.frm, .int .i64 o.to, .slice S o.s.length c]] w (UsedP o S c w) := by
  obtain ⟨kind, k, width, step, side, frm, to, s⟩ := o
  by_cases hk : kind = 2 ∨ kind = 5 ∨ kind = 10 ∨ kind = 11 ∨ kind = 12 ∨ kind = 13 ∨ kind = 14 ∨ kind = 15
  · rcases hk with rfl | rfl | rfl | rfl | rfl | rfl | rfl | rfl
    all_goals
      go_enter Try.func74, Try.ntmps74
      go_wp2_with fail
      try go_region_with (fail)
    all_goals try go_wp2_with fail
    all_goals refine bodyPost_ret (by simp [results, Try.results74, go_sem]; rfl) rfl ?_
    all_goals refine ⟨_, _, rfl, by simp [Od.used], ?_⟩
    all_goals (repeat' first | exact Below.refl _ _ | exact below3 _ _ _ _ | refine Below.drew ?_ | refine Below.setCell ?_ (by simp) _ | refine Below.alloc ?_ (by simp) _)
  · have n2 : (kind == 2) = false := by simp; omega
    have n5 : (kind == 5) = false := by simp; omega
    have n10 : (kind == 10) = false := by simp; omega
    have n11 : (kind == 11) = false := by simp; omega
    have n12 : (kind == 12) = false := by simp; omega
    have n13 : (kind == 13) = false := by simp; omega
    have n14 : (kind == 14) = false := by simp; omega
    have n15 : (kind == 15) = false := by simp; omega
    have HU := Lib.hid (show Od.used ⟨kind, k, width, step, side, frm, to, s⟩ = ⟨kind, 0, 0, 0, 0, 0, 0, []⟩ by unfold Od.used; simp only; rw [if_neg (by omega), if_neg (by omega), if_neg (by omega), if_neg (by omega), if_neg (by omega), if_neg (by omega)])
    clear hk
    go_enter Try.func74, Try.ntmps74
    go_wp2_with fail
    refine bodyPost_ret (by simp [results, Try.results74, go_sem]; rfl) rfl ?_
    exact ⟨none, 0, by rw [HU.out]; rfl, .inr (by rw [HU.out]), below3 w _ _ _⟩
end Go.Proofs.Ytjkhpbngpceenaa

/- Layer 10 (op): right ops, how many ins and parameters: contracts. -/
import Derived.Test.YtjkhpbngpceenaaOp2
namespace Go.Proofs.Ytjkhpbngpceenaa
open Go.RowKit

theorem used_len (o : OpD) : (Od.used o).s.length ≤ o.s.length := by
  unfold Od.used
  repeat' split
  all_goals simp
set_option maxHeartbeats 4000000 in
theorem op_right (o : OpD) (S : Option Addr) (c : Nat) (w : World) (ho : o.s.length ≤ 17592186043904) (hI : Ints .i64 w S o.s) :
    Calls Try.prog 56 #[.agg #[.int .i64 o.kind, .int .i64 o.k, .int .i64 o.width, .int .i64 o.step, .int .i64 o.side, .int .i64 o.frm, .int .i64 o.to, .slice S o.s.length c]] w fun e w' => e = .returned (.bool (Od.right o)) ∧ Below w.heap.size w w' := by
  have hk0 := Blk.new w 43 #[.int .i64 o.kind, .int .i64 o.k, .int .i64 o.width, .int .i64 o.step, .int .i64 o.side, .int .i64 o.frm, .int .i64 o.to, .slice S o.s.length c]
  have hb0 : Below w.heap.size w (w.alloc (.cells #[.int .i64 o.kind, .int .i64 o.k, .int .i64 o.width, .int .i64 o.step, .int .i64 o.side, .int .i64 o.frm, .int .i64 o.to, .slice S o.s.length c] 43)) := (Below.refl _ _).alloc (Nat.le_refl _) _
  have hlt0 := hk0.lt
  have hul := used_len o
  by_cases h1 : 1 ≤ o.kind
  case neg =>
    have HR := Lib.hid (show Od.right o = false by simp [Od.right]; omega)
    have d1 : decide (1 ≤ o.kind) = false := by simp; omega
    have d1' : decide (o.kind ≥ 1) = false := d1
    go_enter Try.func56, Try.ntmps56
    go_wp2_with fail
    first
      | (go_region_with (fail))
      | skip
    all_goals
      go_wp2_with fail
      go_ret
      exact ⟨by rw [HR.out]; rfl, by first | exact hb0 | exact hb0.drew⟩
  by_cases h15 : o.kind ≤ 15
  case neg =>
    have HR := Lib.hid (show Od.right o = false by simp [Od.right]; omega)
    have d1 : decide (1 ≤ o.kind) = true := by simp; omega
    have d2 : decide (o.kind ≤ 15) = false := by simp; omega
    go_enter Try.func56, Try.ntmps56
    go_wp2_with fail
    first
      | (go_region_with (fail))
      | skip
    all_goals
      go_wp2_with fail
      go_ret
      exact ⟨by rw [HR.out]; rfl, by first | exact hb0 | exact hb0.drew⟩
  have HR := Lib.hid (show Od.right o = decide (o = Od.used o) by simp [Od.right, h1, h15])
  have d1 : decide (1 ≤ o.kind) = true := by simp; omega
  have d2 : decide (o.kind ≤ 15) = true := by simp; omega
  go_enter Try.func56, Try.ntmps56
  go_wp2_with fail
  generalize (w.alloc (.cells #[.int .i64 o.kind, .int .i64 o.k, .int .i64 o.width, .int .i64 o.step, .int .i64 o.side, .int .i64 o.frm, .int .i64 o.to, .slice S o.s.length c] 43)) = w0 at *
  have hcells : ∀ W, Below w0.heap.size w0 W → W.cell? ⟨w.heap.size, 0, none⟩ = some (.int .i64 o.kind) ∧ W.cell? ⟨w.heap.size, 1, none⟩ = some (.int .i64 o.k) ∧ W.cell? ⟨w.heap.size, 2, none⟩ = some (.int .i64 o.width) ∧ W.cell? ⟨w.heap.size, 3, none⟩ = some (.int .i64 o.step) ∧ W.cell? ⟨w.heap.size, 4, none⟩ = some (.int .i64 o.side) ∧ W.cell? ⟨w.heap.size, 5, none⟩ = some (.int .i64 o.frm) ∧ W.cell? ⟨w.heap.size, 6, none⟩ = some (.int .i64 o.to) ∧ W.cell? ⟨w.heap.size, 7, none⟩ = some (.slice S o.s.length c) := fun W hW => by
    have k0 := hk0.below hW hlt0
    have e := fun i => k0.cell i
    refine ⟨?_, ?_, ?_, ?_, ?_, ?_, ?_, ?_⟩
    all_goals (rw [e]; rfl)
  have hself : Below w0.heap.size w0 w0.drew := (Below.refl _ _).drew
  obtain ⟨x0, x1, x2, x3, x4, x5, x6, x7⟩ := hcells _ hself
  have Hcells := Lib.hid hcells
  have HI := Lib.hid hI
  have Hk0 := Lib.hid hk0
  clear hcells hI hk0
  go_region_held3 (fun W => W.cell? ⟨w.heap.size, 0, none⟩ = some (.int .i64 o.kind) ∧ W.cell? ⟨w.heap.size, 1, none⟩ = some (.int .i64 o.k) ∧ W.cell? ⟨w.heap.size, 2, none⟩ = some (.int .i64 o.width) ∧ W.cell? ⟨w.heap.size, 3, none⟩ = some (.int .i64 o.step) ∧ W.cell? ⟨w.heap.size, 4, none⟩ = some (.int .i64 o.side) ∧ W.cell? ⟨w.heap.size, 5, none⟩ = some (.int .i64 o.frm) ∧ W.cell? ⟨w.heap.size, 6, none⟩ = some (.int .i64 o.to) ∧ W.cell? ⟨w.heap.size, 7, none⟩ = some (.slice S o.s.length c)) (first | exact Hcells.out _ hbc | exact Hcells.out _ hbb | exact Hcells.out _ hself)
    (first
      | (go_at_call 74; refine (op_used o S c _).mono ?_; rintro e wa ⟨S', c', rfl, hcase, ha⟩; have hbb := hself.trans (ha.mono hself.size); have HC := Lib.hid hcase; clear hcase)
      | (go_at_call 48; refine (op_equal o (Od.used o) S S' c c' _ ho (by omega) (HI.out.below (hb0.trans (hbb.mono hb0.size)) (Nat.le_refl _)) (by rcases HC.out with ⟨e1, e2⟩ | e2; (rw [e1, e2]; exact HI.out.below (hb0.trans (hbb.mono hb0.size)) (Nat.le_refl _)); (rw [e2]; exact Ints.nil))).mono ?_; rintro e wd ⟨rfl, hd⟩; have hbc := hbb.trans (hd.mono hbb.size)))
  all_goals
    go_wp2_with fail
    go_ret
    exact ⟨by rw [HR.out]; rfl, hb0.trans (hbc.mono hb0.size)⟩
end Go.Proofs.Ytjkhpbngpceenaa

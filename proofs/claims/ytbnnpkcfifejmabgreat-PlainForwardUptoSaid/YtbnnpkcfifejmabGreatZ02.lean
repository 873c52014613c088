/- Lemmas for the statements of this seat: contracts of functions and the plain laws. -/
import Derived.Deep.RegionHeld3
import Derived.StillTailTactics
import Derived.Test.YtbnnpkcfifejmabGreatZ01
set_option linter.unusedVariables false
namespace Go.Proofs.YtbnnpkcfifejmabGreat
open Go.RowKit
theorem used_len (o : OpD) : (Od.used o).s.length ≤ o.s.length := by
 unfold Od.used
 repeat' split
 all_goals simp
set_option maxHeartbeats 4000000 in
theorem op_right (o : OpD) (S : Option Addr) (c : Nat) (w : World) (ho : o.s.length ≤ 17592186043904) (hI : Ints .i64 w S o.s) :
  Calls Tryz.prog 52 #[.agg #[.int .i64 o.kind, .int .i64 o.k, .int .i64 o.width, .int .i64 o.step, .int .i64 o.side, .int .i64 o.frm, .int .i64 o.to, .slice S o.s.length c]] w fun e w' => e = .returned (.bool (Od.right o)) ∧ Below w.heap.size w w' := by
 have hk0 := Blk.new w 45 #[.int .i64 o.kind, .int .i64 o.k, .int .i64 o.width, .int .i64 o.step, .int .i64 o.side, .int .i64 o.frm, .int .i64 o.to, .slice S o.s.length c]
 have hb0 : Below w.heap.size w (w.alloc (.cells #[.int .i64 o.kind, .int .i64 o.k, .int .i64 o.width, .int .i64 o.step, .int .i64 o.side, .int .i64 o.frm, .int .i64 o.to, .slice S o.s.length c] 45)) := (Below.refl _ _).alloc (Nat.le_refl _) _
 have hlt0 := hk0.lt
 have hul := used_len o
 by_cases h1 : 1 ≤ o.kind
 case neg =>
  have HR := Lib.hid (show Od.right o = false by simp [Od.right]; omega)
  have d1 : decide (1 ≤ o.kind) = false := by simp; omega
  have d1' : decide (o.kind ≥ 1) = false := d1
  go_enter Tryz.func52, Tryz.ntmps52
  go_wp2_with fail
  first
   | (go_region_with (fail))
   | skip
  all_goals
   go_wp2_with fail
   go_ret
   exact ⟨by rw [HR.out]; rfl, by first | exact hb0 | exact hb0.drew⟩
 by_cases h15 : o.kind ≤ 15
 case neg =>
  have HR := Lib.hid (show Od.right o = false by simp [Od.right]; omega)
  have d1 : decide (1 ≤ o.kind) = true := by simp; omega
  have d2 : decide (o.kind ≤ 15) = false := by simp; omega
  go_enter Tryz.func52, Tryz.ntmps52
  go_wp2_with fail
  first
   | (go_region_with (fail))
   | skip
  all_goals
   go_wp2_with fail
   go_ret
   exact ⟨by rw [HR.out]; rfl, by first | exact hb0 | exact hb0.drew⟩
 have HR := Lib.hid (show Od.right o = decide (o = Od.used o) by simp [Od.right, h1, h15])
 have d1 : decide (1 ≤ o.kind) = true := by simp; omega
 have d2 : decide (o.kind ≤ 15) = true := by simp; omega
 go_enter Tryz.func52, Tryz.ntmps52
 go_wp2_with fail
 generalize (w.alloc (.cells #[.int .i64 o.kind, .int .i64 o.k, .int .i64 o.width, .int .i64 o.step, .int .i64 o.side, .int .i64 o.frm, .int .i64 o.to, .slice S o.s.length c] 45)) = w0 at *
 have hcells : ∀ W, Below w0.heap.size w0 W → W.cell? ⟨w.heap.size, 0, none⟩ = some (.int .i64 o.kind) ∧ W.cell? ⟨w.heap.size, 1, none⟩ = some (.int .i64 o.k) ∧ W.cell? ⟨w.heap.size, 2, none⟩ = some (.int .i64 o.width) ∧ W.cell? ⟨w.heap.size, 3, none⟩ = some (.int .i64 o.step) ∧ W.cell? ⟨w.heap.size, 4, none⟩ = some (.int .i64 o.side) ∧ W.cell? ⟨w.heap.size, 5, none⟩ = some (.int .i64 o.frm) ∧ W.cell? ⟨w.heap.size, 6, none⟩ = some (.int .i64 o.to) ∧ W.cell? ⟨w.heap.size, 7, none⟩ = some (.slice S o.s.length c) := fun W hW => by
  have k0 := hk0.below hW hlt0
  have e := fun i => k0.cell i
  refine ⟨?_, ?_, ?_, ?_, ?_, ?_, ?_, ?_⟩
  all_goals (rw [e]; rfl)
 have hself : Below w0.heap.size w0 w0.drew := (Below.refl _ _).drew
 obtain ⟨x0, x1, x2, x3, x4, x5, x6, x7⟩ := hcells _ hself
 have Hcells := Lib.hid hcells
 have HI := Lib.hid hI
 have Hk0 := Lib.hid hk0
 clear hcells hI hk0
 go_region_held3 (fun W => W.cell? ⟨w.heap.size, 0, none⟩ = some (.int .i64 o.kind) ∧ W.cell? ⟨w.heap.size, 1, none⟩ = some (.int .i64 o.k) ∧ W.cell? ⟨w.heap.size, 2, none⟩ = some (.int .i64 o.width) ∧ W.cell? ⟨w.heap.size, 3, none⟩ = some (.int .i64 o.step) ∧ W.cell? ⟨w.heap.size, 4, none⟩ = some (.int .i64 o.side) ∧ W.cell? ⟨w.heap.size, 5, none⟩ = some (.int .i64 o.frm) ∧ W.cell? ⟨w.heap.size, 6, none⟩ = some (.int .i64 o.to) ∧ W.cell? ⟨w.heap.size, 7, none⟩ = some (.slice S o.s.length c)) (first | exact Hcells.out _ hbc | exact Hcells.out _ hbb | exact Hcells.out _ hself)
  (first
   | (go_at_call 95; refine (op_used o S c _).mono ?_; rintro e wa ⟨S', c', rfl, hcase, ha⟩; have hbb := hself.trans (ha.mono hself.size); have HC := Lib.hid hcase; clear hcase)
   | (go_at_call 94; refine (op_equal o (Od.used o) S S' c c' _ ho (by omega) (HI.out.below (hb0.trans (hbb.mono hb0.size)) (Nat.le_refl _)) (by rcases HC.out with ⟨e1, e2⟩ | e2; (rw [e1, e2]; exact HI.out.below (hb0.trans (hbb.mono hb0.size)) (Nat.le_refl _)); (rw [e2]; exact Ints.nil))).mono ?_; rintro e wd ⟨rfl, hd⟩; have hbc := hbb.trans (hd.mono hbb.size)))
 all_goals
  go_wp2_with fail
  go_ret
  exact ⟨by rw [HR.out]; rfl, hb0.trans (hbc.mono hb0.size)⟩
end Go.Proofs.YtbnnpkcfifejmabGreat
namespace Go.Proofs.YtbnnpkcfifejmabGreat
open Go.RowKit
theorem op_cells {W : World} {g : Nat} {t : TypeId} {o : OpD} {S : Option Addr} {c : Nat} (h : Blk W g t #[.int .i64 o.kind, .int .i64 o.k, .int .i64 o.width, .int .i64 o.step, .int .i64 o.side, .int .i64 o.frm, .int .i64 o.to, .slice S o.s.length c]) :
  W.cell? ⟨g, 0, none⟩ = some (.int .i64 o.kind) ∧ W.cell? ⟨g, 1, none⟩ = some (.int .i64 o.k) ∧ W.cell? ⟨g, 2, none⟩ = some (.int .i64 o.width) ∧ W.cell? ⟨g, 3, none⟩ = some (.int .i64 o.step) ∧ W.cell? ⟨g, 4, none⟩ = some (.int .i64 o.side) ∧ W.cell? ⟨g, 5, none⟩ = some (.int .i64 o.frm) ∧ W.cell? ⟨g, 6, none⟩ = some (.int .i64 o.to) ∧ W.cell? ⟨g, 7, none⟩ = some (.slice S o.s.length c) := by
 have e := fun i => h.cell i
 refine ⟨?_, ?_, ?_, ?_, ?_, ?_, ?_, ?_⟩
 all_goals (rw [e]; rfl)
set_option maxHeartbeats 1000000 in
theorem point_ins (k : Int) (w : World) : Calls Tryz.prog 100 #[.int .i64 k] w fun e w' => e = .returned (.int .i64 (Od.ptIns k)) ∧ w = w' := by
 by_cases h : 1 ≤ k ∧ k ≤ 7
 ·have hk : k = 1 ∨ k = 2 ∨ k = 3 ∨ k = 4 ∨ k = 5 ∨ k = 6 ∨ k = 7 := by omega
  rcases hk with rfl | rfl | rfl | rfl | rfl | rfl | rfl
  all_goals
   go_enter Tryz.func100, Tryz.ntmps100
   go_wp2_with fail
   go_ret
   exact ⟨rfl, rfl⟩
 ·have HP := Lib.hid (show Od.ptIns k = 0 by unfold Od.ptIns; rw [if_neg (by omega), if_neg (by omega)])
  have n1 : (k == 1) = false := by simp; omega
  have n2 : (k == 2) = false := by simp; omega
  have n3 : (k == 3) = false := by simp; omega
  have n4 : (k == 4) = false := by simp; omega
  have n5 : (k == 5) = false := by simp; omega
  have n6 : (k == 6) = false := by simp; omega
  have n7 : (k == 7) = false := by simp; omega
  clear h
  go_enter Tryz.func100, Tryz.ntmps100
  go_wp2_with fail
  go_ret
  exact ⟨by rw [HP.out]; rfl, rfl⟩
set_option maxHeartbeats 1000000 in
theorem op_ins (o : OpD) (S : Option Addr) (c : Nat) (w : World) (ho : o.s.length ≤ 17592186043904) (hI : Ints .i64 w S o.s) :
  Calls Tryz.prog 58 #[.agg #[.int .i64 o.kind, .int .i64 o.k, .int .i64 o.width, .int .i64 o.step, .int .i64 o.side, .int .i64 o.frm, .int .i64 o.to, .slice S o.s.length c]] w fun e w' => e = .returned (.tuple #[.int .i64 (Od.least o), .int .i64 (Od.most o)]) ∧ Below w.heap.size w w' := by
 have hk0 := Blk.new w 45 #[.int .i64 o.kind, .int .i64 o.k, .int .i64 o.width, .int .i64 o.step, .int .i64 o.side, .int .i64 o.frm, .int .i64 o.to, .slice S o.s.length c]
 have hb0 : Below w.heap.size w (w.alloc (.cells #[.int .i64 o.kind, .int .i64 o.k, .int .i64 o.width, .int .i64 o.step, .int .i64 o.side, .int .i64 o.frm, .int .i64 o.to, .slice S o.s.length c] 45)) := (Below.refl _ _).alloc (Nat.le_refl _) _
 have hlt0 := hk0.lt
 have hr := op_right o S c (w.alloc (.cells #[.int .i64 o.kind, .int .i64 o.k, .int .i64 o.width, .int .i64 o.step, .int .i64 o.side, .int .i64 o.frm, .int .i64 o.to, .slice S o.s.length c] 45)) ho (hI.alloc _)
 cases hq : Od.right o
 ·have HL := Lib.hid (show Od.least o = 0 ∧ Od.most o = 0 by simp [Od.least, Od.most, hq])
  rw [hq] at hr
  have Hr := Lib.hid hr
  have Hk0 := Lib.hid hk0
  have Hq := Lib.hid hq
  have HI := Lib.hid hI
  clear hr hk0 hq hI
  go_enter Tryz.func58, Tryz.ntmps58
  go_wp2_with fail
  refine (Hr.out).mono ?_
  rintro e w1 ⟨rfl, h1⟩
  go_wp2_with fail
  go_ret2
  exact ⟨by rw [HL.out.1, HL.out.2]; rfl, hb0.trans (h1.mono hb0.size)⟩
 ·have hkd := Od.right_kind hq
  rw [hq] at hr
  by_cases h7 : o.kind ≤ 7
  ·have HL := Lib.hid (show Od.least o = Od.ptIns o.kind ∧ Od.most o = Od.ptIns o.kind by simp [Od.least, Od.most, hq, h7])
   have Hr := Lib.hid hr
   have Hk0 := Lib.hid hk0
   have Hq := Lib.hid hq
   have HI := Lib.hid hI
   clear hr hk0 hq hI
   go_enter Tryz.func58, Tryz.ntmps58
   go_wp2_with fail
   refine (Hr.out).mono ?_
   rintro e w1 ⟨rfl, h1⟩
   obtain ⟨x0, -⟩ := op_cells (Hk0.out.below h1 hlt0)
   go_wp2_with fail
   refine (point_ins o.kind _).mono ?_
   rintro e w2 ⟨rfl, rfl⟩
   go_wp2_with fail
   go_ret2
   exact ⟨by rw [HL.out.1, HL.out.2]; rfl, hb0.trans (h1.mono hb0.size)⟩
  ·by_cases h13 : o.kind = 13
   ·have HL := Lib.hid (show Od.least o = 1 ∧ Od.most o = 8 by simp [Od.least, Od.most, hq, h13])
    have Hr := Lib.hid hr
    have Hk0 := Lib.hid hk0
    have Hq := Lib.hid hq
    have HI := Lib.hid hI
    have H13 := Lib.hid h13
    clear hr hk0 hq hI h13
    go_enter Tryz.func58, Tryz.ntmps58
    go_wp2_with fail
    refine (Hr.out).mono ?_
    rintro e w1 ⟨rfl, h1⟩
    obtain ⟨x0, -⟩ := op_cells (Hk0.out.below h1 hlt0)
    rw [H13.out] at x0
    go_wp2_with fail
    go_ret2
    exact ⟨by rw [HL.out.1, HL.out.2]; rfl, hb0.trans (h1.mono hb0.size)⟩
   ·have HL := Lib.hid (show Od.least o = 1 ∧ Od.most o = 1 by simp [Od.least, Od.most, hq, h13, h7])
    have n13 : (o.kind == 13) = false := by simp; omega
    have Hr := Lib.hid hr
    have Hk0 := Lib.hid hk0
    have Hq := Lib.hid hq
    have HI := Lib.hid hI
    clear hr hk0 hq hI
    go_enter Tryz.func58, Tryz.ntmps58
    go_wp2_with fail
    refine (Hr.out).mono ?_
    rintro e w1 ⟨rfl, h1⟩
    obtain ⟨x0, -⟩ := op_cells (Hk0.out.below h1 hlt0)
    go_wp2_with fail
    go_ret2
    exact ⟨by rw [HL.out.1, HL.out.2]; rfl, hb0.trans (h1.mono hb0.size)⟩
set_option maxHeartbeats 1000000 in
theorem op_params (o : OpD) (S : Option Addr) (c : Nat) (w : World) (ho : o.s.length ≤ 17592186043904) (hI : Ints .i64 w S o.s) :
  Calls Tryz.prog 59 #[.agg #[.int .i64 o.kind, .int .i64 o.k, .int .i64 o.width, .int .i64 o.step, .int .i64 o.side, .int .i64 o.frm, .int .i64 o.to, .slice S o.s.length c]] w fun e w' => e = .returned (.int .i64 (Od.params o)) ∧ Below w.heap.size w w' := by
 have hk0 := Blk.new w 45 #[.int .i64 o.kind, .int .i64 o.k, .int .i64 o.width, .int .i64 o.step, .int .i64 o.side, .int .i64 o.frm, .int .i64 o.to, .slice S o.s.length c]
 have hb0 : Below w.heap.size w (w.alloc (.cells #[.int .i64 o.kind, .int .i64 o.k, .int .i64 o.width, .int .i64 o.step, .int .i64 o.side, .int .i64 o.frm, .int .i64 o.to, .slice S o.s.length c] 45)) := (Below.refl _ _).alloc (Nat.le_refl _) _
 have hlt0 := hk0.lt
 have hr := op_right o S c (w.alloc (.cells #[.int .i64 o.kind, .int .i64 o.k, .int .i64 o.width, .int .i64 o.step, .int .i64 o.side, .int .i64 o.frm, .int .i64 o.to, .slice S o.s.length c] 45)) ho (hI.alloc _)
 cases hq : Od.right o
 ·have HL := Lib.hid (show Od.params o = 0 by simp [Od.params, hq])
  rw [hq] at hr
  have Hr := Lib.hid hr
  have Hk0 := Lib.hid hk0
  have Hq := Lib.hid hq
  have HI := Lib.hid hI
  clear hr hk0 hq hI
  go_enter Tryz.func59, Tryz.ntmps59
  go_wp2_with fail
  refine (Hr.out).mono ?_
  rintro e w1 ⟨rfl, h1⟩
  go_wp2_with fail
  go_ret
  exact ⟨by rw [HL.out]; rfl, hb0.trans (h1.mono hb0.size)⟩
 ·rw [hq] at hr
  by_cases h8 : o.kind = 8 ∨ o.kind = 9 ∨ o.kind = 10
  ·have HL := Lib.hid (show Od.params o = if o.kind = 8 then 2 else 1 by unfold Od.params; rw [if_pos hq]; rcases h8 with h | h | h <;> simp [h])
   have Hr := Lib.hid hr
   have Hk0 := Lib.hid hk0
   have Hq := Lib.hid hq
   have HI := Lib.hid hI
   clear hr hk0 hq hI
   rcases h8 with h8 | h8 | h8
   all_goals
    have H8 := Lib.hid h8
    clear h8
    go_enter Tryz.func59, Tryz.ntmps59
    go_wp2_with fail
    refine (Hr.out).mono ?_
    rintro e w1 ⟨rfl, h1⟩
    obtain ⟨x0, -⟩ := op_cells (Hk0.out.below h1 hlt0)
    rw [H8.out] at x0
    go_wp2_with fail
    go_ret
    exact ⟨by rw [HL.out, H8.out]; rfl, hb0.trans (h1.mono hb0.size)⟩
  ·have HL := Lib.hid (show Od.params o = 0 by unfold Od.params; rw [if_pos hq, if_neg (by omega), if_neg (by omega)])
   have n8 : (o.kind == 8) = false := by simp; omega
   have n9 : (o.kind == 9) = false := by simp; omega
   have n10 : (o.kind == 10) = false := by simp; omega
   have Hr := Lib.hid hr
   have Hk0 := Lib.hid hk0
   have Hq := Lib.hid hq
   have HI := Lib.hid hI
   clear hr hk0 hq hI
   clear h8
   go_enter Tryz.func59, Tryz.ntmps59
   go_wp2_with fail
   refine (Hr.out).mono ?_
   rintro e w1 ⟨rfl, h1⟩
   obtain ⟨x0, -⟩ := op_cells (Hk0.out.below h1 hlt0)
   go_wp2_with fail
   go_ret
   exact ⟨by rw [HL.out]; rfl, hb0.trans (h1.mono hb0.size)⟩
set_option maxHeartbeats 1000000 in
theorem op_counts (o : OpD) (S : Option Addr) (c : Nat) (p x : Int) (w : World) (ho : o.s.length ≤ 17592186043904) (hI : Ints .i64 w S o.s) :
  Calls Tryz.prog 26 #[.agg #[.int .i64 o.kind, .int .i64 o.k, .int .i64 o.width, .int .i64 o.step, .int .i64 o.side, .int .i64 o.frm, .int .i64 o.to, .slice S o.s.length c], .int .i64 p, .int .i64 x] w fun e w' => e = .returned (.int .i64 (Od.counts o p x)) ∧ Below w.heap.size w w' := by
 have hk0 := Blk.new w 45 #[.int .i64 o.kind, .int .i64 o.k, .int .i64 o.width, .int .i64 o.step, .int .i64 o.side, .int .i64 o.frm, .int .i64 o.to, .slice S o.s.length c]
 have hb0 : Below w.heap.size w (w.alloc (.cells #[.int .i64 o.kind, .int .i64 o.k, .int .i64 o.width, .int .i64 o.step, .int .i64 o.side, .int .i64 o.frm, .int .i64 o.to, .slice S o.s.length c] 45)) := (Below.refl _ _).alloc (Nat.le_refl _) _
 have hlt0 := hk0.lt
 have hr := op_right o S c (w.alloc (.cells #[.int .i64 o.kind, .int .i64 o.k, .int .i64 o.width, .int .i64 o.step, .int .i64 o.side, .int .i64 o.frm, .int .i64 o.to, .slice S o.s.length c] 45)) ho (hI.alloc _)
 cases hq : Od.right o
 ·have HL := Lib.hid (show Od.counts o p x = 21 by simp [Od.counts, hq])
  rw [hq] at hr
  have Hr := Lib.hid hr
  have Hk0 := Lib.hid hk0
  have Hq := Lib.hid hq
  have HI := Lib.hid hI
  clear hr hk0 hq hI
  go_enter Tryz.func26, Tryz.ntmps26
  go_wp2_with fail
  refine (Hr.out).mono ?_
  rintro e w1 ⟨rfl, h1⟩
  go_wp2_with fail
  go_ret
  exact ⟨by rw [HL.out]; rfl, hb0.trans (h1.mono hb0.size)⟩
 ·rw [hq] at hr
  have HL := Lib.hid (show Od.counts o p x = if x < Od.least o ∨ Od.most o < x ∨ p ≠ Od.params o then 20 else 0 by simp [Od.counts, hq])
  have Hr := Lib.hid hr
  have Hk0 := Lib.hid hk0
  have Hq := Lib.hid hq
  have HI := Lib.hid hI
  clear hr hk0 hq hI
  go_enter Tryz.func26, Tryz.ntmps26
  go_wp2_with fail
  refine (Hr.out).mono ?_
  rintro e w1 ⟨rfl, h1⟩
  obtain ⟨x0, x1, x2, x3, x4, x5, x6, x7⟩ := op_cells (Hk0.out.below h1 hlt0)
  go_wp2_with fail
  refine (op_ins o S c _ ho (HI.out.below (hb0.trans (h1.mono hb0.size)) (Nat.le_refl _))).mono ?_
  rintro e w2 ⟨rfl, h2⟩
  clear x0 x1 x2 x3 x4 x5 x6 x7
  have hb2 := h1.trans (h2.mono h1.size)
  by_cases hx1 : x < Od.least o
  ·go_wp2_with fail
   go_ret
   exact ⟨by rw [HL.out, if_pos (.inl hx1)]; rfl, hb0.trans (hb2.mono hb0.size)⟩
  ·by_cases hx2 : Od.most o < x
   ·go_wp2_with fail
    go_ret
    exact ⟨by rw [HL.out, if_pos (.inr (.inl hx2))]; rfl, hb0.trans (hb2.mono hb0.size)⟩
   ·obtain ⟨x0, x1, x2, x3, x4, x5, x6, x7⟩ := op_cells (Hk0.out.below hb2 hlt0)
    go_wp2_with fail
    refine (op_params o S c _ ho (HI.out.below (hb0.trans (hb2.mono hb0.size)) (Nat.le_refl _))).mono ?_
    rintro e w3 ⟨rfl, h3⟩
    clear x0 x1 x2 x3 x4 x5 x6 x7
    have hb3 := hb2.trans (h3.mono hb2.size)
    by_cases hp : p = Od.params o
    ·have hp' : (p != Od.params o) = false := by simp [hp]
     have HE := Lib.hid (show Od.counts o p x = 0 by rw [HL.out, if_neg (by omega)])
     clear hp
     go_wp2_with fail
     go_ret
     exact ⟨by rw [HE.out]; rfl, hb0.trans (hb3.mono hb0.size)⟩
    ·have hp' : (p != Od.params o) = true := by simp [hp]
     have HE := Lib.hid (show Od.counts o p x = 20 by rw [HL.out, if_pos (.inr (.inr hp))])
     clear hp
     go_wp2_with fail
     go_ret
     exact ⟨by rw [HE.out]; rfl, hb0.trans (hb3.mono hb0.size)⟩
end Go.Proofs.YtbnnpkcfifejmabGreat
namespace Go.Proofs.YtbnnpkcfifejmabGreat
open Go.RowKit
def ShPost (r : List Int × Int) (w : World) (e : Ending) (w' : World) : Prop :=
 ∃ S c, e = .returned (.tuple #[.slice S r.1.length c, .int .i64 r.2]) ∧ Ints .i64 w' S r.1 ∧ r.1.length ≤ c ∧ c ≤ 9223372036854775807 ∧ (∀ a, S = some a → w.heap.size ≤ a.block) ∧ Below w.heap.size w w'
theorem ShPost.fail {r : List Int × Int} {w w' : World} {n : Int} (hr : r = ([], n)) (hb : Below w.heap.size w w') : ShPost r w (.returned (.tuple #[.slice none 0 0, .int .i64 n])) w' := by
 subst hr
 exact ⟨_, _, rfl, Ints.nil, by simp, by omega, (fun a h => by cases h), hb⟩
theorem ShPost.fresh {r : List Int × Int} {w w' : World} {g c n : Nat} {l : List Int} {t : TypeId} (hr : r = (l, 0)) (hn : n = l.length) (hg : w.heap.size ≤ g) (hk : Blk w' g t (l.map (Value.int .i64)).toArray) (hc : l.length ≤ c) (hm : c ≤ 9223372036854775807) (hb : Below w.heap.size w w') :
  ShPost r w (.returned (.tuple #[.slice (some ⟨g, 0, none⟩) n c, .int .i64 0])) w' := by
 subst hr hn
 refine ⟨_, _, rfl, Ints.of_row fun j hj => ?_, hc, hm, (fun a h => by injection h with h; subst h; exact hg), hb⟩
 rw [hk.cell]
 simp [hj]
theorem ShPost.mk' {r : List Int × Int} {w w' : World} {S : Option Addr} {c n : Nat} {l : List Int} (hr : r = (l, 0)) (hn : n = l.length) (hI : Ints .i64 w' S l) (hc : l.length ≤ c) (hm : c ≤ 9223372036854775807) (hS : ∀ a, S = some a → w.heap.size ≤ a.block) (hb : Below w.heap.size w w') :
  ShPost r w (.returned (.tuple #[.slice S n c, .int .i64 0])) w' := by
 subst hr hn
 exact ⟨_, _, rfl, hI, hc, hm, hS, hb⟩
theorem Blk.ints_set {w : World} {g i : Nat} {t : TypeId} {l : List Int} {n : Int} (h : Blk w g t (l.map (Value.int .i64)).toArray) : Blk (w.setCell ⟨g, i, none⟩ (.int .i64 n)) g t ((l.set i n).map (Value.int .i64)).toArray := by
 have := h.set_ i (.int .i64 n)
 simpa using this
theorem types_of {P : Program} {t : TypeId} {i : TypeInfo} (hi : P.info? t = some i) (h : t < P.types.size) : P.types[t] = i := by
 unfold Tables.info? at hi
 rw [Array.getElem?_eq_getElem h, if_pos h] at hi
 exact Option.some.inj hi
theorem int_cells (h : 3 < Tryz.prog.types.size) : (Tryz.prog.types[3]'h).size = 1 := by
 obtain ⟨i0, hi, h0, h1, h2⟩ := info_parts int_info
 rw [types_of hi h]
 exact h1
theorem run_index3_0 (w : World) (a b c : Int) : (Instr.index 127 (.agg #[.int .i64 a, .int .i64 b, .int .i64 c]) (.int .i64 0)).run Tryz.prog w = .ok (.int .i64 a) w := by
 simp [Instr.index, run_underlying Tryz.underlying127, asIntOf, go_sem]
theorem run_index3_1 (w : World) (a b c : Int) : (Instr.index 127 (.agg #[.int .i64 a, .int .i64 b, .int .i64 c]) (.int .i64 1)).run Tryz.prog w = .ok (.int .i64 b) w := by
 simp [Instr.index, run_underlying Tryz.underlying127, asIntOf, go_sem]
theorem run_index3_2 (w : World) (a b c : Int) : (Instr.index 127 (.agg #[.int .i64 a, .int .i64 b, .int .i64 c]) (.int .i64 2)).run Tryz.prog w = .ok (.int .i64 c) w := by
 simp [Instr.index, run_underlying Tryz.underlying127, asIntOf, go_sem]
set_option maxHeartbeats 2000000 in
set_option maxRecDepth 100000 in
theorem shape_window (side width step : Int) (w : World) :
  Calls Tryz.prog 104 #[.int .i64 side, .int .i64 width, .int .i64 step] w fun e w' => e = .returned (.tuple #[.int .i64 (Od.window side width step).1, .int .i64 (Od.window side width step).2]) ∧ w = w' := by
 have bad : ¬ (Sh.side side = true ∧ Sh.side width = true ∧ Sh.side step = true ∧ width ≤ side) → Hid (Od.window side width step = (0, 11)) := fun h => Lib.hid (by unfold Od.window; rw [if_neg h])
 have r0 := fun W => run_index3_0 W side width step
 have r1 := fun W => run_index3_1 W side width step
 have r2 := fun W => run_index3_2 W side width step
 go_enter Tryz.func104, Tryz.ntmps104
 go_wp2_with fail
 go_loopw [14] (fun i wr => wr = w ∧ ∃ k : Nat, k ≤ 3 ∧ i = .int .i64 k ∧ (0 < k → Sh.side side = true) ∧ (1 < k → Sh.side width = true) ∧ (2 < k → Sh.side step = true)) (fun i _ => 3 - (intOf i).toNat)
 case atStart => exact ⟨rfl, 0, by omega, rfl, by omega, by omega, by omega⟩
 case round =>
  obtain ⟨rfl, k, hk, rfl, h1, h2, h3⟩ := hrel
  have hkk : k = 0 ∨ k = 1 ∨ k = 2 ∨ k = 3 := by omega
  rcases hkk with rfl | rfl | rfl | rfl
  ·by_cases a1 : side < 1
   ·have HB := bad (by rw [Sh.side_iff]; omega)
    clear bad h1 h2 h3
    go_wp2_with fail
    go_ret2
    exact ⟨by rw [HB.out]; rfl, rfl⟩
   ·by_cases a2 : 1024 < side
    ·have HB := bad (by rw [Sh.side_iff]; omega)
     clear bad h1 h2 h3
     go_wp2_with fail
     go_ret2
     exact ⟨by rw [HB.out]; rfl, rfl⟩
    ·clear bad h1 h2 h3
     go_wp2_with fail
     go_roundw
     case rel => exact ⟨trivial, 1, by omega, by go_num, fun _ => (Sh.side_iff _).2 (by omega), by omega, by omega⟩
     case measure => simp [intOf]
  ·by_cases a1 : width < 1
   ·have HB := bad (by rw [Sh.side_iff, Sh.side_iff]; omega)
    clear bad h1 h2 h3
    go_wp2_with fail
    go_ret2
    exact ⟨by rw [HB.out]; rfl, rfl⟩
   ·by_cases a2 : 1024 < width
    ·have HB := bad (by rw [Sh.side_iff, Sh.side_iff]; omega)
     clear bad h1 h2 h3
     go_wp2_with fail
     go_ret2
     exact ⟨by rw [HB.out]; rfl, rfl⟩
    ·have H1 := Lib.hid (h1 (by omega))
     clear bad h1 h2 h3
     go_wp2_with fail
     go_roundw
     case rel => exact ⟨trivial, 2, by omega, by go_num, fun _ => H1.out, fun _ => (Sh.side_iff _).2 (by omega), by omega⟩
     case measure => simp [intOf]
  ·by_cases a1 : step < 1
   ·have HB := bad (by rw [Sh.side_iff, Sh.side_iff, Sh.side_iff]; omega)
    clear bad h1 h2 h3
    go_wp2_with fail
    go_ret2
    exact ⟨by rw [HB.out]; rfl, rfl⟩
   ·by_cases a2 : 1024 < step
    ·have HB := bad (by rw [Sh.side_iff, Sh.side_iff, Sh.side_iff]; omega)
     clear bad h1 h2 h3
     go_wp2_with fail
     go_ret2
     exact ⟨by rw [HB.out]; rfl, rfl⟩
    ·have H1 := Lib.hid (h1 (by omega))
     have H2 := Lib.hid (h2 (by omega))
     clear bad h1 h2 h3
     go_wp2_with fail
     go_roundw
     case rel => exact ⟨trivial, 3, by omega, by go_num, fun _ => H1.out, fun _ => H2.out, fun _ => (Sh.side_iff _).2 (by omega)⟩
     case measure => simp [intOf]
  ·have h1 := h1 (by omega)
   have h2 := h2 (by omega)
   have h3 := h3 (by omega)
   by_cases hw : side < width
   ·have HB := bad (by omega)
    clear bad h1 h2 h3
    go_wp2_with fail
    go_ret2
    exact ⟨by rw [HB.out]; rfl, rfl⟩
   ·have HG := Lib.hid (show Od.window side width step = (1 + (side - width).tdiv step, 0) by unfold Od.window; rw [if_pos ⟨h1, h2, h3, by omega⟩])
    rw [Sh.side_iff] at h1 h2 h3
    have q1 : 0 ≤ (side - width).tdiv step := Int.tdiv_nonneg (by omega) (by omega)
    have q2 : (side - width).tdiv step ≤ side - width := Int.tdiv_le_self _ (by omega)
    clear bad
    go_wp2_with fail
    go_ret2
    exact ⟨by rw [HG.out]; rfl, rfl⟩
end Go.Proofs.YtbnnpkcfifejmabGreat
namespace Go.Proofs.YtbnnpkcfifejmabGreat
open Go.RowKit
theorem getD_at {l : List Int} {k : Nat} (h : k < l.length) : l.getD k 0 = l[k] := by rw [List.getD_eq_getElem?_getD, List.getElem?_eq_getElem h]; rfl
theorem Ints.cell_at {w : World} {k : IntKind} {b off j : Nat} {zs : List Int} (h : Ints k w (some ⟨b, off, none⟩) zs) (hj : j < zs.length) : w.cell? ⟨b, off + j, none⟩ = some (.int k zs[j]) := by
 obtain ⟨b1, o1, e, _, hc⟩ := h j hj
 injection e with e
 injection e with e1 e2
 subst e1 e2
 rw [getD_at hj] at hc
 exact hc
set_option maxHeartbeats 2000000 in
theorem shape_cut (A : Option Addr) (c : Nat) (zs : List Int) (side frm to_ : Int) (w : World) (hl : zs.length ≤ 17592186043904) (hI : Ints .i64 w A zs) :
  Calls Tryz.prog 114 #[.slice A zs.length c, .int .i64 side, .int .i64 frm, .int .i64 to_] w (ShPost (Od.cut zs side frm to_) w) := by
 have hcall := shape_right A c zs w (by omega) hI
 cases hr : Sh.right zs
 ·have HE := Lib.hid (show Od.cut zs side frm to_ = ([], 20) by simp [Od.cut, hr])
  rw [hr] at hcall
  have Hr := Lib.hid hr
  have HI := Lib.hid hI
  have Hcall := Lib.hid hcall
  clear hr hI hcall
  go_enter Tryz.func114, Tryz.ntmps114
  go_wp2_with fail
  refine (Hcall.out).mono ?_
  rintro e w1 ⟨rfl, h1⟩
  go_wp2_with fail
  go_ret2
  exact ShPost.fail HE.out h1
 ·have fail : ¬ (0 ≤ side ∧ side < zs.length ∧ 0 ≤ frm ∧ to_ ≤ Od.at_ zs side ∧ frm < to_) → Od.cut zs side frm to_ = ([], 11) := fun h => by
   unfold Od.cut
   rw [if_pos hr, if_neg]
   simp [Od.inR]
   omega
  have good : (0 ≤ side ∧ side < zs.length ∧ 0 ≤ frm ∧ to_ ≤ Od.at_ zs side ∧ frm < to_) → Od.cut zs side frm to_ = (zs.set side.toNat (to_ - frm), 0) := fun h => by
   unfold Od.cut
   rw [if_pos hr, if_pos]
   simp [Od.inR]
   omega
  obtain ⟨_, a1, a2, a3, -⟩ := Sh.right_mul hr
  rw [hr] at hcall
  have Hr := Lib.hid hr
  have HI := Lib.hid hI
  have Hcall := Lib.hid hcall
  have Ha3 := Lib.hid a3
  clear hr hI hcall a3
  by_cases c1 : side < 0
  ·have HE := Lib.hid (fail (by omega))
   clear fail good
   go_enter Tryz.func114, Tryz.ntmps114
   go_wp2_with fail
   refine (Hcall.out).mono ?_
   rintro e w1 ⟨rfl, h1⟩
   go_wp2_with fail
   go_ret2
   exact ShPost.fail HE.out h1
  obtain ⟨k, rfl⟩ : ∃ k : Nat, side = k := ⟨side.toNat, by omega⟩
  by_cases c2 : zs.length ≤ k
  ·have HE := Lib.hid (fail (by omega))
   clear fail good
   go_enter Tryz.func114, Tryz.ntmps114
   go_wp2_with fail
   refine (Hcall.out).mono ?_
   rintro e w1 ⟨rfl, h1⟩
   go_wp2_with fail
   go_ret2
   exact ShPost.fail HE.out h1
  have hk : k < zs.length := by omega
  have hat : Od.at_ zs k = zs[k] := by unfold Od.at_; rw [show ((k : Int)).toNat = k by omega, getD_at hk]
  rw [hat] at fail good
  have hz := Ha3.out _ (List.getElem_mem hk)
  clear hat
  by_cases c3 : frm < 0
  ·have HE := Lib.hid (fail (by omega))
   clear fail good
   go_enter Tryz.func114, Tryz.ntmps114
   go_wp2_with fail
   refine (Hcall.out).mono ?_
   rintro e w1 ⟨rfl, h1⟩
   go_wp2_with fail
   go_ret2
   exact ShPost.fail HE.out h1
  obtain ⟨b, off, rfl, hb, -⟩ := HI.out k hk
  by_cases c4 : zs[k] < to_
  ·have HE := Lib.hid (fail (by omega))
   clear fail good
   go_enter Tryz.func114, Tryz.ntmps114
   go_wp2_with fail
   refine (Hcall.out).mono ?_
   rintro e w1 ⟨rfl, h1⟩
   obtain ⟨b', off', e, _, hc⟩ := HI.out.below h1 (Nat.le_refl _) k hk
   injection e with e; injection e with e1 e2; subst e1 e2
   rw [getD_at hk] at hc
   go_wp2_with fail
   go_ret2
   exact ShPost.fail HE.out h1
  by_cases c5 : to_ ≤ frm
  ·have HE := Lib.hid (fail (by omega))
   clear fail good
   go_enter Tryz.func114, Tryz.ntmps114
   go_wp2_with fail
   refine (Hcall.out).mono ?_
   rintro e w1 ⟨rfl, h1⟩
   obtain ⟨b', off', e, _, hc⟩ := HI.out.below h1 (Nat.le_refl _) k hk
   injection e with e; injection e with e1 e2; subst e1 e2
   rw [getD_at hk] at hc
   go_wp2_with fail
   go_ret2
   exact ShPost.fail HE.out h1
  have HE := Lib.hid (good (by omega))
  clear fail good
  go_enter Tryz.func114, Tryz.ntmps114
  go_wp2_with fail
  refine (Hcall.out).mono ?_
  rintro e w1 ⟨rfl, h1⟩
  obtain ⟨b', off', e, _, hc⟩ := HI.out.below h1 (Nat.le_refl _) k hk
  injection e with e; injection e with e1 e2; subst e1 e2
  rw [getD_at hk] at hc
  go_wp2_with fail
  refine (shape_copy _ c zs _ hl (HI.out.below h1 (Nat.le_refl _))).mono ?_
  rintro e w2 ⟨g, rfl, hg, hB, h2⟩
  have hbb := h1.trans (h2.mono h1.size)
  have hB' : Blk w2 g 3 (zs.map (Value.int .i64)).toArray := hB
  have hcg := hB'.cell k
  have hfg := hB'.frozen k
  simp [hk] at hcg
  have HB := Lib.hid hB'
  have hgs := h1.size
  clear hB hB' hc
  go_wp2_with fail
  go_ret2
  refine ShPost.fresh HE.out (by simp) (by omega) HB.out.ints_set (by simp) (by omega) ?_
  exact hbb.setCell (by simp; omega) _
set_option maxHeartbeats 2000000 in
theorem pool_shape (A : Option Addr) (c : Nat) (zs : List Int) (width step : Int) (w : World) (hl : zs.length ≤ 17592186043904) (hI : Ints .i64 w A zs) :
  Calls Tryz.prog 111 #[.slice A zs.length c, .int .i64 width, .int .i64 step] w (ShPost (Od.pool zs width step) w) := by
 have hcall := shape_right A c zs w (by omega) hI
 cases hr : Sh.right zs
 ·have HE := Lib.hid (show Od.pool zs width step = ([], 20) by simp [Od.pool, hr])
  rw [hr] at hcall
  have Hr := Lib.hid hr
  have HI := Lib.hid hI
  have Hcall := Lib.hid hcall
  clear hr hI hcall
  go_enter Tryz.func111, Tryz.ntmps111
  go_wp2_with fail
  refine (Hcall.out).mono ?_
  rintro e w1 ⟨rfl, h1⟩
  go_wp2_with fail
  go_ret2
  exact ShPost.fail HE.out h1
 ·obtain ⟨_, a1, a2, a3, -⟩ := Sh.right_mul hr
  obtain ⟨k, hk⟩ : ∃ k : Nat, zs.length = k + 1 := ⟨zs.length - 1, by omega⟩
  have hk1 : k < zs.length := by omega
  have hgd : zs.getD (zs.length - 1) 0 = zs[k] := by rw [show zs.length - 1 = k by omega, getD_at hk1]
  have hp : Od.pool zs width step = if (Od.window zs[k] width step).2 = 0 then (zs.set k (Od.window zs[k] width step).1, 0) else ([], 11) := by
   unfold Od.pool
   rw [if_pos hr, hgd, show zs.length - 1 = k by omega]
  rw [hr] at hcall
  obtain ⟨b, off, rfl, hb, -⟩ := hI k hk1
  have e1 : IntKind.i64.wrap ((zs.length : Int) - 1) = k := by have := IntWalk.i64_in ((zs.length : Int) - 1) (by omega); omega
  have Hr := Lib.hid hr
  have HI := Lib.hid hI
  have Hcall := Lib.hid hcall
  have Ha3 := Lib.hid a3
  have Hgd := Lib.hid hgd
  clear hr hI hcall a3 hgd
  clear hk
  by_cases hw : (Od.window zs[k] width step).2 = 0
  ·have HE := Lib.hid (show Od.pool zs width step = (zs.set k (Od.window zs[k] width step).1, 0) by rw [hp, if_pos hw])
   have HW := Lib.hid hw
   clear hp hw
   go_enter Tryz.func111, Tryz.ntmps111
   go_wp2_with fail
   refine (Hcall.out).mono ?_
   rintro e w1 ⟨rfl, h1⟩
   obtain ⟨b', off', e, _, hc⟩ := HI.out.below h1 (Nat.le_refl _) k hk1
   injection e with e; injection e with e2 e3; subst e2 e3
   rw [getD_at hk1] at hc
   go_wp2_with fail
   refine (shape_window zs[k] width step _).mono ?_
   rintro e w2 ⟨rfl, rfl⟩
   rw [HW.out]
   go_wp2_with fail
   refine (shape_copy _ c zs _ hl (HI.out.below h1 (Nat.le_refl _))).mono ?_
   rintro e w2 ⟨g, rfl, hg, hB, h2⟩
   have hbb := h1.trans (h2.mono h1.size)
   have hB' : Blk w2 g 3 (zs.map (Value.int .i64)).toArray := hB
   have hcg := hB'.cell k
   have hfg := hB'.frozen k
   simp [hk1] at hcg
   have HB := Lib.hid hB'
   have hgs := h1.size
   clear hB hB' hc
   go_wp2_with fail
   go_ret2
   refine ShPost.fresh HE.out (by simp) (by omega) HB.out.ints_set (by simp) (by omega) ?_
   exact hbb.setCell (by simp; omega) _
  ·have HE := Lib.hid (show Od.pool zs width step = ([], 11) by rw [hp, if_neg hw])
   have HW := Lib.hid (Od.window_err hw)
   clear hp hw
   go_enter Tryz.func111, Tryz.ntmps111
   go_wp2_with fail
   refine (Hcall.out).mono ?_
   rintro e w1 ⟨rfl, h1⟩
   obtain ⟨b', off', e, _, hc⟩ := HI.out.below h1 (Nat.le_refl _) k hk1
   injection e with e; injection e with e2 e3; subst e2 e3
   rw [getD_at hk1] at hc
   go_wp2_with fail
   refine (shape_window zs[k] width step _).mono ?_
   rintro e w2 ⟨rfl, rfl⟩
   rw [HW.out]
   go_wp2_with fail
   go_ret2
   exact ShPost.fail HE.out h1
end Go.Proofs.YtbnnpkcfifejmabGreat
namespace Go.Proofs.YtbnnpkcfifejmabGreat
open Go.RowKit
namespace Od
def jMid (s t : List Int) (side : Nat) (k : Nat) : List Int := if side < k then joinL s t side else s
theorem jMid_len (s t : List Int) (side k : Nat) : (jMid s t side k).length = s.length := by unfold jMid joinL; split <;> simp
theorem join_bad {s t : List Int} {side : Int} {k : Nat} (h1 : Sh.right s = true) (h2 : Sh.right t = true) (h3 : s.length = t.length) (h4 : 0 ≤ side ∧ side < s.length) (hk : k < s.length) (hk2 : k < t.length) (hs : (k : Int) ≠ side) (hne : s[k] ≠ t[k]) : join s t side = ([], 20) := by
 unfold join
 rw [if_pos (by simp [h1, h2, h3]), if_pos (by simp [inR, h4]), if_neg]
 rw [Bool.and_eq_true, not_and]
 intro h
 exfalso
 unfold joinOk at h
 rw [List.all_eq_true] at h
 have := h k (List.mem_range.2 hk)
 rw [getD_at hk, getD_at hk2] at this
 simp [hs, hne] at this
theorem joinOk_of {s t : List Int} {side : Nat} (h : ∀ j (h1 : j < s.length) (h2 : j < t.length), j ≠ side → s[j] = t[j]) (hl : s.length = t.length) : joinOk s t side = true := by
 unfold joinOk
 rw [List.all_eq_true]
 intro j hj
 have hj := List.mem_range.1 hj
 by_cases e : j = side
 ·simp [e]
 ·rw [getD_at hj, getD_at (by omega : j < t.length)]
  simp [h j hj (by omega) e]
end Od
set_option maxHeartbeats 4000000 in
theorem shape_join (A B : Option Addr) (c d : Nat) (s t : List Int) (side : Int) (w : World) (hl : s.length ≤ 17592186043904) (hl' : t.length ≤ 17592186043904) (hI : Ints .i64 w A s) (hJ : Ints .i64 w B t) :
  Calls Tryz.prog 113 #[.slice A s.length c, .slice B t.length d, .int .i64 side] w (ShPost (Od.join s t side) w) := by
 have hcall := shape_right A c s w (by omega) hI
 have hcall2 := fun w1 (h1 : Below w.heap.size w w1) => shape_right B d t w1 (by omega) (hJ.below h1 (Nat.le_refl _))
 cases hr : Sh.right s
 ·have HE := Lib.hid (show Od.join s t side = ([], 20) by simp [Od.join, hr])
  rw [hr] at hcall
  have Hr := Lib.hid hr
  have HI := Lib.hid hI
  have HJ := Lib.hid hJ
  have Hcall := Lib.hid hcall
  have Hcall2 := Lib.hid hcall2
  clear hr hI hJ hcall hcall2
  go_enter Tryz.func113, Tryz.ntmps113
  go_wp2_with fail
  refine (Hcall.out).mono ?_
  rintro e w1 ⟨rfl, h1⟩
  go_wp2_with fail
  go_ret2
  exact ShPost.fail HE.out h1
 rw [hr] at hcall
 cases hq : Sh.right t
 ·have HE := Lib.hid (show Od.join s t side = ([], 20) by simp [Od.join, hq])
  rw [hq] at hcall2
  have Hr := Lib.hid hr
  have Hq := Lib.hid hq
  have HI := Lib.hid hI
  have HJ := Lib.hid hJ
  have Hcall := Lib.hid hcall
  have Hcall2 := Lib.hid hcall2
  clear hr hq hI hJ hcall hcall2
  go_enter Tryz.func113, Tryz.ntmps113
  go_wp2_with fail
  refine (Hcall.out).mono ?_
  rintro e w1 ⟨rfl, h1⟩
  go_wp2_with fail
  refine (Hcall2.out _ h1).mono ?_
  rintro e w2 ⟨rfl, h2⟩
  go_wp2_with fail
  go_ret2
  exact ShPost.fail HE.out (h1.trans (h2.mono h1.size))
 rw [hq] at hcall2
 obtain ⟨_, a1, a2, a3, -⟩ := Sh.right_mul hr
 obtain ⟨_, b1, b2, b3, -⟩ := Sh.right_mul hq
 by_cases hlen : s.length = t.length
 case neg =>
  have HE := Lib.hid (show Od.join s t side = ([], 20) by simp [Od.join, hlen])
  have hn : ((s.length : Int) != t.length) = true := by simp; omega
  have Hr := Lib.hid hr
  have Hq := Lib.hid hq
  have HI := Lib.hid hI
  have HJ := Lib.hid hJ
  have Hcall := Lib.hid hcall
  have Hcall2 := Lib.hid hcall2
  have Ha3 := Lib.hid a3
  have Hb3 := Lib.hid b3
  clear hr hq hI hJ hcall hcall2 a3 b3
  clear hlen
  go_enter Tryz.func113, Tryz.ntmps113
  go_wp2_with fail
  refine (Hcall.out).mono ?_
  rintro e w1 ⟨rfl, h1⟩
  go_wp2_with fail
  refine (Hcall2.out _ h1).mono ?_
  rintro e w2 ⟨rfl, h2⟩
  go_wp2_with fail
  go_ret2
  exact ShPost.fail HE.out (h1.trans (h2.mono h1.size))
 have hn : ((s.length : Int) != t.length) = false := by simp [hlen]
 by_cases c1 : side < 0
 ·have HE := Lib.hid (show Od.join s t side = ([], 11) by unfold Od.join; rw [if_pos (by simp [hr, hq, hlen]), if_neg]; simp [Od.inR]; omega)
  have Hr := Lib.hid hr
  have Hq := Lib.hid hq
  have HI := Lib.hid hI
  have HJ := Lib.hid hJ
  have Hcall := Lib.hid hcall
  have Hcall2 := Lib.hid hcall2
  have Ha3 := Lib.hid a3
  have Hb3 := Lib.hid b3
  have Hlen := Lib.hid hlen
  clear hr hq hI hJ hcall hcall2 a3 b3 hlen
  go_enter Tryz.func113, Tryz.ntmps113
  go_wp2_with fail
  refine (Hcall.out).mono ?_
  rintro e w1 ⟨rfl, h1⟩
  go_wp2_with fail
  refine (Hcall2.out _ h1).mono ?_
  rintro e w2 ⟨rfl, h2⟩
  go_wp2_with fail
  go_ret2
  exact ShPost.fail HE.out (h1.trans (h2.mono h1.size))
 obtain ⟨sd, rfl⟩ : ∃ k : Nat, side = k := ⟨side.toNat, by omega⟩
 by_cases c2 : s.length ≤ sd
 ·have HE := Lib.hid (show Od.join s t sd = ([], 11) by unfold Od.join; rw [if_pos (by simp [hr, hq, hlen]), if_neg]; simp [Od.inR]; omega)
  have Hr := Lib.hid hr
  have Hq := Lib.hid hq
  have HI := Lib.hid hI
  have HJ := Lib.hid hJ
  have Hcall := Lib.hid hcall
  have Hcall2 := Lib.hid hcall2
  have Ha3 := Lib.hid a3
  have Hb3 := Lib.hid b3
  have Hlen := Lib.hid hlen
  clear hr hq hI hJ hcall hcall2 a3 b3 hlen
  go_enter Tryz.func113, Tryz.ntmps113
  go_wp2_with fail
  refine (Hcall.out).mono ?_
  rintro e w1 ⟨rfl, h1⟩
  go_wp2_with fail
  refine (Hcall2.out _ h1).mono ?_
  rintro e w2 ⟨rfl, h2⟩
  go_wp2_with fail
  go_ret2
  exact ShPost.fail HE.out (h1.trans (h2.mono h1.size))
 have hbad := fun (k : Nat) (hk : k < s.length) (hk2 : k < t.length) (hs : (k : Int) ≠ sd) (hne : s[k] ≠ t[k]) => Od.join_bad hr hq hlen (by omega) hk hk2 hs hne
 have hgood : Od.joinOk s t sd = true → Od.join s t sd = if Sh.right (Od.joinL s t sd) = true then (Od.joinL s t sd, 0) else ([], 20) := fun h => by
  unfold Od.join
  rw [if_pos (by simp [hr, hq, hlen]), if_pos (by simp [Od.inR]; omega), h, Bool.true_and]
 have hLen := Lib.hid hlen
 have Hr := Lib.hid hr
 have Hq := Lib.hid hq
 have HI := Lib.hid hI
 have HJ := Lib.hid hJ
 have Hcall := Lib.hid hcall
 have Hcall2 := Lib.hid hcall2
 have Ha3 := Lib.hid a3
 have Hb3 := Lib.hid b3
 have Hbad := Lib.hid hbad
 have Hgood := Lib.hid hgood
 clear hr hq hI hJ hcall hcall2 a3 b3 hbad hgood
 clear hlen
 go_enter Tryz.func113, Tryz.ntmps113
 go_wp2_with fail
 refine (Hcall.out).mono ?_
 rintro e w1 ⟨rfl, h1⟩
 go_wp2_with fail
 refine (Hcall2.out _ h1).mono ?_
 rintro e w2 ⟨rfl, h2⟩
 have hb2 := h1.trans (h2.mono h1.size)
 go_wp2_with fail
 refine (shape_copy _ c s _ hl (HI.out.below hb2 (Nat.le_refl _))).mono ?_
 rintro e w3 ⟨g, rfl, hg, hB, h3⟩
 have hb3 := hb2.trans (h3.mono hb2.size)
 have hgw : w.heap.size ≤ g := Nat.le_trans hb2.size hg
 have HB := Lib.hid hB
 clear hB h1 h2 h3 hg
 go_wp2_with fail
 go_loopw [37] (fun i wr => ∃ k : Nat, k ≤ s.length ∧ i = .int .i64 k ∧ Blk wr g 3 ((Od.jMid s t sd k).map (Value.int .i64)).toArray ∧ Below w.heap.size w wr ∧ ∀ j (h1 : j < s.length) (h2 : j < t.length), j < k → j ≠ sd → s[j] = t[j]) (fun i _ => s.length - (intOf i).toNat)
 case atStart => exact ⟨0, Nat.zero_le _, rfl, by rw [show Od.jMid s t sd 0 = s by simp [Od.jMid]]; exact HB.out, hb3, fun j _ _ h => by omega⟩
 case round =>
  obtain ⟨k, hk, rfl, hblk, hbw, hall⟩ := hrel
  have HA := Lib.hid hall
  clear hall HB hb3 hb2
  by_cases hlt : k < s.length
  ·have hlt' : k < t.length := by have := hLen.out; omega
   obtain ⟨b, off, rfl, hbl, hc⟩ := HI.out.below hbw (Nat.le_refl _) k hlt
   obtain ⟨b', off', rfl, hbl', hc'⟩ := HJ.out.below hbw (Nat.le_refl _) k hlt'
   rw [getD_at hlt] at hc
   rw [getD_at hlt'] at hc'
   have hx := Ha3.out _ (List.getElem_mem hlt)
   have hy := Hb3.out _ (List.getElem_mem hlt')
   have k0 : (0 : Int) ≤ k := by omega
   have k1 : (k : Int) < s.length := by omega
   have k2 : (k : Int) < t.length := by omega
   by_cases hs : k = sd
   ·subst hs
    have hm : Od.jMid s t k k = s := by simp [Od.jMid]
    rw [hm] at hblk
    have hcg := hblk.cell k
    have hfg := hblk.frozen k
    simp [hlt] at hcg
    have hm2 : Od.jMid s t k (k + 1) = s.set k (s[k] + t[k]) := by
     simp [Od.jMid, Od.joinL, Od.at_, hlt, hlt']
    have HM := Lib.hid hm2
    have HB := Lib.hid hblk
    have hwr : IntKind.i64.wrap (s[k] + t[k]) = s[k] + t[k] := IntWalk.i64_in _ (by omega)
    clear hblk hm hm2
    go_wp2_with fail
    go_region_with (fail)
    all_goals
     go_wp2_with fail
     go_roundw
     case rel => exact ⟨k + 1, by omega, by go_num, by rw [HM.out]; exact HB.out.ints_set, (hbw.setCell (by simpa using hgw) _).drew, fun j h1 h2 h3 h4 => HA.out j h1 h2 (by omega) h4⟩
     case measure => simp [intOf]; omega
   ·have hne : ((k : Int) == (sd : Int)) = false := by simp; omega
    by_cases hxy : s[k] = t[k]
    ·have hb : (s[k] != t[k]) = false := by simp [hxy]
     have HX := Lib.hid hxy
     have HM := Lib.hid (show Od.jMid s t sd (k + 1) = Od.jMid s t sd k by unfold Od.jMid; simp only [show (sd < k + 1) = (sd < k) by simp; omega])
     have HB := Lib.hid hblk
     clear hxy hblk
     go_wp2_with fail
     go_quiet (fail)
     go_wp2_with fail
     go_roundw
     case rel => exact ⟨k + 1, by omega, by go_num, by rw [HM.out]; exact HB.out, Bdrawn hbw _, fun j h1 h2 h3 h4 => by
      by_cases e : j = k
      ·subst e; exact HX.out
      ·exact HA.out j h1 h2 (by omega) h4⟩
     case measure => simp [intOf]; omega
    ·have hb : (s[k] != t[k]) = true := by simp [hxy]
     have HE := Lib.hid (Hbad.out k hlt hlt' (by omega) hxy)
     clear hxy hblk
     go_wp2_with fail
     go_quiet (fail)
     go_wp2_with fail
     go_ret2
     exact ShPost.fail HE.out (Bdrawn hbw _)
  ·obtain rfl : k = s.length := by omega
   have hj : Od.joinOk s t sd = true := Od.joinOk_of (fun j h1 h2 h3 => HA.out j h1 h2 h1 h3) hLen.out
   have hm : Od.jMid s t sd s.length = Od.joinL s t sd := by unfold Od.jMid; rw [if_pos (by omega)]
   have hlj : (Od.joinL s t sd).length = s.length := by simp [Od.joinL]
   rw [hm] at hblk
   have hI2 : Ints .i64 wr (some ⟨g, 0, none⟩) (Od.joinL s t sd) := Ints.of_row fun j hj => by rw [hblk.cell]; simp [hj]
   have hcall3 := shape_right (some ⟨g, 0, none⟩) s.length (Od.joinL s t sd) wr (by omega) hI2
   rw [hlj] at hcall3
   have hg2 := Hgood.out hj
   cases h5 : Sh.right (Od.joinL s t sd)
   ·have HE := Lib.hid (show Od.join s t sd = ([], 20) by rw [hg2, if_neg (by simp [h5])])
    rw [h5] at hcall3
    have Hcall3 := Lib.hid hcall3
    have HI2 := Lib.hid hI2
    have Hblk := Lib.hid hblk
    have Hlj := Lib.hid hlj
    have Hm := Lib.hid hm
    have Hg2 := Lib.hid hg2
    have Hj := Lib.hid hj
    have H5 := Lib.hid h5
    clear hcall3 hI2 hblk hlj hm hg2 hj h5
    go_wp2_with fail
    refine (Hcall3.out).mono ?_
    rintro e w4 ⟨rfl, h4⟩
    go_wp2_with fail
    go_ret2
    exact ShPost.fail HE.out (hbw.trans (h4.mono hbw.size))
   ·have HE := Lib.hid (show Od.join s t sd = (Od.joinL s t sd, 0) by rw [hg2, if_pos h5])
    rw [h5] at hcall3
    have Hcall3 := Lib.hid hcall3
    have HI2 := Lib.hid hI2
    have Hblk := Lib.hid hblk
    have Hlj := Lib.hid hlj
    have Hm := Lib.hid hm
    have Hg2 := Lib.hid hg2
    have Hj := Lib.hid hj
    have H5 := Lib.hid h5
    clear hcall3 hI2 hblk hlj hm hg2 hj h5
    go_wp2_with fail
    refine (Hcall3.out).mono ?_
    rintro e w4 ⟨rfl, h4⟩
    go_wp2_with fail
    go_ret2
    exact ShPost.fresh HE.out Hlj.out.symm hgw (Hblk.out.below h4 Hblk.out.lt) (by rw [Hlj.out]; exact Nat.le_refl _) (by omega) (hbw.trans (h4.mono hbw.size))
end Go.Proofs.YtbnnpkcfifejmabGreat
namespace Go.Proofs.YtbnnpkcfifejmabGreat
open Go.RowKit
theorem shp_info : (Tryz.prog.info? 3).map (fun i => (i.zero, i.size, i.bytes)) = some (some (.int .i64 0), 1, 8) := int_info
theorem Od.outs_succ (w x : List Int) (step : Int) (k : Nat) : Od.outs w x step (k + 1) = Od.outs w x step k ++ [(Od.wn w x step k).1] := by simp [Od.outs, List.range_succ]
theorem Od.outs_len (w x : List Int) (step : Int) (k : Nat) : (Od.outs w x step k).length = k + 1 := by simp [Od.outs]
theorem one_row (w : World) (t : TypeId) (n : Int) : (w.alloc (.cells #[.int .i64 n] t)).ownsRow w.heap.size t 1 (.slice (some ⟨w.heap.size, 0, none⟩) 1 1) 1 [.int .i64 n] :=
 ⟨by simp, .inr ⟨w.heap.size, 1, #[.int .i64 n], rfl, Nat.le_refl _, heap_alloc_new w _, Nat.le_refl _, by unfold maxLen; omega, by simp, by simp⟩⟩
theorem own_base {w : World} {B B' e size n : Nat} {v : Value} {xs : List Value} (h : w.ownsRow B e size v n xs) (hB : B' ≤ B) : w.ownsRow B' e size v n xs := by
 refine ⟨h.1, ?_⟩
 rcases h.2 with h1 | ⟨g, cap, cur, h1, h2, h3⟩
 ·exact .inl h1
 ·exact .inr ⟨g, cap, cur, h1, Nat.le_trans hB h2, h3⟩
theorem own_slice {w : World} {B e n : Nat} {v : Value} {zs : List Int} (h : w.ownsRow B e 1 v n (zs.map (Value.int .i64))) (hn : n = zs.length) (h0 : 0 < n) :
  ∃ g c, v = .slice (some ⟨g, 0, none⟩) n c ∧ B ≤ g ∧ g < w.heap.size ∧ Ints .i64 w (some ⟨g, 0, none⟩) zs ∧ (zs.length ≤ c ∧ c ≤ 9223372036854775807) := by
 subst hn
 rcases h.2 with ⟨rfl, h1⟩ | ⟨g, cap, cur, rfl, hb, hh, r1, r2, r3, r4⟩
 ·omega
 ·refine ⟨g, cap, rfl, hb, lt_of_block hh, Ints.of_row fun j hj => ?_, r1, by unfold maxLen at r2; omega⟩
  rw [Nat.zero_add, h.cellAt j (by simpa using hj)]
  simp [hj]
set_option maxHeartbeats 4000000 in
theorem conv_shape (A B : Option Addr) (c d : Nat) (ws xs : List Int) (step : Int) (w : World) (hl : ws.length ≤ 17592186043904) (hl' : xs.length ≤ 17592186043904) (hd : xs.length ≤ d) (hd' : d ≤ 9223372036854775807) (hI : Ints .i64 w A ws) (hJ : Ints .i64 w B xs) :
  Calls Tryz.prog 65 #[.slice A ws.length c, .slice B xs.length d, .int .i64 step] w (ShPost (Od.conv ws xs step) w) := by
 obtain ⟨i0, hi, hz0, hz1, hz2⟩ := info_parts int_info
 have hcall := shape_right A c ws w (by omega) hI
 have hcall2 := fun w1 (h1 : Below w.heap.size w w1) => shape_right B d xs w1 (by omega) (hJ.below h1 (Nat.le_refl _))
 cases hr : Sh.right ws
 ·have HE := Lib.hid (show Od.conv ws xs step = ([], 20) by simp [Od.conv, hr])
  rw [hr] at hcall
  have Hr := Lib.hid hr
  have HI := Lib.hid hI
  have HJ := Lib.hid hJ
  have Hcall := Lib.hid hcall
  have Hcall2 := Lib.hid hcall2
  clear hr hI hJ hcall hcall2
  go_enter Tryz.func65, Tryz.ntmps65
  go_wp2_with fail
  refine (Hcall.out).mono ?_
  rintro e w1 ⟨rfl, h1⟩
  go_wp2_with fail
  go_ret2
  exact ShPost.fail HE.out h1
 rw [hr] at hcall
 cases hq : Sh.right xs
 ·have HE := Lib.hid (show Od.conv ws xs step = ([], 20) by simp [Od.conv, hq])
  rw [hq] at hcall2
  have Hr := Lib.hid hr
  have Hq := Lib.hid hq
  have HI := Lib.hid hI
  have HJ := Lib.hid hJ
  have Hcall := Lib.hid hcall
  have Hcall2 := Lib.hid hcall2
  clear hr hq hI hJ hcall hcall2
  go_enter Tryz.func65, Tryz.ntmps65
  go_wp2_with fail
  refine (Hcall.out).mono ?_
  rintro e w1 ⟨rfl, h1⟩
  go_wp2_with fail
  refine (Hcall2.out _ h1).mono ?_
  rintro e w2 ⟨rfl, h2⟩
  go_wp2_with fail
  go_ret2
  exact ShPost.fail HE.out (h1.trans (h2.mono h1.size))
 rw [hq] at hcall2
 obtain ⟨_, a1, a2, a3, -⟩ := Sh.right_mul hr
 obtain ⟨_, b1, b2, b3, -⟩ := Sh.right_mul hq
 have bad : ¬ (2 ≤ xs.length ∧ xs.length ≤ 3 ∧ ws.length = xs.length + 1 ∧ ws.getD 1 0 = xs.getD 0 0) → Od.conv ws xs step = ([], 20) := fun h => by
  unfold Od.conv
  rw [if_neg (by simpa [hr, hq] using h)]
 have good : (2 ≤ xs.length ∧ xs.length ≤ 3 ∧ ws.length = xs.length + 1 ∧ ws.getD 1 0 = xs.getD 0 0) → Od.conv ws xs step = (if (List.range (xs.length - 1)).all (fun i => decide ((Od.wn ws xs step i).2 = 0)) then
   (if Sh.right (Od.outs ws xs step (xs.length - 1)) then (Od.outs ws xs step (xs.length - 1), 0) else ([], 20)) else ([], 11)) := fun h => by
  unfold Od.conv
  rw [if_pos (by simpa [hr, hq] using h)]
 have Hr := Lib.hid hr
 have Hq := Lib.hid hq
 have HI := Lib.hid hI
 have HJ := Lib.hid hJ
 have Hcall := Lib.hid hcall
 have Hcall2 := Lib.hid hcall2
 have Ha3 := Lib.hid a3
 have Hb3 := Lib.hid b3
 have Hgood := Lib.hid good
 clear hr hq hI hJ hcall hcall2 a3 b3 good
 by_cases c1 : xs.length < 2
 ·have HE := Lib.hid (bad (by omega))
  clear bad
  go_enter Tryz.func65, Tryz.ntmps65
  go_wp2_with fail
  refine (Hcall.out).mono ?_
  rintro e w1 ⟨rfl, h1⟩
  go_wp2_with fail
  refine (Hcall2.out _ h1).mono ?_
  rintro e w2 ⟨rfl, h2⟩
  have d1 : decide ((xs.length : Int) < 2) = true := by simp; omega
  go_wp2_with fail
  go_quiet (fail)
  go_wp2_with fail
  go_ret2
  exact ShPost.fail HE.out (Bdrawn (h1.trans (h2.mono h1.size)) _)
 by_cases c2 : 3 < xs.length
 ·have HE := Lib.hid (bad (by omega))
  clear bad
  go_enter Tryz.func65, Tryz.ntmps65
  go_wp2_with fail
  refine (Hcall.out).mono ?_
  rintro e w1 ⟨rfl, h1⟩
  go_wp2_with fail
  refine (Hcall2.out _ h1).mono ?_
  rintro e w2 ⟨rfl, h2⟩
  have d1 : decide ((xs.length : Int) < 2) = false := by simp; omega
  have d2 : decide (3 < (xs.length : Int)) = true := by simp; omega
  go_wp2_with fail
  go_quiet (fail)
  go_wp2_with fail
  go_ret2
  exact ShPost.fail HE.out (Bdrawn (h1.trans (h2.mono h1.size)) _)
 by_cases c3 : ws.length = xs.length + 1
 case neg =>
  have HE := Lib.hid (bad (by omega))
  clear bad
  go_enter Tryz.func65, Tryz.ntmps65
  go_wp2_with fail
  refine (Hcall.out).mono ?_
  rintro e w1 ⟨rfl, h1⟩
  go_wp2_with fail
  refine (Hcall2.out _ h1).mono ?_
  rintro e w2 ⟨rfl, h2⟩
  have d1 : decide ((xs.length : Int) < 2) = false := by simp; omega
  have d2 : decide (3 < (xs.length : Int)) = false := by simp; omega
  have d0 : IntKind.i64.wrap ((xs.length : Int) + 1) = (xs.length : Int) + 1 := IntWalk.i64_in _ (by omega)
  have d3 : ((ws.length : Int) != (xs.length : Int) + 1) = true := by simp; omega
  clear c3
  go_wp2_with fail
  go_quiet (fail)
  go_wp2_with fail
  go_ret2
  exact ShPost.fail HE.out (Bdrawn (h1.trans (h2.mono h1.size)) _)
 have d1 : decide ((xs.length : Int) < 2) = false := by simp; omega
 have d2 : decide (3 < (xs.length : Int)) = false := by simp; omega
 have d0 : IntKind.i64.wrap ((xs.length : Int) + 1) = (xs.length : Int) + 1 := IntWalk.i64_in _ (by omega)
 have d3 : ((ws.length : Int) != (xs.length : Int) + 1) = false := by simp; omega
 have e1 : (1 : Int) < ws.length := by omega
 have e0 : (0 : Int) < ws.length := by omega
 have f0 : (0 : Int) < xs.length := by omega
 obtain ⟨b, off, rfl, hb, -⟩ := HI.out 0 (by omega)
 obtain ⟨b', off', rfl, hb', -⟩ := HJ.out 0 (by omega)
 have HL := Lib.hid c3
 have n1 : 1 < ws.length := by omega
 have n0 : 0 < ws.length := by omega
 have m0 : 0 < xs.length := by omega
 have hcw : ∀ W, Below w.heap.size w W → ∀ k (hk : k < ws.length), W.cell? ⟨b, off + k, none⟩ = some (.int .i64 ws[k]) := fun W hW k hk => by
  exact (HI.out.below hW (Nat.le_refl _)).cell_at hk
 have hcx : ∀ W, Below w.heap.size w W → ∀ k (hk : k < xs.length), W.cell? ⟨b', off' + k, none⟩ = some (.int .i64 xs[k]) := fun W hW k hk => by
  exact (HJ.out.below hW (Nat.le_refl _)).cell_at hk
 have Hcw := Lib.hid hcw
 have Hcx := Lib.hid hcx
 clear hcw hcx
 clear c3
 by_cases c4 : ws[1] = xs[0]
 case neg =>
  have HE := Lib.hid (bad (by rw [getD_at n1, getD_at m0]; have := HL.out; omega))
  have d4 : (ws[1] != xs[0]) = true := by simp [c4]
  clear bad c4
  go_enter Tryz.func65, Tryz.ntmps65
  go_wp2_with fail
  refine (Hcall.out).mono ?_
  rintro e w1 ⟨rfl, h1⟩
  go_wp2_with fail
  refine (Hcall2.out _ h1).mono ?_
  rintro e w2 ⟨rfl, h2⟩
  have hb2 := h1.trans (h2.mono h1.size)
  have x1 := Hcw.out _ hb2 1 n1
  have y0 := Hcx.out _ hb2 0 m0
  rw [Nat.add_zero] at y0
  go_wp2_with fail
  go_quiet (fail)
  go_wp2_with fail
  go_ret2
  exact ShPost.fail HE.out (Bdrawn hb2 _)
 have d4 : (ws[1] != xs[0]) = false := by simp [c4]
 have hgood := Hgood.out ⟨by omega, by omega, HL.out, by rw [getD_at n1, getD_at m0]; exact c4⟩
 have HG := Lib.hid hgood
 clear bad c4 hgood Hgood
 go_enter Tryz.func65, Tryz.ntmps65
 go_wp2_with fail
 refine (Hcall.out).mono ?_
 rintro e w1 ⟨rfl, h1⟩
 go_wp2_with fail
 refine (Hcall2.out _ h1).mono ?_
 rintro e w2 ⟨rfl, h2⟩
 have hb2 := h1.trans (h2.mono h1.size)
 have x1 := Hcw.out _ hb2 1 n1
 have y0 := Hcx.out _ hb2 0 m0
 have x0 := Hcw.out _ hb2 0 n0
 rw [Nat.add_zero] at y0 x0
 go_wp2_with fail
 go_quiet (fail)
 have hb3 : Below w.heap.size w (w2.drewN nq) := Bdrawn hb2 _
 generalize w2.drewN nq = w3 at *
 have x0 := Hcw.out _ hb3 0 n0
 rw [Nat.add_zero] at x0
 go_wp2_with fail
 clear x1 y0 x0
 have hown : (w3.alloc (.cells #[.int .i64 ws[0]] 3)).ownsRow w.heap.size 3 1 (.slice (some ⟨w3.heap.size, 0, none⟩) 1 1) (0 + 1) ((Od.outs ws xs step 0).map (Value.int .i64)) := by
  have h := one_row w3 3 ws[0]
  rw [show (Od.outs ws xs step 0).map (Value.int .i64) = [.int .i64 ws[0]] by simp [Od.outs, n0]]
  exact own_base h hb3.size
 have HO := Lib.hid hown
 have hb4 : Below w.heap.size w (w3.alloc (.cells #[.int .i64 ws[0]] 3)) := hb3.alloc hb3.size _
 clear hown
 go_loopw [8, 53] (fun v i wr => ∃ k : Nat, k ≤ xs.length - 1 ∧ i = .int .i64 k ∧ wr.ownsRow w.heap.size 3 1 v (k + 1) ((Od.outs ws xs step k).map (Value.int .i64)) ∧ Below w.heap.size w wr ∧ ∀ j, j < k → (Od.wn ws xs step j).2 = 0) (fun _ i _ => xs.length - (intOf i).toNat)
 case atStart => exact ⟨0, Nat.zero_le _, rfl, HO.out, hb4, fun j h => by omega⟩
 case round =>
  obtain ⟨k, hk, rfl, hown, hbw, hall⟩ := hrel
  have HA := Lib.hid hall
  clear hall HO hb4 hb3 hb2
  by_cases hlt : k < xs.length - 1
  ·have k0 : (0 : Int) ≤ k := by omega
   have p1 : k + 1 < xs.length := by omega
   have p2 : k + 2 < ws.length := by have := HL.out; omega
   have k1 : (k : Int) < ((xs.length - 1 : Nat) : Int) := by omega
   have k2 : ((k : Int) + 2) < (ws.length : Int) := by omega
   have w2 : IntKind.i64.wrap ((k : Int) + 2) = (k : Int) + 2 := IntWalk.i64_in _ (by omega)
   have t2 : ((k : Int) + 2).toNat = k + 2 := by omega
   have x1 := Hcx.out _ hbw (k + 1) p1
   have y1 := Hcw.out _ hbw (k + 2) p2
   rw [show off' + (k + 1) = off' + 1 + k by omega] at x1
   have hwn : Od.wn ws xs step k = Od.window xs[k + 1] ws[k + 2] step := by unfold Od.wn; rw [getD_at p1, getD_at p2]
   have HN := Lib.hid hwn
   have hcall := shape_window xs[k + 1] ws[k + 2] step
   rw [← hwn] at hcall
   have Hc := Lib.hid hcall
   clear hcall hwn
   have HW := Lib.hid hown
   clear hown
   by_cases hz : (Od.wn ws xs step k).2 = 0
   ·have HZ := Lib.hid hz
    clear hz
    go_wp2_with fail
    refine (Hc.out _).mono ?_
    rintro e w5 ⟨rfl, rfl⟩
    rw [HZ.out]
    have hown := HW.out
    go_wp2_with (at_builtin; refine wpList_append_own _ rfl _ _ 23 rfl w.heap.size 3 i0 (.int .i64 0) 1 8 Tryz.underlying23 hi hz0 hz1 hz2 rfl (by decide) _ _ _ rfl (hown.alloc _) ⟨wr.heap.size, 0, none⟩ 1 1 [.int .i64 (Od.wn ws xs step k).1] rfl rfl (one_new _ _ _) (by intro u hu; simp at hu; subst hu; rfl) (by unfold maxLen; omega) (by omega) (by have := hbw.size; simp; omega) ?_)
    intro v' w6 hown' hgrow _
    have hb6 : Below w.heap.size w w6 := (hbw.alloc hbw.size _).grown hgrow (by have := hbw.size; simp; omega) (fun j hj => (HW.out.lt j hj).1)
    have HW' := Lib.hid hown'
    clear hown hown' hgrow
    go_wp2_with fail
    go_roundw
    case rel => exact ⟨k + 1, by omega, by go_num, by rw [Od.outs_succ, List.map_append]; exact HW'.out, hb6, fun j hj => by
     by_cases e : j = k
     ·subst e; exact HZ.out
     ·exact HA.out j (by omega)⟩
    case measure => simp [intOf]; omega
   ·have HE := Lib.hid (show Od.conv ws xs step = ([], 11) by
     rw [HG.out, if_neg]
     rw [List.all_eq_true]
     intro h
     have := h k (List.mem_range.2 hlt)
     simp [hz] at this)
    have HZ := Lib.hid (show Od.wn ws xs step k = (0, 11) by rw [HN.out]; exact Od.window_err (by rw [← HN.out]; exact hz))
    clear hz
    go_wp2_with fail
    refine (Hc.out _).mono ?_
    rintro e w5 ⟨rfl, rfl⟩
    rw [HZ.out]
    go_wp2_with fail
    go_ret2
    exact ShPost.fail HE.out hbw
  ·obtain rfl : k = xs.length - 1 := by omega
   have k1 : ¬ (((xs.length - 1 : Nat) : Int) < ((xs.length - 1 : Nat) : Int)) := by omega
   have hgo : Od.conv ws xs step = if Sh.right (Od.outs ws xs step (xs.length - 1)) then (Od.outs ws xs step (xs.length - 1), 0) else ([], 20) := by
    rw [HG.out, if_pos]
    rw [List.all_eq_true]
    intro j hj
    simp [HA.out j (List.mem_range.1 hj)]
   have hol := Od.outs_len ws xs step (xs.length - 1)
   rw [show xs.length - 1 + 1 = xs.length by omega] at hown hol
   generalize Od.outs ws xs step (xs.length - 1) = os at *
   obtain ⟨g, c2, rfl, hbg, hgc, hIg, hcc⟩ := own_slice hown hol.symm (by omega)
   have hcall3 := shape_right (some ⟨g, 0, none⟩) c2 os wr (by omega) hIg
   cases h5 : Sh.right os
   ·have HE := Lib.hid (show Od.conv ws xs step = ([], 20) by rw [hgo, if_neg (by simp [h5])])
    rw [h5] at hcall3
    have Hcall3 := Lib.hid hcall3
    have HIg := Lib.hid hIg
    have Hgo := Lib.hid hgo
    have Hown := Lib.hid hown
    clear hcall3 hIg hgo hown
    rw [hol] at Hcall3
    clear hol h5
    go_wp2_with fail
    refine (Hcall3.out).mono ?_
    rintro e w4 ⟨rfl, h4⟩
    go_wp2_with fail
    go_ret2
    exact ShPost.fail HE.out (hbw.trans (h4.mono hbw.size))
   ·have HE := Lib.hid (show Od.conv ws xs step = (os, 0) by rw [hgo, if_pos h5])
    rw [h5] at hcall3
    have Hcall3 := Lib.hid hcall3
    have HIg := Lib.hid hIg
    have Hgo := Lib.hid hgo
    have Hown := Lib.hid hown
    clear hcall3 hIg hgo hown
    rw [hol] at Hcall3
    have HOL := Lib.hid hol
    clear hol h5
    go_wp2_with fail
    refine (Hcall3.out).mono ?_
    rintro e w4 ⟨rfl, h4⟩
    go_wp2_with fail
    go_ret2
    exact ShPost.mk' HE.out HOL.out.symm (HIg.out.below h4 (Nat.le_refl _)) hcc.1 hcc.2 (fun a h => by injection h with h; subst h; exact hbg) (hbw.trans (h4.mono hbw.size))
end Go.Proofs.YtbnnpkcfifejmabGreat
namespace Go.Proofs.YtbnnpkcfifejmabGreat
open Go.RowKit
theorem Shps.cell_at {w : World} {b off j : Nat} {ss : List (List Int)} (h : Shps w (some ⟨b, off, none⟩) ss) (hj : j < ss.length) :
  ∃ S c, w.cell? ⟨b, off + j, none⟩ = some (.slice S ss[j].length c) ∧ Ints .i64 w S ss[j] ∧ ss[j].length ≤ c ∧ c ≤ 9223372036854775807 := by
 obtain ⟨b', off', S, c, e, _, hc, h2⟩ := h j hj
 injection e with e
 injection e with e1 e2
 subst e1 e2
 exact ⟨S, c, hc, h2⟩
theorem gets_at {l : List (List Int)} {k : Nat} (h : k < l.length) : l.getD k [] = l[k] := by rw [List.getD_eq_getElem?_getD, List.getElem?_eq_getElem h]; rfl
set_option maxHeartbeats 4000000 in
theorem op_dense (A B C : Option Addr) (c d f : Nat) (ws bs xs : List Int) (w : World) (hx : xs.length ≤ 17592186043904) (hI : Ints .i64 w A ws) (hJ : Ints .i64 w B bs) (hK : Ints .i64 w C xs) :
  Calls Tryz.prog 134 #[.slice A ws.length c, .slice B bs.length d, .slice C xs.length f] w (ShPost (Od.dense ws bs xs) w) := by
 have bad : ¬ (ws.length = 2 ∧ bs.length = 1 ∧ bs.getD 0 0 = ws.getD 0 0 ∧ Sh.right xs = true ∧ Safe.prod xs = ws.getD 1 0) → Od.dense ws bs xs = ([], 20) := fun h => by unfold Od.dense; rw [if_neg h]
 have HI := Lib.hid hI
 have HJ := Lib.hid hJ
 have HK := Lib.hid hK
 clear hI hJ hK
 by_cases c1 : ws.length = 2
 case neg =>
  have HE := Lib.hid (bad (by omega))
  have d1 : ((ws.length : Int) != 2) = true := by simp; omega
  clear bad c1
  go_enter Tryz.func134, Tryz.ntmps134
  go_wp2_with fail
  go_quiet (fail)
  go_wp2_with fail
  go_ret2
  exact ShPost.fail HE.out (Bdrawn (Below.refl _ _) _)
 by_cases c2 : bs.length = 1
 case neg =>
  have HE := Lib.hid (bad (by omega))
  have d1 : ((ws.length : Int) != 2) = false := by simp; omega
  have d2 : ((bs.length : Int) != 1) = true := by simp; omega
  clear bad c1 c2
  go_enter Tryz.func134, Tryz.ntmps134
  go_wp2_with fail
  go_quiet (fail)
  go_wp2_with fail
  go_ret2
  exact ShPost.fail HE.out (Bdrawn (Below.refl _ _) _)
 obtain ⟨b, off, rfl, hb, -⟩ := HI.out 0 (by omega)
 obtain ⟨b', off', rfl, hb', -⟩ := HJ.out 0 (by omega)
 have n0 : 0 < ws.length := by omega
 have n1 : 1 < ws.length := by omega
 have m0 : 0 < bs.length := by omega
 have e0 : (0 : Int) < ws.length := by omega
 have e1 : (1 : Int) < ws.length := by omega
 have f0 : (0 : Int) < bs.length := by omega
 have d1 : ((ws.length : Int) != 2) = false := by simp; omega
 have d2 : ((bs.length : Int) != 1) = false := by simp; omega
 have x0 := HI.out.cell_at n0
 have y0 := HJ.out.cell_at m0
 rw [Nat.add_zero] at x0 y0
 rw [getD_at n0, getD_at m0, getD_at n1] at bad
 have good : bs[0] = ws[0] → Sh.right xs = true → Safe.prod xs = ws[1] → Od.dense ws bs xs = ([ws[0]], 0) := fun h1 h2 h3 => by
  unfold Od.dense
  rw [if_pos ⟨c1, c2, by rw [getD_at n0, getD_at m0]; exact h1, h2, by rw [getD_at n1]; exact h3⟩, getD_at n0]
 have HC1 := Lib.hid c1
 have HC2 := Lib.hid c2
 by_cases c3 : bs[0] = ws[0]
 case neg =>
  have HE := Lib.hid (bad (by simp [c3]))
  have d3 : (bs[0] != ws[0]) = true := by simp [c3]
  clear bad good c1 c2 c3
  go_enter Tryz.func134, Tryz.ntmps134
  go_wp2_with fail
  go_quiet (fail)
  go_wp2_with fail
  go_ret2
  exact ShPost.fail HE.out (Bdrawn (Below.refl _ _) _)
 have d3 : (bs[0] != ws[0]) = false := by simp [c3]
 have bad := fun h : ¬ (Sh.right xs = true ∧ Safe.prod xs = ws[1]) => bad (by intro q; exact h ⟨q.2.2.2.1, q.2.2.2.2⟩)
 have good := good c3
 clear c1 c2 c3
 cases hr : Sh.right xs
 ·have HE := Lib.hid (bad (by simp [hr]))
  have HS := Lib.hid (show Sh.size xs = (0, 20) by simp [Sh.size, hr])
  clear bad good
  have Hr := Lib.hid hr
  clear hr
  go_enter Tryz.func134, Tryz.ntmps134
  go_wp2_with fail
  go_quiet (fail)
  go_wp2_with fail
  refine (shape_size C f xs _ (by omega) (HK.out.drewN _)).mono ?_
  rintro e w1 ⟨rfl, h1⟩
  rw [HS.out]
  go_wp2_with fail
  go_ret2
  exact ShPost.fail HE.out ((Bdrawn (Below.refl _ _) _).trans h1)
 have HS := Lib.hid (show Sh.size xs = (Safe.prod xs, 0) by simp [Sh.size, hr])
 by_cases hp : Safe.prod xs = ws[1]
 ·have HE := Lib.hid (good hr hp)
  have d5 : (Safe.prod xs != ws[1]) = false := by simp [hp]
  clear bad good hp
  have Hr := Lib.hid hr
  clear hr
  go_enter Tryz.func134, Tryz.ntmps134
  go_wp2_with fail
  go_quiet (fail)
  go_wp2_with fail
  refine (shape_size C f xs _ (by omega) (HK.out.drewN _)).mono ?_
  rintro e w1 ⟨rfl, h1⟩
  rw [HS.out]
  have hb1 : Below w.heap.size w w1 := (Bdrawn (Below.refl _ _) _).trans h1
  have x1 := (HI.out.below hb1 (Nat.le_refl _)).cell_at n1
  have x0 := (HI.out.below hb1 (Nat.le_refl _)).cell_at n0
  rw [Nat.add_zero] at x0
  go_wp2_with fail
  go_ret2
  refine ShPost.fresh (g := w1.heap.size) (t := 3) HE.out (by simp) hb1.size ?_ (by simp) (by omega) (hb1.alloc hb1.size _)
  exact Blk.new _ _ _
 ·have HE := Lib.hid (bad (by simp [hp]))
  have d5 : (Safe.prod xs != ws[1]) = true := by simp [hp]
  clear bad good hp
  have Hr := Lib.hid hr
  clear hr
  go_enter Tryz.func134, Tryz.ntmps134
  go_wp2_with fail
  go_quiet (fail)
  go_wp2_with fail
  refine (shape_size C f xs _ (by omega) (HK.out.drewN _)).mono ?_
  rintro e w1 ⟨rfl, h1⟩
  rw [HS.out]
  have hb1 : Below w.heap.size w w1 := (Bdrawn (Below.refl _ _) _).trans h1
  have x1 := (HI.out.below hb1 (Nat.le_refl _)).cell_at n1
  go_wp2_with fail
  go_ret2
  exact ShPost.fail HE.out hb1
theorem Od.same_bad {l : List (List Int)} {k : Nat} (hk : k < l.length) (h0 : 0 < l.length) (h : l[k] ≠ l[0]) : Od.same l = ([], 20) := by
 unfold Od.same
 rw [if_neg]
 rw [List.all_eq_true]
 intro q
 have := q l[k] (List.getElem_mem hk)
 rw [gets_at h0] at this
 simp [h] at this
theorem Od.same_good {l : List (List Int)} (h0 : 0 < l.length) (h : ∀ k (hk : k < l.length), l[k] = l[0]) : Od.same l = (l[0], 0) := by
 unfold Od.same
 rw [if_pos, gets_at h0]
 rw [List.all_eq_true]
 intro x hx
 obtain ⟨k, hk, rfl⟩ := List.getElem_of_mem hx
 rw [gets_at h0]
 simp [h k hk]
set_option maxHeartbeats 4000000 in
theorem op_same (A : Option Addr) (c : Nat) (ss : List (List Int)) (w : World) (h0 : 0 < ss.length) (hc : ss.length ≤ c) (hm : c ≤ 9223372036854775807) (hI : Shps w A ss) (hz : ∀ s ∈ ss, s.length ≤ 17592186043904) :
  Calls Tryz.prog 135 #[.slice A ss.length c] w (ShPost (Od.same ss) w) := by
 obtain ⟨b, off, _, _, rfl, hb, -⟩ := hI 0 h0
 have e0 : (0 : Int) < ss.length := by omega
 have e1 : (1 : Int) ≤ ss.length := by omega
 have HI := Lib.hid hI
 have Hz := Lib.hid hz
 clear hI hz
 by_cases hc1 : c = 1
 ·subst hc1
  have h1 : ss.length - 1 = 0 := by omega
  have HE := Lib.hid (Od.same_good h0 fun j hj => by obtain rfl : j = 0 := by omega
                                                     rfl)
  have z0 := Hz.out _ (List.getElem_mem h0)
  obtain ⟨S0, c0, y0, hI0, hc0, hm0⟩ := HI.out.cell_at h0
  rw [Nat.add_zero] at y0
  have HI0 := Lib.hid hI0
  clear hI0
  go_enter Tryz.func135, Tryz.ntmps135
  go_wp2_with fail
  go_loopw [9] (fun i wr => wr = w ∧ i = .int .i64 0) (fun _ _ => 0)
  case atStart => exact ⟨rfl, rfl⟩
  case round =>
   obtain ⟨rfl, rfl⟩ := hrel
   go_wp2_with fail
   refine (shape_copy S0 c0 ss[0] _ z0 HI0.out).mono ?_
   rintro e w1 ⟨g, rfl, hg, hB, h1⟩
   go_wp2_with fail
   go_ret2
   exact ShPost.fresh HE.out rfl hg hB (Nat.le_refl _) (by omega) h1
 go_enter Tryz.func135, Tryz.ntmps135
 go_wp2_with fail
 go_loopw [9] (fun i wr => ∃ k n : Nat, wr = w.drewN n ∧ k ≤ ss.length - 1 ∧ i = .int .i64 k ∧ ∀ j (hj : j < ss.length), j ≤ k → ss[j] = ss[0]) (fun i _ => ss.length - (intOf i).toNat)
 case atStart => exact ⟨0, 0, rfl, Nat.zero_le _, rfl, fun j hj h => by obtain rfl : j = 0 := by omega
                                                                        rfl⟩
 case round =>
  obtain ⟨k, n, rfl, hk, rfl, hall⟩ := hrel
  have HA := Lib.hid hall
  clear hall
  obtain ⟨S0, c0, y0, hI0, hc0, hm0⟩ := (HI.out.drewN n).cell_at h0
  rw [Nat.add_zero] at y0
  have HI0 := Lib.hid hI0
  clear hI0
  by_cases hlt : k < ss.length - 1
  ·have p1 : k + 1 < ss.length := by omega
   have k1 : (k : Int) < ((ss.length - 1 : Nat) : Int) := by omega
   obtain ⟨S1, c1, y1, hI1, hc1, hm1⟩ := (HI.out.drewN n).cell_at p1
   rw [show off + (k + 1) = off + 1 + k by omega] at y1
   have HI1 := Lib.hid hI1
   clear hI1
   have z1 := Hz.out _ (List.getElem_mem p1)
   have z0 := Hz.out _ (List.getElem_mem h0)
   by_cases hq : ss[k + 1] = ss[0]
   ·have hb : (ss[k + 1] == ss[0]) = true := by simp [hq]
    have HB := Lib.hid hb
    have HQ := Lib.hid hq
    clear hq hb
    go_wp2_with fail
    refine (shape_equal S1 S0 c1 c0 ss[k + 1] ss[0] _ z1 z0 HI1.out HI0.out).mono ?_
    rintro e w1 ⟨rfl, n1, rfl⟩
    rw [HB.out]
    go_wp2_with fail
    go_roundw
    case rel => exact ⟨k + 1, n + n1, by first | rfl | exact World.drewN_drewN _ _ _, by omega, by go_num, fun j hj h => by
     by_cases e : j = k + 1
     ·subst e; exact HQ.out
     ·exact HA.out j hj (by omega)⟩
    case measure => simp [intOf]; omega
   ·have hb : (ss[k + 1] == ss[0]) = false := by simp [hq]
    have HE := Lib.hid (Od.same_bad p1 h0 hq)
    have HB := Lib.hid hb
    clear hq hb
    go_wp2_with fail
    refine (shape_equal S1 S0 c1 c0 ss[k + 1] ss[0] _ z1 z0 HI1.out HI0.out).mono ?_
    rintro e w1 ⟨rfl, n1, rfl⟩
    rw [HB.out]
    go_wp2_with fail
    go_ret2
    exact ShPost.fail HE.out (Bdrawn (Below.refl _ _) _)
  ·obtain rfl : k = ss.length - 1 := by omega
   have k1 : ¬ (((ss.length - 1 : Nat) : Int) < ((ss.length - 1 : Nat) : Int)) := by omega
   have HE := Lib.hid (Od.same_good h0 fun j hj => HA.out j hj (by omega))
   have z0 := Hz.out _ (List.getElem_mem h0)
   go_wp2_with fail
   refine (shape_copy S0 c0 ss[0] _ z0 HI0.out).mono ?_
   rintro e w1 ⟨g, rfl, hg, hB, h1⟩
   go_wp2_with fail
   go_ret2
   exact ShPost.fresh HE.out rfl hg hB (Nat.le_refl _) (by omega) ((Bdrawn (Below.refl _ _) n).trans h1)
set_option maxHeartbeats 4000000 in
theorem op_turned (A B : Option Addr) (c d : Nat) (xs ss : List Int) (w : World) (hx : xs.length ≤ 17592186043904) (hs : ss.length ≤ 17592186043904) (hI : Ints .i64 w A xs) (hJ : Ints .i64 w B ss) :
  Calls Tryz.prog 137 #[.slice A xs.length c, .slice B ss.length d] w (ShPost (Od.turned xs ss) w) := by
 have HI := Lib.hid hI
 have HJ := Lib.hid hJ
 clear hI hJ
 cases hr : Sh.right xs
 ·have HE := Lib.hid (show Od.turned xs ss = ([], 20) by simp [Od.turned, hr])
  have HS := Lib.hid (show Sh.size xs = (0, 20) by simp [Sh.size, hr])
  clear hr
  go_enter Tryz.func137, Tryz.ntmps137
  go_wp2_with fail
  refine (shape_size A c xs _ (by omega) HI.out).mono ?_
  rintro e w1 ⟨rfl, h1⟩
  rw [HS.out]
  go_wp2_with fail
  go_ret2
  exact ShPost.fail HE.out h1
 have HS := Lib.hid (show Sh.size xs = (Safe.prod xs, 0) by simp [Sh.size, hr])
 cases hq : Sh.right ss
 ·have HE := Lib.hid (show Od.turned xs ss = ([], 20) by simp [Od.turned, hq])
  have HT := Lib.hid (show Sh.size ss = (0, 20) by simp [Sh.size, hq])
  clear hr hq
  go_enter Tryz.func137, Tryz.ntmps137
  go_wp2_with fail
  refine (shape_size A c xs _ (by omega) HI.out).mono ?_
  rintro e w1 ⟨rfl, h1⟩
  rw [HS.out]
  go_wp2_with fail
  refine (shape_size B d ss _ (by omega) (HJ.out.below h1 (Nat.le_refl _))).mono ?_
  rintro e w2 ⟨rfl, h2⟩
  rw [HT.out]
  go_wp2_with fail
  go_ret2
  exact ShPost.fail HE.out (h1.trans (h2.mono h1.size))
 have HT := Lib.hid (show Sh.size ss = (Safe.prod ss, 0) by simp [Sh.size, hq])
 by_cases hp : Safe.prod ss = Safe.prod xs
 ·have HE := Lib.hid (show Od.turned xs ss = (ss, 0) by simp [Od.turned, hr, hq, hp])
  have d5 : (Safe.prod ss != Safe.prod xs) = false := by simp [hp]
  clear hr hq hp
  go_enter Tryz.func137, Tryz.ntmps137
  go_wp2_with fail
  refine (shape_size A c xs _ (by omega) HI.out).mono ?_
  rintro e w1 ⟨rfl, h1⟩
  rw [HS.out]
  go_wp2_with fail
  refine (shape_size B d ss _ (by omega) (HJ.out.below h1 (Nat.le_refl _))).mono ?_
  rintro e w2 ⟨rfl, h2⟩
  have hb2 := h1.trans (h2.mono h1.size)
  rw [HT.out]
  go_wp2_with fail
  refine (shape_copy B d ss _ hs (HJ.out.below hb2 (Nat.le_refl _))).mono ?_
  rintro e w3 ⟨g, rfl, hg, hB, h3⟩
  go_wp2_with fail
  go_ret2
  exact ShPost.fresh HE.out rfl (Nat.le_trans hb2.size hg) hB (Nat.le_refl _) (by omega) (hb2.trans (h3.mono hb2.size))
 ·have HE := Lib.hid (show Od.turned xs ss = ([], 20) by simp [Od.turned, hp])
  have d5 : (Safe.prod ss != Safe.prod xs) = true := by simp [hp]
  clear hr hq hp
  go_enter Tryz.func137, Tryz.ntmps137
  go_wp2_with fail
  refine (shape_size A c xs _ (by omega) HI.out).mono ?_
  rintro e w1 ⟨rfl, h1⟩
  rw [HS.out]
  go_wp2_with fail
  refine (shape_size B d ss _ (by omega) (HJ.out.below h1 (Nat.le_refl _))).mono ?_
  rintro e w2 ⟨rfl, h2⟩
  rw [HT.out]
  go_wp2_with fail
  go_ret2
  exact ShPost.fail HE.out (h1.trans (h2.mono h1.size))
theorem Od.join_right {s t : List Int} {side : Int} (h : (Od.join s t side).2 = 0) : Sh.right (Od.join s t side).1 = true := by
 unfold Od.join at h ⊢
 split at h
 ·rename_i h1
  rw [if_pos h1]
  split at h
  ·rename_i h2
   rw [if_pos h2]
   split at h
   ·rename_i h3
    rw [if_pos h3]
    simp at h3
    exact h3.2
   ·simp at h
  ·simp at h
 ·simp at h
theorem Od.join_err {s t : List Int} {side : Int} (h : (Od.join s t side).2 ≠ 0) : (Od.join s t side).1 = [] := by
 unfold Od.join at h ⊢
 split
 ·split
  ·split
   ·rename_i h1 h2 h3; simp [h1, h2, h3] at h
   ·rfl
  ·rfl
 ·rfl
set_option maxHeartbeats 4000000 in
theorem op_joined (A : Option Addr) (c : Nat) (side : Int) (ss : List (List Int)) (w : World) (h0 : 0 < ss.length) (hc : ss.length ≤ c) (hm : c ≤ 9223372036854775807) (hI : Shps w A ss) (hz : ∀ s ∈ ss, s.length ≤ 17592186043904) :
  Calls Tryz.prog 136 #[.int .i64 side, .slice A ss.length c] w (ShPost (Od.joined side ss) w) := by
 obtain ⟨b, off, _, _, rfl, hb, -⟩ := hI 0 h0
 have e0 : (0 : Int) < ss.length := by omega
 have e1 : (1 : Int) ≤ ss.length := by omega
 have z0 := hz _ (List.getElem_mem h0)
 obtain ⟨S0, c0, y0, hI0, hc0, hm0⟩ := hI.cell_at h0
 rw [Nat.add_zero] at y0
 have HI := Lib.hid hI
 have Hz := Lib.hid hz
 have HI0 := Lib.hid hI0
 clear hI hz hI0
 have bad : ss.length = 1 → ¬ (0 ≤ side ∧ side < ss[0].length) → Od.joined side ss = ([], 11) := fun h1 h2 => by
  unfold Od.joined
  rw [if_pos ⟨h1, by rw [gets_at h0]; simp [Od.inR]; omega⟩]
 have good : (ss.length = 1 → 0 ≤ side ∧ side < ss[0].length) → Od.joined side ss = Od.joinAll side ss[0] (ss.drop 1) := fun h => by
  unfold Od.joined
  rw [if_neg, gets_at h0]
  rw [gets_at h0]
  rintro ⟨h1, h2⟩
  simp [Od.inR] at h2
  have := h h1
  omega
 by_cases c1 : ss.length = 1
 ·have d1 : ((ss.length : Int) == 1) = true := by simp; omega
  have l0 : ss.length - 1 = 0 := by omega
  have bad := bad c1
  by_cases s1 : side < 0
  ·have HE := Lib.hid (bad (by omega))
   clear bad good c1
   go_enter Tryz.func136, Tryz.ntmps136
   go_wp2_with fail
   go_ret2
   exact ShPost.fail HE.out (Below.refl _ _)
  ·by_cases s2 : (ss[0].length : Int) ≤ side
   ·have HE := Lib.hid (bad (by omega))
    clear bad good c1
    go_enter Tryz.func136, Tryz.ntmps136
    go_wp2_with fail
    go_ret2
    exact ShPost.fail HE.out (Below.refl _ _)
   ·have HE := Lib.hid (show Od.joined side ss = (ss[0], 0) by rw [good (by omega), List.drop_eq_nil_of_le (by omega)]; rfl)
    clear bad good c1
    by_cases hc1 : c = 1
    ·subst hc1
     go_enter Tryz.func136, Tryz.ntmps136
     go_wp2_with fail
     refine (shape_copy S0 c0 ss[0] _ z0 HI0.out).mono ?_
     rintro e w1 ⟨g, rfl, hg, hB, h1⟩
     have HB := Lib.hid hB
     clear hB y0
     go_wp2_with fail
     go_loopw [6, 33] (fun v i wr => v = .slice (some ⟨g, 0, none⟩) ss[0].length ss[0].length ∧ wr = w1 ∧ i = .int .i64 0) (fun _ _ _ => 0)
     case atStart => exact ⟨rfl, rfl, rfl⟩
     case round =>
      obtain ⟨rfl, rfl, rfl⟩ := hrel
      go_wp2_with fail
      go_ret2
      exact ShPost.fresh HE.out rfl hg HB.out (Nat.le_refl _) (by omega) h1
    ·go_enter Tryz.func136, Tryz.ntmps136
     go_wp2_with fail
     refine (shape_copy S0 c0 ss[0] _ z0 HI0.out).mono ?_
     rintro e w1 ⟨g, rfl, hg, hB, h1⟩
     have HB := Lib.hid hB
     clear hB y0
     go_wp2_with fail
     go_loopw [6, 33] (fun v i wr => v = .slice (some ⟨g, 0, none⟩) ss[0].length ss[0].length ∧ wr = w1 ∧ i = .int .i64 0) (fun _ _ _ => 0)
     case atStart => exact ⟨rfl, rfl, rfl⟩
     case round =>
      obtain ⟨rfl, rfl, rfl⟩ := hrel
      go_wp2_with fail
      go_ret2
      exact ShPost.fresh HE.out rfl hg HB.out (Nat.le_refl _) (by omega) h1
 ·have d1 : ((ss.length : Int) == 1) = false := by simp; omega
  have hc1 : ¬ c = 1 := by omega
  have HG := Lib.hid (good (by omega))
  clear bad good c1
  go_enter Tryz.func136, Tryz.ntmps136
  go_wp2_with fail
  refine (shape_copy S0 c0 ss[0] _ z0 HI0.out).mono ?_
  rintro e w1 ⟨g, rfl, hg, hB, h1⟩
  have HB := Lib.hid (show Blk w1 g 3 (ss[0].map (Value.int .i64)).toArray from hB)
  clear hB y0
  go_wp2_with fail
  go_loopw [6, 33] (fun v i wr => ∃ (k : Nat) (cur : List Int) (S : Option Addr) (d : Nat), k ≤ ss.length - 1 ∧ i = .int .i64 k ∧ v = .slice S cur.length d ∧ Ints .i64 wr S cur ∧ cur.length ≤ d ∧ d ≤ 9223372036854775807 ∧ cur.length ≤ 17592186043904 ∧ (∀ a, S = some a → w.heap.size ≤ a.block) ∧ Below w.heap.size w wr ∧ Od.joined side ss = Od.joinAll side cur (ss.drop (k + 1))) (fun _ i _ => ss.length - (intOf i).toNat)
  case atStart => exact ⟨0, ss[0], _, _, Nat.zero_le _, rfl, rfl, Ints.of_row fun j hj => by rw [HB.out.cell]; simp [hj], Nat.le_refl _, by omega, by omega, (fun a h => by injection h with h; subst h; exact hg), h1, HG.out⟩
  case round =>
   obtain ⟨k, cur, S, d, hk, rfl, rfl, hcur, q1, q2, q3, hfr, hbw, hgo⟩ := hrel
   have Hcur := Lib.hid hcur
   have Hgo := Lib.hid hgo
   have Hfr := Lib.hid hfr
   clear hcur hgo hfr
   clear HB
   by_cases hlt : k < ss.length - 1
   ·have p1 : k + 1 < ss.length := by omega
    have k1 : (k : Int) < ((ss.length - 1 : Nat) : Int) := by omega
    obtain ⟨S1, c1, y1, hI1, hc1, hm1⟩ := (HI.out.below hbw (Nat.le_refl _)).cell_at p1
    rw [show off + (k + 1) = off + 1 + k by omega] at y1
    have z1 := Hz.out _ (List.getElem_mem p1)
    have hj := shape_join S S1 d c1 cur ss[k + 1] side wr q3 z1 Hcur.out hI1
    have hgo2 : Od.joinAll side cur (ss.drop (k + 1)) = if (Od.join cur ss[k + 1] side).2 = 0 then Od.joinAll side (Od.join cur ss[k + 1] side).1 (ss.drop (k + 1 + 1)) else ([], (Od.join cur ss[k + 1] side).2) := by
     rw [List.drop_eq_getElem_cons p1, Od.joinAll]
    have hright := fun h : (Od.join cur ss[k + 1] side).2 = 0 => Sh.right_mul (Od.join_right (s := cur) (t := ss[k + 1]) (side := side) h)
    have herr := fun h : (Od.join cur ss[k + 1] side).2 ≠ 0 => Od.join_err (s := cur) (t := ss[k + 1]) (side := side) h
    generalize Od.join cur ss[k + 1] side = r at *
    have Hj := Lib.hid hj
    have Hgo2 := Lib.hid hgo2
    have HI1 := Lib.hid hI1
    have Hright := Lib.hid hright
    have Herr := Lib.hid herr
    clear hj hgo2 hI1 hright herr
    go_wp2_with fail
    refine (Hj.out).mono ?_
    rintro e w2 ⟨S2, d2, rfl, hI2, l1, l2, hf2, hb2⟩
    have hbw2 := hbw.trans (hb2.mono hbw.size)
    have HI2 := Lib.hid hI2
    have Hf2 := Lib.hid hf2
    clear hI2 hf2
    by_cases hr : r.2 = 0
    ·have d3 : (r.2 != 0) = false := by simp [hr]
     have HR := Lib.hid hr
     clear hr
     go_wp2_with fail
     go_roundw
     case rel => exact ⟨k + 1, r.1, S2, d2, by omega, by go_num, rfl, HI2.out, l1, l2, by have := (Hright.out HR.out).2.1; omega, (fun a h => Nat.le_trans hbw.size (Hf2.out a h)), hbw2, by rw [Hgo.out, Hgo2.out, if_pos HR.out]⟩
     case measure => simp [intOf]; omega
    ·have d3 : (r.2 != 0) = true := by simp [hr]
     have HE := Lib.hid (show Od.joined side ss = ([], r.2) by rw [Hgo.out, Hgo2.out, if_neg hr])
     clear hr
     go_wp2_with fail
     go_ret2
     exact ShPost.fail HE.out hbw2
   ·obtain rfl : k = ss.length - 1 := by omega
    have k1 : ¬ (((ss.length - 1 : Nat) : Int) < ((ss.length - 1 : Nat) : Int)) := by omega
    have HE := Lib.hid (show Od.joined side ss = (cur, 0) by rw [Hgo.out, List.drop_eq_nil_of_le (by omega)]; rfl)
    go_wp2_with fail
    go_ret2
    exact ShPost.mk' HE.out rfl Hcur.out q1 q2 Hfr.out hbw
end Go.Proofs.YtbnnpkcfifejmabGreat
namespace Go.Proofs.YtbnnpkcfifejmabGreat
open Go.RowKit
theorem Od.shape_bad_p {o : OpD} {p x : List (List Int)} (h : Od.counts o p.length x.length = 0) (hp : ¬ (p.all Sh.right = true ∧ x.all Sh.right = true)) : Od.shape o p x = ([], 20) := by
 unfold Od.shape
 rw [if_neg (by simp [h]), if_neg (by simpa using hp)]
theorem Od.shape_go {o : OpD} {p x : List (List Int)} (h : Od.counts o p.length x.length = 0) (hp : p.all Sh.right = true) (hx : x.all Sh.right = true) : Od.shape o p x = Od.byKind o p x := by
 unfold Od.shape
 rw [if_neg (by simp [h]), if_pos (by simp only [Bool.and_eq_true]; exact ⟨hp, hx⟩)]
theorem Od.counts_ok {o : OpD} {p x : Int} (h : Od.counts o p x = 0) : Od.right o = true ∧ Od.least o ≤ x ∧ x ≤ Od.most o ∧ p = Od.params o := by
 unfold Od.counts at h
 split at h
 ·rename_i hr
  split at h
  ·simp at h
  ·rename_i hc; exact ⟨hr, by omega, by omega, by omega⟩
 ·simp at h
theorem all_bad {ss : List (List Int)} {k : Nat} (hk : k < ss.length) (h : Sh.right ss[k] = false) : ¬ ss.all Sh.right = true := by
 rw [List.all_eq_true]
 intro q
 have := q _ (List.getElem_mem hk)
 rw [h] at this
 cases this
def ShpIn (w : World) (A : Option Addr) (c : Nat) (ss : List (List Int)) : Prop := Shps w A ss ∧ ss.length ≤ c ∧ c ≤ 9223372036854775807 ∧ ∀ s ∈ ss, s.length ≤ 17592186043904
theorem ShpIn.below {w w' : World} {A : Option Addr} {c B : Nat} {ss : List (List Int)} (h : ShpIn w A c ss) (hb : Below B w w') (hB : w.heap.size ≤ B) : ShpIn w' A c ss := ⟨h.1.below hb hB, h.2⟩
theorem ShpIn.at_ {w : World} {A : Option Addr} {c : Nat} {ss : List (List Int)} (h : ShpIn w A c ss) {k : Nat} (hk : k < ss.length) :
  ∃ b off S d, A = some ⟨b, off, none⟩ ∧ w.cell? ⟨b, off + k, none⟩ = some (.slice S ss[k].length d) ∧ Ints .i64 w S ss[k] ∧ ss[k].length ≤ d ∧ d ≤ 9223372036854775807 ∧ ss[k].length ≤ 17592186043904 := by
 obtain ⟨b, off, S, d, e, _, hc, h1, h2, h3⟩ := h.1 k hk
 exact ⟨b, off, S, d, e, hc, h1, h2, h3, h.2.2.2 _ (List.getElem_mem hk)⟩
theorem ShpIn.two {w : World} {A : Option Addr} {c : Nat} {ss : List (List Int)} (h : ShpIn w A c ss) (h1 : 1 < ss.length) :
  ∃ b off S d S' d', A = some ⟨b, off, none⟩ ∧ w.cell? ⟨b, off, none⟩ = some (.slice S ss[0].length d) ∧ w.cell? ⟨b, off + 1, none⟩ = some (.slice S' ss[1].length d') ∧ Ints .i64 w S ss[0] ∧ Ints .i64 w S' ss[1] ∧ ss[0].length ≤ 17592186043904 ∧ ss[1].length ≤ 17592186043904 := by
 obtain ⟨b, off, S, d, rfl, y, hI, _, _, l⟩ := h.at_ (by omega : 0 < ss.length)
 obtain ⟨b', off', S', d', e, y', hI', _, _, l'⟩ := h.at_ h1
 injection e with e
 injection e with e1 e2
 subst e1 e2
 exact ⟨b, off, S, d, S', d', rfl, y, y', hI, hI', l, l'⟩
theorem cell_below {w w' : World} {p : Addr} {v : Value} (hb : Below w.heap.size w w') (hc : w.cell? p = some v) : w'.cell? p = some v := (hb.cell (p := p) (World.block_lt_of_cell? _ _ hc)).trans hc
theorem pair_shps {w : World} {t : TypeId} {S S' : Option Addr} {d d' : Nat} {s s' : List Int} (h : Ints .i64 w S s) (h' : Ints .i64 w S' s') (l1 : s.length ≤ d) (l2 : d ≤ 9223372036854775807) (l1' : s'.length ≤ d') (l2' : d' ≤ 9223372036854775807) :
  Shps (w.alloc (.cells #[.slice S s.length d, .slice S' s'.length d'] t)) (some ⟨w.heap.size, 0, none⟩) [s, s'] := fun j hj => by
 have hk := Blk.new w t #[.slice S s.length d, .slice S' s'.length d']
 match j, hj with
 | 0, _ => exact ⟨_, _, S, d, rfl, hk.lt, by rw [hk.cell]; rfl, h.alloc _, l1, l2⟩
 | 1, _ => exact ⟨_, _, S', d', rfl, hk.lt, by rw [hk.cell]; rfl, h'.alloc _, l1', l2'⟩
theorem ShPost.pass {r r' : List Int × Int} {w wx w' : World} {S : Option Addr} {d : Nat} (he : r' = r) (hbx : Below w.heap.size w wx) (hI : Ints .i64 w' S r.1) (h1 : r.1.length ≤ d) (h2 : d ≤ 9223372036854775807) (hf : ∀ a, S = some a → wx.heap.size ≤ a.block) (hb : Below wx.heap.size wx w') :
  ShPost r' w (.returned (.tuple #[.slice S r.1.length d, .int .i64 r.2])) w' := by
 subst he
 exact ⟨S, d, rfl, hI, h1, h2, (fun a h => Nat.le_trans hbx.size (hf a h)), hbx.trans (hb.mono hbx.size)⟩
set_option maxHeartbeats 8000000 in
theorem op_shape (o : OpD) (S P X : Option Addr) (c d f : Nat) (p x : List (List Int)) (w : World) (ho : o.s.length ≤ 17592186043904) (hI : Ints .i64 w S o.s) (hP : ShpIn w P d p) (hX : ShpIn w X f x) :
  Calls Tryz.prog 99 #[.agg #[.int .i64 o.kind, .int .i64 o.k, .int .i64 o.width, .int .i64 o.step, .int .i64 o.side, .int .i64 o.frm, .int .i64 o.to, .slice S o.s.length c], .slice P p.length d, .slice X x.length f] w (ShPost (Od.shape o p x) w) := by
 have hk0 := Blk.new w 45 #[.int .i64 o.kind, .int .i64 o.k, .int .i64 o.width, .int .i64 o.step, .int .i64 o.side, .int .i64 o.frm, .int .i64 o.to, .slice S o.s.length c]
 have hb0 : Below w.heap.size w (w.alloc (.cells #[.int .i64 o.kind, .int .i64 o.k, .int .i64 o.width, .int .i64 o.step, .int .i64 o.side, .int .i64 o.frm, .int .i64 o.to, .slice S o.s.length c] 45)) := (Below.refl _ _).alloc (Nat.le_refl _) _
 have hlt0 := hk0.lt
 have hr := op_counts o S c p.length x.length (w.alloc (.cells #[.int .i64 o.kind, .int .i64 o.k, .int .i64 o.width, .int .i64 o.step, .int .i64 o.side, .int .i64 o.frm, .int .i64 o.to, .slice S o.s.length c] 45)) ho (hI.alloc _)
 have hpl : p.length ≤ 9223372036854775807 := by have := hP.2.1; have := hP.2.2.1; omega
 have hxl : x.length ≤ 9223372036854775807 := by have := hX.2.1; have := hX.2.2.1; omega
 by_cases hq : Od.counts o p.length x.length = 0
 case neg =>
  have d1 : (Od.counts o p.length x.length != 0) = true := by simp [hq]
  have HE := Lib.hid (show Od.shape o p x = ([], Od.counts o p.length x.length) by unfold Od.shape; rw [if_pos hq])
  generalize Od.counts o p.length x.length = n at *
  have Hr := Lib.hid hr
  have Hk0 := Lib.hid hk0
  have HI := Lib.hid hI
  have HP := Lib.hid hP
  have HX := Lib.hid hX
  clear hr hk0 hI hP hX
  clear hq
  go_enter Tryz.func99, Tryz.ntmps99
  go_wp2_with fail
  refine (Hr.out).mono ?_
  rintro e w1 ⟨rfl, h1⟩
  go_wp2_with fail
  go_ret2
  exact ShPost.fail HE.out (hb0.trans (h1.mono hb0.size))
 have HQ := Lib.hid hq
 rw [hq] at hr
 have Hr := Lib.hid hr
 have Hk0 := Lib.hid hk0
 have HI := Lib.hid hI
 have HP := Lib.hid hP
 have HX := Lib.hid hX
 clear hr hk0 hI hP hX
 clear hq
 go_enter Tryz.func99, Tryz.ntmps99
 go_wp2_with fail
 refine (Hr.out).mono ?_
 rintro e w1 ⟨rfl, h1⟩
 have hb1 := hb0.trans (h1.mono hb0.size)
 have HK := Lib.hid (Hk0.out.below h1 hlt0)
 clear Hk0 Hr
 go_wp2_with fail
 go_loopw [24] (fun i wr => ∃ k : Nat, k ≤ p.length ∧ i = .int .i64 k ∧ Blk wr w.heap.size 45 #[.int .i64 o.kind, .int .i64 o.k, .int .i64 o.width, .int .i64 o.step, .int .i64 o.side, .int .i64 o.frm, .int .i64 o.to, .slice S o.s.length c] ∧ Below w.heap.size w wr ∧ ∀ j (h : j < p.length), j < k → Sh.right p[j] = true) (fun i _ => p.length - (intOf i).toNat)
 case atStart => exact ⟨0, Nat.zero_le _, rfl, HK.out, hb1, fun j _ h => by omega⟩
 case round =>
  obtain ⟨k, hk, rfl, hblk, hbw, hall⟩ := hrel
  have Hblk := Lib.hid hblk
  have Hall := Lib.hid hall
  clear hblk hall
  clear HK hb1
  by_cases hlt : k < p.length
  ·obtain ⟨b, off, S1, d1, rfl, y1, hI1, l1, l2, l3⟩ := (HP.out.below hbw (Nat.le_refl _)).at_ hlt
   have hcall := shape_right S1 d1 p[k] wr (by omega) hI1
   cases hrr : Sh.right p[k]
   ·have HE := Lib.hid (Od.shape_bad_p (x := x) HQ.out fun q => all_bad hlt hrr q.1)
    rw [hrr] at hcall
    have Hcall := Lib.hid hcall
    have HI1 := Lib.hid hI1
    clear hcall hI1
    clear hrr
    go_wp2_with fail
    refine (Hcall.out).mono ?_
    rintro e w2 ⟨rfl, h2⟩
    go_wp2_with fail
    go_ret2
    exact ShPost.fail HE.out (hbw.trans (h2.mono hbw.size))
   ·rw [hrr] at hcall
    have Hcall := Lib.hid hcall
    have HI1 := Lib.hid hI1
    have Hrr := Lib.hid hrr
    clear hcall hI1 hrr
    go_wp2_with fail
    refine (Hcall.out).mono ?_
    rintro e w2 ⟨rfl, h2⟩
    go_wp2_with fail
    go_roundw
    case rel => exact ⟨k + 1, by omega, by go_num, Hblk.out.below h2 Hblk.out.lt, hbw.trans (h2.mono hbw.size), fun j hj h => by
     by_cases e : j = k
     ·subst e; exact Hrr.out
     ·exact Hall.out j hj (by omega)⟩
    case measure => simp [intOf]; omega
  ·obtain rfl : k = p.length := by omega
   have HPA := Lib.hid (show p.all Sh.right = true by
    rw [List.all_eq_true]
    intro s hs
    obtain ⟨j, hj, rfl⟩ := List.getElem_of_mem hs
    exact Hall.out j hj hj)
   clear Hall
   go_wp2_with fail
   go_loopw [34] (fun i wx => ∃ k : Nat, k ≤ x.length ∧ i = .int .i64 k ∧ Blk wx w.heap.size 45 #[.int .i64 o.kind, .int .i64 o.k, .int .i64 o.width, .int .i64 o.step, .int .i64 o.side, .int .i64 o.frm, .int .i64 o.to, .slice S o.s.length c] ∧ Below w.heap.size w wx ∧ ∀ j (h : j < x.length), j < k → Sh.right x[j] = true) (fun i _ => x.length - (intOf i).toNat)
   case atStart => exact ⟨0, Nat.zero_le _, rfl, Hblk.out, hbw, fun j _ h => by omega⟩
   case round =>
    obtain ⟨k, hk, rfl, hblx, hbx, hall⟩ := hrel
    have Hblx := Lib.hid hblx
    have Hall := Lib.hid hall
    clear hblx hall
    clear Hblk hbw
    by_cases hlt : k < x.length
    ·obtain ⟨b, off, S1, d1, rfl, y1, hI1, l1, l2, l3⟩ := (HX.out.below hbx (Nat.le_refl _)).at_ hlt
     have hcall := shape_right S1 d1 x[k] wr (by omega) hI1
     cases hrr : Sh.right x[k]
     ·have HE := Lib.hid (Od.shape_bad_p (p := p) HQ.out fun q => all_bad hlt hrr q.2)
      rw [hrr] at hcall
      have Hcall := Lib.hid hcall
      have HI1 := Lib.hid hI1
      clear hcall hI1
      clear hrr
      go_wp2_with fail
      refine (Hcall.out).mono ?_
      rintro e w2 ⟨rfl, h2⟩
      go_wp2_with fail
      go_ret2
      exact ShPost.fail HE.out (hbx.trans (h2.mono hbx.size))
     ·rw [hrr] at hcall
      have Hcall := Lib.hid hcall
      have HI1 := Lib.hid hI1
      have Hrr := Lib.hid hrr
      clear hcall hI1 hrr
      go_wp2_with fail
      refine (Hcall.out).mono ?_
      rintro e w2 ⟨rfl, h2⟩
      go_wp2_with fail
      go_roundw
      case rel => exact ⟨k + 1, by omega, by go_num, Hblx.out.below h2 Hblx.out.lt, hbx.trans (h2.mono hbx.size), fun j hj h => by
       by_cases e : j = k
       ·subst e; exact Hrr.out
       ·exact Hall.out j hj (by omega)⟩
      case measure => simp [intOf]; omega
    ·obtain rfl : k = x.length := by omega
     have hgo := Od.shape_go HQ.out HPA.out (show x.all Sh.right = true by
      rw [List.all_eq_true]
      intro s hs
      obtain ⟨j, hj, rfl⟩ := List.getElem_of_mem hs
      exact Hall.out j hj hj)
     clear Hall HPA
     obtain ⟨q1, q2, q3, q4⟩ := Od.counts_ok HQ.out
     have hkind := Od.right_kind q1
     have hleast := Od.least_pos q1
     have hpar : Od.params o = if o.kind = 8 then 2 else if o.kind = 9 ∨ o.kind = 10 then 1 else 0 := by unfold Od.params; rw [if_pos q1]
     have hx0 : 0 < x.length := by omega
     obtain ⟨b, off, S1, d1, rfl, y1, hI1, l1, l2, l3⟩ := (HX.out.below hbx (Nat.le_refl _)).at_ hx0
     obtain ⟨x0, x1, x2, x3, x4, x5, x6, x7⟩ := op_cells Hblx.out
     rw [Nat.add_zero] at y1
     have f0 : (0 : Int) < x.length := by omega
     by_cases k8 : o.kind = 8
     ·have hidk := Lib.hid k8
      have hp2 : p.length = 2 := by simp only [hpar] at q4; split at q4 <;> omega
      have hp0 : 0 < p.length := by omega
      have g0 : (0 : Int) < p.length := by omega
      have hp1 : 1 < p.length := by omega
      have g1 : (1 : Int) < p.length := by omega
      obtain ⟨b', off', S2, d2, S3, d3, rfl, y2, y3, hI2, hI3, m3, n3⟩ := (HP.out.below hbx (Nat.le_refl _)).two hp1
      have HE := Lib.hid (show Od.shape o p x = Od.dense p[0] p[1] x[0] by rw [hgo]; unfold Od.byKind; rw [if_pos k8, gets_at hp0, gets_at hp1, gets_at hx0])
      have hself : Below wr.heap.size wr wr.drew := (Below.refl _ _).drew
      have hkeep : ∀ W, Below wr.heap.size wr W → W.cell? ⟨b', off', none⟩ = some (.slice S2 p[0].length d2) ∧ W.cell? ⟨b', off' + 1, none⟩ = some (.slice S3 p[1].length d3) ∧ W.cell? ⟨b, off, none⟩ = some (.slice S1 x[0].length d1) := fun W hW => ⟨cell_below hW y2, cell_below hW y3, cell_below hW y1⟩
      have Hkeep := Lib.hid hkeep
      clear hkeep
      have HI1 := Lib.hid hI1
      have HI2 := Lib.hid hI2
      have HI3 := Lib.hid hI3
      clear hI1 hI2 hI3
      clear hgo hkind hleast q1 q2 q3 q4 hpar hp2
      skip
      all_goals
       rw [k8] at x0
       clear k8 hidk
       go_wp2_with fail
       go_region_held3 (fun W => W.cell? ⟨b', off', none⟩ = some (.slice S2 p[0].length d2) ∧ W.cell? ⟨b', off' + 1, none⟩ = some (.slice S3 p[1].length d3) ∧ W.cell? ⟨b, off, none⟩ = some (.slice S1 x[0].length d1)) (first | exact Hkeep.out _ hb5 | exact Hkeep.out _ hself)
        ((go_at_call 134; refine (op_dense S2 S3 S1 d2 d3 d1 p[0] p[1] x[0] _ l3 (HI2.out.below hself (Nat.le_refl _)) (HI3.out.below hself (Nat.le_refl _)) (HI1.out.below hself (Nat.le_refl _))).mono ?_; rintro e w3 ⟨S5, d5, rfl, hI5, r1, r2, hf5, hb5⟩; have hb5 := hself.trans hb5; have HI5 := Lib.hid hI5; clear hI5))
       all_goals
        go_wp2_with fail
        go_ret2
        exact ShPost.pass HE.out hbx HI5.out r1 r2 hf5 hb5
     by_cases k10 : o.kind = 10
     ·have hidk := Lib.hid k10
      have hpx : p.length = 1 := by simp only [hpar] at q4; split at q4 <;> omega
      have hp0 : 0 < p.length := by omega
      have g0 : (0 : Int) < p.length := by omega
      obtain ⟨b', off', S2, d2, rfl, y2, hI2, m1, m2, m3⟩ := (HP.out.below hbx (Nat.le_refl _)).at_ hp0
      rw [Nat.add_zero] at y2
      have HE := Lib.hid (show Od.shape o p x = Od.conv p[0] x[0] o.step by rw [hgo]; unfold Od.byKind; rw [if_neg (by omega), if_neg (by omega), if_pos k10, gets_at hp0, gets_at hx0])
      have hself : Below wr.heap.size wr wr.drew := (Below.refl _ _).drew
      have hkeep : ∀ W, Below wr.heap.size wr W → W.cell? ⟨b', off', none⟩ = some (.slice S2 p[0].length d2) ∧ W.cell? ⟨b, off, none⟩ = some (.slice S1 x[0].length d1) ∧ W.cell? ⟨w.heap.size, 3, none⟩ = some (.int .i64 o.step) := fun W hW => ⟨cell_below hW y2, cell_below hW y1, cell_below hW x3⟩
      have Hkeep := Lib.hid hkeep
      clear hkeep
      have HI1 := Lib.hid hI1
      have HI2 := Lib.hid hI2
      clear hI1 hI2
      clear hgo hkind hleast q1 q2 q3 q4 hpar hpx
      skip
      all_goals
       rw [k10] at x0
       clear k10 hidk
       go_wp2_with fail
       go_region_held3 (fun W => W.cell? ⟨b', off', none⟩ = some (.slice S2 p[0].length d2) ∧ W.cell? ⟨b, off, none⟩ = some (.slice S1 x[0].length d1) ∧ W.cell? ⟨w.heap.size, 3, none⟩ = some (.int .i64 o.step)) (first | exact Hkeep.out _ hb5 | exact Hkeep.out _ hself)
        ((go_at_call 65; refine (conv_shape S2 S1 d2 d1 p[0] x[0] o.step _ m3 l3 l1 l2 (HI2.out.below hself (Nat.le_refl _)) (HI1.out.below hself (Nat.le_refl _))).mono ?_; rintro e w3 ⟨S5, d5, rfl, hI5, r1, r2, hf5, hb5⟩; have hb5 := hself.trans hb5; have HI5 := Lib.hid hI5; clear hI5))
       all_goals
        go_wp2_with fail
        go_ret2
        exact ShPost.pass HE.out hbx HI5.out r1 r2 hf5 hb5
     by_cases k11 : o.kind = 11 ∨ o.kind = 12
     ·have hidk := Lib.hid k11
      have HE := Lib.hid (show Od.shape o p x = Od.pool x[0] o.width o.step by rw [hgo]; unfold Od.byKind; rw [if_neg (by omega), if_neg (by omega), if_neg (by omega), if_pos (by omega), gets_at hx0])
      have hself : Below wr.heap.size wr wr.drew := (Below.refl _ _).drew
      have hkeep : ∀ W, Below wr.heap.size wr W → W.cell? ⟨b, off, none⟩ = some (.slice S1 x[0].length d1) ∧ W.cell? ⟨w.heap.size, 2, none⟩ = some (.int .i64 o.width) ∧ W.cell? ⟨w.heap.size, 3, none⟩ = some (.int .i64 o.step) := fun W hW => ⟨cell_below hW y1, cell_below hW x2, cell_below hW x3⟩
      have Hkeep := Lib.hid hkeep
      clear hkeep
      have HI1 := Lib.hid hI1
      clear hI1
      clear hgo hkind hleast q1 q2 q3 q4 hpar
      rcases k11 with k11 | k11
      all_goals
       rw [k11] at x0
       clear k11 hidk
       go_wp2_with fail
       go_region_held3 (fun W => W.cell? ⟨b, off, none⟩ = some (.slice S1 x[0].length d1) ∧ W.cell? ⟨w.heap.size, 2, none⟩ = some (.int .i64 o.width) ∧ W.cell? ⟨w.heap.size, 3, none⟩ = some (.int .i64 o.step)) (first | exact Hkeep.out _ hb5 | exact Hkeep.out _ hself)
        ((go_at_call 111; refine (pool_shape S1 d1 x[0] o.width o.step _ l3 (HI1.out.below hself (Nat.le_refl _))).mono ?_; rintro e w3 ⟨S5, d5, rfl, hI5, r1, r2, hf5, hb5⟩; have hb5 := hself.trans hb5; have HI5 := Lib.hid hI5; clear hI5))
       all_goals
        go_wp2_with fail
        go_ret2
        exact ShPost.pass HE.out hbx HI5.out r1 r2 hf5 hb5
     by_cases k13 : o.kind = 13
     ·have hidk := Lib.hid k13
      have HE := Lib.hid (show Od.shape o p x = Od.joined o.side x by rw [hgo]; unfold Od.byKind; rw [if_neg (by omega), if_neg (by omega), if_neg (by omega), if_neg (by omega), if_pos (by omega)])
      have hself : Below wr.heap.size wr wr.drew := (Below.refl _ _).drew
      have HI1 := Lib.hid hI1
      clear hI1
      clear hgo hkind hleast q1 q2 q3 q4 hpar
      skip
      all_goals
       rw [k13] at x0
       clear k13 hidk
       go_wp2_with fail
       refine (op_joined _ f o.side x _ hx0 (HX.out.2.1) (HX.out.2.2.1) (HX.out.below hbx (Nat.le_refl _)).1 HX.out.2.2.2).mono ?_
       rintro e w3 ⟨S5, d5, rfl, hI5, r1, r2, hf5, hb5⟩
       have HI5 := Lib.hid hI5
       clear hI5
       go_wp2_with fail
       go_ret2
       exact ShPost.pass HE.out hbx HI5.out r1 r2 hf5 hb5
     by_cases k14 : o.kind = 14
     ·have hidk := Lib.hid k14
      have HE := Lib.hid (show Od.shape o p x = Od.cut x[0] o.side o.frm o.to by rw [hgo]; unfold Od.byKind; rw [if_neg (by omega), if_neg (by omega), if_neg (by omega), if_neg (by omega), if_neg (by omega), if_pos (by omega), gets_at hx0])
      have hself : Below wr.heap.size wr wr.drew := (Below.refl _ _).drew
      have hkeep : ∀ W, Below wr.heap.size wr W → W.cell? ⟨b, off, none⟩ = some (.slice S1 x[0].length d1) ∧ W.cell? ⟨w.heap.size, 4, none⟩ = some (.int .i64 o.side) ∧ W.cell? ⟨w.heap.size, 5, none⟩ = some (.int .i64 o.frm) ∧ W.cell? ⟨w.heap.size, 6, none⟩ = some (.int .i64 o.to) := fun W hW => ⟨cell_below hW y1, cell_below hW x4, cell_below hW x5, cell_below hW x6⟩
      have Hkeep := Lib.hid hkeep
      clear hkeep
      have HI1 := Lib.hid hI1
      clear hI1
      clear hgo hkind hleast q1 q2 q3 q4 hpar
      skip
      all_goals
       rw [k14] at x0
       clear k14 hidk
       go_wp2_with fail
       go_region_held3 (fun W => W.cell? ⟨b, off, none⟩ = some (.slice S1 x[0].length d1) ∧ W.cell? ⟨w.heap.size, 4, none⟩ = some (.int .i64 o.side) ∧ W.cell? ⟨w.heap.size, 5, none⟩ = some (.int .i64 o.frm) ∧ W.cell? ⟨w.heap.size, 6, none⟩ = some (.int .i64 o.to)) (first | exact Hkeep.out _ hb5 | exact Hkeep.out _ hself)
        ((go_at_call 114; refine (shape_cut S1 d1 x[0] o.side o.frm o.to _ l3 (HI1.out.below hself (Nat.le_refl _))).mono ?_; rintro e w3 ⟨S5, d5, rfl, hI5, r1, r2, hf5, hb5⟩; have hb5 := hself.trans hb5; have HI5 := Lib.hid hI5; clear hI5))
       all_goals
        go_wp2_with fail
        go_ret2
        exact ShPost.pass HE.out hbx HI5.out r1 r2 hf5 hb5
     by_cases k15 : o.kind = 15
     ·have hidk := Lib.hid k15
      have HE := Lib.hid (show Od.shape o p x = Od.turned x[0] o.s by rw [hgo]; unfold Od.byKind; rw [if_neg (by omega), if_neg (by omega), if_neg (by omega), if_neg (by omega), if_neg (by omega), if_neg (by omega), if_pos (by omega), gets_at hx0])
      have hself : Below wr.heap.size wr wr.drew := (Below.refl _ _).drew
      have hkeep : ∀ W, Below wr.heap.size wr W → W.cell? ⟨b, off, none⟩ = some (.slice S1 x[0].length d1) ∧ W.cell? ⟨w.heap.size, 7, none⟩ = some (.slice S o.s.length c) := fun W hW => ⟨cell_below hW y1, cell_below hW x7⟩
      have Hkeep := Lib.hid hkeep
      clear hkeep
      have HI1 := Lib.hid hI1
      clear hI1
      clear hgo hkind hleast q1 q2 q3 q4 hpar
      skip
      all_goals
       rw [k15] at x0
       clear k15 hidk
       go_wp2_with fail
       go_region_held3 (fun W => W.cell? ⟨b, off, none⟩ = some (.slice S1 x[0].length d1) ∧ W.cell? ⟨w.heap.size, 7, none⟩ = some (.slice S o.s.length c)) (first | exact Hkeep.out _ hb5 | exact Hkeep.out _ hself)
        ((go_at_call 137; refine (op_turned S1 S d1 c x[0] o.s _ l3 ho (HI1.out.below hself (Nat.le_refl _)) (HI.out.below (hbx.trans (hself.mono hbx.size)) (Nat.le_refl _))).mono ?_; rintro e w3 ⟨S5, d5, rfl, hI5, r1, r2, hf5, hb5⟩; have hb5 := hself.trans hb5; have HI5 := Lib.hid hI5; clear hI5))
       all_goals
        go_wp2_with fail
        go_ret2
        exact ShPost.pass HE.out hbx HI5.out r1 r2 hf5 hb5
     by_cases k9 : o.kind = 9
     ·have hpx : p.length = 1 := by simp only [hpar] at q4; split at q4 <;> omega
      have hp0 : 0 < p.length := by omega
      have g0 : (0 : Int) < p.length := by omega
      obtain ⟨b', off', S2, d2, rfl, y2, hI2, m1, m2, m3⟩ := (HP.out.below hbx (Nat.le_refl _)).at_ hp0
      rw [Nat.add_zero] at y2
      have HE := Lib.hid (show Od.shape o p x = Od.same [p[0], x[0]] by rw [hgo]; unfold Od.byKind; rw [if_neg (by omega), if_pos k9, gets_at hp0, gets_at hx0])
      have hself : Below wr.heap.size wr wr.drew := (Below.refl _ _).drew
      have hkeep : ∀ W, Below wr.heap.size wr W → W.cell? ⟨b', off', none⟩ = some (.slice S2 p[0].length d2) ∧ W.cell? ⟨b, off, none⟩ = some (.slice S1 x[0].length d1) := fun W hW => ⟨cell_below hW y2, cell_below hW y1⟩
      rw [k9] at x0
      have Hkeep := Lib.hid hkeep
      have HI1 := Lib.hid hI1
      have HI2 := Lib.hid hI2
      have Hk9 := Lib.hid k9
      clear hkeep hI1 hI2 k9
      clear hgo hkind hleast q1 q2 q3 q4 hpar hpx
      have hal : Below wr.heap.size wr (wr.drew.alloc (.cells #[.slice S2 p[0].length d2, .slice S1 x[0].length d1] 23)) := hself.alloc (Nat.le_refl _) _
      have hpair := pair_shps (t := 23) (HI2.out.below hself (Nat.le_refl _)) (HI1.out.below hself (Nat.le_refl _)) m1 m2 l1 l2
      have hsame := op_same (some ⟨wr.drew.heap.size, 0, none⟩) 2 [p[0], x[0]] _ (by simp) (by simp) (by omega) hpair (by simp [m3, l3])
      have Hpair := Lib.hid hpair
      have Hsame := Lib.hid hsame
      clear hpair hsame
      go_wp2_with fail
      go_region_held3 (fun W => W.cell? ⟨b', off', none⟩ = some (.slice S2 p[0].length d2) ∧ W.cell? ⟨b, off, none⟩ = some (.slice S1 x[0].length d1)) (first | exact Hkeep.out _ hb5 | exact Hkeep.out _ hal | exact Hkeep.out _ hself)
       ((go_at_call 135; refine (Hsame.out).mono ?_; rintro e w3 ⟨S5, d5, rfl, hI5, r1, r2, hf5, hb5⟩; have hb6 := hb5; have hb5 := hal.trans (hb5.mono hal.size); have HI5 := Lib.hid hI5; clear hI5))
      all_goals
       go_wp2_with fail
       go_ret2
       exact ShPost.pass HE.out (hbx.trans (hal.mono hbx.size)) HI5.out r1 r2 hf5 hb6
     have HE := Lib.hid (show Od.shape o p x = Od.same x by rw [hgo]; unfold Od.byKind; rw [if_neg (by omega), if_neg (by omega), if_neg (by omega), if_neg (by omega), if_neg (by omega), if_neg (by omega), if_neg (by omega)])
     have n8 : (o.kind == 8) = false := by simp; omega
     have n9 : (o.kind == 9) = false := by simp; omega
     have n10 : (o.kind == 10) = false := by simp; omega
     have n11 : (o.kind == 11) = false := by simp; omega
     have n12 : (o.kind == 12) = false := by simp; omega
     have n13 : (o.kind == 13) = false := by simp; omega
     have n14 : (o.kind == 14) = false := by simp; omega
     have n15 : (o.kind == 15) = false := by simp; omega
     clear hgo hkind hleast q1 q2 q3 q4 hpar hI1 k8 k9 k10 k11 k13 k14 k15
     go_wp2_with fail
     refine (op_same _ f x _ hx0 (HX.out.2.1) (HX.out.2.2.1) (HX.out.below hbx (Nat.le_refl _)).1 HX.out.2.2.2).mono ?_
     rintro e w3 ⟨S5, d5, rfl, hI5, r1, r2, hf5, hb5⟩
     have HI5 := Lib.hid hI5
     clear hI5
     go_wp2_with fail
     go_ret2
     exact ShPost.pass HE.out hbx HI5.out r1 r2 hf5 hb5
end Go.Proofs.YtbnnpkcfifejmabGreat
namespace Go.Proofs.YtbnnpkcfifejmabGreat
open Go.RowKit
def NodeD.ok (v : NodeD) : Prop := v.op.wide ∧ v.op.s.length ≤ 1048576 ∧ v.ins.length ≤ 1048576 ∧ v.p.length ≤ 1048576 ∧ (∀ s ∈ v.p, s.length ≤ 1048576) ∧ ∀ z ∈ v.ins, -9223372036854775808 ≤ z ∧ z ≤ 9223372036854775807
def NetD.ok (n : NetD) : Prop := n.inn.length ≤ 1048576 ∧ n.nodes.length ≤ 1048576 ∧ ∀ v ∈ n.nodes, v.ok
def NodeAt (w : World) (b o : Nat) (v : NodeD) (S : Option Addr) (c : Nat) (I : Option Addr) (d : Nat) (Q : Option Addr) (q : Nat) : Prop :=
  (w.cell? ⟨b, o, none⟩ = some (.int .i64 v.op.kind) ∧ w.cell? ⟨b, o + 1, none⟩ = some (.int .i64 v.op.k) ∧ w.cell? ⟨b, o + 2, none⟩ = some (.int .i64 v.op.width) ∧
  w.cell? ⟨b, o + 3, none⟩ = some (.int .i64 v.op.step) ∧ w.cell? ⟨b, o + 4, none⟩ = some (.int .i64 v.op.side) ∧ w.cell? ⟨b, o + 5, none⟩ = some (.int .i64 v.op.frm) ∧
  w.cell? ⟨b, o + 6, none⟩ = some (.int .i64 v.op.to) ∧ w.cell? ⟨b, o + 7, none⟩ = some (.slice S v.op.s.length c) ∧
  w.cell? ⟨b, o + 8, none⟩ = some (.slice I v.ins.length d) ∧ w.cell? ⟨b, o + 9, none⟩ = some (.slice Q v.p.length q)) ∧
  Ints .i64 w S v.op.s ∧ Ints .i64 w I v.ins ∧ Shps w Q v.p
theorem NodeAt.below {w w' : World} {b o : Nat} {v : NodeD} {S : Option Addr} {c : Nat} {I : Option Addr} {d : Nat} {Q : Option Addr} {q : Nat} (h : NodeAt w b o v S c I d Q q) (hb : Below w.heap.size w w') : NodeAt w' b o v S c I d Q q := by
 obtain ⟨⟨y0, y1, y2, y3, y4, y5, y6, y7, y8, y9⟩, h1, h2, h3⟩ := h
 exact ⟨⟨cell_below hb y0, cell_below hb y1, cell_below hb y2, cell_below hb y3, cell_below hb y4, cell_below hb y5, cell_below hb y6, cell_below hb y7, cell_below hb y8, cell_below hb y9⟩, h1.below hb (Nat.le_refl _), h2.below hb (Nat.le_refl _), h3.below hb (Nat.le_refl _)⟩
theorem Nodes.at_ {w : World} {A : Option Addr} {ns : List NodeD} (h : Nodes w A ns) {j : Nat} (hj : j < ns.length) :
  ∃ b off S c I d Q q, A = some ⟨b, off, none⟩ ∧ NodeAt w b (off + j * 10) ns[j] S c I d Q q ∧ (ns[j].op.s.length ≤ c ∧ c ≤ 9223372036854775807) ∧ (ns[j].ins.length ≤ d ∧ d ≤ 9223372036854775807) ∧ (ns[j].p.length ≤ q ∧ q ≤ 9223372036854775807) := by
 obtain ⟨b, off, S, c, I, d, Q, q, e, _, y0, y1, y2, y3, y4, y5, y6, y7, y8, y9, ⟨h1, h1'⟩, ⟨h2, h2'⟩, h3, h3'⟩ := h j hj
 exact ⟨b, off, S, c, I, d, Q, q, e, ⟨⟨y0, y1, y2, y3, y4, y5, y6, y7, y8, y9⟩, h1, h2, h3⟩, h1', h2', h3'⟩
namespace Nt
def usedMid (ns : List NodeD) (n k : Nat) (l : List Int) : List Bool := (nums n).map fun id => isUsed (ns.take k) id || l.contains id
theorem usedMid_len (ns : List NodeD) (n k : Nat) (l : List Int) : (usedMid ns n k l).length = n + 1 := by simp [usedMid, nums]
theorem usedMid_zero (ns : List NodeD) (n : Nat) : usedMid ns n 0 [] = List.replicate (n + 1) false := by
 unfold usedMid
 rw [List.eq_replicate_iff]
 refine ⟨by simp [nums], fun b hb => ?_⟩
 obtain ⟨x, _, rfl⟩ := List.mem_map.1 hb
 simp [isUsed]
theorem usedMid_next (ns : List NodeD) (n : Nat) {k : Nat} (hk : k < ns.length) : usedMid ns n k ns[k].ins = usedMid ns n (k + 1) [] := by
 unfold usedMid
 apply List.map_congr_left
 intro id _
 rw [List.take_succ_eq_append_getElem hk]
 simp only [isUsed, List.any_append, List.any_cons, List.any_nil, List.contains_nil, Bool.or_false]
theorem usedMid_in (ns : List NodeD) (n k : Nat) (l : List Int) {id : Int} (h0 : 0 ≤ id) (h1 : id ≤ n) : usedMid ns n k (l ++ [id]) = (usedMid ns n k l).set id.toNat true := by
 apply List.ext_getElem?
 intro j
 rw [List.getElem?_set]
 unfold usedMid nums
 simp only [List.map_map, List.getElem?_map, List.length_map, List.length_range]
 by_cases hj : j < n + 1
 ·rw [List.getElem?_range hj]
  by_cases e : id.toNat = j
  ·subst e
   have : ((id.toNat : Nat) : Int) = id := by omega
   simp [hj, this]
  ·have e2 : (j : Int) ≠ id := by omega
   simp [e, e2]
 ·rw [List.getElem?_eq_none (by simp; omega)]
  simp
  intro q; omega
theorem usedMid_all (ns : List NodeD) : usedMid ns ns.length ns.length [] = (nums ns.length).map (isUsed ns) := by
 unfold usedMid
 apply List.map_congr_left
 intro id _
 simp
def unusedTo (ns : List NodeD) (k : Nat) : List Int := ((List.range k).map fun i : Nat => (i : Int)).filter fun id => !isUsed ns id
theorem unusedTo_succ (ns : List NodeD) (k : Nat) : unusedTo ns (k + 1) = if isUsed ns k then unusedTo ns k else unusedTo ns k ++ [(k : Int)] := by
 unfold unusedTo
 rw [List.range_succ, List.map_append, List.filter_append]
 cases h : isUsed ns k <;> simp [h]
theorem unusedTo_all (ns : List NodeD) : unusedTo ns (ns.length + 1) = unused ns := rfl
theorem unusedTo_len (ns : List NodeD) (k : Nat) : (unusedTo ns k).length ≤ k := by
 unfold unusedTo
 exact Nat.le_trans (List.length_filter_le _ _) (by simp)
end Nt
theorem bool_info : (Tryz.prog.info? 4).map (fun i => (i.zero, i.size, i.bytes)) = some (some (.bool false), 1, 1) := by kernel_rfl
theorem made_one (v : Value) (n : Nat) : (madeCells #[v] n).toList = List.replicate n v := by
 rw [List.eq_replicate_iff]
 refine ⟨by simp [madeCells], fun b hb => ?_⟩
 simp [madeCells] at hb
 obtain ⟨x, _, rfl⟩ := hb
 simp [Nat.mod_one]
set_option maxRecDepth 20000 in
set_option maxHeartbeats 8000000 in
theorem net_unused (A N : Option Addr) (c d : Nat) (n : NetD) (w : World) (hok : n.ok) (hR : NetR w A N n) (hd : n.nodes.length ≤ d) (hins : ∀ v ∈ n.nodes, ∀ i ∈ v.ins, 0 ≤ i ∧ i ≤ n.nodes.length) :
  Calls Tryz.prog 55 #[.agg #[.slice A n.inn.length c, .slice N n.nodes.length d]] w fun e w' => e = .returned (.tuple #[.int .i64 (Nt.loss n.nodes), .bool (Nt.lossOk n.nodes)]) ∧ Below w.heap.size w w' := by
 obtain ⟨i0, hi, hz0, hz1, hz2⟩ := info_parts bool_info
 have hnl := hok.2.1
 have hokn := hok.2.2
 have HR := Lib.hid hR
 have Hins := Lib.hid hins
 have Hokn := Lib.hid hokn
 clear hR hins hokn
 clear hok
 have e1 : IntKind.i64.wrap ((n.nodes.length : Int) + 1) = ((n.nodes.length + 1 : Nat) : Int) := by rw [IntWalk.i64_in _ (by omega)]; omega
 go_enter Tryz.func55, Tryz.ntmps55
 go_wp2_with (at_make; refine wpList_make_full _ rfl _ _ 165 rfl w.heap.size 4 i0 (.bool false) 1 Tryz.underlying165 hi hz0 hz1 _ _ _ _ (n.nodes.length + 1) rfl rfl (by first | rfl | simp | (go_simp; rfl)) (by first | rfl | simp | (go_simp; rfl)) ?b2 ?b3 ?b4 ?_)
 case b2 => rw [hz2]; omega
 case b3 => unfold maxLen; omega
 case b4 => simp
 intro w1 hown hgrow
 have hblk := own_cur hown
 rw [made_one] at hblk
 have hk1 : Blk w1 (w.heap.size + 1) 4 ((Nt.usedMid n.nodes n.nodes.length 0 []).map Value.bool).toArray := by
  rw [Nt.usedMid_zero, List.map_replicate]
  simpa [Blk] using hblk
 have hb1 : Below w.heap.size w w1 := ((Below.refl _ w).alloc (Nat.le_refl _) _).grown hgrow (by simp) (by simp)
 have hx1 : w1.cell? ⟨w.heap.size, 1, none⟩ = some (.slice N n.nodes.length d) := hgrow.cell (by simp) (by simp)
 have HK := Lib.hid hk1
 clear hblk hk1 hown hgrow
 go_wp2_with fail
 go_loopw [21] (fun i wr => ∃ k : Nat, k ≤ n.nodes.length ∧ i = .int .i64 k ∧ Blk wr (w.heap.size + 1) 4 ((Nt.usedMid n.nodes n.nodes.length k []).map Value.bool).toArray ∧ Below w.heap.size w wr) (fun i _ => n.nodes.length - (intOf i).toNat)
 case atStart => exact ⟨0, Nat.zero_le _, rfl, HK.out, hb1⟩
 case round =>
  obtain ⟨k, hk, rfl, hblk, hbw⟩ := hrel
  have Hblk := Lib.hid hblk
  clear hblk
  clear HK hb1 hx1
  by_cases hlt : k < n.nodes.length
  ·obtain ⟨b, off, S, sc, I, ic, Q, qc, rfl, hNA, -, hI, -⟩ := HR.out.2.at_ hlt
   have hnok := Hokn.out _ (List.getElem_mem hlt)
   have hin := Hins.out _ (List.getElem_mem hlt)
   have HN := Lib.hid (Nt.usedMid_next n.nodes n.nodes.length hlt)
   have hil := hnok.2.2.1
   generalize n.nodes[k] = v at *
   obtain ⟨⟨y0, y1, y2, y3, y4, y5, y6, y7, y8, y9⟩, -⟩ := hNA.below hbw
   have HNA := Lib.hid hNA
   have Hnok := Lib.hid hnok
   have Hin := Lib.hid hin
   clear hNA hnok hin
   have hb2 := hbw.alloc hbw.size (.cells #[.int .i64 v.op.kind, .int .i64 v.op.k, .int .i64 v.op.width, .int .i64 v.op.step, .int .i64 v.op.side, .int .i64 v.op.frm, .int .i64 v.op.to, .slice S v.op.s.length sc, .slice I v.ins.length ic, .slice Q v.p.length qc] 47)
   have HB2 := Lib.hid (Hblk.out.alloc (.cells #[.int .i64 v.op.kind, .int .i64 v.op.k, .int .i64 v.op.width, .int .i64 v.op.step, .int .i64 v.op.side, .int .i64 v.op.frm, .int .i64 v.op.to, .slice S v.op.s.length sc, .slice I v.ins.length ic, .slice Q v.p.length qc] 47))
   go_wp2_with fail
   clear y0 y1 y2 y3 y4 y5 y6 y7 y8 y9
   go_loopw [28] (fun i wx => ∃ m : Nat, m ≤ v.ins.length ∧ i = .int .i64 m ∧ Blk wx (w.heap.size + 1) 4 ((Nt.usedMid n.nodes n.nodes.length k (v.ins.take m)).map Value.bool).toArray ∧ Below w.heap.size w wx) (fun i _ => v.ins.length - (intOf i).toNat)
   case atStart => exact ⟨0, Nat.zero_le _, rfl, by rw [List.take_zero]; exact HB2.out, hb2⟩
   case round =>
    obtain ⟨m, hm, rfl, hblx, hbx⟩ := hrel
    clear HB2 hb2 Hblk hbw
    by_cases hlm : m < v.ins.length
    ·have hI2 := (HNA.out.below hbx).2.2.1
     obtain ⟨b1, off1, rfl, -, hc⟩ := hI2 m hlm
     rw [getD_at hlm] at hc
     have hr := Hin.out _ (List.getElem_mem hlm)
     obtain ⟨u, hu⟩ : ∃ u : Nat, v.ins[m] = u := ⟨v.ins[m].toNat, by omega⟩
     have HM := Lib.hid (show Nt.usedMid n.nodes n.nodes.length k (v.ins.take (m + 1)) = (Nt.usedMid n.nodes n.nodes.length k (v.ins.take m)).set u true by rw [List.take_succ_eq_append_getElem hlm, Nt.usedMid_in _ _ _ _ hr.1 hr.2, hu]; rfl)
     rw [hu] at hc hr
     have hul : u < n.nodes.length + 1 := by omega
     have hcg := hblx.cell u
     have hfg := hblx.frozen u
     have hcg2 : wr.cell? ⟨w.heap.size + 1, u, none⟩ = some (.bool ((Nt.usedMid n.nodes n.nodes.length k (v.ins.take m)).getD u false)) := by
      rw [hcg]
      have := Nt.usedMid_len n.nodes n.nodes.length k (v.ins.take m)
      rw [List.getD_eq_getElem?_getD, List.getElem?_eq_getElem (by omega)]
      simp [this, hul]
     have hbs := hblx.set_ u (.bool true)
     have HBS := Lib.hid (show Blk (wr.setCell ⟨w.heap.size + 1, u, none⟩ (.bool true)) (w.heap.size + 1) 4 (((Nt.usedMid n.nodes n.nodes.length k (v.ins.take m)).set u true).map Value.bool).toArray by simpa [List.map_set] using hbs)
     have hbx2 := hbx.setCell (p := ⟨w.heap.size + 1, u, none⟩) (by simp) (.bool true)
     clear hcg hbs hI2 hblx hu
     have u0 : (0 : Int) ≤ u := by omega
     have u1 : (u : Int) < ((n.nodes.length + 1 : Nat) : Int) := by omega
     go_wp2_with fail
     go_roundw
     case rel => exact ⟨m + 1, by omega, by go_num, by rw [HM.out]; exact HBS.out, hbx2⟩
     case measure => simp [intOf]; omega
    ·obtain rfl : m = v.ins.length := by omega
     rw [List.take_length] at hblx
     have Hblx := Lib.hid hblx
     clear hblx
     go_wp2_with fail
     go_roundw
     case rel => exact ⟨k + 1, by omega, by go_num, by rw [← HN.out]; exact Hblx.out, hbx⟩
     case measure => simp [intOf]; omega
  ·obtain rfl : k = n.nodes.length := by omega
   have hU := Nt.usedMid_all n.nodes
   have hBU := Hblk.out
   rw [hU] at hBU
   have HBU := Lib.hid hBU
   have HU := Lib.hid hU
   clear hBU hU
   clear Hblk
   go_wp2_with fail
   go_loopw [9, 10, 39] (fun l c i wx => wx = wr ∧ ∃ k : Nat, k ≤ n.nodes.length + 1 ∧ i = .int .i64 k ∧ l = .int .i64 ((Nt.unusedTo n.nodes k).getLastD 0) ∧ c = .int .i64 ((Nt.unusedTo n.nodes k).length : Nat)) (fun _ _ i _ => n.nodes.length + 1 - (intOf i).toNat)
   case atStart => exact ⟨rfl, 0, Nat.zero_le _, rfl, rfl, rfl⟩
   case round =>
    obtain ⟨rfl, k, hk, rfl, rfl, rfl⟩ := hrel
    have hul := Nt.unusedTo_len n.nodes k
    by_cases hlt : k < n.nodes.length + 1
    ·have hcf : ∀ b, Nt.isUsed n.nodes k = b → wr.cell? ⟨w.heap.size + 1, k, none⟩ = some (.bool b) := fun b hb => by
      rw [← hb, HBU.out.cell]
      simp [Nt.nums, hlt]
     have hs := Nt.unusedTo_succ n.nodes k
     have k1 : (k : Int) < ((n.nodes.length + 1 : Nat) : Int) := by omega
     have HS := Lib.hid hs
     clear hs
     obtain ⟨L0, hL0⟩ : ∃ L0, (Nt.unusedTo n.nodes k).getLastD 0 = L0 := ⟨_, rfl⟩
     obtain ⟨c0, hc0⟩ : ∃ c0, (Nt.unusedTo n.nodes k).length = c0 := ⟨_, rfl⟩
     rw [hc0] at hul
     rw [hL0, hc0]
     have HL0 := Lib.hid hL0
     have Hc0 := Lib.hid hc0
     clear hL0 hc0
     cases hu : Nt.isUsed n.nodes k
     ·have hc := hcf _ hu
      have HU := Lib.hid hu
      clear hu hcf
      go_wp2_with fail
      go_roundw
      case rel => exact ⟨trivial, k + 1, by omega, by go_num, by rw [HS.out, HU.out]; simp, by rw [HS.out, HU.out, if_neg (by simp), List.length_append, Hc0.out]; go_num⟩
      case measure => simp [intOf]; omega
     ·have hc := hcf _ hu
      have HU := Lib.hid hu
      clear hu hcf
      go_wp2_with fail
      go_roundw
      case rel => exact ⟨trivial, k + 1, by omega, by go_num, by rw [HS.out, HU.out, if_pos rfl, HL0.out], by rw [HS.out, HU.out, if_pos rfl, Hc0.out]⟩
      case measure => simp [intOf]; omega
    ·obtain rfl : k = n.nodes.length + 1 := by omega
     rw [Nt.unusedTo_all] at *
     have hl : (Nt.unused n.nodes).getLastD 0 = Nt.loss n.nodes := rfl
     rw [hl]
     have hlo : Nt.lossOk n.nodes = decide ((Nt.unused n.nodes).length = 1 ∧ Nt.loss n.nodes ≠ 0) := rfl
     obtain ⟨L, hL⟩ : ∃ L, Nt.loss n.nodes = L := ⟨_, rfl⟩
     obtain ⟨c', hc'⟩ : ∃ c', (Nt.unused n.nodes).length = c' := ⟨_, rfl⟩
     rw [hL, hc'] at hlo
     rw [hc'] at hul
     rw [hL, hc']
     have HLs := Lib.hid hL
     clear hL hl hc'
     by_cases h1 : c' = 1
     ·subst h1
      have k1 : ¬ (((n.nodes.length + 1 : Nat) : Int) < ((n.nodes.length + 1 : Nat) : Int)) := by omega
      have HL := Lib.hid hlo
      clear hlo
      go_wp2_with fail
      go_ret2
      exact ⟨by rw [HL.out, HLs.out]; by_cases h : L = 0 <;> simp [h], hbw⟩
     ·have c1 : ((c' : Int) == 1) = false := by simp; omega
      have HL := Lib.hid (show Nt.lossOk n.nodes = false by rw [hlo]; simp [h1])
      clear hlo h1
      go_wp2_with fail
      go_ret2
      exact ⟨by rw [HL.out, HLs.out]; rfl, hbw⟩
end Go.Proofs.YtbnnpkcfifejmabGreat
namespace Go.Proofs.YtbnnpkcfifejmabGreat
open Go.RowKit
theorem own_form {w : World} {B e s n : Nat} {v : Value} {xs : List Value} (h : w.ownsRow B e s v n xs) : ∃ A c, v = .slice A n c := by
 rcases h.2 with ⟨rfl, h0⟩ | ⟨g, cap, cur, rfl, _⟩
 ·exact ⟨none, 0, by rw [h0]⟩
 ·exact ⟨_, cap, rfl⟩
theorem own_ints {w : World} {B e n c : Nat} {A : Option Addr} {zs : List Int} (h : w.ownsRow B e 1 (.slice A zs.length c) n (zs.map (Value.int .i64))) : Ints .i64 w A zs ∧ zs.length ≤ c ∧ c ≤ 9223372036854775807 := by
 obtain ⟨A1, c1, e1, rfl, hI⟩ := Ints.of_own h
 injection e1 with e1 _ e2
 subst e1 e2
 refine ⟨hI, ?_⟩
 rcases h.2 with ⟨h1, h0⟩ | ⟨g, cap, cur, h1, _, _, h3, h4, _⟩
 ·injection h1 with _ _ h1; omega
 ·injection h1 with _ _ h1; unfold maxLen at h4; omega
theorem ownsRow_new {w : World} {B e s n : Nat} {v : Value} {xs : List Value} (h : w.ownsRow B e s v n xs) (o : Obj) : (w.alloc o).ownsRow B e s v n xs := ownsRow_heap h fun g hg => Below.heap_alloc w o g (h.lt g hg).2
theorem ownsRow_grown {w w' : World} {B e s n : Nat} {v : Value} {xs : List Value} {row : Option Nat} (h : w.ownsRow B e s v n xs) (hg : w.grownBy w' row) (hr : ∀ b, v.ownBlock = some b → row ≠ some b) : w'.ownsRow B e s v n xs := ownsRow_heap h fun g k => hg.block g (h.lt g k).2 fun e => hr g k e.symm
theorem ownsRow_fr {w w' : World} {B e s n : Nat} {v : Value} {xs : List Value} {S : Nat → Prop} (h : w.ownsRow B e s v n xs) (hg : Fr S w w') (hr : ∀ b, v.ownBlock = some b → ¬ S b) : w'.ownsRow B e s v n xs := ownsRow_heap h fun g k => hg.2 g (h.lt g k).2 (hr g k)
theorem right_short {s : List Int} (h : Sh.right s = true) : 0 < s.length ∧ s.length ≤ 4 := by
 obtain ⟨_, a, b, _⟩ := Sh.right_mul h
 exact ⟨by omega, a⟩
end Go.Proofs.YtbnnpkcfifejmabGreat

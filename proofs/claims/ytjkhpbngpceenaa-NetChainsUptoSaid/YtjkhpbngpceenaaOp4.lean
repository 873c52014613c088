/- Layer 10 (op): how many ins and parameters: contracts. -/
import Derived.Test.YtjkhpbngpceenaaOp3
namespace Go.Proofs.Ytjkhpbngpceenaa
open Go.RowKit

theorem op_cells {W : World} {g : Nat} {t : TypeId} {o : OpD} {S : Option Addr} {c : Nat} (h : Blk W g t #[.int .i64 o.kind, .int .i64 o.k, .int .i64 o.width, .int .i64 o.step, .int .i64 o.side, .int .i64 o.frm, .int .i64 o.to, .slice S o.s.length c]) :
    W.cell? ⟨g, 0, none⟩ = some (.int .i64 o.kind) ∧ W.cell? ⟨g, 1, none⟩ = some (.int .i64 o.k) ∧ W.cell? ⟨g, 2, none⟩ = some (.int .i64 o.width) ∧ W.cell? ⟨g, 3, none⟩ = some (.int .i64 o.step) ∧ W.cell? ⟨g, 4, none⟩ = some (.int .i64 o.side) ∧ W.cell? ⟨g, 5, none⟩ = some (.int .i64 o.frm) ∧ W.cell? ⟨g, 6, none⟩ = some (.int .i64 o.to) ∧ W.cell? ⟨g, 7, none⟩ = some (.slice S o.s.length c) := by
  have e := fun i => h.cell i
  refine ⟨?_, ?_, ?_, ?_, ?_, ?_, ?_, ?_⟩
  all_goals (rw [e]; rfl)

set_option maxHeartbeats 1000000 in
theorem point_ins (k : Int) (w : World) : Calls Try.prog 102 #[.int .i64 k] w fun e w' => e = .returned (.int .i64 (Od.ptIns k)) ∧ w = w' := by
  by_cases h : 1 ≤ k ∧ k ≤ 7
  · have hk : k = 1 ∨ k = 2 ∨ k = 3 ∨ k = 4 ∨ k = 5 ∨ k = 6 ∨ k = 7 := by omega
    rcases hk with rfl | rfl | rfl | rfl | rfl | rfl | rfl
    all_goals
      go_enter Try.func102, Try.ntmps102
      go_wp2_with fail
      go_ret
      exact ⟨rfl, rfl⟩
  · have HP := Lib.hid (show Od.ptIns k = 0 by unfold Od.ptIns; rw [if_neg (by omega), if_neg (by omega)])
    have n1 : (k == 1) = false := by simp; omega
    have n2 : (k == 2) = false := by simp; omega
    have n3 : (k == 3) = false := by simp; omega
    have n4 : (k == 4) = false := by simp; omega
    have n5 : (k == 5) = false := by simp; omega
    have n6 : (k == 6) = false := by simp; omega
    have n7 : (k == 7) = false := by simp; omega
    clear h
    go_enter Try.func102, Try.ntmps102
    go_wp2_with fail
    go_ret
    exact ⟨by rw [HP.out]; rfl, rfl⟩

set_option maxHeartbeats 1000000 in
theorem op_ins (o : OpD) (S : Option Addr) (c : Nat) (w : World) (ho : o.s.length ≤ 17592186043904) (hI : Ints .i64 w S o.s) :
    Calls Try.prog 96 #[.agg #[.int .i64 o.kind, .int .i64 o.k, .int .i64 o.width, .int .i64 o.step, .int .i64 o.side, .int .i64 o.frm, .int .i64 o.to, .slice S o.s.length c]] w fun e w' => e = .returned (.tuple #[.int .i64 (Od.least o), .int .i64 (Od.most o)]) ∧ Below w.heap.size w w' := by
  have hk0 := Blk.new w 43 #[.int .i64 o.kind, .int .i64 o.k, .int .i64 o.width, .int .i64 o.step, .int .i64 o.side, .int .i64 o.frm, .int .i64 o.to, .slice S o.s.length c]
  have hb0 : Below w.heap.size w (w.alloc (.cells #[.int .i64 o.kind, .int .i64 o.k, .int .i64 o.width, .int .i64 o.step, .int .i64 o.side, .int .i64 o.frm, .int .i64 o.to, .slice S o.s.length c] 43)) := (Below.refl _ _).alloc (Nat.le_refl _) _
  have hlt0 := hk0.lt
  have hr := op_right o S c (w.alloc (.cells #[.int .i64 o.kind, .int .i64 o.k, .int .i64 o.width, .int .i64 o.step, .int .i64 o.side, .int .i64 o.frm, .int .i64 o.to, .slice S o.s.length c] 43)) ho (hI.alloc _)
  cases hq : Od.right o
  · have HL := Lib.hid (show Od.least o = 0 ∧ Od.most o = 0 by simp [Od.least, Od.most, hq])
    rw [hq] at hr
    have Hr := Lib.hid hr
    have Hk0 := Lib.hid hk0
    have Hq := Lib.hid hq
    have HI := Lib.hid hI
    clear hr hk0 hq hI
    go_enter Try.func96, Try.ntmps96
    go_wp2_with fail
    refine (Hr.out).mono ?_
    rintro e w1 ⟨rfl, h1⟩
    go_wp2_with fail
    go_ret2
    exact ⟨by rw [HL.out.1, HL.out.2]; rfl, hb0.trans (h1.mono hb0.size)⟩
  · have hkd := Od.right_kind hq
    rw [hq] at hr
    by_cases h7 : o.kind ≤ 7
    · have HL := Lib.hid (show Od.least o = Od.ptIns o.kind ∧ Od.most o = Od.ptIns o.kind by simp [Od.least, Od.most, hq, h7])
      have Hr := Lib.hid hr
      have Hk0 := Lib.hid hk0
      have Hq := Lib.hid hq
      have HI := Lib.hid hI
      clear hr hk0 hq hI
      go_enter Try.func96, Try.ntmps96
      go_wp2_with fail
      refine (Hr.out).mono ?_
      rintro e w1 ⟨rfl, h1⟩
      obtain ⟨x0, -⟩ := op_cells (Hk0.out.below h1 hlt0)
      go_wp2_with fail
      refine (point_ins o.kind _).mono ?_
      rintro e w2 ⟨rfl, rfl⟩
      go_wp2_with fail
      go_ret2
      exact ⟨by rw [HL.out.1, HL.out.2]; rfl, hb0.trans (h1.mono hb0.size)⟩
    · by_cases h13 : o.kind = 13
      · have HL := Lib.hid (show Od.least o = 1 ∧ Od.most o = 8 by simp [Od.least, Od.most, hq, h13])
        have Hr := Lib.hid hr
        have Hk0 := Lib.hid hk0
        have Hq := Lib.hid hq
        have HI := Lib.hid hI
        have H13 := Lib.hid h13
        clear hr hk0 hq hI h13
        go_enter Try.func96, Try.ntmps96
        go_wp2_with fail
        refine (Hr.out).mono ?_
        rintro e w1 ⟨rfl, h1⟩
        obtain ⟨x0, -⟩ := op_cells (Hk0.out.below h1 hlt0)
        rw [H13.out] at x0
        go_wp2_with fail
        go_ret2
        exact ⟨by rw [HL.out.1, HL.out.2]; rfl, hb0.trans (h1.mono hb0.size)⟩
      · have HL := Lib.hid (show Od.least o = 1 ∧ Od.most o = 1 by simp [Od.least, Od.most, hq, h13, h7])
        have n13 : (o.kind == 13) = false := by simp; omega
        have Hr := Lib.hid hr
        have Hk0 := Lib.hid hk0
        have Hq := Lib.hid hq
        have HI := Lib.hid hI
        clear hr hk0 hq hI
        go_enter Try.func96, Try.ntmps96
        go_wp2_with fail
        refine (Hr.out).mono ?_
        rintro e w1 ⟨rfl, h1⟩
        obtain ⟨x0, -⟩ := op_cells (Hk0.out.below h1 hlt0)
        go_wp2_with fail
        go_ret2
        exact ⟨by rw [HL.out.1, HL.out.2]; rfl, hb0.trans (h1.mono hb0.size)⟩

set_option maxHeartbeats 1000000 in
theorem op_params (o : OpD) (S : Option Addr) (c : Nat) (w : World) (ho : o.s.length ≤ 17592186043904) (hI : Ints .i64 w S o.s) :
    Calls Try.prog 97 #[.agg #[.int .i64 o.kind, .int .i64 o.k, .int .i64 o.width, .int .i64 o.step, .int .i64 o.side, .int .i64 o.frm, .int .i64 o.to, .slice S o.s.length c]] w fun e w' => e = .returned (.int .i64 (Od.params o)) ∧ Below w.heap.size w w' := by
  have hk0 := Blk.new w 43 #[.int .i64 o.kind, .int .i64 o.k, .int .i64 o.width, .int .i64 o.step, .int .i64 o.side, .int .i64 o.frm, .int .i64 o.to, .slice S o.s.length c]
  have hb0 : Below w.heap.size w (w.alloc (.cells #[.int .i64 o.kind, .int .i64 o.k, .int .i64 o.width, .int .i64 o.step, .int .i64 o.side, .int .i64 o.frm, .int .i64 o.to, .slice S o.s.length c] 43)) := (Below.refl _ _).alloc (Nat.le_refl _) _
  have hlt0 := hk0.lt
  have hr := op_right o S c (w.alloc (.cells #[.int .i64 o.kind, .int .i64 o.k, .int .i64 o.width, .int .i64 o.step, .int .i64 o.side, .int .i64 o.frm, .int .i64 o.to, .slice S o.s.length c] 43)) ho (hI.alloc _)
  cases hq : Od.right o
  · have HL := Lib.hid (show Od.params o = 0 by simp [Od.params, hq])
    rw [hq] at hr
    have Hr := Lib.hid hr
    have Hk0 := Lib.hid hk0
    have Hq := Lib.hid hq
    have HI := Lib.hid hI
    clear hr hk0 hq hI
    go_enter Try.func97, Try.ntmps97
    go_wp2_with fail
    refine (Hr.out).mono ?_
    rintro e w1 ⟨rfl, h1⟩
    go_wp2_with fail
    go_ret
    exact ⟨by rw [HL.out]; rfl, hb0.trans (h1.mono hb0.size)⟩
  · rw [hq] at hr
    by_cases h8 : o.kind = 8 ∨ o.kind = 9 ∨ o.kind = 10
    · have HL := Lib.hid (show Od.params o = if o.kind = 8 then 2 else 1 by unfold Od.params; rw [if_pos hq]; rcases h8 with h | h | h <;> simp [h])
      have Hr := Lib.hid hr
      have Hk0 := Lib.hid hk0
      have Hq := Lib.hid hq
      have HI := Lib.hid hI
      clear hr hk0 hq hI
      rcases h8 with h8 | h8 | h8
      all_goals
        have H8 := Lib.hid h8
        clear h8
        go_enter Try.func97, Try.ntmps97
        go_wp2_with fail
        refine (Hr.out).mono ?_
        rintro e w1 ⟨rfl, h1⟩
        obtain ⟨x0, -⟩ := op_cells (Hk0.out.below h1 hlt0)
        rw [H8.out] at x0
        go_wp2_with fail
        go_ret
        exact ⟨by rw [HL.out, H8.out]; rfl, hb0.trans (h1.mono hb0.size)⟩
    · have HL := Lib.hid (show Od.params o = 0 by unfold Od.params; rw [if_pos hq, if_neg (by omega), if_neg (by omega)])
      have n8 : (o.kind == 8) = false := by simp; omega
      have n9 : (o.kind == 9) = false := by simp; omega
      have n10 : (o.kind == 10) = false := by simp; omega
      have Hr := Lib.hid hr
      have Hk0 := Lib.hid hk0
      have Hq := Lib.hid hq
      have HI := Lib.hid hI
      clear hr hk0 hq hI
      clear h8
      go_enter Try.func97, Try.ntmps97
      go_wp2_with fail
      refine (Hr.out).mono ?_
      rintro e w1 ⟨rfl, h1⟩
      obtain ⟨x0, -⟩ := op_cells (Hk0.out.below h1 hlt0)
      go_wp2_with fail
      go_ret
      exact ⟨by rw [HL.out]; rfl, hb0.trans (h1.mono hb0.size)⟩

set_option maxHeartbeats 1000000 in
theorem op_counts (o : OpD) (S : Option Addr) (c : Nat) (p x : Int) (w : World) (ho : o.s.length ≤ 17592186043904) (hI : Ints .i64 w S o.s) :
    Calls Try.prog 82 #[.agg #[.int .i64 o.kind, .int .i64 o.k, .int .i64 o.width, .int .i64 o.step, .int .i64 o.side, .int .i64 o.frm, .int .i64 o.to, .slice S o.s.length c], .int .i64 p, .int .i64 x] w fun e w' => e = .returned (.int .i64 (Od.counts o p x)) ∧ Below w.heap.size w w' := by
  have hk0 := Blk.new w 43 #[.int .i64 o.kind, .int .i64 o.k, .int .i64 o.width, .int .i64 o.step, .int .i64 o.side, .int .i64 o.frm, .int .i64 o.to, .slice S o.s.length c]
  have hb0 : Below w.heap.size w (w.alloc (.cells #[.int .i64 o.kind, .int .i64 o.k, .int .i64 o.width, .int .i64 o.step, .int .i64 o.side, .int .i64 o.frm, .int .i64 o.to, .slice S o.s.length c] 43)) := (Below.refl _ _).alloc (Nat.le_refl _) _
  have hlt0 := hk0.lt
  have hr := op_right o S c (w.alloc (.cells #[.int .i64 o.kind, .int .i64 o.k, .int .i64 o.width, .int .i64 o.step, .int .i64 o.side, .int .i64 o.frm, .int .i64 o.to, .slice S o.s.length c] 43)) ho (hI.alloc _)
  cases hq : Od.right o
  · have HL := Lib.hid (show Od.counts o p x = 21 by simp [Od.counts, hq])
    rw [hq] at hr
    have Hr := Lib.hid hr
    have Hk0 := Lib.hid hk0
    have Hq := Lib.hid hq
    have HI := Lib.hid hI
    clear hr hk0 hq hI
    go_enter Try.func82, Try.ntmps82
    go_wp2_with fail
    refine (Hr.out).mono ?_
    rintro e w1 ⟨rfl, h1⟩
    go_wp2_with fail
    go_ret
    exact ⟨by rw [HL.out]; rfl, hb0.trans (h1.mono hb0.size)⟩
  · rw [hq] at hr
    have HL := Lib.hid (show Od.counts o p x = if x < Od.least o ∨ Od.most o < x ∨ p ≠ Od.params o then 20 else 0 by simp [Od.counts, hq])
    have Hr := Lib.hid hr
    have Hk0 := Lib.hid hk0
    have Hq := Lib.hid hq
    have HI := Lib.hid hI
    clear hr hk0 hq hI
    go_enter Try.func82, Try.ntmps82
    go_wp2_with fail
    refine (Hr.out).mono ?_
    rintro e w1 ⟨rfl, h1⟩
    obtain ⟨x0, x1, x2, x3, x4, x5, x6, x7⟩ := op_cells (Hk0.out.below h1 hlt0)
    go_wp2_with fail
    refine (op_ins o S c _ ho (HI.out.below (hb0.trans (h1.mono hb0.size)) (Nat.le_refl _))).mono ?_
    rintro e w2 ⟨rfl, h2⟩
    clear x0 x1 x2 x3 x4 x5 x6 x7
    have hb2 := h1.trans (h2.mono h1.size)
    by_cases hx1 : x < Od.least o
    · go_wp2_with fail
      go_ret
      exact ⟨by rw [HL.out, if_pos (.inl hx1)]; rfl, hb0.trans (hb2.mono hb0.size)⟩
    · by_cases hx2 : Od.most o < x
      · go_wp2_with fail
        go_ret
        exact ⟨by rw [HL.out, if_pos (.inr (.inl hx2))]; rfl, hb0.trans (hb2.mono hb0.size)⟩
      · obtain ⟨x0, x1, x2, x3, x4, x5, x6, x7⟩ := op_cells (Hk0.out.below hb2 hlt0)
        go_wp2_with fail
        refine (op_params o S c _ ho (HI.out.below (hb0.trans (hb2.mono hb0.size)) (Nat.le_refl _))).mono ?_
        rintro e w3 ⟨rfl, h3⟩
        clear x0 x1 x2 x3 x4 x5 x6 x7
        have hb3 := hb2.trans (h3.mono hb2.size)
        by_cases hp : p = Od.params o
        · have hp' : (p != Od.params o) = false := by simp [hp]
          have HE := Lib.hid (show Od.counts o p x = 0 by rw [HL.out, if_neg (by omega)])
          clear hp
          go_wp2_with fail
          go_ret
          exact ⟨by rw [HE.out]; rfl, hb0.trans (hb3.mono hb0.size)⟩
        · have hp' : (p != Od.params o) = true := by simp [hp]
          have HE := Lib.hid (show Od.counts o p x = 20 by rw [HL.out, if_pos (.inr (.inr hp))])
          clear hp
          go_wp2_with fail
          go_ret
          exact ⟨by rw [HE.out]; rfl, hb0.trans (hb3.mono hb0.size)⟩
end Go.Proofs.Ytjkhpbngpceenaa

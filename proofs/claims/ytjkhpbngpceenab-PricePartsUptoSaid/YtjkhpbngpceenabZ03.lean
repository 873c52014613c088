/- Lemmas for the statements of this seat: contracts of functions and the plain laws. -/
import Derived.BigQuiet
import Derived.Deep.DeepCutAuto
import Derived.Deep.QuietTactic
import Derived.Ground.Names2Prog
import Derived.Shelf.Slices.Cells
import Derived.Shelf.Slices.Delete
import Derived.Shelf.Slices.Empties
import Derived.Shelf.Slices.Reverse
import Derived.Shelf.Slices.SearchI
import Derived.Shelf.Small.Wraps
import Derived.Shelf.Spec.SlicesInsert
import Derived.Shelf.Spec.SlicesInsertGrow
import Derived.Test.YtjkhpbngpceenabProg
import Derived.Test.YtjkhpbngpceenabZ02
set_option linter.unusedVariables false
/- The references of layers 3, 5, 7, 10: contracts of the small ones. -/
namespace Go.Proofs.Ytjkhpbngpceenab
open Go.RowKit

set_option maxHeartbeats 4000000 in
theorem ref03_same (A A' : Option Addr) (c c' : Nat) (xs ys : List Int) (w : World) (hl : xs.length ≤ 9223372036854775807) (hl' : ys.length ≤ 9223372036854775807) (hI : Ints .i64 w A xs) (hI' : Ints .i64 w A' ys) :
    Calls Try.prog 20 #[.slice A xs.length c, .slice A' ys.length c'] w fun e w' => e = .returned (.bool (decide (xs = ys))) ∧ ∃ q, w' = w.drewN q := by
  by_cases hlen : xs.length = ys.length
  · have hlen2 : ys.length = xs.length := hlen.symm
    rw [hlen2]
    have HI := Lib.hid hI
    have HI' := Lib.hid hI'
    have Hlen := Lib.hid hlen
    have Hlen2 := Lib.hid hlen2
    clear hI hI' hlen hlen2
    go_enter Try.func20, Try.ntmps20
    go_wp2_with fail
    go_loopw [5] (fun i wr => ∃ k q : Nat, k ≤ xs.length ∧ i = .int .i64 k ∧ xs.take k = ys.take k ∧ wr = w.drewN q) (fun i _ => xs.length - (intOf i).toNat)
    case atStart => exact ⟨0, 0, Nat.zero_le _, rfl, rfl, rfl⟩
    case round =>
      obtain ⟨k, q, hk, rfl, htk, rfl⟩ := hrel
      by_cases hlt : k < xs.length
      · have hlt2 : k < ys.length := by have := Hlen.out; omega
        obtain ⟨b, off, rfl, -, hc⟩ := HI.out k hlt
        obtain ⟨b', off', rfl, -, hc'⟩ := HI'.out k hlt2
        rw [getD_at hlt] at hc
        rw [getD_at hlt2] at hc'
        have hd : w.drewN q = w.drewN q := rfl
        have k0 : (0 : Int) ≤ (k : Int) := by omega
        have k1 : (k : Int) < (xs.length : Int) := by omega
        have hnx : xs[k] = ys[k] → xs.take (k + 1) = ys.take (k + 1) := fun e => by rw [List.take_succ_eq_append_getElem hlt, List.take_succ_eq_append_getElem hlt2, htk, e]
        have hno : xs[k] ≠ ys[k] → decide (xs = ys) = false := fun e => by simp; intro h; subst h; exact e rfl
        generalize xs[k] = x at *
        generalize ys[k] = y at *
        by_cases hxy : x = y
        · have e1 : (x != y) = false := by simp [hxy]
          have HX := Lib.hid (hnx hxy)
          clear hnx hno htk hxy hd
          go_wp2_with fail
          go_quiet (fail)
          go_wp2_with fail
          go_roundw
          case rel => exact ⟨k + 1, _, by omega, by go_num, HX.out, by first | rfl | exact World.drewN_drewN _ _ _⟩
          case measure => simp [intOf]; omega
        · have e1 : (x != y) = true := by simp [hxy]
          have HX := Lib.hid (hno hxy)
          clear hnx hno htk hxy hd
          go_wp2_with fail
          go_quiet (fail)
          go_wp2_with fail
          go_ret
          exact ⟨by rw [HX.out]; rfl, _, by first | rfl | exact World.drewN_drewN _ _ _⟩
      · obtain rfl : k = xs.length := by omega
        have HX := Lib.hid (show decide (xs = ys) = true by
          rw [List.take_length] at htk
          rw [htk, Hlen.out, List.take_length]; simp)
        clear htk
        go_wp2_with fail
        go_ret
        exact ⟨by rw [HX.out]; rfl, _, rfl⟩
  · have HX := Lib.hid (show decide (xs = ys) = false by simp; intro h; exact hlen (by rw [h]))
    have e1 : ((xs.length : Int) != (ys.length : Int)) = true := by rw [bne_iff_ne]; omega
    have e2 : (xs.length != ys.length) = true := by rw [bne_iff_ne]; omega
    have HI := Lib.hid hI
    have HI' := Lib.hid hI'
    have Hlen := Lib.hid hlen
    clear hI hI' hlen
    go_enter Try.func20, Try.ntmps20
    go_wp2_with fail
    go_ret
    exact ⟨by rw [HX.out]; rfl, 0, rfl⟩
theorem prod_snoc (l : List Int) (x : Int) : Safe.prod (l ++ [x]) = Safe.prod l * x := by
  induction l with
  | nil => simp [Safe.prod]
  | cons a r ih => simp only [List.cons_append, Safe.prod, ih]; rw [Int.mul_assoc]
theorem prod_pos1 {l : List Int} (h : ∀ x ∈ l, 1 ≤ x) : 1 ≤ Safe.prod l := by
  induction l with
  | nil => simp [Safe.prod]
  | cons a r ih =>
    have h1 := h a (by simp)
    have h2 := ih fun x hx => h x (by simp [hx])
    simp only [Safe.prod]
    have := Int.mul_pos (show 0 < a by omega) (show 0 < Safe.prod r by omega)
    omega
set_option maxHeartbeats 4000000 in
theorem ref03_size (A : Option Addr) (c : Nat) (zs : List Int) (w : World) (hr : Sh.right zs = true) (hI : Ints .i64 w A zs) :
    Calls Try.prog 26 #[.slice A zs.length c] w fun e w' => e = .returned (.int .i64 (Safe.prod zs)) ∧ w = w' := by
  obtain ⟨-, h1, h2, h3, h4, h5⟩ := Sh.right_mul hr
  have hp : ∀ k, 1 ≤ Safe.prod (zs.take k) ∧ Safe.prod (zs.take k) ≤ 1099511627776 := fun k => by
    refine ⟨?_, Sh.prod_le (fun x hx => h3 x (List.mem_of_mem_take hx)) (by simp; omega)⟩
    exact prod_pos1 fun x hx => (h3 x (List.mem_of_mem_take hx)).1
  have HI := Lib.hid hI
  have Hr := Lib.hid hr
  have Hp := Lib.hid hp
  have H3 := Lib.hid h3
  clear hI hr hp h3
  go_enter Try.func26, Try.ntmps26
  go_wp2_with fail
  go_loop [3, 4] (fun t i => ∃ k : Nat, k ≤ zs.length ∧ i = .int .i64 k ∧ t = .int .i64 (Safe.prod (zs.take k))) (fun _ i => zs.length - (intOf i).toNat)
  case atStart => exact ⟨0, Nat.zero_le _, rfl, rfl⟩
  case round =>
    obtain ⟨k, hk, rfl, rfl⟩ := hrel
    by_cases hlt : k < zs.length
    · obtain ⟨b, off, rfl, -, hc⟩ := HI.out k hlt
      rw [getD_at hlt] at hc
      have hq := Hp.out (k + 1)
      have hs : Safe.prod (zs.take (k + 1)) = Safe.prod (zs.take k) * zs[k] := by rw [List.take_succ_eq_append_getElem hlt, prod_snoc]
      rw [hs] at hq
      generalize Safe.prod (zs.take k) = p at *
      generalize zs[k] = z at *
      obtain ⟨q1, q2⟩ := hq
      have hw : IntKind.i64.wrap (p * z) = p * z := IntWalk.i64_in _ (by omega)
      have Hs := Lib.hid hs
      clear hs
      go_wp2_with fail
      go_round
      case rel => exact ⟨k + 1, by omega, by go_num, by rw [Hs.out]⟩
      case measure => simp [intOf]; omega
    · obtain rfl : k = zs.length := by omega
      rw [List.take_length]
      go_wp2_with fail
      go_ret
      exact ⟨rfl, rfl⟩
set_option maxHeartbeats 4000000 in
theorem ref03_right (A : Option Addr) (c : Nat) (zs : List Int) (w : World) (hl : zs.length ≤ 9223372036854775807) (hI : Ints .i64 w A zs) :
    Calls Try.prog 22 #[.slice A zs.length c] w fun e w' => e = .returned (.bool (Sh.right zs)) ∧ w = w' := by
  by_cases hlen : 1 ≤ zs.length ∧ zs.length ≤ 4
  · obtain ⟨l1, l2⟩ := hlen
    have d1 : decide ((zs.length : Int) < 1) = false := by simp; omega
    have d2 : decide ((4 : Int) < (zs.length : Int)) = false := by simp; omega
    have HI := Lib.hid hI
    clear hI
    go_enter Try.func22, Try.ntmps22
    go_wp2_with fail
    go_loop [3, 4] (fun t i => ∃ k : Nat, k ≤ zs.length ∧ i = .int .i64 k ∧ (zs.take k).all Sh.side = true ∧ t = .int .i64 (Safe.prod (zs.take k))) (fun _ i => zs.length - (intOf i).toNat)
    case atStart => exact ⟨0, Nat.zero_le _, rfl, rfl, rfl⟩
    case round =>
      obtain ⟨k, hk, rfl, hall, rfl⟩ := hrel
      by_cases hlt : k < zs.length
      · obtain ⟨b, off, rfl, -, hc⟩ := HI.out k hlt
        rw [getD_at hlt] at hc
        have hs : Safe.prod (zs.take (k + 1)) = Safe.prod (zs.take k) * zs[k] := by rw [List.take_succ_eq_append_getElem hlt, prod_snoc]
        by_cases hz : 1 ≤ zs[k] ∧ zs[k] ≤ 1024
        · have hall2 : (zs.take (k + 1)).all Sh.side = true := by
            rw [List.take_succ_eq_append_getElem hlt, List.all_append, hall]
            simp [Sh.side, hz]
          have hb2 : ∀ x ∈ zs.take (k + 1), 1 ≤ x ∧ x ≤ 1024 := Sh.all_iff hall2
          have hq : Safe.prod (zs.take (k + 1)) ≤ 1099511627776 := Sh.prod_le hb2 (by simp; omega)
          have hq1 : 1 ≤ Safe.prod (zs.take (k + 1)) := by
            exact prod_pos1 fun x hx => (hb2 x hx).1
          rw [hs] at hq hq1
          generalize Safe.prod (zs.take k) = p at *
          generalize zs[k] = z at *
          have hw : IntKind.i64.wrap (p * z) = p * z := IntWalk.i64_in _ (by omega)
          have e1 : decide (z < 1) = false := by simp; omega
          have e2 : decide (1024 < z) = false := by simp; omega
          clear hz hall hb2
          have Hs := Lib.hid hs
          have Hall2 := Lib.hid hall2
          clear hs hall2
          go_wp2_with fail
          go_round
          case rel => exact ⟨k + 1, by omega, by go_num, Hall2.out, by rw [Hs.out]⟩
          case measure => simp [intOf]; omega
        · have hno : Sh.right zs = false := Sh.right_side (by
            rw [List.all_eq_false]
            exact ⟨zs[k], List.getElem_mem hlt, by rw [Sh.side_iff]; exact hz⟩)
          generalize zs[k] = z at *
          have Hno := Lib.hid hno
          have Hall := Lib.hid hall
          have Hs := Lib.hid hs
          clear hno hall hs
          by_cases hz1 : z < 1
          · have e1 : decide (z < 1) = true := by simpa using hz1
            clear hz
            go_wp2_with fail
            go_ret
            exact ⟨by rw [Hno.out]; rfl, rfl⟩
          · have e1 : decide (z < 1) = false := by simpa using hz1
            have e2 : decide (1024 < z) = true := by simp; omega
            clear hz
            go_wp2_with fail
            go_ret
            exact ⟨by rw [Hno.out]; rfl, rfl⟩
      · obtain rfl : k = zs.length := by omega
        rw [List.take_length] at hall ⊢
        have HR := Lib.hid (Sh.right_prod ⟨l1, l2⟩ hall)
        clear hall
        go_wp2_with fail
        go_ret
        exact ⟨by rw [HR.out]; rfl, rfl⟩
  · have HR := Lib.hid (Sh.right_len hlen)
    have HI := Lib.hid hI
    clear hI
    by_cases h1 : zs.length < 1
    · have d1 : decide ((zs.length : Int) < 1) = true := by simp; omega
      clear hlen
      go_enter Try.func22, Try.ntmps22
      go_wp2_with fail
      go_ret
      exact ⟨by rw [HR.out]; rfl, rfl⟩
    · have d1 : decide ((zs.length : Int) < 1) = false := by simp; omega
      have d2 : decide ((4 : Int) < (zs.length : Int)) = true := by simp; omega
      clear hlen
      go_enter Try.func22, Try.ntmps22
      go_wp2_with fail
      go_ret
      exact ⟨by rw [HR.out]; rfl, rfl⟩
set_option maxHeartbeats 4000000 in
theorem ref05_ins (k : Int) (w : World) : Calls Try.prog 51 #[.int .i64 k] w fun e w' => e = .returned (.int .i64 (Od.ptIns k)) ∧ w = w' := by
  by_cases h1 : 1 ≤ k ∧ k ≤ 5
  · have HX := Lib.hid (show Od.ptIns k = 1 by unfold Od.ptIns; rw [if_pos h1])
    obtain ⟨a, b⟩ := h1
    go_enter Try.func51, Try.ntmps51
    go_wp2_with fail
    go_ret
    exact ⟨by rw [HX.out]; rfl, rfl⟩
  · by_cases h2 : k = 6 ∨ k = 7
    · have HX := Lib.hid (show Od.ptIns k = 2 by unfold Od.ptIns; rw [if_neg h1, if_pos h2])
      clear h1
      rcases h2 with rfl | rfl
      all_goals
        go_enter Try.func51, Try.ntmps51
        go_wp2_with fail
        go_ret
        exact ⟨by rw [HX.out]; rfl, rfl⟩
    · have HX := Lib.hid (show Od.ptIns k = 0 by unfold Od.ptIns; rw [if_neg h1, if_neg h2])
      have e6 : (k == 6) = false := by simp; omega
      have e7 : (k == 7) = false := by simp; omega
      by_cases h3 : 1 ≤ k
      · have d2 : decide (k ≤ 5) = false := by simp; omega
        clear h1 h2
        go_enter Try.func51, Try.ntmps51
        go_wp2_with fail
        go_ret
        exact ⟨by rw [HX.out]; rfl, rfl⟩
      · have d2 : decide (1 ≤ k) = false := by simp; omega
        clear h1 h2
        go_enter Try.func51, Try.ntmps51
        go_wp2_with fail
        go_ret
        exact ⟨by rw [HX.out]; rfl, rfl⟩
def refIns (k : Int) : Int × Int := if 1 ≤ k ∧ k ≤ 7 then (Od.ptIns k, Od.ptIns k) else if k = 13 then (1, 8) else if 8 ≤ k ∧ k ≤ 15 then (1, 1) else (0, 0)
theorem refIns_right {o : OpD} (h : Od.right o = true) : refIns o.kind = (Od.least o, Od.most o) := by
  have hk := Od.right_kind h
  unfold refIns Od.least Od.most
  rw [if_pos h, if_pos h]
  by_cases h7 : o.kind ≤ 7
  · rw [if_pos ⟨hk.1, h7⟩, if_pos h7, if_pos h7]
  · rw [if_neg (by omega), if_neg h7, if_neg h7]
    by_cases h13 : o.kind = 13
    · rw [if_pos h13, if_pos h13]
    · rw [if_neg h13, if_neg h13, if_pos (by omega)]
def refPar (k : Int) : Int := if k = 8 then 2 else if k = 9 ∨ k = 10 then 1 else 0
theorem refPar_right {o : OpD} (h : Od.right o = true) : refPar o.kind = Od.params o := by unfold refPar Od.params; rw [if_pos h]
set_option maxHeartbeats 4000000 in
theorem ref10_ins (k : Int) (w : World) (hk : 1 ≤ k ∧ k ≤ 15) : Calls Try.prog 36 #[.int .i64 k] w fun e w' => e = .returned (.tuple #[.int .i64 (refIns k).1, .int .i64 (refIns k).2]) ∧ w = w' := by
  by_cases h1 : k ≤ 7
  · have HX := Lib.hid (show refIns k = (Od.ptIns k, Od.ptIns k) by unfold refIns; rw [if_pos ⟨hk.1, h1⟩])
    obtain ⟨a, b⟩ := hk
    go_enter Try.func36, Try.ntmps36
    go_wp2_with fail
    refine (ref05_ins k _).mono ?_
    rintro e w1 ⟨rfl, rfl⟩
    go_wp2_with fail
    go_ret2
    exact ⟨by rw [HX.out]; rfl, rfl⟩
  · have d7 : decide (k ≤ 7) = false := by simp; omega
    by_cases h13 : k = 13
    · have HX := Lib.hid (show refIns k = (1, 8) by unfold refIns; rw [if_neg (by omega), if_pos h13])
      subst h13
      clear hk
      go_enter Try.func36, Try.ntmps36
      go_wp2_with fail
      go_ret2
      exact ⟨by rw [HX.out]; rfl, rfl⟩
    · have HX := Lib.hid (show refIns k = (1, 1) by unfold refIns; rw [if_neg (by omega), if_neg h13, if_pos (by omega)])
      have e13 : (k == 13) = false := by simp; omega
      have g8 : 8 ≤ k := by omega
      obtain ⟨a, b⟩ := hk
      clear h13
      go_enter Try.func36, Try.ntmps36
      go_wp2_with fail
      go_ret2
      exact ⟨by rw [HX.out]; rfl, rfl⟩
set_option maxHeartbeats 4000000 in
theorem ref10_params (k : Int) (w : World) : Calls Try.prog 37 #[.int .i64 k] w fun e w' => e = .returned (.int .i64 (refPar k)) ∧ w = w' := by
  by_cases h8 : k = 8
  · subst h8
    go_enter Try.func37, Try.ntmps37
    go_wp2_with fail
    go_ret
    exact ⟨rfl, rfl⟩
  · by_cases h9 : k = 9
    · subst h9
      clear h8
      go_enter Try.func37, Try.ntmps37
      go_wp2_with fail
      go_ret
      exact ⟨rfl, rfl⟩
    · by_cases h10 : k = 10
      · subst h10
        clear h8 h9
        go_enter Try.func37, Try.ntmps37
        go_wp2_with fail
        go_ret
        exact ⟨rfl, rfl⟩
      · have HX := Lib.hid (show refPar k = 0 by unfold refPar; rw [if_neg h8, if_neg (by omega)])
        have e8 : (k == 8) = false := by simp; omega
        have e9 : (k == 9) = false := by simp; omega
        have e10 : (k == 10) = false := by simp; omega
        clear h8 h9 h10
        go_enter Try.func37, Try.ntmps37
        go_wp2_with fail
        go_ret
        exact ⟨by rw [HX.out]; rfl, rfl⟩
theorem window_steps {side width step : Int} (h1 : 1 ≤ step) (h2 : width ≤ side) (h3 : 1 ≤ width) (h4 : side ≤ 1024) {k : Int} (hk : 0 ≤ k) (hw : (k - 1) * step + width ≤ side) (hs : ¬ k * step + width ≤ side) : k = 1 + (side - width).tdiv step := by
  rw [Int.tdiv_eq_ediv_of_nonneg (by omega)]
  have e1 : (k - 1) * step ≤ side - width := by omega
  have e2 : side - width < k * step := by omega
  have h5 := Int.le_ediv_of_mul_le (show 0 < step by omega) e1
  have h6 := Int.ediv_lt_of_lt_mul (show 0 < step by omega) e2
  omega
set_option maxHeartbeats 4000000 in
theorem ref07_window (side width step : Int) (w : World) : Calls Try.prog 52 #[.int .i64 side, .int .i64 width, .int .i64 step] w fun e w' => e = .returned (.int .i64 (Od.window side width step).1) ∧ w = w' := by
  by_cases h1 : 1 ≤ side ∧ side ≤ 1024 ∧ 1 ≤ width ∧ width ≤ 1024 ∧ 1 ≤ step ∧ step ≤ 1024 ∧ width ≤ side
  · have HX := Lib.hid (show (Od.window side width step).1 = 1 + (side - width).tdiv step by
      unfold Od.window; rw [if_pos (by simp only [Sh.side_iff]; omega)])
    obtain ⟨a1, a2, a3, a4, a5, a6, a7⟩ := h1
    have c1 : decide (side < 1) = false := by simp; omega
    have c2 : decide (width < 1) = false := by simp; omega
    have c3 : decide (step < 1) = false := by simp; omega
    have c4 : decide (1024 < side) = false := by simp; omega
    have c5 : decide (1024 < width) = false := by simp; omega
    have c6 : decide (1024 < step) = false := by simp; omega
    have c7 : decide (side < width) = false := by simp; omega
    go_enter Try.func52, Try.ntmps52
    go_wp2_with fail
    go_loop [7, 8] (fun t i => ∃ k : Int, 0 ≤ k ∧ i = .int .i64 (k * step) ∧ t = .int .i64 k ∧ (k - 1) * step + width ≤ side) (fun _ i => (side + 1 - intOf i).toNat)
    case atStart => exact ⟨0, by omega, by rw [Int.zero_mul], rfl, by rw [Int.zero_sub, Int.neg_mul, Int.one_mul]; omega⟩
    case round =>
      obtain ⟨k, hk, rfl, rfl, hle⟩ := hrel
      have b1 : (k - 1) * step = k * step - step := by rw [Int.sub_mul, Int.one_mul]
      have b0 : 0 ≤ k * step := Int.mul_nonneg hk (by omega)
      have b3 : k ≤ k * step + 1 := by
        have := Int.mul_le_mul_of_nonneg_left (show 1 ≤ step from a5) hk
        omega
      have b2 : (k + 1) * step = k * step + step := by rw [Int.add_mul, Int.one_mul]
      have hst := @window_steps side width step a5 a7 a3 a2 k hk hle
      rw [b1] at hle
      have hle2 : k * step + width ≤ side → (k + 1 - 1) * step + width ≤ side := fun h => by rw [Int.add_sub_cancel]; exact h
      generalize k * step = m at *
      by_cases hc : m + width ≤ side
      · have HL := Lib.hid (hle2 hc)
        have Hb1 := Lib.hid b1
        have Hb2 := Lib.hid b2
        have Hst := Lib.hid hst
        have Hle2 := Lib.hid hle2
        clear b1 b2 hst hle2
        go_wp2_with fail
        go_round
        case rel => exact ⟨k + 1, by omega, by rw [Hb2.out], rfl, HL.out⟩
        case measure => simp [intOf]; omega
      · have HK := Lib.hid (hst hc)
        have Hb1 := Lib.hid b1
        have Hb2 := Lib.hid b2
        have Hst := Lib.hid hst
        have Hle2 := Lib.hid hle2
        clear b1 b2 hst hle2
        go_wp2_with fail
        go_ret
        exact ⟨by rw [HX.out, ← HK.out]; rfl, rfl⟩
  · have HX := Lib.hid (show (Od.window side width step).1 = 0 by
      unfold Od.window; rw [if_neg (by simp only [Sh.side_iff]; omega)])
    by_cases c1 : side < 1
    · have d1 : decide (side < 1) = true := by simpa using c1
      clear h1
      go_enter Try.func52, Try.ntmps52
      go_wp2_with fail
      go_ret
      exact ⟨by rw [HX.out]; rfl, rfl⟩
    · have d1 : decide (side < 1) = false := by simpa using c1
      by_cases c2 : width < 1
      · have d2 : decide (width < 1) = true := by simpa using c2
        clear h1
        go_enter Try.func52, Try.ntmps52
        go_wp2_with fail
        go_ret
        exact ⟨by rw [HX.out]; rfl, rfl⟩
      · have d2 : decide (width < 1) = false := by simpa using c2
        by_cases c3 : step < 1
        · have d3 : decide (step < 1) = true := by simpa using c3
          clear h1
          go_enter Try.func52, Try.ntmps52
          go_wp2_with fail
          go_ret
          exact ⟨by rw [HX.out]; rfl, rfl⟩
        · have d3 : decide (step < 1) = false := by simpa using c3
          by_cases c4 : 1024 < side
          · have d4 : decide (1024 < side) = true := by simpa using c4
            clear h1
            go_enter Try.func52, Try.ntmps52
            go_wp2_with fail
            go_ret
            exact ⟨by rw [HX.out]; rfl, rfl⟩
          · have d4 : decide (1024 < side) = false := by simpa using c4
            by_cases c5 : 1024 < width
            · have d5 : decide (1024 < width) = true := by simpa using c5
              clear h1
              go_enter Try.func52, Try.ntmps52
              go_wp2_with fail
              go_ret
              exact ⟨by rw [HX.out]; rfl, rfl⟩
            · have d5 : decide (1024 < width) = false := by simpa using c5
              by_cases c6 : 1024 < step
              · have d6 : decide (1024 < step) = true := by simpa using c6
                clear h1
                go_enter Try.func52, Try.ntmps52
                go_wp2_with fail
                go_ret
                exact ⟨by rw [HX.out]; rfl, rfl⟩
              · have d6 : decide (1024 < step) = false := by simpa using c6
                have d7 : decide (side < width) = true := by simp; omega
                clear h1
                go_enter Try.func52, Try.ntmps52
                go_wp2_with fail
                go_ret
                exact ⟨by rw [HX.out]; rfl, rfl⟩
end Go.Proofs.Ytjkhpbngpceenab
/- Layer 11 (net): which number nobody uses: contract. -/
namespace Go.Proofs.Ytjkhpbngpceenab
open Go.RowKit

/-- The net's rows are of a length that can be gone through. -/
def NodeD.ok (v : NodeD) : Prop := v.op.wide ∧ v.op.s.length ≤ 1048576 ∧ v.ins.length ≤ 1048576 ∧ v.p.length ≤ 1048576 ∧ (∀ s ∈ v.p, s.length ≤ 1048576) ∧ ∀ z ∈ v.ins, -9223372036854775808 ≤ z ∧ z ≤ 9223372036854775807
def NetD.ok (n : NetD) : Prop := n.inn.length ≤ 1048576 ∧ n.nodes.length ≤ 1048576 ∧ ∀ v ∈ n.nodes, v.ok

/-- One node's cells, from the place o of block b on. -/
def NodeAt (w : World) (b o : Nat) (v : NodeD) (S : Option Addr) (c : Nat) (I : Option Addr) (d : Nat) (Q : Option Addr) (q : Nat) : Prop :=
    (w.cell? ⟨b, o, none⟩ = some (.int .i64 v.op.kind) ∧ w.cell? ⟨b, o + 1, none⟩ = some (.int .i64 v.op.k) ∧ w.cell? ⟨b, o + 2, none⟩ = some (.int .i64 v.op.width) ∧
    w.cell? ⟨b, o + 3, none⟩ = some (.int .i64 v.op.step) ∧ w.cell? ⟨b, o + 4, none⟩ = some (.int .i64 v.op.side) ∧ w.cell? ⟨b, o + 5, none⟩ = some (.int .i64 v.op.frm) ∧
    w.cell? ⟨b, o + 6, none⟩ = some (.int .i64 v.op.to) ∧ w.cell? ⟨b, o + 7, none⟩ = some (.slice S v.op.s.length c) ∧
    w.cell? ⟨b, o + 8, none⟩ = some (.slice I v.ins.length d) ∧ w.cell? ⟨b, o + 9, none⟩ = some (.slice Q v.p.length q)) ∧
    Ints .i64 w S v.op.s ∧ Ints .i64 w I v.ins ∧ Shps w Q v.p
theorem NodeAt.below {w w' : World} {b o : Nat} {v : NodeD} {S : Option Addr} {c : Nat} {I : Option Addr} {d : Nat} {Q : Option Addr} {q : Nat} (h : NodeAt w b o v S c I d Q q) (hb : Below w.heap.size w w') : NodeAt w' b o v S c I d Q q := by
  obtain ⟨⟨y0, y1, y2, y3, y4, y5, y6, y7, y8, y9⟩, h1, h2, h3⟩ := h
  exact ⟨⟨cell_below hb y0, cell_below hb y1, cell_below hb y2, cell_below hb y3, cell_below hb y4, cell_below hb y5, cell_below hb y6, cell_below hb y7, cell_below hb y8, cell_below hb y9⟩, h1.below hb (Nat.le_refl _), h2.below hb (Nat.le_refl _), h3.below hb (Nat.le_refl _)⟩
theorem Nodes.at_ {w : World} {A : Option Addr} {ns : List NodeD} (h : Nodes w A ns) {j : Nat} (hj : j < ns.length) :
    ∃ b off S c I d Q q, A = some ⟨b, off, none⟩ ∧ NodeAt w b (off + j * 10) ns[j] S c I d Q q ∧ (ns[j].op.s.length ≤ c ∧ c ≤ 9223372036854775807) ∧ (ns[j].ins.length ≤ d ∧ d ≤ 9223372036854775807) ∧ (ns[j].p.length ≤ q ∧ q ≤ 9223372036854775807) := by
  obtain ⟨b, off, S, c, I, d, Q, q, e, _, y0, y1, y2, y3, y4, y5, y6, y7, y8, y9, ⟨h1, h1'⟩, ⟨h2, h2'⟩, h3, h3'⟩ := h j hj
  exact ⟨b, off, S, c, I, d, Q, q, e, ⟨⟨y0, y1, y2, y3, y4, y5, y6, y7, y8, y9⟩, h1, h2, h3⟩, h1', h2', h3'⟩

namespace Nt
/-- What is used by the first k nodes, and by the ins l of the next one. -/
def usedMid (ns : List NodeD) (n k : Nat) (l : List Int) : List Bool := (nums n).map fun id => isUsed (ns.take k) id || l.contains id
theorem usedMid_len (ns : List NodeD) (n k : Nat) (l : List Int) : (usedMid ns n k l).length = n + 1 := by simp [usedMid, nums]
theorem usedMid_zero (ns : List NodeD) (n : Nat) : usedMid ns n 0 [] = List.replicate (n + 1) false := by
  unfold usedMid
  rw [List.eq_replicate_iff]
  refine ⟨by simp [nums], fun b hb => ?_⟩
  obtain ⟨x, _, rfl⟩ := List.mem_map.1 hb
  simp [isUsed]
theorem usedMid_next (ns : List NodeD) (n : Nat) {k : Nat} (hk : k < ns.length) : usedMid ns n k ns[k].ins = usedMid ns n (k + 1) [] := by
  unfold usedMid
  apply List.map_congr_left
  intro id _
  rw [List.take_succ_eq_append_getElem hk]
  simp only [isUsed, List.any_append, List.any_cons, List.any_nil, List.contains_nil, Bool.or_false]
theorem usedMid_in (ns : List NodeD) (n k : Nat) (l : List Int) {id : Int} (h0 : 0 ≤ id) (h1 : id ≤ n) : usedMid ns n k (l ++ [id]) = (usedMid ns n k l).set id.toNat true := by
  apply List.ext_getElem?
  intro j
  rw [List.getElem?_set]
  unfold usedMid nums
  simp only [List.map_map, List.getElem?_map, List.length_map, List.length_range]
  by_cases hj : j < n + 1
  · rw [List.getElem?_range hj]
    by_cases e : id.toNat = j
    · subst e
      have : ((id.toNat : Nat) : Int) = id := by omega
      simp [hj, this]
    · have e2 : (j : Int) ≠ id := by omega
      simp [e, e2]
  · rw [List.getElem?_eq_none (by simp; omega)]
    simp
    intro q; omega
theorem usedMid_all (ns : List NodeD) : usedMid ns ns.length ns.length [] = (nums ns.length).map (isUsed ns) := by
  unfold usedMid
  apply List.map_congr_left
  intro id _
  simp
/-- The unused ones of the first numbers. -/
def unusedTo (ns : List NodeD) (k : Nat) : List Int := ((List.range k).map fun i : Nat => (i : Int)).filter fun id => !isUsed ns id
theorem unusedTo_succ (ns : List NodeD) (k : Nat) : unusedTo ns (k + 1) = if isUsed ns k then unusedTo ns k else unusedTo ns k ++ [(k : Int)] := by
  unfold unusedTo
  rw [List.range_succ, List.map_append, List.filter_append]
  cases h : isUsed ns k <;> simp [h]
theorem unusedTo_all (ns : List NodeD) : unusedTo ns (ns.length + 1) = unused ns := rfl
theorem unusedTo_len (ns : List NodeD) (k : Nat) : (unusedTo ns k).length ≤ k := by
  unfold unusedTo
  exact Nat.le_trans (List.length_filter_le _ _) (by simp)
end Nt
theorem bool_info : (Try.prog.info? 4).map (fun i => (i.zero, i.size, i.bytes)) = some (some (.bool false), 1, 1) := by kernel_rfl
theorem made_one (v : Value) (n : Nat) : (madeCells #[v] n).toList = List.replicate n v := by
  rw [List.eq_replicate_iff]
  refine ⟨by simp [madeCells], fun b hb => ?_⟩
  simp [madeCells] at hb
  obtain ⟨x, _, rfl⟩ := hb
  simp [Nat.mod_one]

set_option maxRecDepth 20000 in
set_option maxHeartbeats 8000000 in
theorem net_unused (A N : Option Addr) (c d : Nat) (n : NetD) (w : World) (hok : n.ok) (hR : NetR w A N n) (hd : n.nodes.length ≤ d) (hins : ∀ v ∈ n.nodes, ∀ i ∈ v.ins, 0 ≤ i ∧ i ≤ n.nodes.length) :
    Calls Try.prog 43 #[.agg #[.slice A n.inn.length c, .slice N n.nodes.length d]] w fun e w' => e = .returned (.tuple #[.int .i64 (Nt.loss n.nodes), .bool (Nt.lossOk n.nodes)]) ∧ Below w.heap.size w w' := by
  obtain ⟨i0, hi, hz0, hz1, hz2⟩ := info_parts bool_info
  have hnl := hok.2.1
  have hokn := hok.2.2
  have HR := Lib.hid hR
  have Hins := Lib.hid hins
  have Hokn := Lib.hid hokn
  clear hR hins hokn
  clear hok
  have e1 : IntKind.i64.wrap ((n.nodes.length : Int) + 1) = ((n.nodes.length + 1 : Nat) : Int) := by rw [IntWalk.i64_in _ (by omega)]; omega
  go_enter Try.func43, Try.ntmps43
  go_wp2_with (at_make; refine wpList_make_full _ rfl _ _ 102 rfl w.heap.size 4 i0 (.bool false) 1 Try.underlying102 hi hz0 hz1 _ _ _ _ (n.nodes.length + 1) rfl rfl (by first | rfl | simp | (go_simp; rfl)) (by first | rfl | simp | (go_simp; rfl)) ?b2 ?b3 ?b4 ?_)
  case b2 => rw [hz2]; omega
  case b3 => unfold maxLen; omega
  case b4 => simp
  intro w1 hown hgrow
  have hblk := own_cur hown
  rw [made_one] at hblk
  have hk1 : Blk w1 (w.heap.size + 1) 4 ((Nt.usedMid n.nodes n.nodes.length 0 []).map Value.bool).toArray := by
    rw [Nt.usedMid_zero, List.map_replicate]
    simpa [Blk] using hblk
  have hb1 : Below w.heap.size w w1 := ((Below.refl _ w).alloc (Nat.le_refl _) _).grown hgrow (by simp) (by simp)
  have hx1 : w1.cell? ⟨w.heap.size, 1, none⟩ = some (.slice N n.nodes.length d) := hgrow.cell (by simp) (by simp)
  have HK := Lib.hid hk1
  clear hblk hk1 hown hgrow
  go_wp2_with fail
  go_loopw [21] (fun i wr => ∃ k : Nat, k ≤ n.nodes.length ∧ i = .int .i64 k ∧ Blk wr (w.heap.size + 1) 4 ((Nt.usedMid n.nodes n.nodes.length k []).map Value.bool).toArray ∧ Below w.heap.size w wr) (fun i _ => n.nodes.length - (intOf i).toNat)
  case atStart => exact ⟨0, Nat.zero_le _, rfl, HK.out, hb1⟩
  case round =>
    obtain ⟨k, hk, rfl, hblk, hbw⟩ := hrel
    have Hblk := Lib.hid hblk
    clear hblk
    clear HK hb1 hx1
    by_cases hlt : k < n.nodes.length
    · obtain ⟨b, off, S, sc, I, ic, Q, qc, rfl, hNA, -, hI, -⟩ := HR.out.2.at_ hlt
      have hnok := Hokn.out _ (List.getElem_mem hlt)
      have hin := Hins.out _ (List.getElem_mem hlt)
      have HN := Lib.hid (Nt.usedMid_next n.nodes n.nodes.length hlt)
      have hil := hnok.2.2.1
      generalize n.nodes[k] = v at *
      obtain ⟨⟨y0, y1, y2, y3, y4, y5, y6, y7, y8, y9⟩, -⟩ := hNA.below hbw
      have HNA := Lib.hid hNA
      have Hnok := Lib.hid hnok
      have Hin := Lib.hid hin
      clear hNA hnok hin
      have hb2 := hbw.alloc hbw.size (.cells #[.int .i64 v.op.kind, .int .i64 v.op.k, .int .i64 v.op.width, .int .i64 v.op.step, .int .i64 v.op.side, .int .i64 v.op.frm, .int .i64 v.op.to, .slice S v.op.s.length sc, .slice I v.ins.length ic, .slice Q v.p.length qc] 46)
      have HB2 := Lib.hid (Hblk.out.alloc (.cells #[.int .i64 v.op.kind, .int .i64 v.op.k, .int .i64 v.op.width, .int .i64 v.op.step, .int .i64 v.op.side, .int .i64 v.op.frm, .int .i64 v.op.to, .slice S v.op.s.length sc, .slice I v.ins.length ic, .slice Q v.p.length qc] 46))
      go_wp2_with fail
      clear y0 y1 y2 y3 y4 y5 y6 y7 y8 y9
      go_loopw [28] (fun i wx => ∃ m : Nat, m ≤ v.ins.length ∧ i = .int .i64 m ∧ Blk wx (w.heap.size + 1) 4 ((Nt.usedMid n.nodes n.nodes.length k (v.ins.take m)).map Value.bool).toArray ∧ Below w.heap.size w wx) (fun i _ => v.ins.length - (intOf i).toNat)
      case atStart => exact ⟨0, Nat.zero_le _, rfl, by rw [List.take_zero]; exact HB2.out, hb2⟩
      case round =>
        obtain ⟨m, hm, rfl, hblx, hbx⟩ := hrel
        clear HB2 hb2 Hblk hbw
        by_cases hlm : m < v.ins.length
        · have hI2 := (HNA.out.below hbx).2.2.1
          obtain ⟨b1, off1, rfl, -, hc⟩ := hI2 m hlm
          rw [getD_at hlm] at hc
          have hr := Hin.out _ (List.getElem_mem hlm)
          obtain ⟨u, hu⟩ : ∃ u : Nat, v.ins[m] = u := ⟨v.ins[m].toNat, by omega⟩
          have HM := Lib.hid (show Nt.usedMid n.nodes n.nodes.length k (v.ins.take (m + 1)) = (Nt.usedMid n.nodes n.nodes.length k (v.ins.take m)).set u true by rw [List.take_succ_eq_append_getElem hlm, Nt.usedMid_in _ _ _ _ hr.1 hr.2, hu]; rfl)
          rw [hu] at hc hr
          have hul : u < n.nodes.length + 1 := by omega
          have hcg := hblx.cell u
          have hfg := hblx.frozen u
          have hcg2 : wr.cell? ⟨w.heap.size + 1, u, none⟩ = some (.bool ((Nt.usedMid n.nodes n.nodes.length k (v.ins.take m)).getD u false)) := by
            rw [hcg]
            have := Nt.usedMid_len n.nodes n.nodes.length k (v.ins.take m)
            rw [List.getD_eq_getElem?_getD, List.getElem?_eq_getElem (by omega)]
            simp [this, hul]
          have hbs := hblx.set_ u (.bool true)
          have HBS := Lib.hid (show Blk (wr.setCell ⟨w.heap.size + 1, u, none⟩ (.bool true)) (w.heap.size + 1) 4 (((Nt.usedMid n.nodes n.nodes.length k (v.ins.take m)).set u true).map Value.bool).toArray by simpa [List.map_set] using hbs)
          have hbx2 := hbx.setCell (p := ⟨w.heap.size + 1, u, none⟩) (by simp) (.bool true)
          clear hcg hbs hI2 hblx hu
          have u0 : (0 : Int) ≤ u := by omega
          have u1 : (u : Int) < ((n.nodes.length + 1 : Nat) : Int) := by omega
          go_wp2_with fail
          go_roundw
          case rel => exact ⟨m + 1, by omega, by go_num, by rw [HM.out]; exact HBS.out, hbx2⟩
          case measure => simp [intOf]; omega
        · obtain rfl : m = v.ins.length := by omega
          rw [List.take_length] at hblx
          have Hblx := Lib.hid hblx
          clear hblx
          go_wp2_with fail
          go_roundw
          case rel => exact ⟨k + 1, by omega, by go_num, by rw [← HN.out]; exact Hblx.out, hbx⟩
          case measure => simp [intOf]; omega
    · obtain rfl : k = n.nodes.length := by omega
      have hU := Nt.usedMid_all n.nodes
      have hBU := Hblk.out
      rw [hU] at hBU
      have HBU := Lib.hid hBU
      have HU := Lib.hid hU
      clear hBU hU
      clear Hblk
      go_wp2_with fail
      go_loopw [9, 10, 39] (fun l c i wx => wx = wr ∧ ∃ k : Nat, k ≤ n.nodes.length + 1 ∧ i = .int .i64 k ∧ l = .int .i64 ((Nt.unusedTo n.nodes k).getLastD 0) ∧ c = .int .i64 ((Nt.unusedTo n.nodes k).length : Nat)) (fun _ _ i _ => n.nodes.length + 1 - (intOf i).toNat)
      case atStart => exact ⟨rfl, 0, Nat.zero_le _, rfl, rfl, rfl⟩
      case round =>
        obtain ⟨rfl, k, hk, rfl, rfl, rfl⟩ := hrel
        have hul := Nt.unusedTo_len n.nodes k
        by_cases hlt : k < n.nodes.length + 1
        · have hcf : ∀ b, Nt.isUsed n.nodes k = b → wr.cell? ⟨w.heap.size + 1, k, none⟩ = some (.bool b) := fun b hb => by
            rw [← hb, HBU.out.cell]
            simp [Nt.nums, hlt]
          have hs := Nt.unusedTo_succ n.nodes k
          have k1 : (k : Int) < ((n.nodes.length + 1 : Nat) : Int) := by omega
          have HS := Lib.hid hs
          clear hs
          obtain ⟨L0, hL0⟩ : ∃ L0, (Nt.unusedTo n.nodes k).getLastD 0 = L0 := ⟨_, rfl⟩
          obtain ⟨c0, hc0⟩ : ∃ c0, (Nt.unusedTo n.nodes k).length = c0 := ⟨_, rfl⟩
          rw [hc0] at hul
          rw [hL0, hc0]
          have HL0 := Lib.hid hL0
          have Hc0 := Lib.hid hc0
          clear hL0 hc0
          cases hu : Nt.isUsed n.nodes k
          · have hc := hcf _ hu
            have HU := Lib.hid hu
            clear hu hcf
            go_wp2_with fail
            go_roundw
            case rel => exact ⟨trivial, k + 1, by omega, by go_num, by rw [HS.out, HU.out]; simp, by rw [HS.out, HU.out, if_neg (by simp), List.length_append, Hc0.out]; go_num⟩
            case measure => simp [intOf]; omega
          · have hc := hcf _ hu
            have HU := Lib.hid hu
            clear hu hcf
            go_wp2_with fail
            go_roundw
            case rel => exact ⟨trivial, k + 1, by omega, by go_num, by rw [HS.out, HU.out, if_pos rfl, HL0.out], by rw [HS.out, HU.out, if_pos rfl, Hc0.out]⟩
            case measure => simp [intOf]; omega
        · obtain rfl : k = n.nodes.length + 1 := by omega
          rw [Nt.unusedTo_all] at *
          have hl : (Nt.unused n.nodes).getLastD 0 = Nt.loss n.nodes := rfl
          rw [hl]
          have hlo : Nt.lossOk n.nodes = decide ((Nt.unused n.nodes).length = 1 ∧ Nt.loss n.nodes ≠ 0) := rfl
          obtain ⟨L, hL⟩ : ∃ L, Nt.loss n.nodes = L := ⟨_, rfl⟩
          obtain ⟨c', hc'⟩ : ∃ c', (Nt.unused n.nodes).length = c' := ⟨_, rfl⟩
          rw [hL, hc'] at hlo
          rw [hc'] at hul
          rw [hL, hc']
          have HLs := Lib.hid hL
          clear hL hl hc'
          by_cases h1 : c' = 1
          · subst h1
            have k1 : ¬ (((n.nodes.length + 1 : Nat) : Int) < ((n.nodes.length + 1 : Nat) : Int)) := by omega
            have HL := Lib.hid hlo
            clear hlo
            go_wp2_with fail
            go_ret2
            exact ⟨by rw [HL.out, HLs.out]; by_cases h : L = 0 <;> simp [h], hbw⟩
          · have c1 : ((c' : Int) == 1) = false := by simp; omega
            have HL := Lib.hid (show Nt.lossOk n.nodes = false by rw [hlo]; simp [h1])
            clear hlo h1
            go_wp2_with fail
            go_ret2
            exact ⟨by rw [HL.out, HLs.out]; rfl, hbw⟩
end Go.Proofs.Ytjkhpbngpceenab
/- Layer 10 (op): Cost; its reference; layer 13's sizes: contracts. -/
namespace Go.Proofs.Ytjkhpbngpceenab
open Go.RowKit
theorem Sh.size_right {s : List Int} (h : Sh.right s = true) : Sh.size s = (Safe.prod s, 0) := by simp [Sh.size, h]
theorem Sh.prod_bd {s : List Int} (h : Sh.right s = true) : 1 ≤ Safe.prod s ∧ Safe.prod s ≤ 65536 := Od.prod_right_ h
theorem ints_two {w : World} {t : TypeId} (a b : Int) : Ints .i64 (w.alloc (.cells #[.int .i64 a, .int .i64 b] t)) (some ⟨w.heap.size, 0, none⟩) [a, b] := Ints.of_row fun j hj => by
  have hk := Blk.new w t #[.int .i64 a, .int .i64 b]
  have hj2 : j = 0 ∨ j = 1 := by simp at hj; omega
  rcases hj2 with rfl | rfl <;> (rw [hk.cell]; rfl)
set_option maxRecDepth 20000 in
set_option maxHeartbeats 8000000 in
theorem op_cost (o : OpD) (S P X : Option Addr) (c d f : Nat) (p x : List (List Int)) (w : World) (ho : o.s.length ≤ 17592186043904) (hI : Ints .i64 w S o.s) (hP : ShpIn w P d p) (hX : ShpIn w X f x) :
    Calls Try.prog 32 #[.agg #[.int .i64 o.kind, .int .i64 o.k, .int .i64 o.width, .int .i64 o.step, .int .i64 o.side, .int .i64 o.frm, .int .i64 o.to, .slice S o.s.length c], .slice P p.length d, .slice X x.length f] w fun e w' => e = .returned (.tuple #[.int .i64 (Od.cost o p x).1, .int .i64 (Od.cost o p x).2]) ∧ Below w.heap.size w w' := by
  have hk0 := Blk.new w 43 #[.int .i64 o.kind, .int .i64 o.k, .int .i64 o.width, .int .i64 o.step, .int .i64 o.side, .int .i64 o.frm, .int .i64 o.to, .slice S o.s.length c]
  have hl0 : Later w (w.alloc (.cells #[.int .i64 o.kind, .int .i64 o.k, .int .i64 o.width, .int .i64 o.step, .int .i64 o.side, .int .i64 o.frm, .int .i64 o.to, .slice S o.s.length c] 43)) := (Later.refl w).alloc _
  have HI := Lib.hid hI
  have HP := Lib.hid hP
  have HX := Lib.hid hX
  have Hk0 := Lib.hid hk0
  have Hl0 := Lib.hid hl0
  clear hI hP hX hk0 hl0
  go_enter Try.func32, Try.ntmps32
  go_wp2_with fail
  generalize w.alloc (.cells #[.int .i64 o.kind, .int .i64 o.k, .int .i64 o.width, .int .i64 o.step, .int .i64 o.side, .int .i64 o.frm, .int .i64 o.to, .slice S o.s.length c] 43) = w1 at *
  refine (op_shape o S P X c d f p x w1 ho (HI.out.below Hl0.out (Nat.le_refl _)) (HP.out.below Hl0.out (Nat.le_refl _)) (HX.out.below Hl0.out (Nat.le_refl _))).mono ?_
  rintro e w2 ⟨S2, d2, rfl, hI2, h21, h22, -, hb2⟩
  have hl2 := Hl0.out.call hb2
  have hk2 := (show Later w1 w2 from hb2).blk Hk0.out
  have hgood := fun h => @Od.cost_parts o p x h
  have hshr := fun h => @Od.shape_right o p x h
  have hpr := fun h => (@Od.shape_good o p x h).2.2.2.1
  have hcv : Od.cost o p x = if (Od.shape o p x).2 = 0 then (Od.costV o p (Od.shape o p x).1, 0) else (0, (Od.shape o p x).2) := rfl
  clear hb2
  generalize Od.shape o p x = r at *
  by_cases hr : r.2 = 0
  · have hr2 := hshr hr
    obtain ⟨g8, g10, g11⟩ := hgood hr
    have hpr2 := hpr hr
    rw [if_pos hr] at hcv
    have hs := Sh.prod_bd hr2
    have hsz := Sh.size_right hr2
    have hlen := (Sh.right_mul hr2).2.1
    clear hgood hshr hpr
    have HI2 := Lib.hid hI2
    have Hl2 := Lib.hid hl2
    have Hk2 := Lib.hid hk2
    have Hr2 := Lib.hid hr2
    have Hg8 := Lib.hid g8
    have Hg10 := Lib.hid g10
    have Hg11 := Lib.hid g11
    have Hpr2 := Lib.hid hpr2
    have Hcv := Lib.hid hcv
    have Hsz := Lib.hid hsz
    clear hI2 hl2 hk2 hr2 g8 g10 g11 hpr2 hcv hsz
    have q0 : (r.2 != 0) = false := by simp [hr]
    clear hr
    go_wp2_with fail
    refine (shape_size S2 d2 r.1 _ (by omega) HI2.out).mono ?_
    rintro e w3 ⟨rfl, hb3⟩
    rw [Hsz.out]
    have hl3 := Hl2.out.call hb3
    have hk3 := (show Later w2 w3 from hb3).blk Hk2.out
    obtain ⟨y0, -, y2, -, -, -, -, -⟩ := op_cells hk3
    have hP3 := HP.out.below hl3 (Nat.le_refl _)
    clear hb3
    by_cases k8 : o.kind = 8
    · have hv : Od.costV o p r.1 = Safe.prod (p.getD 0 []) := by unfold Od.costV; rw [if_pos k8]
      have hl := Hg8.out k8
      obtain ⟨b, off, S5, d5, rfl, y5, hI5, -, -, l5⟩ := hP3.at_ hl
      have e0 : p.getD 0 [] = p[0] := by simp [List.getD_eq_getElem?_getD, hl]
      have hsz5 := Sh.size_right (Hpr2.out p[0] (List.getElem_mem hl))
      rw [e0] at hv
      rw [hv] at Hcv
      rw [Nat.add_zero] at y5
      rw [k8] at y0
      generalize p[0] = t at *
      have Hl3 := Lib.hid hl3
      have Hk3 := Lib.hid hk3
      have HP3 := Lib.hid hP3
      have HI5 := Lib.hid hI5
      have Hsz5 := Lib.hid hsz5
      have Hv := Lib.hid hv
      clear hl3 hk3 hP3 hI5 hsz5 hv
      go_wp2_with fail
      refine (shape_size S5 d5 t _ (by omega) HI5.out).mono ?_
      rintro e w4 ⟨rfl, hb4⟩
      rw [Hsz5.out]
      have hl4 := Hl3.out.call hb4
      have Hl4 := Lib.hid hl4
      clear hl4
      go_wp2_with fail
      go_ret2
      exact ⟨by (rw [Hcv.out] <;> rfl), Hl4.out⟩
    · by_cases k10 : o.kind = 10
      · obtain ⟨hl, hl2, hm1, hm2⟩ := Hg10.out k10
        obtain ⟨b, off, S5, d5, rfl, y5, hI5, -, -, l5⟩ := hP3.at_ hl
        have e0 : p.getD 0 [] = p[0] := by simp [List.getD_eq_getElem?_getD, hl]
        have hr5 := Hpr2.out p[0] (List.getElem_mem hl)
        have hsz5 := Sh.size_right hr5
        have hbd5 := Sh.prod_bd hr5
        have hv : Od.costV o p r.1 = Safe.prod r.1 * (Safe.prod (p.getD 0 [])).tdiv ((p.getD 0 []).getD 0 0) := by unfold Od.costV; rw [if_neg k8, if_pos k10]
        rw [e0] at hv hl2 hm1 hm2
        rw [hv] at Hcv
        rw [Nat.add_zero] at y5
        rw [k10] at y0
        generalize p[0] = t at *
        have hq1 : 0 ≤ (Safe.prod t).tdiv (t.getD 0 0) := Int.tdiv_nonneg (by omega) (by omega)
        have hq2 : (Safe.prod t).tdiv (t.getD 0 0) ≤ Safe.prod t := Int.tdiv_le_self _ (by omega)
        have hq3 : (Safe.prod t).tdiv (t.getD 0 0) = Safe.prod t / t.getD 0 0 := Int.tdiv_eq_ediv_of_nonneg (by omega)
        have hmul := Od.mul2 (a := Safe.prod r.1) (b := (Safe.prod t).tdiv (t.getD 0 0)) (by omega) (by omega) hq1 (by omega)
        rw [hq3] at hq1 hq2 hmul hv
        have Hl3 := Lib.hid hl3
        have Hk3 := Lib.hid hk3
        have HP3 := Lib.hid hP3
        have HI5 := Lib.hid hI5
        have Hsz5 := Lib.hid hsz5
        have Hv := Lib.hid hv
        have Hmul := Lib.hid hmul
        have Hq3 := Lib.hid hq3
        clear hl3 hk3 hP3 hI5 hsz5 hv hmul hq3
        go_wp2_with fail
        refine (shape_size S5 d5 t _ (by omega) HI5.out).mono ?_
        rintro e w4 ⟨rfl, hb4⟩
        rw [Hsz5.out]
        have hl4 := Hl3.out.call hb4
        have y54 := (show Later w3 w4 from hb4).cell y5
        obtain ⟨b6, o6, rfl, -, y6⟩ := (HI5.out.below hb4 (Nat.le_refl _)) 0 hl2
        rw [Nat.add_zero] at y6
        clear y5 y0 y2 hb4
        generalize t.getD 0 0 = t0 at *
        generalize Safe.prod t = pt at *
        generalize Safe.prod r.1 = pr at *
        have Hl4 := Lib.hid hl4
        clear hl4
        have hl20 : (0 : Int) < (t.length : Int) := by omega
        go_wp2_with fail
        refine (safe_mul (some ⟨w4.heap.size, 0, none⟩) 2 [pr, pt / t0] _ (by simp) (ints_two _ _)).mono ?_
        rintro e w5 ⟨rfl, hb5⟩
        rw [Hmul.out.1]
        have hl5 := (Hl4.out.alloc (.cells #[.int .i64 pr, .int .i64 (pt / t0)] 3)).call hb5
        have Hl5 := Lib.hid hl5
        clear hl5
        go_wp2_with fail
        go_ret2
        exact ⟨by (rw [Hcv.out, Hq3.out] <;> rfl), Hl5.out⟩
      · have n8 : (o.kind == 8) = false := by simpa using k8
        have n10 : (o.kind == 10) = false := by simpa using k10
        by_cases k11 : o.kind = 11 ∨ o.kind = 12
        · obtain ⟨hm1, hm2⟩ := Hg11.out k11
          have hv : Od.costV o p r.1 = Safe.prod r.1 * o.width := by unfold Od.costV; rw [if_neg k8, if_neg k10, if_pos k11]
          rw [hv] at Hcv
          have hmul := Od.mul2 (a := Safe.prod r.1) (b := o.width) (by omega) (by omega) (by omega) (by omega)
          generalize Safe.prod r.1 = pr at *
          have Hl3 := Lib.hid hl3
          have Hk3 := Lib.hid hk3
          have HP3 := Lib.hid hP3
          have Hv := Lib.hid hv
          have Hmul := Lib.hid hmul
          clear hl3 hk3 hP3 hv hmul
          clear k8 k10
          rcases k11 with k11 | k11
          all_goals
            rw [k11] at y0 n8 n10
            go_wp2_with fail
            refine (safe_mul (some ⟨w3.heap.size, 0, none⟩) 2 [pr, o.width] _ (by simp) (ints_two _ _)).mono ?_
            rintro e w5 ⟨rfl, hb5⟩
            rw [Hmul.out.1]
            have hl5 := (Hl3.out.alloc (.cells #[.int .i64 pr, .int .i64 o.width] 3)).call hb5
            have Hl5 := Lib.hid hl5
            clear hl5
            go_wp2_with fail
            go_ret2
            exact ⟨by (rw [Hcv.out] <;> rfl), Hl5.out⟩
        · have hv : Od.costV o p r.1 = Safe.prod r.1 := by unfold Od.costV; rw [if_neg k8, if_neg k10, if_neg k11]
          rw [hv] at Hcv
          have n11 : (o.kind == 11) = false := by simp; omega
          have n12 : (o.kind == 12) = false := by simp; omega
          have Hl3 := Lib.hid hl3
          have Hk3 := Lib.hid hk3
          have HP3 := Lib.hid hP3
          have Hv := Lib.hid hv
          clear hl3 hk3 hP3 hv
          clear k8 k10 k11
          go_wp2_with fail
          go_ret2
          exact ⟨by (rw [Hcv.out] <;> rfl), Hl3.out⟩
  · have q0 : (r.2 != 0) = true := by simp [hr]
    rw [if_neg hr] at hcv
    have HI2 := Lib.hid hI2
    have Hl2 := Lib.hid hl2
    have Hk2 := Lib.hid hk2
    have Hcv := Lib.hid hcv
    clear hI2 hl2 hk2 hcv
    clear hgood hshr hpr hr
    go_wp2_with fail
    go_ret2
    exact ⟨by (rw [Hcv.out] <;> rfl), Hl2.out⟩
set_option maxRecDepth 20000 in
set_option maxHeartbeats 8000000 in
theorem ref10_cost (o : OpD) (S P T : Option Addr) (c d tc : Nat) (p x : List (List Int)) (w : World) (hgood : (Od.shape o p x).2 = 0) (hP : Shps w P p) (hT : Ints .i64 w T (Od.shape o p x).1) :
    Calls Try.prog 28 #[.agg #[.int .i64 o.kind, .int .i64 o.k, .int .i64 o.width, .int .i64 o.step, .int .i64 o.side, .int .i64 o.frm, .int .i64 o.to, .slice S o.s.length c], .slice P p.length d, .slice T (Od.shape o p x).1.length tc] w fun e w' => e = .returned (.int .i64 (Od.costV o p (Od.shape o p x).1)) ∧ Below w.heap.size w w' := by
  have hk0 := Blk.new w 61 #[.int .i64 o.kind, .int .i64 o.k, .int .i64 o.width, .int .i64 o.step, .int .i64 o.side, .int .i64 o.frm, .int .i64 o.to, .slice S o.s.length c]
  have hl0 : Later w (w.alloc (.cells #[.int .i64 o.kind, .int .i64 o.k, .int .i64 o.width, .int .i64 o.step, .int .i64 o.side, .int .i64 o.frm, .int .i64 o.to, .slice S o.s.length c] 61)) := (Later.refl w).alloc _
  obtain ⟨g8, g10, g11⟩ := Od.cost_parts hgood
  have hr2 := Od.shape_right hgood
  have hpr2 := (Od.shape_good hgood).2.2.2.1
  have hcb := Od.costV_bd hgood
  obtain ⟨y0, -, y2, -, -, -, -, -⟩ := op_cells hk0
  have hP1 := hP.below hl0 (Nat.le_refl _)
  have hT1 := hT.below hl0 (Nat.le_refl _)
  generalize (Od.shape o p x).1 = s at *
  have hs := Sh.prod_bd hr2
  have HP := Lib.hid hP
  have HT := Lib.hid hT
  have Hk0 := Lib.hid hk0
  have Hg8 := Lib.hid g8
  have Hg10 := Lib.hid g10
  have Hg11 := Lib.hid g11
  have Hr2 := Lib.hid hr2
  have Hpr2 := Lib.hid hpr2
  have HP1 := Lib.hid hP1
  have HT1 := Lib.hid hT1
  have Hl0 := Lib.hid hl0
  clear hP hT hk0 g8 g10 g11 hr2 hpr2 hP1 hT1 hl0
  clear hgood
  go_enter Try.func28, Try.ntmps28
  go_upto_region 1 with fail
  generalize w.alloc (.cells #[.int .i64 o.kind, .int .i64 o.k, .int .i64 o.width, .int .i64 o.step, .int .i64 o.side, .int .i64 o.frm, .int .i64 o.to, .slice S o.s.length c] 61) = w1 at *
  go_wp2_with fail
  refine (ref03_size T tc s w1 Hr2.out HT1.out).mono ?_
  rintro e w2 ⟨rfl, rfl⟩
  by_cases k8 : o.kind = 8
  · have hv : Od.costV o p s = Safe.prod (p.getD 0 []) := by unfold Od.costV; rw [if_pos k8]
    have hl := Hg8.out k8
    obtain ⟨b, off, S5, d5, rfl, -, y5, hI5, -, -⟩ := HP1.out 0 hl
    have e0 : p.getD 0 [] = p[0] := by simp [List.getD_eq_getElem?_getD, hl]
    have hr5 := Hpr2.out p[0] (List.getElem_mem hl)
    rw [e0] at hv
    rw [Nat.add_zero] at y5
    rw [k8] at y0
    generalize p[0] = t at *
    have HI5 := Lib.hid hI5
    have Hv := Lib.hid hv
    have Hr5 := Lib.hid hr5
    have Hcb := Lib.hid hcb
    clear hI5 hv hr5 hcb
    clear k8
    go_wp2_with fail
    refine (ref03_size S5 d5 t _ Hr5.out HI5.out).mono ?_
    rintro e w4 ⟨rfl, rfl⟩
    go_wp2_with fail
    go_ret
    exact ⟨by (rw [Hv.out] <;> rfl), Hl0.out⟩
  · by_cases k10 : o.kind = 10
    · obtain ⟨hl, hl2, hm1, hm2⟩ := Hg10.out k10
      obtain ⟨b, off, S5, d5, rfl, -, y5, hI5, -, -⟩ := HP1.out 0 hl
      have e0 : p.getD 0 [] = p[0] := by simp [List.getD_eq_getElem?_getD, hl]
      have hr5 := Hpr2.out p[0] (List.getElem_mem hl)
      have hbd5 := Sh.prod_bd hr5
      have hv : Od.costV o p s = Safe.prod s * (Safe.prod (p.getD 0 [])).tdiv ((p.getD 0 []).getD 0 0) := by unfold Od.costV; rw [if_neg k8, if_pos k10]
      rw [e0] at hv hl2 hm1 hm2
      rw [Nat.add_zero] at y5
      rw [k10] at y0
      generalize p[0] = t at *
      have hq1 : 0 ≤ (Safe.prod t).tdiv (t.getD 0 0) := Int.tdiv_nonneg (by omega) (by omega)
      have hq2 : (Safe.prod t).tdiv (t.getD 0 0) ≤ Safe.prod t := Int.tdiv_le_self _ (by omega)
      have hq3 : (Safe.prod t).tdiv (t.getD 0 0) = Safe.prod t / t.getD 0 0 := Int.tdiv_eq_ediv_of_nonneg (by omega)
      rw [hv] at hcb
      obtain ⟨b6, o6, rfl, -, y6⟩ := hI5 0 hl2
      rw [Nat.add_zero] at y6
      have hl20 : (0 : Int) < (t.length : Int) := by omega
      have hl0' : (0 : Int) < (p.length : Int) := by omega
      have hwr : IntKind.i64.wrap (Safe.prod s * (Safe.prod t / t.getD 0 0)) = Safe.prod s * (Safe.prod t / t.getD 0 0) := by rw [← hq3]; exact IntWalk.i64_in _ (by omega)
      have hcall := fun m => ref03_size (some ⟨b6, o6, none⟩) d5 t (w1.drewN m) hr5 hI5
      rw [hq3] at hq1 hq2 hcb hv
      generalize t.getD 0 0 = t0 at *
      generalize Safe.prod t = pt at *
      generalize Safe.prod s = ps at *
      have HI5 := Lib.hid hI5
      have Hv := Lib.hid hv
      have Hr5 := Lib.hid hr5
      have Hcall := Lib.hid hcall
      have Hq3 := Lib.hid hq3
      have Hwr := Lib.hid hwr
      clear hI5 hv hr5 hcall hq3 hwr
      clear k8 k10 hq1 hq2 hcb
      have hwr := Hwr.out
      go_wp2_with fail
      go_quiet ((go_at_call 26; refine (Hcall.out _).mono ?_; rintro e w9 ⟨rfl, rfl⟩; exact ⟨rfl, _, rfl⟩))
      go_wp2_with fail
      go_ret
      exact ⟨by (rw [Hv.out] <;> rfl), Hl0.out.drewN _⟩
    · have n8 : (o.kind == 8) = false := by simpa using k8
      have n10 : (o.kind == 10) = false := by simpa using k10
      by_cases k11 : o.kind = 11 ∨ o.kind = 12
      · obtain ⟨hm1, hm2⟩ := Hg11.out k11
        have hv : Od.costV o p s = Safe.prod s * o.width := by unfold Od.costV; rw [if_neg k8, if_neg k10, if_pos k11]
        rw [hv] at hcb
        have hwr : IntKind.i64.wrap (Safe.prod s * o.width) = Safe.prod s * o.width := IntWalk.i64_in _ (by omega)
        have Hv := Lib.hid hv
        clear hv
        clear k8 k10
        rcases k11 with k11 | k11
        all_goals
          rw [k11] at y0 n8 n10
          go_wp2_with fail
          go_ret
          exact ⟨by (rw [Hv.out] <;> rfl), Hl0.out⟩
      · have hv : Od.costV o p s = Safe.prod s := by unfold Od.costV; rw [if_neg k8, if_neg k10, if_neg k11]
        have n11 : (o.kind == 11) = false := by simp; omega
        have n12 : (o.kind == 12) = false := by simp; omega
        have Hv := Lib.hid hv
        clear hv
        clear k8 k10 k11
        go_wp2_with fail
        go_ret
        exact ⟨by (rw [Hv.out] <;> rfl), Hl0.out⟩
end Go.Proofs.Ytjkhpbngpceenab
/- Layer 11 (net): the shapes by numbers: contract. -/
namespace Go.Proofs.Ytjkhpbngpceenab
open Go.RowKit

theorem shpT_info : (Try.prog.info? 23).map (fun i => (i.zero, i.size, i.bytes)) = some (some (.slice none 0 0), 1, 24) := by kernel_rfl
def LayPost (r : List (List Int) × Int) (n : Nat) (w : World) (e : Ending) (w' : World) : Prop :=
  Below w.heap.size w w' ∧ ((r.2 = 0 ∧ ∃ g, e = .returned (.tuple #[.slice (some ⟨g, 0, none⟩) (n + 1) (n + 1), .int .i64 0]) ∧ w.heap.size ≤ g ∧ ShpRow w' g 23 r.1 ∧ r.1.length = n + 1) ∨ (r.2 ≠ 0 ∧ e = .returned (.tuple #[.slice none 0 0, .int .i64 r.2])))
namespace Nt
def insMid (sh : List (List Int)) (l : List Int) (m : Nat) : List (List Int) := pick sh (l.take m) ++ List.replicate (l.length - m) []
theorem insMid_len (sh : List (List Int)) (l : List Int) {m : Nat} (h : m ≤ l.length) : (insMid sh l m).length = l.length := by simp [insMid, pick]; omega
theorem insMid_zero (sh : List (List Int)) (l : List Int) : insMid sh l 0 = List.replicate l.length [] := by simp [insMid, pick]
theorem insMid_all (sh : List (List Int)) (l : List Int) : insMid sh l l.length = pick sh l := by simp [insMid]
theorem insMid_succ (sh : List (List Int)) (l : List Int) {m : Nat} (h : m < l.length) : insMid sh l (m + 1) = (insMid sh l m).set m (sh.getD l[m].toNat []) := by
  unfold insMid
  rw [show l.length - m = (l.length - (m + 1)) + 1 by omega, List.replicate_succ, List.take_succ_eq_append_getElem h]
  unfold pick
  rw [List.map_append, List.set_append_right _ _ (by simp; omega)]
  rw [show m - ((l.take m).map fun i => sh.getD i.toNat []).length = 0 by simp; omega, List.set_cons_zero, List.append_assoc]
  rfl
end Nt
theorem lay_short {n : NetD} (hin : Sh.right n.inn = true) {k : Nat} (hk : k ≤ (Nt.sorted n.nodes).length) {sh : List (List Int)} (h : Nt.lay n.nodes (Nt.start n) ((Nt.sorted n.nodes).take k) = (sh, 0)) : Nt.Good ((Nt.sorted n.nodes).take k) sh ∧ sh.length = n.nodes.length + 1 := by
  have h2 := Nt.lay_good hin k hk (by rw [h])
  have h3 := Nt.lay_len (ns := n.nodes) (a := (Nt.sorted n.nodes).take k) (sh := Nt.start n) (by rw [h])
  rw [h] at h2 h3
  exact ⟨h2, by simpa [Nt.start] using h3⟩
theorem right_short {s : List Int} (h : Sh.right s = true) : 0 < s.length ∧ s.length ≤ 4 := by
  obtain ⟨_, a, b, _⟩ := Sh.right_mul h
  exact ⟨by omega, a⟩

set_option maxRecDepth 20000 in
set_option maxHeartbeats 8000000 in
theorem net_lay (A N O : Option Addr) (c d oc : Nat) (n : NetD) (w : World) (hok : n.ok) (hR : NetR w A N n) (hd : n.nodes.length ≤ d) (hO : Ints .i64 w O (Nt.sorted n.nodes)) (hin : Sh.right n.inn = true) (hins : ∀ v ∈ n.nodes, ∀ i ∈ v.ins, 0 ≤ i ∧ i ≤ n.nodes.length) :
    Calls Try.prog 42 #[.agg #[.slice A n.inn.length c, .slice N n.nodes.length d], .slice O (Nt.sorted n.nodes).length oc] w (LayPost (Nt.lay n.nodes (Nt.start n) (Nt.sorted n.nodes)) n.nodes.length w) := by
  obtain ⟨i0, hi, hz0, hz1, hz2⟩ := info_parts shpT_info
  have hnl := hok.2.1
  have hil := hok.1
  have hokn := hok.2.2
  have hol : (Nt.sorted n.nodes).length ≤ n.nodes.length := Kn.order_len_le _ _
  have hrng : ∀ u ∈ Nt.sorted n.nodes, 1 ≤ u ∧ u ≤ n.nodes.length := Kn.order_rng _ _
  have hbeh : ∀ a b u, Nt.sorted n.nodes = a ++ u :: b → ∀ i ∈ Nt.insF n.nodes u, i = 0 ∨ i ∈ a := fun a b u h => Kn.order_behind _ _ h
  obtain ⟨os, hos⟩ : ∃ os, Nt.sorted n.nodes = os := ⟨_, rfl⟩
  have hshort : ∀ k, k ≤ os.length → ∀ sh, Nt.lay n.nodes (Nt.start n) (os.take k) = (sh, 0) → Nt.Good (os.take k) sh ∧ sh.length = n.nodes.length + 1 := fun k hk sh h => by
    have := lay_short (n := n) hin (k := k) (by rw [hos]; exact hk) (sh := sh) (by rw [hos]; exact h)
    rw [hos] at this
    exact this
  rw [hos] at hO hol hrng hbeh ⊢
  have hk0 := Blk.new w 26 #[.slice A n.inn.length c, .slice N n.nodes.length d]
  have hb0 : Below w.heap.size w (w.alloc (.cells #[.slice A n.inn.length c, .slice N n.nodes.length d] 26)) := (Below.refl _ _).alloc (Nat.le_refl _) _
  have HR := Lib.hid hR
  have Hins := Lib.hid hins
  have Hokn := Lib.hid hokn
  have HO := Lib.hid hO
  have Hin := Lib.hid hin
  have Hrng := Lib.hid hrng
  have Hbeh := Lib.hid hbeh
  have Hshort := Lib.hid hshort
  have Hos := Lib.hid hos
  clear hR hins hokn hO hin hrng hbeh hshort hos
  clear hok
  have e1 : IntKind.i64.wrap ((n.nodes.length : Int) + 1) = ((n.nodes.length + 1 : Nat) : Int) := by rw [IntWalk.i64_in _ (by omega)]; omega
  go_enter Try.func42, Try.ntmps42
  go_wp2_with (at_make; refine wpList_make_full _ rfl _ _ 44 rfl w.heap.size 23 i0 (.slice none 0 0) 1 Try.underlying44 hi hz0 hz1 _ _ _ _ (n.nodes.length + 1) rfl rfl (by first | rfl | simp | (go_simp; rfl)) (by first | rfl | simp | (go_simp; rfl)) ?b2 ?b3 ?b4 ?_)
  case b2 => rw [hz2]; omega
  case b3 => unfold maxLen; omega
  case b4 => simp
  intro w1 hown hgrow
  have hblk := own_cur hown
  rw [made_one] at hblk
  have hrow : ShpRow w1 (w.heap.size + 1) 23 (List.replicate (n.nodes.length + 1) []) := ShpRow.new (by simpa [Blk] using hblk)
  have hb1 : Below w.heap.size w w1 := hb0.grown hgrow (by simp) (by simp)
  have hbox : Blk w1 w.heap.size 26 #[.slice A n.inn.length c, .slice N n.nodes.length d] := hk0.grown hgrow (by simp)
  have x0 : w1.cell? ⟨w.heap.size, 0, none⟩ = some (.slice A n.inn.length c) := by rw [hbox.cell]; rfl
  have Hbox := Lib.hid hbox
  have Hrow := Lib.hid hrow
  clear hbox hrow
  clear hblk hown hgrow hk0
  go_wp2_with fail
  refine (shape_copy A c n.inn _ (by omega) (HR.out.1.below hb1 (Nat.le_refl _))).mono ?_
  rintro e w2 ⟨g, rfl, hg, hB, h2⟩
  have hgl : w.heap.size + 1 < w1.heap.size := Hrow.out.lt
  have hb2 := hb1.trans (h2.mono hb1.size)
  have hrow2 := Hrow.out.below h2 (Nat.le_refl _)
  have hbox2 := Hbox.out.below h2 Hbox.out.lt
  obtain ⟨S0, c0, y0, -⟩ := hrow2.at_ (j := 0) (by simp)
  have f0 : w2.frozen? ⟨w.heap.size + 1, 0, none⟩ = false := by obtain ⟨vs, _, hk, _⟩ := hrow2; exact hk.frozen 0
  have hIn : Ints .i64 w2 (some ⟨g, 0, none⟩) n.inn := Ints.of_row fun j hj => by rw [Nat.zero_add, show w2.cell? ⟨g, j, none⟩ = _ from (show Blk w2 g 3 _ from hB).cell j]; simp [hj]
  have hrow3 := hrow2.set_ (i := 0) hIn (Nat.le_refl _) (by omega) (fun a h => by injection h with h; subst h; simp; omega)
  have hbox3 := hbox2.far (p := ⟨w.heap.size + 1, 0, none⟩) (by simp) (.slice (some ⟨g, 0, none⟩) n.inn.length n.inn.length)
  have hb3 := hb2.setCell (p := ⟨w.heap.size + 1, 0, none⟩) (by simp) (.slice (some ⟨g, 0, none⟩) n.inn.length n.inn.length)
  rw [show (List.replicate (n.nodes.length + 1) ([] : List Int)).set 0 n.inn = Nt.start n from rfl] at hrow3
  have Hrow2 := Lib.hid hrow2
  have Hrow3 := Lib.hid hrow3
  have Hbox2 := Lib.hid hbox2
  have Hbox3 := Lib.hid hbox3
  have HB := Lib.hid hB
  have HIn := Lib.hid hIn
  clear hrow2 hrow3 hbox2 hbox3 hB hIn
  clear x0 Hrow Hbox
  go_wp2_with fail
  clear y0 f0
  go_loopw [27] (fun i wr => ∃ k : Nat, k ≤ os.length ∧ i = .int .i64 k ∧ Blk wr w.heap.size 26 #[.slice A n.inn.length c, .slice N n.nodes.length d] ∧ Below w.heap.size w wr ∧ ∃ sh, Nt.lay n.nodes (Nt.start n) (os.take k) = (sh, 0) ∧ ShpRow wr (w.heap.size + 1) 23 sh) (fun i _ => os.length - (intOf i).toNat)
  case atStart => exact ⟨0, Nat.zero_le _, rfl, Hbox3.out, hb3, Nt.start n, rfl, Hrow3.out⟩
  case round =>
    obtain ⟨k, hk, rfl, hbox, hbw, sh, hlay, hrow⟩ := hrel
    clear Hrow2 Hrow3 Hbox2 Hbox3 HB HIn hb3 hb2 hb1 h2 hg hgl
    obtain ⟨hgood, hshl⟩ := Hshort.out k hk sh hlay
    have hgl : w.heap.size + 1 < wr.heap.size := hrow.lt
    by_cases hlt : k < os.length
    · obtain ⟨b, off, rfl, -, hc⟩ := HO.out.below hbw (Nat.le_refl _) k hlt
      rw [getD_at hlt] at hc
      have hr := Hrng.out _ (List.getElem_mem hlt)
      have hsplit : os = os.take k ++ os[k] :: os.drop (k + 1) := by rw [← List.drop_eq_getElem_cons hlt, List.take_append_drop]
      have hbe := Hbeh.out _ _ _ hsplit
      obtain ⟨j, hj⟩ : ∃ j : Nat, os[k] = (j : Int) + 1 := ⟨(os[k] - 1).toNat, by omega⟩
      have hjl : j < n.nodes.length := by omega
      have hlay' := fun h : (Nt.layStep n.nodes sh os[k]).2 = 0 => Nt.lay_snoc (id := os[k]) hlay h
      have hfail := fun h : (Nt.layStep n.nodes sh os[k]).2 ≠ 0 => Nt.lay_fail (b := os.drop (k + 1)) (id := os[k]) hlay h
      rw [← List.take_succ_eq_append_getElem hlt] at hlay'
      rw [← hsplit] at hfail
      have hst : Nt.layStep n.nodes sh os[k] = Od.shape n.nodes[j].op n.nodes[j].p (Nt.pick sh n.nodes[j].ins) := by unfold Nt.layStep; rw [hj, Nt.node_at hjl]
      have hiF : Nt.insF n.nodes os[k] = n.nodes[j].ins := by unfold Nt.insF; rw [hj, Nt.node_at hjl]
      rw [hst] at hlay' hfail
      rw [hiF] at hbe
      have hpr := hgood.pick hbe
      rw [hj] at hc hlay'
      rw [show ((j : Int) + 1).toNat = j + 1 by omega] at hlay'
      have hnok := Hokn.out _ (List.getElem_mem hjl)
      have hinr := Hins.out _ (List.getElem_mem hjl)
      obtain ⟨b1, off1, S, sc, I, ic, Q, qc, rfl, hNA, hs1, hI1, hq1⟩ := HR.out.2.at_ hjl
      have hgr : ∀ i ∈ n.nodes[j].ins, Sh.right (sh.getD i.toNat []) = true := fun i hi => hgood i (hbe i hi)
      generalize n.nodes[j] = v at *
      obtain ⟨⟨y0, y1, y2, y3, y4, y5, y6, y7, y8, y9⟩, -⟩ := hNA.below hbw
      have x1 : wr.cell? ⟨w.heap.size, 1, none⟩ = some (.slice (some ⟨b1, off1, none⟩) n.nodes.length d) := by rw [hbox.cell]; rfl
      have j1 : IntKind.i64.wrap ((j : Int) + 1 - 1) = (j : Int) := by rw [IntWalk.i64_in _ (by omega)]; omega
      have j2 : (j : Int) < n.nodes.length := by omega
      have hvi := hnok.2.2.1
      have hkn := Blk.new wr 46 #[.int .i64 v.op.kind, .int .i64 v.op.k, .int .i64 v.op.width, .int .i64 v.op.step, .int .i64 v.op.side, .int .i64 v.op.frm, .int .i64 v.op.to, .slice S v.op.s.length sc, .slice I v.ins.length ic, .slice Q v.p.length qc]
      have hbn : Below wr.heap.size wr (wr.alloc (.cells #[.int .i64 v.op.kind, .int .i64 v.op.k, .int .i64 v.op.width, .int .i64 v.op.step, .int .i64 v.op.side, .int .i64 v.op.frm, .int .i64 v.op.to, .slice S v.op.s.length sc, .slice I v.ins.length ic, .slice Q v.p.length qc] 46)) := (Below.refl _ _).alloc (Nat.le_refl _) _
      have Hbox := Lib.hid hbox
      have Hrow := Lib.hid hrow
      have Hsplit := Lib.hid hsplit
      have Hbe := Lib.hid hbe
      have Hlay' := Lib.hid hlay'
      have Hfail := Lib.hid hfail
      have Hst := Lib.hid hst
      have HiF := Lib.hid hiF
      have Hpr := Lib.hid hpr
      have Hnok := Lib.hid hnok
      have Hinr := Lib.hid hinr
      have HNA := Lib.hid hNA
      have Hgr := Lib.hid hgr
      have Hlay := Lib.hid hlay
      have Hgood := Lib.hid hgood
      have Hkn := Lib.hid hkn
      have Hj := Lib.hid hj
      clear hbox hrow hsplit hbe hlay' hfail hst hiF hpr hnok hinr hNA hgr hlay hgood hkn hj
      go_wp2_with (at_make; refine wpList_make_full _ rfl _ _ 44 rfl wr.heap.size 23 i0 (.slice none 0 0) 1 Try.underlying44 hi hz0 hz1 _ _ _ _ v.ins.length rfl rfl (by first | rfl | simp | (go_simp; rfl)) (by first | rfl | simp | (go_simp; rfl)) ?b2 ?b3 ?b4 ?_)
      case b2 => rw [hz2]; omega
      case b3 => unfold maxLen; omega
      case b4 => simp
      intro w3 hown hgrow
      have hblk := own_cur hown
      rw [made_one] at hblk
      have hrow3 : ShpRow w3 (wr.heap.size + 1) 23 (Nt.insMid sh v.ins 0) := by rw [Nt.insMid_zero]; exact ShpRow.new (by simpa [Blk] using hblk)
      have hb3 : Below wr.heap.size wr w3 := hbn.grown hgrow (by simp) (by simp)
      have hkn3 : Blk w3 wr.heap.size 46 #[.int .i64 v.op.kind, .int .i64 v.op.k, .int .i64 v.op.width, .int .i64 v.op.step, .int .i64 v.op.side, .int .i64 v.op.frm, .int .i64 v.op.to, .slice S v.op.s.length sc, .slice I v.ins.length ic, .slice Q v.p.length qc] := Hkn.out.grown hgrow (by simp)
      have z8 : w3.cell? ⟨wr.heap.size, 8, none⟩ = some (.slice I v.ins.length ic) := by rw [hkn3.cell]; rfl
      have Hrow3 := Lib.hid hrow3
      have Hkn3 := Lib.hid hkn3
      clear hrow3 hkn3
      clear hblk hown hgrow y0 y1 y2 y3 y4 y5 y6 y7 y8 y9 x1 hbn Hkn
      go_wp2_with fail
      clear z8
      obtain ⟨wo, rfl⟩ : ∃ wo, wo = wr := ⟨wr, rfl⟩
      go_loopw [44] (fun i wx => ∃ m : Nat, m ≤ v.ins.length ∧ i = .int .i64 m ∧ Blk wx wo.heap.size 46 #[.int .i64 v.op.kind, .int .i64 v.op.k, .int .i64 v.op.width, .int .i64 v.op.step, .int .i64 v.op.side, .int .i64 v.op.frm, .int .i64 v.op.to, .slice S v.op.s.length sc, .slice I v.ins.length ic, .slice Q v.p.length qc] ∧ Below wo.heap.size wo wx ∧ ShpRow wx (wo.heap.size + 1) 23 (Nt.insMid sh v.ins m)) (fun i _ => v.ins.length - (intOf i).toNat)
      case atStart => exact ⟨0, Nat.zero_le _, rfl, Hkn3.out, hb3, Hrow3.out⟩
      case round =>
        obtain ⟨m, hm, rfl, hknx, hbx, hrx⟩ := hrel
        clear Hkn3 Hrow3 hb3
        have hbwx := hbw.trans (hbx.mono hbw.size)
        have hNx := HNA.out.below hbwx
        have hml := Nt.insMid_len sh v.ins hm
        by_cases hlm : m < v.ins.length
        · obtain ⟨b2, off2, rfl, -, hc2⟩ := hNx.2.2.1 m hlm
          rw [getD_at hlm] at hc2
          have hr2 := Hinr.out _ (List.getElem_mem hlm)
          have hg2 := Hgr.out _ (List.getElem_mem hlm)
          have HM := Lib.hid (Nt.insMid_succ sh v.ins hlm)
          obtain ⟨u, hu⟩ : ∃ u : Nat, v.ins[m] = u := ⟨v.ins[m].toNat, by omega⟩
          rw [hu] at hc2 hr2 hg2
          have hul : u < sh.length := by omega
          rw [show ((u : Int)).toNat = u by omega, gets_at hul] at hg2
          obtain ⟨Su, cu, yu, hIu, lu1, lu2, -⟩ := Hrow.out.at_ hul
          obtain ⟨b3, off3, rfl, hb3, -⟩ := hIu 0 (right_short hg2).1
          have yu' := cell_below hbx yu
          have hIu' := hIu.below hbx (Nat.le_refl _)
          have hset := hrx.set_ (i := m) hIu' lu1 lu2 (fun a h => by injection h with h; subst h; simp; omega)
          obtain ⟨Sm, cm, ym, -⟩ := hrx.at_ (j := m) (by omega)
          have fm : wr.frozen? ⟨wo.heap.size + 1, m, none⟩ = false := by obtain ⟨vs, _, hk, _⟩ := hrx; exact hk.frozen m
          have HS := Lib.hid (show ShpRow (wr.setCell ⟨wo.heap.size + 1, m, none⟩ (.slice (some ⟨b3, off3, none⟩) sh[u].length cu)) (wo.heap.size + 1) 23 (Nt.insMid sh v.ins (m + 1)) by
            rw [HM.out, hu, show ((u : Int)).toNat = u by omega, gets_at hul]; exact hset)
          have HKN := Lib.hid (hknx.far (p := ⟨wo.heap.size + 1, m, none⟩) (by simp) (.slice (some ⟨b3, off3, none⟩) sh[u].length cu))
          have hbx2 := hbx.setCell (p := ⟨wo.heap.size + 1, m, none⟩) (by simp) (.slice (some ⟨b3, off3, none⟩) sh[u].length cu)
          have u0 : (0 : Int) ≤ u := by omega
          have u1 : (u : Int) < ((n.nodes.length + 1 : Nat) : Int) := by omega
          have m1 : (m : Int) < v.ins.length := by omega
          clear hset hIu hIu' hknx hrx hNx hg2 hu yu
          go_wp2_with fail
          go_roundw
          case rel => exact ⟨m + 1, by omega, by go_num, HKN.out, hbx2, HS.out⟩
          case measure => simp [intOf]; omega
        · obtain rfl : m = v.ins.length := by omega
          have hpl : (Nt.pick sh v.ins).length = v.ins.length := by simp [Nt.pick]
          rw [Nt.insMid_all] at hrx
          obtain ⟨y0, y1, y2, y3, y4, y5, y6, y7, y9⟩ : wr.cell? ⟨wo.heap.size, 0, none⟩ = some (.int .i64 v.op.kind) ∧ wr.cell? ⟨wo.heap.size, 1, none⟩ = some (.int .i64 v.op.k) ∧ wr.cell? ⟨wo.heap.size, 2, none⟩ = some (.int .i64 v.op.width) ∧ wr.cell? ⟨wo.heap.size, 3, none⟩ = some (.int .i64 v.op.step) ∧ wr.cell? ⟨wo.heap.size, 4, none⟩ = some (.int .i64 v.op.side) ∧ wr.cell? ⟨wo.heap.size, 5, none⟩ = some (.int .i64 v.op.frm) ∧ wr.cell? ⟨wo.heap.size, 6, none⟩ = some (.int .i64 v.op.to) ∧ wr.cell? ⟨wo.heap.size, 7, none⟩ = some (.slice S v.op.s.length sc) ∧ wr.cell? ⟨wo.heap.size, 9, none⟩ = some (.slice Q v.p.length qc) := by
            refine ⟨?_, ?_, ?_, ?_, ?_, ?_, ?_, ?_, ?_⟩
            all_goals (rw [hknx.cell]; rfl)
          have hno := Hnok.out
          have hcall := op_shape v.op S Q (some ⟨wo.heap.size + 1, 0, none⟩) sc qc v.ins.length v.p (Nt.pick sh v.ins) wr (by have := hno.2.1; omega) hNx.2.1 ⟨hNx.2.2.2, hq1.1, hq1.2, fun s hs => by have := hno.2.2.2.2.1 s hs; omega⟩ ⟨hrx.shps, by omega, by omega, fun s hs => by have := (right_short (List.all_eq_true.1 Hpr.out s hs)).2; omega⟩
          rw [hpl] at hcall
          have hrgt := fun h : (Od.shape v.op v.p (Nt.pick sh v.ins)).2 = 0 => right_short (Od.shape_right h)
          have hl2 := Hlay'.out
          have hf2 := Hfail.out
          generalize Od.shape v.op v.p (Nt.pick sh v.ins) = r at *
          have Hcall := Lib.hid hcall
          have Hrgt := Lib.hid hrgt
          have Hl2 := Lib.hid hl2
          have Hf2 := Lib.hid hf2
          clear hcall hrgt hl2 hf2
          clear hNx hrx hknx hpl hno Hlay' Hfail Hst
          go_wp2_with fail
          clear y0 y1 y2 y3 y4 y5 y6 y7 y9
          refine (Hcall.out).mono ?_
          rintro e w4 ⟨S5, d5, rfl, hI5, r1, r2, hf5, hb5⟩
          have hb4 := hbx.trans (hb5.mono hbx.size)
          have hbw4 := hbw.trans (hb4.mono hbw.size)
          by_cases hr2 : r.2 = 0
          · have q1 : (r.2 != 0) = false := by simp [hr2]
            have hrow4 := Hrow.out.below hb4 (Nat.le_refl _)
            have hbox4 := Hbox.out.below hb4 Hbox.out.lt
            have hj1 : j + 1 < sh.length := by omega
            obtain ⟨Sm, cm, ym, -⟩ := hrow4.at_ hj1
            have fm : w4.frozen? ⟨w.heap.size + 1, j + 1, none⟩ = false := by obtain ⟨vs, _, hk, _⟩ := hrow4; exact hk.frozen (j + 1)
            have hset := hrow4.set_ (i := j + 1) hI5 r1 r2 (fun a h => by have := hf5 a h; have := hbx.size; omega)
            have HS := Lib.hid hset
            have HBX := Lib.hid (hbox4.far (p := ⟨w.heap.size + 1, j + 1, none⟩) (by simp) (.slice S5 r.1.length d5))
            have hbw5 := hbw4.setCell (p := ⟨w.heap.size + 1, j + 1, none⟩) (by simp) (.slice S5 r.1.length d5)
            have HL := Lib.hid (Hl2.out hr2)
            have j3 : ((j : Int) + 1) < ((n.nodes.length + 1 : Nat) : Int) := by omega
            have j4 : ((j : Int) + 1).toNat = j + 1 := by omega
            clear hset hrow4 hbox4 hr2
            have HI5 := Lib.hid hI5
            have Hf5 := Lib.hid hf5
            clear hI5 hf5
            go_wp2_with fail
            go_roundw
            case rel => exact ⟨k + 1, by omega, by go_num, HBX.out, hbw5, _, HL.out, HS.out⟩
            case measure => simp [intOf]; omega
          · have q1 : (r.2 != 0) = true := by simp [hr2]
            have HF := Lib.hid (Hf2.out hr2)
            have HR2 := Lib.hid hr2
            have HI5 := Lib.hid hI5
            have Hf5 := Lib.hid hf5
            clear hI5 hf5
            clear hr2
            go_wp2_with fail
            go_ret2
            exact ⟨hbw4, .inr (by rw [HF.out]; exact ⟨HR2.out, rfl⟩)⟩
    · obtain rfl : k = os.length := by omega
      rw [List.take_length] at hlay
      have Hlay := Lib.hid hlay
      have Hrow := Lib.hid hrow
      have Hbox := Lib.hid hbox
      have Hgood := Lib.hid hgood
      clear hlay hrow hbox hgood
      go_wp2_with fail
      go_ret2
      exact ⟨hbw, .inl (by rw [Hlay.out]; exact ⟨rfl, _, rfl, by omega, Hrow.out, hshl⟩)⟩
end Go.Proofs.Ytjkhpbngpceenab
/- The plain law of layer 13: a valid net's shapes do not change by its own nodes; words and costs. -/
namespace Go.Proofs.Ytjkhpbngpceenab
namespace Nt
/-- What isn't laid stays as it is. -/
theorem lay_keep {ns : List NodeD} : ∀ {a : List Int} {sh : List (List Int)}, (lay ns sh a).2 = 0 → ∀ j : Nat, (∀ u ∈ a, u.toNat ≠ j) → (lay ns sh a).1.getD j [] = sh.getD j []
  | [], sh, _, j, _ => rfl
  | id :: r, sh, h, j, hj => by
    unfold lay at h ⊢
    split at h
    · rename_i h1
      rw [if_pos h1, lay_keep h j (fun u hu => hj u (by simp [hu]))]
      have := hj id (by simp)
      simp only [List.getD_eq_getElem?_getD, List.getElem?_set_ne this]
    · rename_i h1; exact absurd h h1
theorem pick_congr {sh sh' : List (List Int)} {l : List Int} (h : ∀ i ∈ l, sh.getD i.toNat [] = sh'.getD i.toNat []) : pick sh l = pick sh' l := List.map_congr_left h
/-- A valid net's shapes are those that its nodes make of them. -/
theorem shapes_fix {n : NetD} (h : check n = 0) {id : Int} (h1 : 1 ≤ id) (h2 : id ≤ n.nodes.length) : layStep n.nodes (shapes n) id = ((shapes n).getD id.toNat [], 0) := by
  obtain ⟨_, _, hin, hb, hl, hlay, _⟩ := check_ok h
  have hu : id ∈ sorted n.nodes := (Kn.order_full hl id).2 ⟨h1, h2⟩
  obtain ⟨A, B, e⟩ := List.append_of_mem hu
  have hnd : (sorted n.nodes).Nodup := (Kn.go_ok _ _ _).nodup
  have hrg : ∀ u ∈ sorted n.nodes, 1 ≤ u ∧ u ≤ n.nodes.length := Kn.order_rng _ _
  have hbe := Kn.order_behind _ _ e
  have hs : shapes n = (lay n.nodes (start n) (sorted n.nodes)).1 := rfl
  rw [e] at hlay hnd hrg
  have hA : (lay n.nodes (start n) A).2 = 0 := by
    rw [lay_append] at hlay
    split at hlay
    · assumption
    · rename_i q; exact absurd hlay q
  rw [lay_append, if_pos hA, lay] at hlay
  have hS : (layStep n.nodes (lay n.nodes (start n) A).1 id).2 = 0 := by
    split at hlay
    · assumption
    · rename_i q; exact absurd hlay q
  rw [if_pos hS] at hlay
  have hs2 : shapes n = (lay n.nodes ((lay n.nodes (start n) A).1.set id.toNat (layStep n.nodes (lay n.nodes (start n) A).1 id).1) B).1 := by
    rw [hs, e, lay_append, if_pos hA, lay, if_pos hS]
  have hlenA : (lay n.nodes (start n) A).1.length = n.nodes.length + 1 := by rw [lay_len hA]; simp [start]
  have hnA : ∀ j, j ∈ A → j ≠ id ∧ j ∉ B := fun j hj => by
    rw [List.nodup_append] at hnd
    have := hnd.2.2 j hj
    exact ⟨fun e => by subst e; exact this j (by simp) rfl, fun hb => this j (by simp [hb]) rfl⟩
  have hnB : id ∉ B := by
    rw [List.nodup_append] at hnd
    exact (List.nodup_cons.1 hnd.2.1).1
  have hat : (shapes n).getD id.toNat [] = (layStep n.nodes (lay n.nodes (start n) A).1 id).1 := by
    rw [hs2, lay_keep hlay _ (fun u hu => by
      have := hrg u (by simp [hu])
      intro q
      have q : u = id := by omega
      exact hnB (q ▸ hu))]
    rw [List.getD_eq_getElem?_getD, List.getElem?_set_self (by omega)]; rfl
  have hins : ∀ i ∈ insF n.nodes id, (shapes n).getD i.toNat [] = (lay n.nodes (start n) A).1.getD i.toNat [] := fun i hi => by
    have hiA := hbe i hi
    have hi0 : 0 ≤ i ∧ i.toNat ≠ id.toNat := by
      rcases hiA with rfl | hiA
      · omega
      · have := hrg i (by simp [hiA]); have := (hnA i hiA).1; omega
    rw [hs2, lay_keep hlay _ (fun u hu => by
      have := hrg u (by simp [hu])
      intro q
      have q : u = i := by omega
      subst q
      rcases hiA with q | q
      · omega
      · exact (hnA u q).2 hu)]
    rw [List.getD_eq_getElem?_getD, List.getElem?_set_ne (by omega), ← List.getD_eq_getElem?_getD]
  have hstep : layStep n.nodes (shapes n) id = layStep n.nodes (lay n.nodes (start n) A).1 id := by
    have hp := pick_congr hins
    unfold insF at hp
    unfold layStep
    rw [hp]
  rw [hstep, hat]
  exact Prod.ext rfl hS
theorem shapes_zero {n : NetD} (h : check n = 0) : (shapes n).getD 0 [] = n.inn := by
  obtain ⟨_, _, hin, hb, hl, hlay, _⟩ := check_ok h
  have hrg : ∀ u ∈ sorted n.nodes, 1 ≤ u ∧ u ≤ n.nodes.length := Kn.order_rng _ _
  show (lay n.nodes (start n) (sorted n.nodes)).1.getD 0 [] = _
  rw [lay_keep hlay 0 (fun u hu => by have := hrg u hu; omega)]
  rfl
/-- The k-th node's output. -/
theorem shapes_node {n : NetD} (h : check n = 0) {k : Nat} (hk : k < n.nodes.length) : Od.shape n.nodes[k].op n.nodes[k].p (pick (shapes n) n.nodes[k].ins) = ((shapes n).getD (k + 1) [], 0) := by
  have := shapes_fix h (id := (k : Int) + 1) (by omega) (by omega)
  unfold layStep at this
  rw [node_at hk, show ((k : Int) + 1).toNat = k + 1 by omega] at this
  exact this
theorem shapes_all {n : NetD} (h : check n = 0) : ∀ s ∈ shapes n, Sh.right s = true := fun s hs => by
  obtain ⟨j, hj, rfl⟩ := List.getElem_of_mem hs
  have hl := shapes_len h
  have := shapes_good h (j : Int) (by omega) (by omega)
  rw [show ((j : Int)).toNat = j by omega, List.getD_eq_getElem?_getD, List.getElem?_eq_getElem hj] at this
  exact this
theorem params_right {n : NetD} (h : check n = 0) : ∀ s ∈ params n, Sh.right s = true := fun s hs => by
  obtain ⟨v, hv, hs⟩ := List.mem_flatMap.1 hs
  obtain ⟨k, hk, rfl⟩ := List.getElem_of_mem hv
  have := shapes_node h hk
  exact (Od.shape_good (by rw [this])).2.2.2.1 s hs
def words (n : NetD) : List Int := (shapes n).map Safe.prod
/-- The costs of the first k nodes. -/
def costsTo (n : NetD) (k : Nat) : List Int := (List.range k).map fun j => Od.costV (n.nodes.getD j none_).op (n.nodes.getD j none_).p ((shapes n).getD (j + 1) [])
def costs (n : NetD) : List Int := 0 :: costsTo n n.nodes.length
def total (n : NetD) : Int := Safe.sum (costs n)
theorem costsTo_succ {n : NetD} {k : Nat} (hk : k < n.nodes.length) : costsTo n (k + 1) = costsTo n k ++ [Od.costV n.nodes[k].op n.nodes[k].p ((shapes n).getD (k + 1) [])] := by
  unfold costsTo
  rw [List.range_succ, List.map_append]
  have : n.nodes.getD k none_ = n.nodes[k] := by rw [List.getD_eq_getElem?_getD, List.getElem?_eq_getElem hk]; rfl
  simp [hk]
theorem costsTo_len (n : NetD) (k : Nat) : (costsTo n k).length = k := by simp [costsTo]
theorem cost_at {n : NetD} (h : check n = 0) {k : Nat} (hk : k < n.nodes.length) : Od.cost n.nodes[k].op n.nodes[k].p (pick (shapes n) n.nodes[k].ins) = (Od.costV n.nodes[k].op n.nodes[k].p ((shapes n).getD (k + 1) []), 0) := by
  unfold Od.cost
  rw [shapes_node h hk]
  simp
theorem costs_bd {n : NetD} (h : check n = 0) (k : Nat) (hk : k ≤ n.nodes.length) : ∀ x ∈ costsTo n k, 0 ≤ x ∧ x ≤ 4294967296 := fun x hx => by
  unfold costsTo at hx
  obtain ⟨j, hj, rfl⟩ := List.mem_map.1 hx
  rw [List.mem_range] at hj
  have hjl : j < n.nodes.length := by omega
  have e : n.nodes.getD j none_ = n.nodes[j] := by rw [List.getD_eq_getElem?_getD, List.getElem?_eq_getElem hjl]; rfl
  rw [e]
  have hs := shapes_node h hjl
  have := Od.costV_bd (o := n.nodes[j].op) (p := n.nodes[j].p) (x := pick (shapes n) n.nodes[j].ins) (by rw [hs])
  rw [hs] at this
  exact this
theorem sum_bd {B : Int} : ∀ {l : List Int}, (∀ x ∈ l, 0 ≤ x ∧ x ≤ B) → 0 ≤ Safe.sum l ∧ Safe.sum l ≤ l.length * B
  | [], _ => by simp [Safe.sum]
  | a :: r, h => by
    have h1 := h a (by simp)
    have h2 := sum_bd (l := r) (B := B) fun x hx => h x (by simp [hx])
    simp only [Safe.sum, List.length_cons]
    rw [show ((r.length + 1 : Nat) : Int) * B = r.length * B + B by rw [Int.natCast_add, Int.add_mul]; simp]
    omega
theorem total_bd {n : NetD} (h : check n = 0) (hn : n.nodes.length ≤ 200) : 0 ≤ total n ∧ total n ≤ 858993459200 ∧ Safe.add (costs n) = (total n, 0) := by
  have hb := costs_bd h n.nodes.length (Nat.le_refl _)
  have hs := sum_bd hb
  rw [costsTo_len] at hs
  have e : total n = Safe.sum (costsTo n n.nodes.length) := by unfold total costs; rw [Safe.sum]; omega
  have hk : (n.nodes.length : Int) * 4294967296 ≤ 200 * 4294967296 := Int.mul_le_mul_of_nonneg_right (by omega) (by omega)
  refine ⟨by omega, by omega, ?_⟩
  unfold Safe.add
  have hall : (costs n).all Safe.ok = true := by
    rw [List.all_eq_true]
    intro x hx
    rw [Safe.ok_iff]
    rcases List.mem_cons.1 hx with rfl | hx
    · omega
    · have := hb x hx; omega
  rw [if_pos hall, if_pos (by rw [Safe.top_eq]; show total n ≤ _; omega)]
  rfl
theorem words_bd {n : NetD} (h : check n = 0) : ∀ x ∈ words n, 1 ≤ x ∧ x ≤ 65536 := fun x hx => by
  obtain ⟨s, hs, rfl⟩ := List.mem_map.1 hx
  exact Od.prod_right_ (shapes_all h s hs)
theorem words_len {n : NetD} (h : check n = 0) : (words n).length = n.nodes.length + 1 := by rw [words, List.length_map, shapes_len h]
end Nt
end Go.Proofs.Ytjkhpbngpceenab
/- A row of rows of numbers, each with memory of its own: who uses what. No program is named here. -/
namespace Go.Proofs.Ytjkhpbngpceenab
open Go.RowKit

/-- The block g is a row of rows of the call's own, apart from one another and from the blocks X. -/
def URow (X : Nat → Prop) (B : Nat) (w : World) (g : Nat) (t e : TypeId) (us : List (List Int)) : Prop :=
  X g ∧ ∃ vs : List Value, vs.length = us.length ∧ Blk w g t vs.toArray ∧
    (∀ j (hj : j < us.length) v, vs[j]? = some v → w.ownsRow B e 1 v us[j].length (us[j].map (Value.int .i64))) ∧
    (∀ (j : Nat) (v : Value) (b : Nat), vs[j]? = some v → v.ownBlock = some b → ¬ X b) ∧
    (∀ (i j : Nat) (u v : Value) (b : Nat), i ≠ j → vs[i]? = some u → vs[j]? = some v → u.ownBlock = some b → v.ownBlock ≠ some b)
section
variable {X : Nat → Prop} {B : Nat} {w w' : World} {g : Nat} {t e : TypeId} {us : List (List Int)}
theorem URow.lt (h : URow X B w g t e us) : g < w.heap.size := by obtain ⟨_, vs, _, hb, _⟩ := h; exact hb.lt
theorem URow.agree (h : URow X B w g t e us) (ha : ∀ b, b < w.heap.size → (b = g ∨ ¬ X b) → w'.heap[b]? = w.heap[b]?) : URow X B w' g t e us := by
  obtain ⟨hg, vs, hl, hk, ho, hx, hd⟩ := h
  refine ⟨hg, vs, hl, (ha g hk.lt (.inl rfl)).trans hk, fun j hj v hv => ?_, hx, hd⟩
  exact ownsRow_heap (ho j hj v hv) fun b hb => ha b ((ho j hj v hv).lt b hb).2 (.inr (hx j v b hv hb))
theorem URow.new {n : Nat} (hX : X g) (h : Blk w g t (List.replicate n (Value.slice none 0 0)).toArray) : URow X B w g t e (List.replicate n []) := by
  refine ⟨hX, List.replicate n (.slice none 0 0), by simp, h, fun j hj v hv => ?_, fun j v b hv hb => ?_, fun i j u v b _ hu _ hb => ?_⟩
  · rw [List.getElem?_replicate] at hv
    split at hv
    · injection hv with hv
      subst hv
      simpa using World.ownsRow_nil w B e 1
    · cases hv
  · rw [List.getElem?_replicate] at hv
    split at hv
    · injection hv with hv; subst hv; simp [Value.ownBlock] at hb
    · cases hv
  · rw [List.getElem?_replicate] at hu
    split at hu
    · injection hu with hu; subst hu; simp [Value.ownBlock] at hb
    · cases hu
/-- A place, and what an append there leaves. -/
theorem URow.at_ (h : URow X B w g t e us) (hlt : ∀ b, X b → b < w.heap.size) {j : Nat} (hj : j < us.length) :
    ∃ v, w.cell? ⟨g, j, none⟩ = some v ∧ w.ownsRow B e 1 v us[j].length (us[j].map (Value.int .i64)) ∧ (∀ b, v.ownBlock = some b → ¬ X b) ∧
      ∀ v' w1 x, w1.ownsRow B e 1 v' (us[j].length + 1) (us[j].map (Value.int .i64) ++ [.int .i64 x]) → w.grownBy w1 v.ownBlock → (v'.ownBlock = v.ownBlock ∨ v'.ownBlock = some w.heap.size) →
        URow X B (w1.setCell ⟨g, j, none⟩ v') g t e (us.set j (us[j] ++ [x])) := by
  obtain ⟨hg, vs, hl, hk, ho, hx, hd⟩ := h
  obtain ⟨v, hv⟩ : ∃ v, vs[j]? = some v := ⟨vs[j], List.getElem?_eq_getElem (by omega)⟩
  refine ⟨v, by rw [hk.cell j]; simpa using hv, ho j hj v hv, fun b hb => hx j v b hv hb, fun v' w1 x hown hgr hat => ?_⟩
  have hgv : some g ≠ v.ownBlock := fun h => hx j v g hv h.symm hg
  have hk1 : Blk w1 g t vs.toArray := (hgr.block g hk.lt hgv).trans hk
  have hb' : ∀ b, v'.ownBlock = some b → ¬ X b := fun b hb => by
    rcases hat with h | h
    · exact hx j v b hv (h ▸ hb)
    · rw [h] at hb; injection hb with hb; subst hb; intro hX; have := hlt _ hX; omega
  have hset : ∀ b, b ≠ g → (w1.setCell ⟨g, j, none⟩ v').heap[b]? = w1.heap[b]? := fun b hb => Below.heap_setCell w1 _ _ b hb
  refine ⟨hg, vs.set j v', by simp [hl], ?_, fun i hi u hu => ?_, fun i u b hu hb => ?_, fun i k u z b hik hu hz hb => ?_⟩
  · have := hk1.set_ j v'
    simpa using this
  · rw [List.length_set] at hi
    by_cases e : j = i
    · subst e
      rw [List.getElem?_set_self (by omega)] at hu
      injection hu with hu
      subst hu
      have := ownsRow_heap (w' := w1.setCell ⟨g, j, none⟩ v') hown fun b hb => hset b fun q => hb' b hb (q ▸ hg)
      simpa using this
    · rw [List.getElem?_set_ne e] at hu
      simp only [List.getElem_set_ne e]
      refine ownsRow_heap (ho i hi u hu) fun b hb => ?_
      rw [hset b fun q => hx i u b hu hb (q ▸ hg)]
      exact hgr.block b ((ho i hi u hu).lt b hb).2 fun q => hd i j u v b (fun q => e q.symm) hu hv hb q.symm
  · by_cases e : j = i
    · subst e
      rw [List.getElem?_set_self (by omega)] at hu
      injection hu with hu
      subst hu
      exact hb' b hb
    · rw [List.getElem?_set_ne e] at hu
      exact hx i u b hu hb
  · have hne : ∀ i' u' b', i' ≠ j → vs[i']? = some u' → u'.ownBlock = some b' → v'.ownBlock ≠ some b' := fun i' u' b' hi' hu' hb' q => by
      rcases hat with h | h
      · exact hd i' j u' v b' hi' hu' hv hb' (h ▸ q)
      · rw [h] at q
        injection q with q
        subst q
        have hi2 : i' < us.length := by
          rw [← hl]
          exact (List.getElem?_eq_some_iff.1 hu').1
        have := ((ho i' hi2 u' hu').lt _ hb').2
        omega
    by_cases e : j = i
    · subst e
      rw [List.getElem?_set_self (by omega)] at hu
      injection hu with hu
      subst hu
      rw [List.getElem?_set_ne hik] at hz
      intro q
      exact hne k z b (fun q => hik q.symm) hz q hb
    · rw [List.getElem?_set_ne e] at hu
      by_cases e2 : j = k
      · subst e2
        rw [List.getElem?_set_self (by omega)] at hz
        injection hz with hz
        subst hz
        exact hne i u b (fun q => e q.symm) hu hb
      · rw [List.getElem?_set_ne e2] at hz
        exact hd i k u z b hik hu hz hb
end
end Go.Proofs.Ytjkhpbngpceenab
/- The plain part of Kahn's order, as rows of numbers. No program is named here. -/
namespace Go.Proofs.Ytjkhpbngpceenab
namespace Kn
def wl (I : Int → List Int) (n k : Nat) (l : List Int) : List Int := (List.range (n + 1)).map fun u : Nat => ((wMid I k l (u : Int) : Nat) : Int)
def ul (I : Int → List Int) (n k : Nat) (l : List Int) : List (List Int) := (List.range (n + 1)).map fun u : Nat => uMid I k l (u : Int)
theorem wl_len (I : Int → List Int) (n k : Nat) (l : List Int) : (wl I n k l).length = n + 1 := by simp [wl]
theorem ul_len (I : Int → List Int) (n k : Nat) (l : List Int) : (ul I n k l).length = n + 1 := by simp [ul]
theorem wl_at (I : Int → List Int) (n k : Nat) (l : List Int) {u : Nat} (h : u < n + 1) : (wl I n k l)[u]? = some ((wMid I k l (u : Int) : Nat) : Int) := by simp [wl, h]
theorem ul_at (I : Int → List Int) (n k : Nat) (l : List Int) {u : Nat} (h : u < (ul I n k l).length) : (ul I n k l)[u] = uMid I k l (u : Int) := by simp [ul]
theorem wl_zero (I : Int → List Int) (n : Nat) : wl I n 0 [] = List.replicate (n + 1) 0 := by
  unfold wl
  rw [wMid_zero, List.eq_replicate_iff]
  exact ⟨by simp, fun b hb => by obtain ⟨x, _, rfl⟩ := List.mem_map.1 hb; rfl⟩
theorem ul_zero (I : Int → List Int) (n : Nat) : ul I n 0 [] = List.replicate (n + 1) [] := by
  unfold ul
  rw [uMid_zero, List.eq_replicate_iff]
  exact ⟨by simp, fun b hb => by obtain ⟨x, _, rfl⟩ := List.mem_map.1 hb; rfl⟩
theorem wl_next (I : Int → List Int) (n k : Nat) : wl I n k (I ((k : Int) + 1)) = wl I n (k + 1) [] := by unfold wl; rw [wMid_next]
theorem ul_next (I : Int → List Int) (n k : Nat) : ul I n k (I ((k : Int) + 1)) = ul I n (k + 1) [] := by unfold ul; rw [uMid_next]
theorem wl_skip (I : Int → List Int) (n k : Nat) (l : List Int) : wl I n k (l ++ [0]) = wl I n k l := by unfold wl; rw [wMid_zero_in]
theorem ul_skip (I : Int → List Int) (n k : Nat) (l : List Int) : ul I n k (l ++ [0]) = ul I n k l := by unfold ul; rw [uMid_zero_in]
theorem wl_in (I : Int → List Int) (n k : Nat) (l : List Int) {id : Int} (h : id ≠ 0) : wl I n k (l ++ [id]) = (wl I n k l).set (k + 1) (((wMid I k l ((k : Int) + 1) : Nat) : Int) + 1) := by
  apply List.ext_getElem?
  intro j
  rw [List.getElem?_set]
  by_cases hj : j < n + 1
  · rw [wl_at _ _ _ _ hj, wl_at _ _ _ _ hj, wMid_in h, wl_len]
    by_cases e : k + 1 = j
    · subst e
      simp [hj]
    · have : ((j : Nat) : Int) ≠ (k : Int) + 1 := by omega
      simp [e, this]
  · rw [List.getElem?_eq_none (by rw [wl_len]; omega), List.getElem?_eq_none (by rw [wl_len]; omega), wl_len]
    simp
    omega
theorem ul_in (I : Int → List Int) (n k : Nat) (l : List Int) {id : Int} (h : id ≠ 0) (h0 : 0 ≤ id) : ul I n k (l ++ [id]) = (ul I n k l).set id.toNat (uMid I k l id ++ [(k : Int) + 1]) := by
  apply List.ext_getElem?
  intro j
  rw [List.getElem?_set]
  unfold ul
  simp only [List.getElem?_map, List.length_map, List.length_range]
  by_cases hj : j < n + 1
  · rw [List.getElem?_range hj]
    simp only [Option.map_some]
    rw [uMid_in h]
    by_cases e : id.toNat = j
    · subst e
      have : ((id.toNat : Nat) : Int) = id := by omega
      simp [hj, this]
    · have : ((j : Nat) : Int) ≠ id := by omega
      simp [e, this]
  · rw [List.getElem?_eq_none (by simp; omega)]
    simp
    omega
theorem wMid_le {I : Int → List Int} {B : Nat} (hI : ∀ u, (I u).length ≤ B) (k : Nat) {l : List Int} (hl : l.length ≤ B) (u : Int) : wMid I k l u ≤ B := by
  unfold wMid
  split
  · rw [wt_nil]; exact Nat.le_trans (List.length_filter_le _ _) (hI u)
  · split
    · exact Nat.le_trans (List.length_filter_le _ _) hl
    · omega
theorem sum_le {B : Nat} : ∀ (l : List Nat), (∀ x ∈ l, x ≤ B) → l.sum ≤ l.length * B
  | [], _ => by simp
  | x :: r, h => by
    have h1 := h x (by simp)
    have h2 := sum_le r fun y hy => h y (by simp [hy])
    simp only [List.sum_cons, List.length_cons, Nat.succ_mul]
    omega
theorem uMid_le {I : Int → List Int} {B : Nat} (hI : ∀ u, (I u).length ≤ B) (k : Nat) {l : List Int} (hl : l.length ≤ B) (id : Int) : (uMid I k l id).length ≤ (k + 1) * B := by
  have h1 := uMid_len I k l id
  have h2 := sum_le ((ids k).map fun u => (I u).length) (B := B) fun x hx => by obtain ⟨u, _, rfl⟩ := List.mem_map.1 hx; exact hI u
  rw [List.length_map, ids_length] at h2
  rw [Nat.succ_mul]
  omega
/-- The ready ones of the first k, at the start. -/
def rk (I : Int → List Int) (k : Nat) : List Int := (ids k).filter fun u => wt I [] u == 0
theorem rk_succ (I : Int → List Int) (k : Nat) : rk I (k + 1) = if wt I [] ((k : Int) + 1) = 0 then rk I k ++ [(k : Int) + 1] else rk I k := by
  unfold rk
  rw [ids_succ, List.filter_append]
  by_cases h : wt I [] ((k : Int) + 1) = 0 <;> simp [h]
theorem rk_len (I : Int → List Int) (k : Nat) : (rk I k).length ≤ k := Nat.le_trans (List.length_filter_le _ _) (by rw [ids_length]; exact Nat.le_refl _)
theorem rk_all (I : Int → List Int) (n : Nat) : rk I n = ready I n [] := by
  unfold rk ready
  apply List.filter_congr
  intro u _
  rw [free_iff]
  simp
/-- How many ins are waited for, behind some users of the number that went out last. -/
def wm (I : Int → List Int) (n : Nat) (out a : List Int) : List Int := (List.range (n + 1)).map fun u : Nat => if u = 0 then 0 else ((mid I out a (u : Int) : Nat) : Int)
theorem wm_len (I : Int → List Int) (n : Nat) (out a : List Int) : (wm I n out a).length = n + 1 := by simp [wm]
theorem wm_at (I : Int → List Int) (n : Nat) (out a : List Int) {u : Nat} (h : u < n + 1) (h0 : u ≠ 0) : (wm I n out a)[u]? = some ((mid I out a (u : Int) : Nat) : Int) := by simp [wm, h, h0]
theorem wm_start (I : Int → List Int) (n : Nat) : wl I n n [] = wm I n [] [] := by
  unfold wl wm
  apply List.map_congr_left
  intro u hu
  have hu := List.mem_range.1 hu
  by_cases h : u = 0
  · subst h
    simp [wMid]
  · rw [wMid_end (by omega) (by omega)]
    simp [h, mid]
theorem wm_next {I : Int → List Int} {n : Nat} {out : List Int} {id : Int} (hid : id ∈ ready I n out) : wm I n out (users I n id) = wm I n (out ++ [id]) [] := by
  unfold wm
  apply List.map_congr_left
  intro u hu
  have hu := List.mem_range.1 hu
  by_cases h : u = 0
  · simp [h]
  · rw [mid_end hid (mem_ids.2 ⟨by omega, by omega⟩)]
    simp [h, mid]
theorem wm_in {I : Int → List Int} {n : Nat} {out a : List Int} {u : Int} (h0 : 1 ≤ u) : wm I n out (a ++ [u]) = (wm I n out a).set u.toNat ((mid I out (a ++ [u]) u : Nat) : Int) := by
  apply List.ext_getElem?
  intro j
  rw [List.getElem?_set, wm_len]
  by_cases hj : j < n + 1
  · by_cases e : u.toNat = j
    · subst e
      have : ((u.toNat : Nat) : Int) = u := by omega
      rw [wm_at _ _ _ _ hj (by omega), this]
      simp [hj]
    · simp only [e, if_false]
      unfold wm
      simp only [List.getElem?_map, List.getElem?_range hj, Option.map_some]
      rw [mid_other (by omega)]
  · rw [List.getElem?_eq_none (by rw [wm_len]; omega), List.getElem?_eq_none (by rw [wm_len]; omega)]
    simp
    omega
theorem count_lt {l : List Int} (h : l.Pairwise (· < ·)) (u : Int) : (∀ j (hj : j < l.length), j < l.countP (· < u) → l[j] < u) ∧ (∀ j (hj : j < l.length), l.countP (· < u) ≤ j → u ≤ l[j]) := by
  induction l with
  | nil => exact ⟨fun j hj => by simp at hj, fun j hj => by simp at hj⟩
  | cons x r ih =>
    obtain ⟨hx, hr⟩ := List.pairwise_cons.1 h
    obtain ⟨i1, i2⟩ := ih hr
    by_cases hxu : x < u
    · have hc : (x :: r).countP (· < u) = r.countP (· < u) + 1 := by rw [List.countP_cons]; simp [hxu]
      rw [hc]
      refine ⟨fun j hj hlt => ?_, fun j hj hle => ?_⟩
      · match j with
        | 0 => simpa using hxu
        | j + 1 => simpa using i1 j (by simpa using hj) (by omega)
      · match j with
        | 0 => omega
        | j + 1 => simpa using i2 j (by simpa using hj) (by omega)
    · have hz : r.countP (· < u) = 0 := by
        rw [List.countP_eq_zero]
        intro y hy
        have := hx y hy
        simp; omega
      have hc : (x :: r).countP (· < u) = 0 := by rw [List.countP_cons, hz]; simp; omega
      rw [hc]
      refine ⟨fun j hj hlt => by omega, fun j hj _ => ?_⟩
      match j with
      | 0 => simp; omega
      | j + 1 =>
        have := i2 j (by simpa using hj) (by omega)
        simpa using this
theorem midReady_sorted (I : Int → List Int) (n : Nat) (out : List Int) (id : Int) (us : List Int) : (midReady I n out id us).Pairwise (· < ·) := (ids_pairwise n).filter _
theorem midReady_len (I : Int → List Int) (n : Nat) (out : List Int) (id : Int) (us : List Int) : (midReady I n out id us).length ≤ n := Nat.le_trans (List.length_filter_le _ _) (by rw [ids_length]; exact Nat.le_refl _)
theorem ready_len (I : Int → List Int) (n : Nat) (out : List Int) : (ready I n out).length ≤ n := Nat.le_trans (List.length_filter_le _ _) (by rw [ids_length]; exact Nat.le_refl _)
theorem mid_put' {I : Int → List Int} {n : Nat} {out a b : List Int} {id u : Int} (hok : Ok I n out) (hid : id ∈ ready I n out) (hu : users I n id = a ++ u :: b) (h : mid I out (a ++ [u]) u = 0) :
    midReady I n out id (a ++ [u]) = (midReady I n out id a).take ((midReady I n out id a).countP (· < u)) ++ u :: (midReady I n out id a).drop ((midReady I n out id a).countP (· < u)) := by
  obtain ⟨h1, h2⟩ := count_lt (midReady_sorted I n out id a) u
  exact mid_put hok hid hu h h1 h2 List.countP_le_length
end Kn
end Go.Proofs.Ytjkhpbngpceenab
/- slices.Insert at []int: the library's contracts, at this program. -/
namespace Go.Proofs.Ytjkhpbngpceenab
open Go.Shelf
def insRen : Go.Shelf.Ren := ⟨fun | 21 => 59 | 27 => 75 | 28 => 76 | 35 => 83 | 39 => 85 | n => n, fun | 22 => 22 | 3 => 3 | 4 => 4 | 0 => 0 | n => n, fun | n => n⟩
theorem laysIns : Go.Proofs.Lays2.n21 Try.prog insRen := {
  mixed := by kernel_rfl
  f21 := Try.func59.trans (congrArg some (by kernel_rfl))
  f27 := Try.func75.trans (congrArg some (by kernel_rfl))
  f28 := Try.func76.trans (congrArg some (by kernel_rfl))
  f35 := Try.func83.trans (congrArg some (by kernel_rfl))
  f39 := Try.func85.trans (congrArg some (by kernel_rfl))
  t0 := Try.underlying0
  a0 := Try.isAgg0
  z0 := Try.sizeOf0
  v0 := Try.zeroValue0
  t3 := Try.underlying3
  a3 := Try.isAgg3
  z3 := Try.sizeOf3
  v3 := Try.zeroValue3
  t4 := Try.underlying4
  a4 := Try.isAgg4
  z4 := Try.sizeOf4
  v4 := Try.zeroValue4
  t22 := Try.underlying22
  a22 := Try.isAgg22
  z22 := Try.sizeOf22
  v22 := Try.zeroValue22
  i3 := by kernel_rfl }
end Go.Proofs.Ytjkhpbngpceenab
/-
  DERIVED: THE SHELF's CONTRACTS AT THIS DUMP, IN PLAIN WORDS (tools/lay-plain.mjs out of 'TryShelf.lean', which tools/lay-shelf.mjs wrote): THE SAME DECLARATIONS UNDER THE SAME NAMES: 'import', 'namespace', 'open', 'def', 'theorem' AND NOTHING ELSE: no command of the shelf's: FOR A HAND-IN. Each laying: the table of numbers ('.._ren') and one theorem, a field a fact of the dump's own or the kernel's comparison; each contract: ONE APPLICATION.
-/
namespace Go.Proofs
open Go.Shelf
def Try.lays215_ren : Go.Shelf.Ren := ⟨fun | 215 => 82 | n => n, fun | 3 => 3 | 4 => 4 | n => n, fun | n => n⟩
theorem Try.lays215 : Go.Proofs.Lays.n215 Try.prog Try.lays215_ren := {
  mixed := by kernel_rfl
  f215 := Try.func82.trans (congrArg some (by kernel_rfl))
  t3 := Try.underlying3
  a3 := Try.isAgg3
  z3 := Try.sizeOf3
  v3 := Try.zeroValue3
  t4 := Try.underlying4
  a4 := Try.isAgg4
  z4 := Try.sizeOf4
  v4 := Try.zeroValue4 }
open Go.RowKit in
/-- cmp.isNaN at int: 'x != x': false. (LAID: no walk: one application.) -/
theorem Try.cmp_isNaN_int (x : Int) (w : World) :
    Calls Try.prog 82 #[.int .i64 x] w fun e w' => e = .returned (.bool false) ∧ w' = w := Any.cmp_isNaN_int Try.lays215 x w
def Try.lays112_ren : Go.Shelf.Ren := ⟨fun | 112 => 85 | n => n, fun | 28 => 22 | 3 => 3 | 4 => 4 | 0 => 0 | n => n, fun | n => n⟩
theorem Try.lays112 : Go.Proofs.Lays.n112 Try.prog Try.lays112_ren := {
  mixed := by kernel_rfl
  f112 := Try.func85.trans (congrArg some (by kernel_rfl))
  t0 := Try.underlying0
  a0 := Try.isAgg0
  z0 := Try.sizeOf0
  v0 := Try.zeroValue0
  t3 := Try.underlying3
  a3 := Try.isAgg3
  z3 := Try.sizeOf3
  v3 := Try.zeroValue3
  t4 := Try.underlying4
  a4 := Try.isAgg4
  z4 := Try.sizeOf4
  v4 := Try.zeroValue4
  t28 := Try.underlying22
  a28 := Try.isAgg22
  z28 := Try.sizeOf22
  v28 := Try.zeroValue22 }
open Go.RowKit Go.Lib Go.Sort in
/-- slices.Reverse at []int, over an array: Go's loop from the two ends inward is walked; it makes 'Sort.reverseLoop 0 (len - 1)', which is 'Array.reverse' (Derived/Lib/SlicesMore.lean). (LAID: no walk: one application.) -/
theorem Try.slices_Reverse_int_arr (blk off cap : Nat) (d : Array Int) (w : World) (hH : Holds encI w blk off d) (hsz : d.size ≤ 9223372036854775807) :
    Calls Try.prog 85 #[.slice (some ⟨blk, off, none⟩) d.size cap] w fun e w' => e = .returned (.tuple #[]) ∧ ∃ n, w' = putRow encI (Sort.ahead w n) blk off d.reverse := Any.slices_Reverse_int_arr Try.lays112 blk off cap d w hH hsz
open Go.RowKit Go.Lib Go.Sort in
/-- slices.Reverse at []int: "Reverse reverses the elements of the slice in place.": THE SLICE's CELLS HOLD 'zs.reverse' BEHIND THE CALL; all else is as it was, but for the count of draws (the exchange 's[i], s[j] = s[j], s[i]' draws its order, once a round). IN THE WORDS OF slices.Sort's CONTRACT: 'Holds': the cells hold zs and none is frozen; 'putRow': the world with those cells holding another array. A slice of length 0 that is not nil is among them ('zs = []'); nil: '.._nil'. (LAID: no walk: one application.) -/
theorem Try.slices_Reverse_int (blk off cap : Nat) (zs : List Int) (w : World) (hH : Holds (Value.int .i64) w blk off zs.toArray) (hsz : zs.length ≤ 9223372036854775807) :
    Calls Try.prog 85 #[.slice (some ⟨blk, off, none⟩) zs.length cap] w fun e w' => e = .returned (.tuple #[]) ∧ ∃ n, w' = putRow (Value.int .i64) (Sort.ahead w n) blk off zs.reverse.toArray := Any.slices_Reverse_int Try.lays112 blk off cap zs w hH hsz
open Go.RowKit Go.Lib Go.Sort in
/-- The same at a slice of length 0, a nil one too: nothing is read, nothing written, nothing drawn. (LAID: no walk: one application.) -/
theorem Try.slices_Reverse_int_empty (a : Option Addr) (cap : Nat) (w : World) :
    Calls Try.prog 85 #[.slice a 0 cap] w fun e w' => e = .returned (.tuple #[]) ∧ w' = w := Any.slices_Reverse_int_empty Try.lays112 a cap w
def Try.laysNm237_ren : Go.Shelf.Ren := ⟨fun | 37 => 82 | n => n, fun | 3 => 3 | 4 => 4 | n => n, fun | n => n⟩
theorem Try.laysNm237 : Go.Proofs.Lays2.n37 Try.prog Try.laysNm237_ren := {
  mixed := by kernel_rfl
  f37 := Try.func82.trans (congrArg some (by kernel_rfl))
  t3 := Try.underlying3
  a3 := Try.isAgg3
  z3 := Try.sizeOf3
  v3 := Try.zeroValue3
  t4 := Try.underlying4
  a4 := Try.isAgg4
  z4 := Try.sizeOf4
  v4 := Try.zeroValue4 }
open Go.RowKit Go.Lib in
/-- cmp.isNaN[int]: 'x != x': false. (LAID: no walk: one application.) -/
theorem Try.cmp_isNaN_int2 (x : Int) (w : World) :
    Calls Try.prog 82 #[.int .i64 x] w fun e w' => e = .returned (.bool false) ∧ w' = w := Any.cmp_isNaN_int2 Try.laysNm237 x w
def Try.laysNm232_ren : Go.Shelf.Ren := ⟨fun | 32 => 74 | n => n, fun | 3 => 3 | 4 => 4 | n => n, fun | n => n⟩
theorem Try.laysNm232 : Go.Proofs.Lays2.n32 Try.prog Try.laysNm232_ren := {
  mixed := by kernel_rfl
  f32 := Try.func74.trans (congrArg some (by kernel_rfl))
  t3 := Try.underlying3
  a3 := Try.isAgg3
  z3 := Try.sizeOf3
  v3 := Try.zeroValue3
  t4 := Try.underlying4
  a4 := Try.isAgg4
  z4 := Try.sizeOf4
  v4 := Try.zeroValue4 }
open Go.RowKit Go.Lib in
/-- slices.isNaN[int]: 'x != x': false. (LAID: no walk: one application.) -/
theorem Try.slices_isNaN_int2 (x : Int) (w : World) :
    Calls Try.prog 74 #[.int .i64 x] w fun e w' => e = .returned (.bool false) ∧ w' = w := Any.slices_isNaN_int2 Try.laysNm232 x w
def Try.laysNm231_ren : Go.Shelf.Ren := ⟨fun | 31 => 73 | 37 => 82 | n => n, fun | 3 => 3 | 4 => 4 | n => n, fun | n => n⟩
theorem Try.laysNm231 : Go.Proofs.Lays2.n31 Try.prog Try.laysNm231_ren := {
  mixed := by kernel_rfl
  f31 := Try.func73.trans (congrArg some (by kernel_rfl))
  f37 := Try.func82.trans (congrArg some (by kernel_rfl))
  t3 := Try.underlying3
  a3 := Try.isAgg3
  z3 := Try.sizeOf3
  v3 := Try.zeroValue3
  t4 := Try.underlying4
  a4 := Try.isAgg4
  z4 := Try.sizeOf4
  v4 := Try.zeroValue4 }
open Go.RowKit Go.Lib in
/-- cmp.Less[int]: "Less reports whether x is less than y.": 'x < y'; the world is as it was. (LAID: no walk: one application.) -/
theorem Try.cmp_Less_int2 (x y : Int) (w : World) :
    Calls Try.prog 73 #[.int .i64 x, .int .i64 y] w fun e w' => e = .returned (.bool (decide (x < y))) ∧ w' = w := Any.cmp_Less_int2 Try.laysNm231 x y w
def Try.laysNm225_ren : Go.Shelf.Ren := ⟨fun | 25 => 58 | 31 => 73 | 32 => 74 | 37 => 82 | n => n, fun | 22 => 22 | 3 => 3 | 4 => 4 | 40 => 114 | 0 => 0 | n => n, fun | n => n⟩
theorem Try.laysNm225 : Go.Proofs.Lays2.n25 Try.prog Try.laysNm225_ren := {
  mixed := by kernel_rfl
  f25 := Try.func58.trans (congrArg some (by kernel_rfl))
  f31 := Try.func73.trans (congrArg some (by kernel_rfl))
  f32 := Try.func74.trans (congrArg some (by kernel_rfl))
  f37 := Try.func82.trans (congrArg some (by kernel_rfl))
  t0 := Try.underlying0
  a0 := Try.isAgg0
  z0 := Try.sizeOf0
  v0 := Try.zeroValue0
  t3 := Try.underlying3
  a3 := Try.isAgg3
  z3 := Try.sizeOf3
  v3 := Try.zeroValue3
  t4 := Try.underlying4
  a4 := Try.isAgg4
  z4 := Try.sizeOf4
  v4 := Try.zeroValue4
  t22 := Try.underlying22
  a22 := Try.isAgg22
  z22 := Try.sizeOf22
  v22 := Try.zeroValue22
  t40 := Try.underlying114
  a40 := Try.isAgg114
  z40 := Try.sizeOf114
  v40 := Try.zeroValue114 }
open Go.RowKit Go.Lib in
/-- slices.BinarySearch at []int: "BinarySearch searches for target in a sorted slice and returns the earliest position where target is found, or the position where target would appear in the sort order; it also returns a bool saying whether the target is really found in the slice. The slice must be sorted in increasing order.": OF A SORTED SLICE IT RETURNS how many elements are less than the target, and whether the target is among the elements; the world is as it was but for the count of draws. 'zs': what the cells behind the slice's address hold; 'zs.take n': its elements. (Of a slice that is not sorted: no contract here.) (LAID: no walk: one application.) -/
theorem Try.slices_BinarySearch_int (b off n c : Nat) (zs : List Int) (x : Int) (w : World) (hz : n ≤ zs.length) (hbig : n < 4611686018427387904) (hc : ∀ j, j < zs.length → w.cell? ⟨b, off + j, none⟩ = some (.int .i64 (zs.getD j 0))) (hs : (zs.take n).Pairwise (· ≤ ·)) :
    Calls Try.prog 58 #[.slice (some ⟨b, off, none⟩) n c, .int .i64 x] w fun e w' => e = .returned (.tuple #[.int .i64 ((zs.take n).countP (· < x) : Nat), .bool ((zs.take n).contains x)]) ∧ ∃ q, w' = w.drewN q := Any.slices_BinarySearch_int Try.laysNm225 b off n c zs x w hz hbig hc hs
def Try.laysNm223_ren : Go.Shelf.Ren := ⟨fun | 23 => 57 | n => n, fun | 22 => 22 | 3 => 3 | 4 => 4 | 0 => 0 | n => n, fun | n => n⟩
theorem Try.laysNm223 : Go.Proofs.Lays2.n23 Try.prog Try.laysNm223_ren := {
  mixed := by kernel_rfl
  f23 := Try.func57.trans (congrArg some (by kernel_rfl))
  t0 := Try.underlying0
  a0 := Try.isAgg0
  z0 := Try.sizeOf0
  v0 := Try.zeroValue0
  t3 := Try.underlying3
  a3 := Try.isAgg3
  z3 := Try.sizeOf3
  v3 := Try.zeroValue3
  t4 := Try.underlying4
  a4 := Try.isAgg4
  z4 := Try.sizeOf4
  v4 := Try.zeroValue4
  t22 := Try.underlying22
  a22 := Try.isAgg22
  z22 := Try.sizeOf22
  v22 := Try.zeroValue22
  i3 := by kernel_rfl }
open Go.RowKit Go.Lib Go.Sort in
/-- slices.Delete at []int, over an array. (LAID: no walk: one application.) -/
theorem Try.slices_Delete_int_arr (blk off cap i j : Nat) (d : Array Int) (w : World) (hH : Holds encI w blk off d) (hcap : d.size ≤ cap) (hm : cap ≤ 9223372036854775807) (hij : i ≤ j) (hj : j ≤ d.size) :
    Calls Try.prog 57 #[.slice (some ⟨blk, off, none⟩) d.size cap, .int .i64 i, .int .i64 j] w fun e w' => e = .returned (.slice (some ⟨blk, off, none⟩) (d.size - (j - i)) cap) ∧ ∃ q, w' = putRow encI (Sort.ahead w q) blk off (d.toList.take i ++ d.toList.drop j ++ List.replicate (j - i) 0).toArray := Any.slices_Delete_int_arr Try.laysNm223 blk off cap i j d w hH hcap hm hij hj
open Go.RowKit Go.Lib Go.Sort in
/-- slices.Delete at []int: "Delete modifies s in place by removing the elements s[i:j], and returns the modified slice. Delete panics if j > len(s) or s[i:j] is not a valid slice of s. Delete is O(len(s)-i), so if many items must be deleted, it is better to make a single call deleting them all together than to delete one at a time. Delete zeroes the elements s[len(s)-(j-i):len(s)]. If the result is empty, it has the same nilness as s.": FOR i ≤ j ≤ len(s) IT RETURNS THE SLICE CUT TO len(s) - (j - i) ELEMENTS; ITS CELLS HOLD what stood ahead of i, what stood from j on, then j - i zero values; all else is as it was, but for the count of draws. IN THE WORDS OF slices.Sort's CONTRACT ('Holds', 'putRow'). It asks 'zs.length ≤ cap ≤ 2^63 - 1' (every slice's). (Outside i ≤ j ≤ len(s) it panics: no contract here.) (LAID: no walk: one application.) -/
theorem Try.slices_Delete_int (blk off cap i j : Nat) (zs : List Int) (w : World) (hH : Holds (Value.int .i64) w blk off zs.toArray) (hcap : zs.length ≤ cap) (hm : cap ≤ 9223372036854775807) (hij : i ≤ j) (hj : j ≤ zs.length) :
    Calls Try.prog 57 #[.slice (some ⟨blk, off, none⟩) zs.length cap, .int .i64 i, .int .i64 j] w fun e w' => e = .returned (.slice (some ⟨blk, off, none⟩) (zs.length - (j - i)) cap) ∧ ∃ q, w' = putRow (Value.int .i64) (Sort.ahead w q) blk off (zs.take i ++ zs.drop j ++ List.replicate (j - i) 0).toArray := Any.slices_Delete_int Try.laysNm223 blk off cap i j zs w hH hcap hm hij hj
open Go.RowKit Go.Lib Go.Sort in
/-- slices.Reverse at []int, of an argument: the n cells hold the elements in reverse. (LAID: no walk: one application.) -/
theorem Try.slices_Reverse_int_cells (b off n c : Nat) (zs : List Int) (w : World) (hz : n ≤ zs.length) (hbig : n ≤ 9223372036854775807) (hc : ∀ j, j < zs.length → w.cell? ⟨b, off + j, none⟩ = some (.int .i64 (zs.getD j 0))) (hf : ∀ j, j < n → w.frozen? ⟨b, off + j, none⟩ = false) :
    Calls Try.prog 85 #[.slice (some ⟨b, off, none⟩) n c] w fun e w' => e = .returned (.tuple #[]) ∧ ∃ q, w' = (w.drewN q).setCells b off ((zs.take n).reverse.map (Value.int .i64)) := Any.slices_Reverse_int_cells Try.lays112 b off n c zs w hz hbig hc hf
open Go.RowKit Go.Lib Go.Sort in
/-- slices.Delete at []int, of an argument, for i ≤ j ≤ n: the slice cut to n - (j - i) elements; the n cells hold what stood ahead of i, what stood from j on, then zeros. (LAID: no walk: one application.) -/
theorem Try.slices_Delete_int_cells (b off n c i j : Nat) (zs : List Int) (w : World) (hz : n ≤ zs.length) (hcap : n ≤ c) (hm : c ≤ 9223372036854775807) (hij : i ≤ j) (hj : j ≤ n) (hc : ∀ j, j < zs.length → w.cell? ⟨b, off + j, none⟩ = some (.int .i64 (zs.getD j 0))) (hf : ∀ j, j < n → w.frozen? ⟨b, off + j, none⟩ = false) :
    Calls Try.prog 57 #[.slice (some ⟨b, off, none⟩) n c, .int .i64 i, .int .i64 j] w fun e w' => e = .returned (.slice (some ⟨b, off, none⟩) (n - (j - i)) c) ∧ ∃ q, w' = (w.drewN q).setCells b off (((zs.take n).take i ++ (zs.take n).drop j ++ List.replicate (j - i) 0).map (Value.int .i64)) := Any.slices_Delete_int_cells Try.laysNm223 b off n c i j zs w hz hcap hm hij hj hc hf
open Go.RowKit Go.Lib in
/-- slices.BinarySearch at []int of no element: position 0, not found; the world is as it was. (LAID: no walk: one application.) -/
theorem Try.slices_BinarySearch_int_empty (a : Option Addr) (c : Nat) (x : Int) (w : World) :
    Calls Try.prog 58 #[.slice a 0 c, .int .i64 x] w fun e w' => e = .returned (.tuple #[.int .i64 0, .bool false]) ∧ w' = w := Any.slices_BinarySearch_int_empty Try.laysNm225 a c x w
open Go.RowKit Go.Lib in
/-- slices.Delete at []int of no element ('Delete(s, 0, 0)'): s comes back; the world is as it was. (LAID: no walk: one application.) -/
theorem Try.slices_Delete_int_empty (a : Option Addr) (c : Nat) (w : World) :
    Calls Try.prog 57 #[.slice a 0 c, .int .i64 0, .int .i64 0] w fun e w' => e = .returned (.slice a 0 c) ∧ w' = w := Any.slices_Delete_int_empty Try.laysNm223 a c w
end Go.Proofs

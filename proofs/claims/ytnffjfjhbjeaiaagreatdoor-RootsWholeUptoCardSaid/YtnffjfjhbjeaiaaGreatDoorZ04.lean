/- Lemmas for the statements of this seat: contracts of functions and the plain laws. -/
import Derived.BigQuiet
import Derived.Deep.DeepCutAuto
import Derived.Deep.QuietTactic
import Derived.Ground.Names2Prog
import Derived.Ground.SlgnProg
import Derived.Shelf.LaysM
import Derived.Shelf.Slices.Cells
import Derived.Shelf.Slices.Clone
import Derived.Shelf.Slices.Delete
import Derived.Shelf.Slices.Empties
import Derived.Shelf.Slices.In.SortNone
import Derived.Shelf.Slices.Reverse
import Derived.Shelf.Slices.SearchI
import Derived.Shelf.Slices.Turned
import Derived.Shelf.SlicesE.Clone
import Derived.Shelf.Small.Bits
import Derived.Shelf.Small.Wraps
import Derived.Shelf.Sort.Plain
import Derived.Shelf.Spec.SlicesInsert
import Derived.Shelf.Spec.SlicesInsertGrow
import Derived.Shelf.Strconv.Itoa0
import Derived.Shelf.Strconv.Itoa1
import Derived.Shelf.Strconv.Itoa2
import Derived.Shelf.Strconv.Itoa3
import Derived.Shelf.Strings.Builder1
import Derived.Shelf.Strings.BuilderCap
import Derived.Shelf.Strings.BuilderF
import Derived.Shelf.Strings.BuilderK
import Derived.Test.YtnffjfjhbjeaiaaGreatDoorProg
import Derived.Test.YtnffjfjhbjeaiaaGreatDoorZ03
set_option linter.unusedVariables false
/- The references of layers 3, 5, 7, 10: contracts of the small ones. -/
namespace Go.Proofs.YtnffjfjhbjeaiaaGreatDoor
open Go.RowKit

set_option maxHeartbeats 4000000 in
theorem ref03_same (A A' : Option Addr) (c c' : Nat) (xs ys : List Int) (w : World) (hl : xs.length ≤ 9223372036854775807) (hl' : ys.length ≤ 9223372036854775807) (hI : Ints .i64 w A xs) (hI' : Ints .i64 w A' ys) :
    Calls Tryz.prog 21 #[.slice A xs.length c, .slice A' ys.length c'] w fun e w' => e = .returned (.bool (decide (xs = ys))) ∧ ∃ q, w' = w.drewN q := by
  by_cases hlen : xs.length = ys.length
  · have hlen2 : ys.length = xs.length := hlen.symm
    rw [hlen2]
    have HI := Lib.hid hI
    have HI' := Lib.hid hI'
    have Hlen := Lib.hid hlen
    have Hlen2 := Lib.hid hlen2
    clear hI hI' hlen hlen2
    go_enter Tryz.func21, Tryz.ntmps21
    go_wp2_with fail
    go_loopw [5] (fun i wr => ∃ k q : Nat, k ≤ xs.length ∧ i = .int .i64 k ∧ xs.take k = ys.take k ∧ wr = w.drewN q) (fun i _ => xs.length - (intOf i).toNat)
    case atStart => exact ⟨0, 0, Nat.zero_le _, rfl, rfl, rfl⟩
    case round =>
      obtain ⟨k, q, hk, rfl, htk, rfl⟩ := hrel
      by_cases hlt : k < xs.length
      · have hlt2 : k < ys.length := by have := Hlen.out; omega
        obtain ⟨b, off, rfl, -, hc⟩ := HI.out k hlt
        obtain ⟨b', off', rfl, -, hc'⟩ := HI'.out k hlt2
        rw [getD_at hlt] at hc
        rw [getD_at hlt2] at hc'
        have hd : w.drewN q = w.drewN q := rfl
        have k0 : (0 : Int) ≤ (k : Int) := by omega
        have k1 : (k : Int) < (xs.length : Int) := by omega
        have hnx : xs[k] = ys[k] → xs.take (k + 1) = ys.take (k + 1) := fun e => by rw [List.take_succ_eq_append_getElem hlt, List.take_succ_eq_append_getElem hlt2, htk, e]
        have hno : xs[k] ≠ ys[k] → decide (xs = ys) = false := fun e => by simp; intro h; subst h; exact e rfl
        generalize xs[k] = x at *
        generalize ys[k] = y at *
        by_cases hxy : x = y
        · have e1 : (x != y) = false := by simp [hxy]
          have HX := Lib.hid (hnx hxy)
          clear hnx hno htk hxy hd
          go_wp2_with fail
          go_quiet (fail)
          go_wp2_with fail
          go_roundw
          case rel => exact ⟨k + 1, _, by omega, by go_num, HX.out, by first | rfl | exact World.drewN_drewN _ _ _⟩
          case measure => simp [intOf]; omega
        · have e1 : (x != y) = true := by simp [hxy]
          have HX := Lib.hid (hno hxy)
          clear hnx hno htk hxy hd
          go_wp2_with fail
          go_quiet (fail)
          go_wp2_with fail
          go_ret
          exact ⟨by rw [HX.out]; rfl, _, by first | rfl | exact World.drewN_drewN _ _ _⟩
      · obtain rfl : k = xs.length := by omega
        have HX := Lib.hid (show decide (xs = ys) = true by
          rw [List.take_length] at htk
          rw [htk, Hlen.out, List.take_length]; simp)
        clear htk
        go_wp2_with fail
        go_ret
        exact ⟨by rw [HX.out]; rfl, _, rfl⟩
  · have HX := Lib.hid (show decide (xs = ys) = false by simp; intro h; exact hlen (by rw [h]))
    have e1 : ((xs.length : Int) != (ys.length : Int)) = true := by rw [bne_iff_ne]; omega
    have e2 : (xs.length != ys.length) = true := by rw [bne_iff_ne]; omega
    have HI := Lib.hid hI
    have HI' := Lib.hid hI'
    have Hlen := Lib.hid hlen
    clear hI hI' hlen
    go_enter Tryz.func21, Tryz.ntmps21
    go_wp2_with fail
    go_ret
    exact ⟨by rw [HX.out]; rfl, 0, rfl⟩
theorem prod_snoc (l : List Int) (x : Int) : Safe.prod (l ++ [x]) = Safe.prod l * x := by
  induction l with
  | nil => simp [Safe.prod]
  | cons a r ih => simp only [List.cons_append, Safe.prod, ih]; rw [Int.mul_assoc]
theorem prod_pos1 {l : List Int} (h : ∀ x ∈ l, 1 ≤ x) : 1 ≤ Safe.prod l := by
  induction l with
  | nil => simp [Safe.prod]
  | cons a r ih =>
    have h1 := h a (by simp)
    have h2 := ih fun x hx => h x (by simp [hx])
    simp only [Safe.prod]
    have := Int.mul_pos (show 0 < a by omega) (show 0 < Safe.prod r by omega)
    omega
set_option maxHeartbeats 4000000 in
theorem ref03_size (A : Option Addr) (c : Nat) (zs : List Int) (w : World) (hr : Sh.right zs = true) (hI : Ints .i64 w A zs) :
    Calls Tryz.prog 36 #[.slice A zs.length c] w fun e w' => e = .returned (.int .i64 (Safe.prod zs)) ∧ w = w' := by
  obtain ⟨-, h1, h2, h3, h4, h5⟩ := Sh.right_mul hr
  have hp : ∀ k, 1 ≤ Safe.prod (zs.take k) ∧ Safe.prod (zs.take k) ≤ 1099511627776 := fun k => by
    refine ⟨?_, Sh.prod_le (fun x hx => h3 x (List.mem_of_mem_take hx)) (by simp; omega)⟩
    exact prod_pos1 fun x hx => (h3 x (List.mem_of_mem_take hx)).1
  have HI := Lib.hid hI
  have Hr := Lib.hid hr
  have Hp := Lib.hid hp
  have H3 := Lib.hid h3
  clear hI hr hp h3
  go_enter Tryz.func36, Tryz.ntmps36
  go_wp2_with fail
  go_loop [3, 4] (fun t i => ∃ k : Nat, k ≤ zs.length ∧ i = .int .i64 k ∧ t = .int .i64 (Safe.prod (zs.take k))) (fun _ i => zs.length - (intOf i).toNat)
  case atStart => exact ⟨0, Nat.zero_le _, rfl, rfl⟩
  case round =>
    obtain ⟨k, hk, rfl, rfl⟩ := hrel
    by_cases hlt : k < zs.length
    · obtain ⟨b, off, rfl, -, hc⟩ := HI.out k hlt
      rw [getD_at hlt] at hc
      have hq := Hp.out (k + 1)
      have hs : Safe.prod (zs.take (k + 1)) = Safe.prod (zs.take k) * zs[k] := by rw [List.take_succ_eq_append_getElem hlt, prod_snoc]
      rw [hs] at hq
      generalize Safe.prod (zs.take k) = p at *
      generalize zs[k] = z at *
      obtain ⟨q1, q2⟩ := hq
      have hw : IntKind.i64.wrap (p * z) = p * z := IntWalk.i64_in _ (by omega)
      have Hs := Lib.hid hs
      clear hs
      go_wp2_with fail
      go_round
      case rel => exact ⟨k + 1, by omega, by go_num, by rw [Hs.out]⟩
      case measure => simp [intOf]; omega
    · obtain rfl : k = zs.length := by omega
      rw [List.take_length]
      go_wp2_with fail
      go_ret
      exact ⟨rfl, rfl⟩
set_option maxHeartbeats 4000000 in
theorem ref03_right (A : Option Addr) (c : Nat) (zs : List Int) (w : World) (hl : zs.length ≤ 9223372036854775807) (hI : Ints .i64 w A zs) :
    Calls Tryz.prog 32 #[.slice A zs.length c] w fun e w' => e = .returned (.bool (Sh.right zs)) ∧ w = w' := by
  by_cases hlen : 1 ≤ zs.length ∧ zs.length ≤ 4
  · obtain ⟨l1, l2⟩ := hlen
    have d1 : decide ((zs.length : Int) < 1) = false := by simp; omega
    have d2 : decide ((4 : Int) < (zs.length : Int)) = false := by simp; omega
    have HI := Lib.hid hI
    clear hI
    go_enter Tryz.func32, Tryz.ntmps32
    go_wp2_with fail
    go_loop [3, 4] (fun t i => ∃ k : Nat, k ≤ zs.length ∧ i = .int .i64 k ∧ (zs.take k).all Sh.side = true ∧ t = .int .i64 (Safe.prod (zs.take k))) (fun _ i => zs.length - (intOf i).toNat)
    case atStart => exact ⟨0, Nat.zero_le _, rfl, rfl, rfl⟩
    case round =>
      obtain ⟨k, hk, rfl, hall, rfl⟩ := hrel
      by_cases hlt : k < zs.length
      · obtain ⟨b, off, rfl, -, hc⟩ := HI.out k hlt
        rw [getD_at hlt] at hc
        have hs : Safe.prod (zs.take (k + 1)) = Safe.prod (zs.take k) * zs[k] := by rw [List.take_succ_eq_append_getElem hlt, prod_snoc]
        by_cases hz : 1 ≤ zs[k] ∧ zs[k] ≤ 1024
        · have hall2 : (zs.take (k + 1)).all Sh.side = true := by
            rw [List.take_succ_eq_append_getElem hlt, List.all_append, hall]
            simp [Sh.side, hz]
          have hb2 : ∀ x ∈ zs.take (k + 1), 1 ≤ x ∧ x ≤ 1024 := Sh.all_iff hall2
          have hq : Safe.prod (zs.take (k + 1)) ≤ 1099511627776 := Sh.prod_le hb2 (by simp; omega)
          have hq1 : 1 ≤ Safe.prod (zs.take (k + 1)) := by
            exact prod_pos1 fun x hx => (hb2 x hx).1
          rw [hs] at hq hq1
          generalize Safe.prod (zs.take k) = p at *
          generalize zs[k] = z at *
          have hw : IntKind.i64.wrap (p * z) = p * z := IntWalk.i64_in _ (by omega)
          have e1 : decide (z < 1) = false := by simp; omega
          have e2 : decide (1024 < z) = false := by simp; omega
          clear hz hall hb2
          have Hs := Lib.hid hs
          have Hall2 := Lib.hid hall2
          clear hs hall2
          go_wp2_with fail
          go_round
          case rel => exact ⟨k + 1, by omega, by go_num, Hall2.out, by rw [Hs.out]⟩
          case measure => simp [intOf]; omega
        · have hno : Sh.right zs = false := Sh.right_side (by
            rw [List.all_eq_false]
            exact ⟨zs[k], List.getElem_mem hlt, by rw [Sh.side_iff]; exact hz⟩)
          generalize zs[k] = z at *
          have Hno := Lib.hid hno
          have Hall := Lib.hid hall
          have Hs := Lib.hid hs
          clear hno hall hs
          by_cases hz1 : z < 1
          · have e1 : decide (z < 1) = true := by simpa using hz1
            clear hz
            go_wp2_with fail
            go_ret
            exact ⟨by rw [Hno.out]; rfl, rfl⟩
          · have e1 : decide (z < 1) = false := by simpa using hz1
            have e2 : decide (1024 < z) = true := by simp; omega
            clear hz
            go_wp2_with fail
            go_ret
            exact ⟨by rw [Hno.out]; rfl, rfl⟩
      · obtain rfl : k = zs.length := by omega
        rw [List.take_length] at hall ⊢
        have HR := Lib.hid (Sh.right_prod ⟨l1, l2⟩ hall)
        clear hall
        go_wp2_with fail
        go_ret
        exact ⟨by rw [HR.out]; rfl, rfl⟩
  · have HR := Lib.hid (Sh.right_len hlen)
    have HI := Lib.hid hI
    clear hI
    by_cases h1 : zs.length < 1
    · have d1 : decide ((zs.length : Int) < 1) = true := by simp; omega
      clear hlen
      go_enter Tryz.func32, Tryz.ntmps32
      go_wp2_with fail
      go_ret
      exact ⟨by rw [HR.out]; rfl, rfl⟩
    · have d1 : decide ((zs.length : Int) < 1) = false := by simp; omega
      have d2 : decide ((4 : Int) < (zs.length : Int)) = true := by simp; omega
      clear hlen
      go_enter Tryz.func32, Tryz.ntmps32
      go_wp2_with fail
      go_ret
      exact ⟨by rw [HR.out]; rfl, rfl⟩
set_option maxHeartbeats 4000000 in
theorem ref05_ins (k : Int) (w : World) : Calls Tryz.prog 83 #[.int .i64 k] w fun e w' => e = .returned (.int .i64 (Od.ptIns k)) ∧ w = w' := by
  by_cases h1 : 1 ≤ k ∧ k ≤ 5
  · have HX := Lib.hid (show Od.ptIns k = 1 by unfold Od.ptIns; rw [if_pos h1])
    obtain ⟨a, b⟩ := h1
    go_enter Tryz.func83, Tryz.ntmps83
    go_wp2_with fail
    go_ret
    exact ⟨by rw [HX.out]; rfl, rfl⟩
  · by_cases h2 : k = 6 ∨ k = 7
    · have HX := Lib.hid (show Od.ptIns k = 2 by unfold Od.ptIns; rw [if_neg h1, if_pos h2])
      clear h1
      rcases h2 with rfl | rfl
      all_goals
        go_enter Tryz.func83, Tryz.ntmps83
        go_wp2_with fail
        go_ret
        exact ⟨by rw [HX.out]; rfl, rfl⟩
    · have HX := Lib.hid (show Od.ptIns k = 0 by unfold Od.ptIns; rw [if_neg h1, if_neg h2])
      have e6 : (k == 6) = false := by simp; omega
      have e7 : (k == 7) = false := by simp; omega
      by_cases h3 : 1 ≤ k
      · have d2 : decide (k ≤ 5) = false := by simp; omega
        clear h1 h2
        go_enter Tryz.func83, Tryz.ntmps83
        go_wp2_with fail
        go_ret
        exact ⟨by rw [HX.out]; rfl, rfl⟩
      · have d2 : decide (1 ≤ k) = false := by simp; omega
        clear h1 h2
        go_enter Tryz.func83, Tryz.ntmps83
        go_wp2_with fail
        go_ret
        exact ⟨by rw [HX.out]; rfl, rfl⟩
def refIns (k : Int) : Int × Int := if 1 ≤ k ∧ k ≤ 7 then (Od.ptIns k, Od.ptIns k) else if k = 13 then (1, 8) else if 8 ≤ k ∧ k ≤ 15 then (1, 1) else (0, 0)
theorem refIns_right {o : OpD} (h : Od.right o = true) : refIns o.kind = (Od.least o, Od.most o) := by
  have hk := Od.right_kind h
  unfold refIns Od.least Od.most
  rw [if_pos h, if_pos h]
  by_cases h7 : o.kind ≤ 7
  · rw [if_pos ⟨hk.1, h7⟩, if_pos h7, if_pos h7]
  · rw [if_neg (by omega), if_neg h7, if_neg h7]
    by_cases h13 : o.kind = 13
    · rw [if_pos h13, if_pos h13]
    · rw [if_neg h13, if_neg h13, if_pos (by omega)]
def refPar (k : Int) : Int := if k = 8 then 2 else if k = 9 ∨ k = 10 then 1 else 0
theorem refPar_right {o : OpD} (h : Od.right o = true) : refPar o.kind = Od.params o := by unfold refPar Od.params; rw [if_pos h]
set_option maxHeartbeats 4000000 in
theorem ref10_ins (k : Int) (w : World) (hk : 1 ≤ k ∧ k ≤ 15) : Calls Tryz.prog 66 #[.int .i64 k] w fun e w' => e = .returned (.tuple #[.int .i64 (refIns k).1, .int .i64 (refIns k).2]) ∧ w = w' := by
  by_cases h1 : k ≤ 7
  · have HX := Lib.hid (show refIns k = (Od.ptIns k, Od.ptIns k) by unfold refIns; rw [if_pos ⟨hk.1, h1⟩])
    obtain ⟨a, b⟩ := hk
    go_enter Tryz.func66, Tryz.ntmps66
    go_wp2_with fail
    refine (ref05_ins k _).mono ?_
    rintro e w1 ⟨rfl, rfl⟩
    go_wp2_with fail
    go_ret2
    exact ⟨by rw [HX.out]; rfl, rfl⟩
  · have d7 : decide (k ≤ 7) = false := by simp; omega
    by_cases h13 : k = 13
    · have HX := Lib.hid (show refIns k = (1, 8) by unfold refIns; rw [if_neg (by omega), if_pos h13])
      subst h13
      clear hk
      go_enter Tryz.func66, Tryz.ntmps66
      go_wp2_with fail
      go_ret2
      exact ⟨by rw [HX.out]; rfl, rfl⟩
    · have HX := Lib.hid (show refIns k = (1, 1) by unfold refIns; rw [if_neg (by omega), if_neg h13, if_pos (by omega)])
      have e13 : (k == 13) = false := by simp; omega
      have g8 : 8 ≤ k := by omega
      obtain ⟨a, b⟩ := hk
      clear h13
      go_enter Tryz.func66, Tryz.ntmps66
      go_wp2_with fail
      go_ret2
      exact ⟨by rw [HX.out]; rfl, rfl⟩
set_option maxHeartbeats 4000000 in
theorem ref10_params (k : Int) (w : World) : Calls Tryz.prog 67 #[.int .i64 k] w fun e w' => e = .returned (.int .i64 (refPar k)) ∧ w = w' := by
  by_cases h8 : k = 8
  · subst h8
    go_enter Tryz.func67, Tryz.ntmps67
    go_wp2_with fail
    go_ret
    exact ⟨rfl, rfl⟩
  · by_cases h9 : k = 9
    · subst h9
      clear h8
      go_enter Tryz.func67, Tryz.ntmps67
      go_wp2_with fail
      go_ret
      exact ⟨rfl, rfl⟩
    · by_cases h10 : k = 10
      · subst h10
        clear h8 h9
        go_enter Tryz.func67, Tryz.ntmps67
        go_wp2_with fail
        go_ret
        exact ⟨rfl, rfl⟩
      · have HX := Lib.hid (show refPar k = 0 by unfold refPar; rw [if_neg h8, if_neg (by omega)])
        have e8 : (k == 8) = false := by simp; omega
        have e9 : (k == 9) = false := by simp; omega
        have e10 : (k == 10) = false := by simp; omega
        clear h8 h9 h10
        go_enter Tryz.func67, Tryz.ntmps67
        go_wp2_with fail
        go_ret
        exact ⟨by rw [HX.out]; rfl, rfl⟩
theorem window_steps {side width step : Int} (h1 : 1 ≤ step) (h2 : width ≤ side) (h3 : 1 ≤ width) (h4 : side ≤ 1024) {k : Int} (hk : 0 ≤ k) (hw : (k - 1) * step + width ≤ side) (hs : ¬ k * step + width ≤ side) : k = 1 + (side - width).tdiv step := by
  rw [Int.tdiv_eq_ediv_of_nonneg (by omega)]
  have e1 : (k - 1) * step ≤ side - width := by omega
  have e2 : side - width < k * step := by omega
  have h5 := Int.le_ediv_of_mul_le (show 0 < step by omega) e1
  have h6 := Int.ediv_lt_of_lt_mul (show 0 < step by omega) e2
  omega
set_option maxHeartbeats 4000000 in
theorem ref07_window (side width step : Int) (w : World) : Calls Tryz.prog 84 #[.int .i64 side, .int .i64 width, .int .i64 step] w fun e w' => e = .returned (.int .i64 (Od.window side width step).1) ∧ w = w' := by
  by_cases h1 : 1 ≤ side ∧ side ≤ 1024 ∧ 1 ≤ width ∧ width ≤ 1024 ∧ 1 ≤ step ∧ step ≤ 1024 ∧ width ≤ side
  · have HX := Lib.hid (show (Od.window side width step).1 = 1 + (side - width).tdiv step by
      unfold Od.window; rw [if_pos (by simp only [Sh.side_iff]; omega)])
    obtain ⟨a1, a2, a3, a4, a5, a6, a7⟩ := h1
    have c1 : decide (side < 1) = false := by simp; omega
    have c2 : decide (width < 1) = false := by simp; omega
    have c3 : decide (step < 1) = false := by simp; omega
    have c4 : decide (1024 < side) = false := by simp; omega
    have c5 : decide (1024 < width) = false := by simp; omega
    have c6 : decide (1024 < step) = false := by simp; omega
    have c7 : decide (side < width) = false := by simp; omega
    go_enter Tryz.func84, Tryz.ntmps84
    go_wp2_with fail
    go_loop [7, 8] (fun t i => ∃ k : Int, 0 ≤ k ∧ i = .int .i64 (k * step) ∧ t = .int .i64 k ∧ (k - 1) * step + width ≤ side) (fun _ i => (side + 1 - intOf i).toNat)
    case atStart => exact ⟨0, by omega, by rw [Int.zero_mul], rfl, by rw [Int.zero_sub, Int.neg_mul, Int.one_mul]; omega⟩
    case round =>
      obtain ⟨k, hk, rfl, rfl, hle⟩ := hrel
      have b1 : (k - 1) * step = k * step - step := by rw [Int.sub_mul, Int.one_mul]
      have b0 : 0 ≤ k * step := Int.mul_nonneg hk (by omega)
      have b3 : k ≤ k * step + 1 := by
        have := Int.mul_le_mul_of_nonneg_left (show 1 ≤ step from a5) hk
        omega
      have b2 : (k + 1) * step = k * step + step := by rw [Int.add_mul, Int.one_mul]
      have hst := @window_steps side width step a5 a7 a3 a2 k hk hle
      rw [b1] at hle
      have hle2 : k * step + width ≤ side → (k + 1 - 1) * step + width ≤ side := fun h => by rw [Int.add_sub_cancel]; exact h
      generalize k * step = m at *
      by_cases hc : m + width ≤ side
      · have HL := Lib.hid (hle2 hc)
        have Hb1 := Lib.hid b1
        have Hb2 := Lib.hid b2
        have Hst := Lib.hid hst
        have Hle2 := Lib.hid hle2
        clear b1 b2 hst hle2
        go_wp2_with fail
        go_round
        case rel => exact ⟨k + 1, by omega, by rw [Hb2.out], rfl, HL.out⟩
        case measure => simp [intOf]; omega
      · have HK := Lib.hid (hst hc)
        have Hb1 := Lib.hid b1
        have Hb2 := Lib.hid b2
        have Hst := Lib.hid hst
        have Hle2 := Lib.hid hle2
        clear b1 b2 hst hle2
        go_wp2_with fail
        go_ret
        exact ⟨by rw [HX.out, ← HK.out]; rfl, rfl⟩
  · have HX := Lib.hid (show (Od.window side width step).1 = 0 by
      unfold Od.window; rw [if_neg (by simp only [Sh.side_iff]; omega)])
    by_cases c1 : side < 1
    · have d1 : decide (side < 1) = true := by simpa using c1
      clear h1
      go_enter Tryz.func84, Tryz.ntmps84
      go_wp2_with fail
      go_ret
      exact ⟨by rw [HX.out]; rfl, rfl⟩
    · have d1 : decide (side < 1) = false := by simpa using c1
      by_cases c2 : width < 1
      · have d2 : decide (width < 1) = true := by simpa using c2
        clear h1
        go_enter Tryz.func84, Tryz.ntmps84
        go_wp2_with fail
        go_ret
        exact ⟨by rw [HX.out]; rfl, rfl⟩
      · have d2 : decide (width < 1) = false := by simpa using c2
        by_cases c3 : step < 1
        · have d3 : decide (step < 1) = true := by simpa using c3
          clear h1
          go_enter Tryz.func84, Tryz.ntmps84
          go_wp2_with fail
          go_ret
          exact ⟨by rw [HX.out]; rfl, rfl⟩
        · have d3 : decide (step < 1) = false := by simpa using c3
          by_cases c4 : 1024 < side
          · have d4 : decide (1024 < side) = true := by simpa using c4
            clear h1
            go_enter Tryz.func84, Tryz.ntmps84
            go_wp2_with fail
            go_ret
            exact ⟨by rw [HX.out]; rfl, rfl⟩
          · have d4 : decide (1024 < side) = false := by simpa using c4
            by_cases c5 : 1024 < width
            · have d5 : decide (1024 < width) = true := by simpa using c5
              clear h1
              go_enter Tryz.func84, Tryz.ntmps84
              go_wp2_with fail
              go_ret
              exact ⟨by rw [HX.out]; rfl, rfl⟩
            · have d5 : decide (1024 < width) = false := by simpa using c5
              by_cases c6 : 1024 < step
              · have d6 : decide (1024 < step) = true := by simpa using c6
                clear h1
                go_enter Tryz.func84, Tryz.ntmps84
                go_wp2_with fail
                go_ret
                exact ⟨by rw [HX.out]; rfl, rfl⟩
              · have d6 : decide (1024 < step) = false := by simpa using c6
                have d7 : decide (side < width) = true := by simp; omega
                clear h1
                go_enter Tryz.func84, Tryz.ntmps84
                go_wp2_with fail
                go_ret
                exact ⟨by rw [HX.out]; rfl, rfl⟩
end Go.Proofs.YtnffjfjhbjeaiaaGreatDoor
/- Layer 10 (op): Cost; its reference; layer 13's sizes: contracts. -/
namespace Go.Proofs.YtnffjfjhbjeaiaaGreatDoor
open Go.RowKit
theorem Sh.size_right {s : List Int} (h : Sh.right s = true) : Sh.size s = (Safe.prod s, 0) := by simp [Sh.size, h]
theorem Sh.prod_bd {s : List Int} (h : Sh.right s = true) : 1 ≤ Safe.prod s ∧ Safe.prod s ≤ 65536 := Od.prod_right_ h
theorem ints_two {w : World} {t : TypeId} (a b : Int) : Ints .i64 (w.alloc (.cells #[.int .i64 a, .int .i64 b] t)) (some ⟨w.heap.size, 0, none⟩) [a, b] := Ints.of_row fun j hj => by
  have hk := Blk.new w t #[.int .i64 a, .int .i64 b]
  have hj2 : j = 0 ∨ j = 1 := by simp at hj; omega
  rcases hj2 with rfl | rfl <;> (rw [hk.cell]; rfl)
set_option maxRecDepth 20000 in
set_option maxHeartbeats 8000000 in
theorem op_cost (o : OpD) (S P X : Option Addr) (c d f : Nat) (p x : List (List Int)) (w : World) (ho : o.s.length ≤ 17592186043904) (hI : Ints .i64 w S o.s) (hP : ShpIn w P d p) (hX : ShpIn w X f x) :
    Calls Tryz.prog 89 #[.agg #[.int .i64 o.kind, .int .i64 o.k, .int .i64 o.width, .int .i64 o.step, .int .i64 o.side, .int .i64 o.frm, .int .i64 o.to, .slice S o.s.length c], .slice P p.length d, .slice X x.length f] w fun e w' => e = .returned (.tuple #[.int .i64 (Od.cost o p x).1, .int .i64 (Od.cost o p x).2]) ∧ Below w.heap.size w w' := by
  have hk0 := Blk.new w 64 #[.int .i64 o.kind, .int .i64 o.k, .int .i64 o.width, .int .i64 o.step, .int .i64 o.side, .int .i64 o.frm, .int .i64 o.to, .slice S o.s.length c]
  have hl0 : Later w (w.alloc (.cells #[.int .i64 o.kind, .int .i64 o.k, .int .i64 o.width, .int .i64 o.step, .int .i64 o.side, .int .i64 o.frm, .int .i64 o.to, .slice S o.s.length c] 64)) := (Later.refl w).alloc _
  have HI := Lib.hid hI
  have HP := Lib.hid hP
  have HX := Lib.hid hX
  have Hk0 := Lib.hid hk0
  have Hl0 := Lib.hid hl0
  clear hI hP hX hk0 hl0
  go_enter Tryz.func89, Tryz.ntmps89
  go_wp2_with fail
  generalize w.alloc (.cells #[.int .i64 o.kind, .int .i64 o.k, .int .i64 o.width, .int .i64 o.step, .int .i64 o.side, .int .i64 o.frm, .int .i64 o.to, .slice S o.s.length c] 64) = w1 at *
  refine (op_shape o S P X c d f p x w1 ho (HI.out.below Hl0.out (Nat.le_refl _)) (HP.out.below Hl0.out (Nat.le_refl _)) (HX.out.below Hl0.out (Nat.le_refl _))).mono ?_
  rintro e w2 ⟨S2, d2, rfl, hI2, h21, h22, -, hb2⟩
  have hl2 := Hl0.out.call hb2
  have hk2 := (show Later w1 w2 from hb2).blk Hk0.out
  have hgood := fun h => @Od.cost_parts o p x h
  have hshr := fun h => @Od.shape_right o p x h
  have hpr := fun h => (@Od.shape_good o p x h).2.2.2.1
  have hcv : Od.cost o p x = if (Od.shape o p x).2 = 0 then (Od.costV o p (Od.shape o p x).1, 0) else (0, (Od.shape o p x).2) := rfl
  clear hb2
  generalize Od.shape o p x = r at *
  by_cases hr : r.2 = 0
  · have hr2 := hshr hr
    obtain ⟨g8, g10, g11⟩ := hgood hr
    have hpr2 := hpr hr
    rw [if_pos hr] at hcv
    have hs := Sh.prod_bd hr2
    have hsz := Sh.size_right hr2
    have hlen := (Sh.right_mul hr2).2.1
    clear hgood hshr hpr
    have HI2 := Lib.hid hI2
    have Hl2 := Lib.hid hl2
    have Hk2 := Lib.hid hk2
    have Hr2 := Lib.hid hr2
    have Hg8 := Lib.hid g8
    have Hg10 := Lib.hid g10
    have Hg11 := Lib.hid g11
    have Hpr2 := Lib.hid hpr2
    have Hcv := Lib.hid hcv
    have Hsz := Lib.hid hsz
    clear hI2 hl2 hk2 hr2 g8 g10 g11 hpr2 hcv hsz
    have q0 : (r.2 != 0) = false := by simp [hr]
    clear hr
    go_wp2_with fail
    refine (shape_size S2 d2 r.1 _ (by omega) HI2.out).mono ?_
    rintro e w3 ⟨rfl, hb3⟩
    rw [Hsz.out]
    have hl3 := Hl2.out.call hb3
    have hk3 := (show Later w2 w3 from hb3).blk Hk2.out
    obtain ⟨y0, -, y2, -, -, -, -, -⟩ := op_cells hk3
    have hP3 := HP.out.below hl3 (Nat.le_refl _)
    clear hb3
    by_cases k8 : o.kind = 8
    · have hv : Od.costV o p r.1 = Safe.prod (p.getD 0 []) := by unfold Od.costV; rw [if_pos k8]
      have hl := Hg8.out k8
      obtain ⟨b, off, S5, d5, rfl, y5, hI5, -, -, l5⟩ := hP3.at_ hl
      have e0 : p.getD 0 [] = p[0] := by simp [List.getD_eq_getElem?_getD, hl]
      have hsz5 := Sh.size_right (Hpr2.out p[0] (List.getElem_mem hl))
      rw [e0] at hv
      rw [hv] at Hcv
      rw [Nat.add_zero] at y5
      rw [k8] at y0
      generalize p[0] = t at *
      have Hl3 := Lib.hid hl3
      have Hk3 := Lib.hid hk3
      have HP3 := Lib.hid hP3
      have HI5 := Lib.hid hI5
      have Hsz5 := Lib.hid hsz5
      have Hv := Lib.hid hv
      clear hl3 hk3 hP3 hI5 hsz5 hv
      go_wp2_with fail
      refine (shape_size S5 d5 t _ (by omega) HI5.out).mono ?_
      rintro e w4 ⟨rfl, hb4⟩
      rw [Hsz5.out]
      have hl4 := Hl3.out.call hb4
      have Hl4 := Lib.hid hl4
      clear hl4
      go_wp2_with fail
      go_ret2
      exact ⟨by (rw [Hcv.out] <;> rfl), Hl4.out⟩
    · by_cases k10 : o.kind = 10
      · obtain ⟨hl, hl2, hm1, hm2⟩ := Hg10.out k10
        obtain ⟨b, off, S5, d5, rfl, y5, hI5, -, -, l5⟩ := hP3.at_ hl
        have e0 : p.getD 0 [] = p[0] := by simp [List.getD_eq_getElem?_getD, hl]
        have hr5 := Hpr2.out p[0] (List.getElem_mem hl)
        have hsz5 := Sh.size_right hr5
        have hbd5 := Sh.prod_bd hr5
        have hv : Od.costV o p r.1 = Safe.prod r.1 * (Safe.prod (p.getD 0 [])).tdiv ((p.getD 0 []).getD 0 0) := by unfold Od.costV; rw [if_neg k8, if_pos k10]
        rw [e0] at hv hl2 hm1 hm2
        rw [hv] at Hcv
        rw [Nat.add_zero] at y5
        rw [k10] at y0
        generalize p[0] = t at *
        have hq1 : 0 ≤ (Safe.prod t).tdiv (t.getD 0 0) := Int.tdiv_nonneg (by omega) (by omega)
        have hq2 : (Safe.prod t).tdiv (t.getD 0 0) ≤ Safe.prod t := Int.tdiv_le_self _ (by omega)
        have hq3 : (Safe.prod t).tdiv (t.getD 0 0) = Safe.prod t / t.getD 0 0 := Int.tdiv_eq_ediv_of_nonneg (by omega)
        have hmul := Od.mul2 (a := Safe.prod r.1) (b := (Safe.prod t).tdiv (t.getD 0 0)) (by omega) (by omega) hq1 (by omega)
        rw [hq3] at hq1 hq2 hmul hv
        have Hl3 := Lib.hid hl3
        have Hk3 := Lib.hid hk3
        have HP3 := Lib.hid hP3
        have HI5 := Lib.hid hI5
        have Hsz5 := Lib.hid hsz5
        have Hv := Lib.hid hv
        have Hmul := Lib.hid hmul
        have Hq3 := Lib.hid hq3
        clear hl3 hk3 hP3 hI5 hsz5 hv hmul hq3
        go_wp2_with fail
        refine (shape_size S5 d5 t _ (by omega) HI5.out).mono ?_
        rintro e w4 ⟨rfl, hb4⟩
        rw [Hsz5.out]
        have hl4 := Hl3.out.call hb4
        have y54 := (show Later w3 w4 from hb4).cell y5
        obtain ⟨b6, o6, rfl, -, y6⟩ := (HI5.out.below hb4 (Nat.le_refl _)) 0 hl2
        rw [Nat.add_zero] at y6
        clear y5 y0 y2 hb4
        generalize t.getD 0 0 = t0 at *
        generalize Safe.prod t = pt at *
        generalize Safe.prod r.1 = pr at *
        have Hl4 := Lib.hid hl4
        clear hl4
        have hl20 : (0 : Int) < (t.length : Int) := by omega
        go_wp2_with fail
        refine (safe_mul (some ⟨w4.heap.size, 0, none⟩) 2 [pr, pt / t0] _ (by simp) (ints_two _ _)).mono ?_
        rintro e w5 ⟨rfl, hb5⟩
        rw [Hmul.out.1]
        have hl5 := (Hl4.out.alloc (.cells #[.int .i64 pr, .int .i64 (pt / t0)] 3)).call hb5
        have Hl5 := Lib.hid hl5
        clear hl5
        go_wp2_with fail
        go_ret2
        exact ⟨by (rw [Hcv.out, Hq3.out] <;> rfl), Hl5.out⟩
      · have n8 : (o.kind == 8) = false := by simpa using k8
        have n10 : (o.kind == 10) = false := by simpa using k10
        by_cases k11 : o.kind = 11 ∨ o.kind = 12
        · obtain ⟨hm1, hm2⟩ := Hg11.out k11
          have hv : Od.costV o p r.1 = Safe.prod r.1 * o.width := by unfold Od.costV; rw [if_neg k8, if_neg k10, if_pos k11]
          rw [hv] at Hcv
          have hmul := Od.mul2 (a := Safe.prod r.1) (b := o.width) (by omega) (by omega) (by omega) (by omega)
          generalize Safe.prod r.1 = pr at *
          have Hl3 := Lib.hid hl3
          have Hk3 := Lib.hid hk3
          have HP3 := Lib.hid hP3
          have Hv := Lib.hid hv
          have Hmul := Lib.hid hmul
          clear hl3 hk3 hP3 hv hmul
          clear k8 k10
          rcases k11 with k11 | k11
          all_goals
            rw [k11] at y0 n8 n10
            go_wp2_with fail
            refine (safe_mul (some ⟨w3.heap.size, 0, none⟩) 2 [pr, o.width] _ (by simp) (ints_two _ _)).mono ?_
            rintro e w5 ⟨rfl, hb5⟩
            rw [Hmul.out.1]
            have hl5 := (Hl3.out.alloc (.cells #[.int .i64 pr, .int .i64 o.width] 3)).call hb5
            have Hl5 := Lib.hid hl5
            clear hl5
            go_wp2_with fail
            go_ret2
            exact ⟨by (rw [Hcv.out] <;> rfl), Hl5.out⟩
        · have hv : Od.costV o p r.1 = Safe.prod r.1 := by unfold Od.costV; rw [if_neg k8, if_neg k10, if_neg k11]
          rw [hv] at Hcv
          have n11 : (o.kind == 11) = false := by simp; omega
          have n12 : (o.kind == 12) = false := by simp; omega
          have Hl3 := Lib.hid hl3
          have Hk3 := Lib.hid hk3
          have HP3 := Lib.hid hP3
          have Hv := Lib.hid hv
          clear hl3 hk3 hP3 hv
          clear k8 k10 k11
          go_wp2_with fail
          go_ret2
          exact ⟨by (rw [Hcv.out] <;> rfl), Hl3.out⟩
  · have q0 : (r.2 != 0) = true := by simp [hr]
    rw [if_neg hr] at hcv
    have HI2 := Lib.hid hI2
    have Hl2 := Lib.hid hl2
    have Hk2 := Lib.hid hk2
    have Hcv := Lib.hid hcv
    clear hI2 hl2 hk2 hcv
    clear hgood hshr hpr hr
    go_wp2_with fail
    go_ret2
    exact ⟨by (rw [Hcv.out] <;> rfl), Hl2.out⟩
set_option maxRecDepth 20000 in
set_option maxHeartbeats 8000000 in
theorem ref10_cost (o : OpD) (S P T : Option Addr) (c d tc : Nat) (p x : List (List Int)) (w : World) (hgood : (Od.shape o p x).2 = 0) (hP : Shps w P p) (hT : Ints .i64 w T (Od.shape o p x).1) :
    Calls Tryz.prog 49 #[.agg #[.int .i64 o.kind, .int .i64 o.k, .int .i64 o.width, .int .i64 o.step, .int .i64 o.side, .int .i64 o.frm, .int .i64 o.to, .slice S o.s.length c], .slice P p.length d, .slice T (Od.shape o p x).1.length tc] w fun e w' => e = .returned (.int .i64 (Od.costV o p (Od.shape o p x).1)) ∧ Below w.heap.size w w' := by
  have hk0 := Blk.new w 80 #[.int .i64 o.kind, .int .i64 o.k, .int .i64 o.width, .int .i64 o.step, .int .i64 o.side, .int .i64 o.frm, .int .i64 o.to, .slice S o.s.length c]
  have hl0 : Later w (w.alloc (.cells #[.int .i64 o.kind, .int .i64 o.k, .int .i64 o.width, .int .i64 o.step, .int .i64 o.side, .int .i64 o.frm, .int .i64 o.to, .slice S o.s.length c] 80)) := (Later.refl w).alloc _
  obtain ⟨g8, g10, g11⟩ := Od.cost_parts hgood
  have hr2 := Od.shape_right hgood
  have hpr2 := (Od.shape_good hgood).2.2.2.1
  have hcb := Od.costV_bd hgood
  obtain ⟨y0, -, y2, -, -, -, -, -⟩ := op_cells hk0
  have hP1 := hP.below hl0 (Nat.le_refl _)
  have hT1 := hT.below hl0 (Nat.le_refl _)
  generalize (Od.shape o p x).1 = s at *
  have hs := Sh.prod_bd hr2
  have HP := Lib.hid hP
  have HT := Lib.hid hT
  have Hk0 := Lib.hid hk0
  have Hg8 := Lib.hid g8
  have Hg10 := Lib.hid g10
  have Hg11 := Lib.hid g11
  have Hr2 := Lib.hid hr2
  have Hpr2 := Lib.hid hpr2
  have HP1 := Lib.hid hP1
  have HT1 := Lib.hid hT1
  have Hl0 := Lib.hid hl0
  clear hP hT hk0 g8 g10 g11 hr2 hpr2 hP1 hT1 hl0
  clear hgood
  go_enter Tryz.func49, Tryz.ntmps49
  go_upto_region 1 with fail
  generalize w.alloc (.cells #[.int .i64 o.kind, .int .i64 o.k, .int .i64 o.width, .int .i64 o.step, .int .i64 o.side, .int .i64 o.frm, .int .i64 o.to, .slice S o.s.length c] 80) = w1 at *
  go_wp2_with fail
  refine (ref03_size T tc s w1 Hr2.out HT1.out).mono ?_
  rintro e w2 ⟨rfl, rfl⟩
  by_cases k8 : o.kind = 8
  · have hv : Od.costV o p s = Safe.prod (p.getD 0 []) := by unfold Od.costV; rw [if_pos k8]
    have hl := Hg8.out k8
    obtain ⟨b, off, S5, d5, rfl, -, y5, hI5, -, -⟩ := HP1.out 0 hl
    have e0 : p.getD 0 [] = p[0] := by simp [List.getD_eq_getElem?_getD, hl]
    have hr5 := Hpr2.out p[0] (List.getElem_mem hl)
    rw [e0] at hv
    rw [Nat.add_zero] at y5
    rw [k8] at y0
    generalize p[0] = t at *
    have HI5 := Lib.hid hI5
    have Hv := Lib.hid hv
    have Hr5 := Lib.hid hr5
    have Hcb := Lib.hid hcb
    clear hI5 hv hr5 hcb
    clear k8
    go_wp2_with fail
    refine (ref03_size S5 d5 t _ Hr5.out HI5.out).mono ?_
    rintro e w4 ⟨rfl, rfl⟩
    go_wp2_with fail
    go_ret
    exact ⟨by (rw [Hv.out] <;> rfl), Hl0.out⟩
  · by_cases k10 : o.kind = 10
    · obtain ⟨hl, hl2, hm1, hm2⟩ := Hg10.out k10
      obtain ⟨b, off, S5, d5, rfl, -, y5, hI5, -, -⟩ := HP1.out 0 hl
      have e0 : p.getD 0 [] = p[0] := by simp [List.getD_eq_getElem?_getD, hl]
      have hr5 := Hpr2.out p[0] (List.getElem_mem hl)
      have hbd5 := Sh.prod_bd hr5
      have hv : Od.costV o p s = Safe.prod s * (Safe.prod (p.getD 0 [])).tdiv ((p.getD 0 []).getD 0 0) := by unfold Od.costV; rw [if_neg k8, if_pos k10]
      rw [e0] at hv hl2 hm1 hm2
      rw [Nat.add_zero] at y5
      rw [k10] at y0
      generalize p[0] = t at *
      have hq1 : 0 ≤ (Safe.prod t).tdiv (t.getD 0 0) := Int.tdiv_nonneg (by omega) (by omega)
      have hq2 : (Safe.prod t).tdiv (t.getD 0 0) ≤ Safe.prod t := Int.tdiv_le_self _ (by omega)
      have hq3 : (Safe.prod t).tdiv (t.getD 0 0) = Safe.prod t / t.getD 0 0 := Int.tdiv_eq_ediv_of_nonneg (by omega)
      rw [hv] at hcb
      obtain ⟨b6, o6, rfl, -, y6⟩ := hI5 0 hl2
      rw [Nat.add_zero] at y6
      have hl20 : (0 : Int) < (t.length : Int) := by omega
      have hl0' : (0 : Int) < (p.length : Int) := by omega
      have hwr : IntKind.i64.wrap (Safe.prod s * (Safe.prod t / t.getD 0 0)) = Safe.prod s * (Safe.prod t / t.getD 0 0) := by rw [← hq3]; exact IntWalk.i64_in _ (by omega)
      have hcall := fun m => ref03_size (some ⟨b6, o6, none⟩) d5 t (w1.drewN m) hr5 hI5
      rw [hq3] at hq1 hq2 hcb hv
      generalize t.getD 0 0 = t0 at *
      generalize Safe.prod t = pt at *
      generalize Safe.prod s = ps at *
      have HI5 := Lib.hid hI5
      have Hv := Lib.hid hv
      have Hr5 := Lib.hid hr5
      have Hcall := Lib.hid hcall
      have Hq3 := Lib.hid hq3
      have Hwr := Lib.hid hwr
      clear hI5 hv hr5 hcall hq3 hwr
      clear k8 k10 hq1 hq2 hcb
      have hwr := Hwr.out
      go_wp2_with fail
      go_quiet ((go_at_call 36; refine (Hcall.out _).mono ?_; rintro e w9 ⟨rfl, rfl⟩; exact ⟨rfl, _, rfl⟩))
      go_wp2_with fail
      go_ret
      exact ⟨by (rw [Hv.out] <;> rfl), Hl0.out.drewN _⟩
    · have n8 : (o.kind == 8) = false := by simpa using k8
      have n10 : (o.kind == 10) = false := by simpa using k10
      by_cases k11 : o.kind = 11 ∨ o.kind = 12
      · obtain ⟨hm1, hm2⟩ := Hg11.out k11
        have hv : Od.costV o p s = Safe.prod s * o.width := by unfold Od.costV; rw [if_neg k8, if_neg k10, if_pos k11]
        rw [hv] at hcb
        have hwr : IntKind.i64.wrap (Safe.prod s * o.width) = Safe.prod s * o.width := IntWalk.i64_in _ (by omega)
        have Hv := Lib.hid hv
        clear hv
        clear k8 k10
        rcases k11 with k11 | k11
        all_goals
          rw [k11] at y0 n8 n10
          go_wp2_with fail
          go_ret
          exact ⟨by (rw [Hv.out] <;> rfl), Hl0.out⟩
      · have hv : Od.costV o p s = Safe.prod s := by unfold Od.costV; rw [if_neg k8, if_neg k10, if_neg k11]
        have n11 : (o.kind == 11) = false := by simp; omega
        have n12 : (o.kind == 12) = false := by simp; omega
        have Hv := Lib.hid hv
        clear hv
        clear k8 k10 k11
        go_wp2_with fail
        go_ret
        exact ⟨by (rw [Hv.out] <;> rfl), Hl0.out⟩
end Go.Proofs.YtnffjfjhbjeaiaaGreatDoor
/- A row of rows of numbers, each with memory of its own: who uses what. No program is named here. -/
namespace Go.Proofs.YtnffjfjhbjeaiaaGreatDoor
open Go.RowKit

/-- The block g is a row of rows of the call's own, apart from one another and from the blocks X. -/
def URow (X : Nat → Prop) (B : Nat) (w : World) (g : Nat) (t e : TypeId) (us : List (List Int)) : Prop :=
  X g ∧ ∃ vs : List Value, vs.length = us.length ∧ Blk w g t vs.toArray ∧
    (∀ j (hj : j < us.length) v, vs[j]? = some v → w.ownsRow B e 1 v us[j].length (us[j].map (Value.int .i64))) ∧
    (∀ (j : Nat) (v : Value) (b : Nat), vs[j]? = some v → v.ownBlock = some b → ¬ X b) ∧
    (∀ (i j : Nat) (u v : Value) (b : Nat), i ≠ j → vs[i]? = some u → vs[j]? = some v → u.ownBlock = some b → v.ownBlock ≠ some b)
section
variable {X : Nat → Prop} {B : Nat} {w w' : World} {g : Nat} {t e : TypeId} {us : List (List Int)}
theorem URow.lt (h : URow X B w g t e us) : g < w.heap.size := by obtain ⟨_, vs, _, hb, _⟩ := h; exact hb.lt
theorem URow.agree (h : URow X B w g t e us) (ha : ∀ b, b < w.heap.size → (b = g ∨ ¬ X b) → w'.heap[b]? = w.heap[b]?) : URow X B w' g t e us := by
  obtain ⟨hg, vs, hl, hk, ho, hx, hd⟩ := h
  refine ⟨hg, vs, hl, (ha g hk.lt (.inl rfl)).trans hk, fun j hj v hv => ?_, hx, hd⟩
  exact ownsRow_heap (ho j hj v hv) fun b hb => ha b ((ho j hj v hv).lt b hb).2 (.inr (hx j v b hv hb))
theorem URow.new {n : Nat} (hX : X g) (h : Blk w g t (List.replicate n (Value.slice none 0 0)).toArray) : URow X B w g t e (List.replicate n []) := by
  refine ⟨hX, List.replicate n (.slice none 0 0), by simp, h, fun j hj v hv => ?_, fun j v b hv hb => ?_, fun i j u v b _ hu _ hb => ?_⟩
  · rw [List.getElem?_replicate] at hv
    split at hv
    · injection hv with hv
      subst hv
      simpa using World.ownsRow_nil w B e 1
    · cases hv
  · rw [List.getElem?_replicate] at hv
    split at hv
    · injection hv with hv; subst hv; simp [Value.ownBlock] at hb
    · cases hv
  · rw [List.getElem?_replicate] at hu
    split at hu
    · injection hu with hu; subst hu; simp [Value.ownBlock] at hb
    · cases hu
/-- A place, and what an append there leaves. -/
theorem URow.at_ (h : URow X B w g t e us) (hlt : ∀ b, X b → b < w.heap.size) {j : Nat} (hj : j < us.length) :
    ∃ v, w.cell? ⟨g, j, none⟩ = some v ∧ w.ownsRow B e 1 v us[j].length (us[j].map (Value.int .i64)) ∧ (∀ b, v.ownBlock = some b → ¬ X b) ∧
      ∀ v' w1 x, w1.ownsRow B e 1 v' (us[j].length + 1) (us[j].map (Value.int .i64) ++ [.int .i64 x]) → w.grownBy w1 v.ownBlock → (v'.ownBlock = v.ownBlock ∨ v'.ownBlock = some w.heap.size) →
        URow X B (w1.setCell ⟨g, j, none⟩ v') g t e (us.set j (us[j] ++ [x])) := by
  obtain ⟨hg, vs, hl, hk, ho, hx, hd⟩ := h
  obtain ⟨v, hv⟩ : ∃ v, vs[j]? = some v := ⟨vs[j], List.getElem?_eq_getElem (by omega)⟩
  refine ⟨v, by rw [hk.cell j]; simpa using hv, ho j hj v hv, fun b hb => hx j v b hv hb, fun v' w1 x hown hgr hat => ?_⟩
  have hgv : some g ≠ v.ownBlock := fun h => hx j v g hv h.symm hg
  have hk1 : Blk w1 g t vs.toArray := (hgr.block g hk.lt hgv).trans hk
  have hb' : ∀ b, v'.ownBlock = some b → ¬ X b := fun b hb => by
    rcases hat with h | h
    · exact hx j v b hv (h ▸ hb)
    · rw [h] at hb; injection hb with hb; subst hb; intro hX; have := hlt _ hX; omega
  have hset : ∀ b, b ≠ g → (w1.setCell ⟨g, j, none⟩ v').heap[b]? = w1.heap[b]? := fun b hb => Below.heap_setCell w1 _ _ b hb
  refine ⟨hg, vs.set j v', by simp [hl], ?_, fun i hi u hu => ?_, fun i u b hu hb => ?_, fun i k u z b hik hu hz hb => ?_⟩
  · have := hk1.set_ j v'
    simpa using this
  · rw [List.length_set] at hi
    by_cases e : j = i
    · subst e
      rw [List.getElem?_set_self (by omega)] at hu
      injection hu with hu
      subst hu
      have := ownsRow_heap (w' := w1.setCell ⟨g, j, none⟩ v') hown fun b hb => hset b fun q => hb' b hb (q ▸ hg)
      simpa using this
    · rw [List.getElem?_set_ne e] at hu
      simp only [List.getElem_set_ne e]
      refine ownsRow_heap (ho i hi u hu) fun b hb => ?_
      rw [hset b fun q => hx i u b hu hb (q ▸ hg)]
      exact hgr.block b ((ho i hi u hu).lt b hb).2 fun q => hd i j u v b (fun q => e q.symm) hu hv hb q.symm
  · by_cases e : j = i
    · subst e
      rw [List.getElem?_set_self (by omega)] at hu
      injection hu with hu
      subst hu
      exact hb' b hb
    · rw [List.getElem?_set_ne e] at hu
      exact hx i u b hu hb
  · have hne : ∀ i' u' b', i' ≠ j → vs[i']? = some u' → u'.ownBlock = some b' → v'.ownBlock ≠ some b' := fun i' u' b' hi' hu' hb' q => by
      rcases hat with h | h
      · exact hd i' j u' v b' hi' hu' hv hb' (h ▸ q)
      · rw [h] at q
        injection q with q
        subst q
        have hi2 : i' < us.length := by
          rw [← hl]
          exact (List.getElem?_eq_some_iff.1 hu').1
        have := ((ho i' hi2 u' hu').lt _ hb').2
        omega
    by_cases e : j = i
    · subst e
      rw [List.getElem?_set_self (by omega)] at hu
      injection hu with hu
      subst hu
      rw [List.getElem?_set_ne hik] at hz
      intro q
      exact hne k z b (fun q => hik q.symm) hz q hb
    · rw [List.getElem?_set_ne e] at hu
      by_cases e2 : j = k
      · subst e2
        rw [List.getElem?_set_self (by omega)] at hz
        injection hz with hz
        subst hz
        exact hne i u b (fun q => e q.symm) hu hb
      · rw [List.getElem?_set_ne e2] at hz
        exact hd i k u z b hik hu hz hb
end
end Go.Proofs.YtnffjfjhbjeaiaaGreatDoor
/- The plain part of Kahn's order, as rows of numbers. No program is named here. -/
namespace Go.Proofs.YtnffjfjhbjeaiaaGreatDoor
namespace Kn
def wl (I : Int → List Int) (n k : Nat) (l : List Int) : List Int := (List.range (n + 1)).map fun u : Nat => ((wMid I k l (u : Int) : Nat) : Int)
def ul (I : Int → List Int) (n k : Nat) (l : List Int) : List (List Int) := (List.range (n + 1)).map fun u : Nat => uMid I k l (u : Int)
theorem wl_len (I : Int → List Int) (n k : Nat) (l : List Int) : (wl I n k l).length = n + 1 := by simp [wl]
theorem ul_len (I : Int → List Int) (n k : Nat) (l : List Int) : (ul I n k l).length = n + 1 := by simp [ul]
theorem wl_at (I : Int → List Int) (n k : Nat) (l : List Int) {u : Nat} (h : u < n + 1) : (wl I n k l)[u]? = some ((wMid I k l (u : Int) : Nat) : Int) := by simp [wl, h]
theorem ul_at (I : Int → List Int) (n k : Nat) (l : List Int) {u : Nat} (h : u < (ul I n k l).length) : (ul I n k l)[u] = uMid I k l (u : Int) := by simp [ul]
theorem wl_zero (I : Int → List Int) (n : Nat) : wl I n 0 [] = List.replicate (n + 1) 0 := by
  unfold wl
  rw [wMid_zero, List.eq_replicate_iff]
  exact ⟨by simp, fun b hb => by obtain ⟨x, _, rfl⟩ := List.mem_map.1 hb; rfl⟩
theorem ul_zero (I : Int → List Int) (n : Nat) : ul I n 0 [] = List.replicate (n + 1) [] := by
  unfold ul
  rw [uMid_zero, List.eq_replicate_iff]
  exact ⟨by simp, fun b hb => by obtain ⟨x, _, rfl⟩ := List.mem_map.1 hb; rfl⟩
theorem wl_next (I : Int → List Int) (n k : Nat) : wl I n k (I ((k : Int) + 1)) = wl I n (k + 1) [] := by unfold wl; rw [wMid_next]
theorem ul_next (I : Int → List Int) (n k : Nat) : ul I n k (I ((k : Int) + 1)) = ul I n (k + 1) [] := by unfold ul; rw [uMid_next]
theorem wl_skip (I : Int → List Int) (n k : Nat) (l : List Int) : wl I n k (l ++ [0]) = wl I n k l := by unfold wl; rw [wMid_zero_in]
theorem ul_skip (I : Int → List Int) (n k : Nat) (l : List Int) : ul I n k (l ++ [0]) = ul I n k l := by unfold ul; rw [uMid_zero_in]
theorem wl_in (I : Int → List Int) (n k : Nat) (l : List Int) {id : Int} (h : id ≠ 0) : wl I n k (l ++ [id]) = (wl I n k l).set (k + 1) (((wMid I k l ((k : Int) + 1) : Nat) : Int) + 1) := by
  apply List.ext_getElem?
  intro j
  rw [List.getElem?_set]
  by_cases hj : j < n + 1
  · rw [wl_at _ _ _ _ hj, wl_at _ _ _ _ hj, wMid_in h, wl_len]
    by_cases e : k + 1 = j
    · subst e
      simp [hj]
    · have : ((j : Nat) : Int) ≠ (k : Int) + 1 := by omega
      simp [e, this]
  · rw [List.getElem?_eq_none (by rw [wl_len]; omega), List.getElem?_eq_none (by rw [wl_len]; omega), wl_len]
    simp
    omega
theorem ul_in (I : Int → List Int) (n k : Nat) (l : List Int) {id : Int} (h : id ≠ 0) (h0 : 0 ≤ id) : ul I n k (l ++ [id]) = (ul I n k l).set id.toNat (uMid I k l id ++ [(k : Int) + 1]) := by
  apply List.ext_getElem?
  intro j
  rw [List.getElem?_set]
  unfold ul
  simp only [List.getElem?_map, List.length_map, List.length_range]
  by_cases hj : j < n + 1
  · rw [List.getElem?_range hj]
    simp only [Option.map_some]
    rw [uMid_in h]
    by_cases e : id.toNat = j
    · subst e
      have : ((id.toNat : Nat) : Int) = id := by omega
      simp [hj, this]
    · have : ((j : Nat) : Int) ≠ id := by omega
      simp [e, this]
  · rw [List.getElem?_eq_none (by simp; omega)]
    simp
    omega
theorem wMid_le {I : Int → List Int} {B : Nat} (hI : ∀ u, (I u).length ≤ B) (k : Nat) {l : List Int} (hl : l.length ≤ B) (u : Int) : wMid I k l u ≤ B := by
  unfold wMid
  split
  · rw [wt_nil]; exact Nat.le_trans (List.length_filter_le _ _) (hI u)
  · split
    · exact Nat.le_trans (List.length_filter_le _ _) hl
    · omega
theorem sum_le {B : Nat} : ∀ (l : List Nat), (∀ x ∈ l, x ≤ B) → l.sum ≤ l.length * B
  | [], _ => by simp
  | x :: r, h => by
    have h1 := h x (by simp)
    have h2 := sum_le r fun y hy => h y (by simp [hy])
    simp only [List.sum_cons, List.length_cons, Nat.succ_mul]
    omega
theorem uMid_le {I : Int → List Int} {B : Nat} (hI : ∀ u, (I u).length ≤ B) (k : Nat) {l : List Int} (hl : l.length ≤ B) (id : Int) : (uMid I k l id).length ≤ (k + 1) * B := by
  have h1 := uMid_len I k l id
  have h2 := sum_le ((ids k).map fun u => (I u).length) (B := B) fun x hx => by obtain ⟨u, _, rfl⟩ := List.mem_map.1 hx; exact hI u
  rw [List.length_map, ids_length] at h2
  rw [Nat.succ_mul]
  omega
/-- The ready ones of the first k, at the start. -/
def rk (I : Int → List Int) (k : Nat) : List Int := (ids k).filter fun u => wt I [] u == 0
theorem rk_succ (I : Int → List Int) (k : Nat) : rk I (k + 1) = if wt I [] ((k : Int) + 1) = 0 then rk I k ++ [(k : Int) + 1] else rk I k := by
  unfold rk
  rw [ids_succ, List.filter_append]
  by_cases h : wt I [] ((k : Int) + 1) = 0 <;> simp [h]
theorem rk_len (I : Int → List Int) (k : Nat) : (rk I k).length ≤ k := Nat.le_trans (List.length_filter_le _ _) (by rw [ids_length]; exact Nat.le_refl _)
theorem rk_all (I : Int → List Int) (n : Nat) : rk I n = ready I n [] := by
  unfold rk ready
  apply List.filter_congr
  intro u _
  rw [free_iff]
  simp
/-- How many ins are waited for, behind some users of the number that went out last. -/
def wm (I : Int → List Int) (n : Nat) (out a : List Int) : List Int := (List.range (n + 1)).map fun u : Nat => if u = 0 then 0 else ((mid I out a (u : Int) : Nat) : Int)
theorem wm_len (I : Int → List Int) (n : Nat) (out a : List Int) : (wm I n out a).length = n + 1 := by simp [wm]
theorem wm_at (I : Int → List Int) (n : Nat) (out a : List Int) {u : Nat} (h : u < n + 1) (h0 : u ≠ 0) : (wm I n out a)[u]? = some ((mid I out a (u : Int) : Nat) : Int) := by simp [wm, h, h0]
theorem wm_start (I : Int → List Int) (n : Nat) : wl I n n [] = wm I n [] [] := by
  unfold wl wm
  apply List.map_congr_left
  intro u hu
  have hu := List.mem_range.1 hu
  by_cases h : u = 0
  · subst h
    simp [wMid]
  · rw [wMid_end (by omega) (by omega)]
    simp [h, mid]
theorem wm_next {I : Int → List Int} {n : Nat} {out : List Int} {id : Int} (hid : id ∈ ready I n out) : wm I n out (users I n id) = wm I n (out ++ [id]) [] := by
  unfold wm
  apply List.map_congr_left
  intro u hu
  have hu := List.mem_range.1 hu
  by_cases h : u = 0
  · simp [h]
  · rw [mid_end hid (mem_ids.2 ⟨by omega, by omega⟩)]
    simp [h, mid]
theorem wm_in {I : Int → List Int} {n : Nat} {out a : List Int} {u : Int} (h0 : 1 ≤ u) : wm I n out (a ++ [u]) = (wm I n out a).set u.toNat ((mid I out (a ++ [u]) u : Nat) : Int) := by
  apply List.ext_getElem?
  intro j
  rw [List.getElem?_set, wm_len]
  by_cases hj : j < n + 1
  · by_cases e : u.toNat = j
    · subst e
      have : ((u.toNat : Nat) : Int) = u := by omega
      rw [wm_at _ _ _ _ hj (by omega), this]
      simp [hj]
    · simp only [e, if_false]
      unfold wm
      simp only [List.getElem?_map, List.getElem?_range hj, Option.map_some]
      rw [mid_other (by omega)]
  · rw [List.getElem?_eq_none (by rw [wm_len]; omega), List.getElem?_eq_none (by rw [wm_len]; omega)]
    simp
    omega
theorem count_lt {l : List Int} (h : l.Pairwise (· < ·)) (u : Int) : (∀ j (hj : j < l.length), j < l.countP (· < u) → l[j] < u) ∧ (∀ j (hj : j < l.length), l.countP (· < u) ≤ j → u ≤ l[j]) := by
  induction l with
  | nil => exact ⟨fun j hj => by simp at hj, fun j hj => by simp at hj⟩
  | cons x r ih =>
    obtain ⟨hx, hr⟩ := List.pairwise_cons.1 h
    obtain ⟨i1, i2⟩ := ih hr
    by_cases hxu : x < u
    · have hc : (x :: r).countP (· < u) = r.countP (· < u) + 1 := by rw [List.countP_cons]; simp [hxu]
      rw [hc]
      refine ⟨fun j hj hlt => ?_, fun j hj hle => ?_⟩
      · match j with
        | 0 => simpa using hxu
        | j + 1 => simpa using i1 j (by simpa using hj) (by omega)
      · match j with
        | 0 => omega
        | j + 1 => simpa using i2 j (by simpa using hj) (by omega)
    · have hz : r.countP (· < u) = 0 := by
        rw [List.countP_eq_zero]
        intro y hy
        have := hx y hy
        simp; omega
      have hc : (x :: r).countP (· < u) = 0 := by rw [List.countP_cons, hz]; simp; omega
      rw [hc]
      refine ⟨fun j hj hlt => by omega, fun j hj _ => ?_⟩
      match j with
      | 0 => simp; omega
      | j + 1 =>
        have := i2 j (by simpa using hj) (by omega)
        simpa using this
theorem midReady_sorted (I : Int → List Int) (n : Nat) (out : List Int) (id : Int) (us : List Int) : (midReady I n out id us).Pairwise (· < ·) := (ids_pairwise n).filter _
theorem midReady_len (I : Int → List Int) (n : Nat) (out : List Int) (id : Int) (us : List Int) : (midReady I n out id us).length ≤ n := Nat.le_trans (List.length_filter_le _ _) (by rw [ids_length]; exact Nat.le_refl _)
theorem ready_len (I : Int → List Int) (n : Nat) (out : List Int) : (ready I n out).length ≤ n := Nat.le_trans (List.length_filter_le _ _) (by rw [ids_length]; exact Nat.le_refl _)
theorem mid_put' {I : Int → List Int} {n : Nat} {out a b : List Int} {id u : Int} (hok : Ok I n out) (hid : id ∈ ready I n out) (hu : users I n id = a ++ u :: b) (h : mid I out (a ++ [u]) u = 0) :
    midReady I n out id (a ++ [u]) = (midReady I n out id a).take ((midReady I n out id a).countP (· < u)) ++ u :: (midReady I n out id a).drop ((midReady I n out id a).countP (· < u)) := by
  obtain ⟨h1, h2⟩ := count_lt (midReady_sorted I n out id a) u
  exact mid_put hok hid hu h h1 h2 List.countP_le_length
end Kn
end Go.Proofs.YtnffjfjhbjeaiaaGreatDoor
/- slices.Insert at []int: the library's contracts, at this program. -/
namespace Go.Proofs.YtnffjfjhbjeaiaaGreatDoor
open Go.Shelf
def insRen : Go.Shelf.Ren := ⟨fun | 21 => 118 | 27 => 143 | 28 => 144 | 35 => 155 | 39 => 159 | n => n, fun | 22 => 22 | 3 => 3 | 4 => 4 | 0 => 0 | n => n, fun | n => n⟩
theorem laysIns : Go.Proofs.Lays2.n21 Tryz.prog insRen := {
  mixed := by kernel_rfl
  f21 := Tryz.func118.trans (congrArg some (by kernel_rfl))
  f27 := Tryz.func143.trans (congrArg some (by kernel_rfl))
  f28 := Tryz.func144.trans (congrArg some (by kernel_rfl))
  f35 := Tryz.func155.trans (congrArg some (by kernel_rfl))
  f39 := Tryz.func159.trans (congrArg some (by kernel_rfl))
  t0 := Tryz.underlying0
  a0 := Tryz.isAgg0
  z0 := Tryz.sizeOf0
  v0 := Tryz.zeroValue0
  t3 := Tryz.underlying3
  a3 := Tryz.isAgg3
  z3 := Tryz.sizeOf3
  v3 := Tryz.zeroValue3
  t4 := Tryz.underlying4
  a4 := Tryz.isAgg4
  z4 := Tryz.sizeOf4
  v4 := Tryz.zeroValue4
  t22 := Tryz.underlying22
  a22 := Tryz.isAgg22
  z22 := Tryz.sizeOf22
  v22 := Tryz.zeroValue22
  i3 := by kernel_rfl }
end Go.Proofs.YtnffjfjhbjeaiaaGreatDoor
/-
  DERIVED: THE SHELF's CONTRACTS AT THIS DUMP, IN PLAIN WORDS (tools/lay-plain.mjs out of 'TryzShelf.lean', which tools/lay-shelf.mjs wrote): THE SAME DECLARATIONS UNDER THE SAME NAMES: 'import', 'namespace', 'open', 'def', 'theorem' AND NOTHING ELSE: no command of the shelf's: FOR A HAND-IN. Each laying: the table of numbers ('.._ren') and one theorem, a field a fact of the dump's own or the kernel's comparison; each contract: ONE APPLICATION.
-/
namespace Go.Proofs
open Go.Shelf
def Tryz.lays169_ren : Go.Shelf.Ren := ⟨fun | 169 => 58 | n => n, fun | 70 => 106 | 9 => 9 | 0 => 0 | 72 => 109 | 37 => 107 | 127 => 140 | 3 => 3 | 5 => 5 | n => n, fun | n => n⟩
theorem Tryz.lays169 : Go.Proofs.Lays.n169 Tryz.prog Tryz.lays169_ren := {
  mixed := by kernel_rfl
  f169 := Tryz.func58.trans (congrArg some (by kernel_rfl))
  t0 := Tryz.underlying0
  a0 := Tryz.isAgg0
  z0 := Tryz.sizeOf0
  v0 := Tryz.zeroValue0
  t3 := Tryz.underlying3
  a3 := Tryz.isAgg3
  z3 := Tryz.sizeOf3
  v3 := Tryz.zeroValue3
  t9 := Tryz.underlying9
  a9 := Tryz.isAgg9
  z9 := Tryz.sizeOf9
  v9 := Tryz.zeroValue9
  t37 := Tryz.underlying107
  a37 := Tryz.isAgg107
  z37 := Tryz.sizeOf107
  v37 := Tryz.zeroValue107
  t70 := Tryz.underlying106
  a70 := Tryz.isAgg106
  z70 := Tryz.sizeOf106
  v70 := Tryz.zeroValue106
  t72 := Tryz.underlying109
  a72 := Tryz.isAgg109
  z72 := Tryz.sizeOf109
  v72 := Tryz.zeroValue109
  t127 := Tryz.underlying140
  a127 := Tryz.isAgg140
  z127 := Tryz.sizeOf140
  v127 := Tryz.zeroValue140 }
theorem Tryz.Builder_Extra_169 : Builder.Extra Tryz.prog Tryz.lays169_ren := {
  sizeBuilder := by kernel_rfl
  liesBuilder := by kernel_rfl
  t5 := Tryz.underlying5
  a5 := Tryz.isAgg5
  z5 := Tryz.sizeOf5
  v5 := Tryz.zeroValue5
  infoByte := by kernel_rfl
  cellsByte := by kernel_rfl
  sizeByte := by kernel_rfl
  neB5 := by decide }
open Go.RowKit in
/-- (*strings.Builder).String: "String returns the accumulated string.": OF A BUILDER THAT HOLDS AT LEAST ONE BYTE. ✋ THE MODEL FREEZES THOSE BYTES IN THE BUFFER (unsafe.String): a later write INTO them ends the model's run without an answer; a later append BEHIND them goes on. The statement's order of evaluation is drawn: one draw. (LAID: no walk: one application.) -/
theorem Tryz.Builder_String (B b : Nat) (l : List UInt8) (w : World) (h : Lib.IsBuilder 109 5 B b (Lib.byteCells l) w) (h0 : l ≠ []) :
    Calls Tryz.prog 58 #[.pointer (some ⟨b, 0, none⟩)] w fun e w' => e = .returned (.string ⟨l.toArray⟩) ∧ Below B w w' := Any.Builder_String Tryz.lays169 Tryz.Builder_Extra_169 B b l w h h0
open Go.RowKit in
/-- (*strings.Builder).String OF A BUILDER THAT HOLDS NO BYTE: the empty string. (Its buffer is nil, or a row of which it has taken nothing yet; where that row has NO capacity the model lays one new block for unsafe.SliceData's 'some address'.) One draw. (LAID: no walk: one application.) -/
theorem Tryz.Builder_String_empty (B b : Nat) (w : World) (h : Lib.IsBuilder 109 5 B b [] w) (hBw : B ≤ w.heap.size) :
    Calls Tryz.prog 58 #[.pointer (some ⟨b, 0, none⟩)] w fun e w' => e = .returned (.string ⟨#[]⟩) ∧ Below B w w' := Any.Builder_String_empty Tryz.lays169 Tryz.Builder_Extra_169 B b w h hBw
open Go.RowKit in
/-- (*strings.Builder).String: "String returns the accumulated string.": WHATEVER THE BUILDER HOLDS. (LAID: no walk: one application.) -/
theorem Tryz.Builder_String_any (B b : Nat) (l : List UInt8) (w : World) (h : Lib.IsBuilder 109 5 B b (Lib.byteCells l) w) (hBw : B ≤ w.heap.size) :
    Calls Tryz.prog 58 #[.pointer (some ⟨b, 0, none⟩)] w fun e w' => e = .returned (.string ⟨l.toArray⟩) ∧ Below B w w' := Any.Builder_String_any Tryz.lays169 Tryz.Builder_Extra_169 B b l w h hBw
def Tryz.lays128_ren : Go.Shelf.Ren := ⟨fun | 128 => 79 | n => n, fun | 51 => 136 | 3 => 3 | 4 => 4 | 46 => 105 | 5 => 5 | 9 => 9 | n => n, fun | n => n⟩
theorem Tryz.lays128 : Go.Proofs.Lays.n128 Tryz.prog Tryz.lays128_ren := {
  mixed := by kernel_rfl
  f128 := Tryz.func79.trans (congrArg some (by kernel_rfl))
  t3 := Tryz.underlying3
  a3 := Tryz.isAgg3
  z3 := Tryz.sizeOf3
  v3 := Tryz.zeroValue3
  t4 := Tryz.underlying4
  a4 := Tryz.isAgg4
  z4 := Tryz.sizeOf4
  v4 := Tryz.zeroValue4
  t5 := Tryz.underlying5
  a5 := Tryz.isAgg5
  z5 := Tryz.sizeOf5
  v5 := Tryz.zeroValue5
  t9 := Tryz.underlying9
  a9 := Tryz.isAgg9
  z9 := Tryz.sizeOf9
  v9 := Tryz.zeroValue9
  t46 := Tryz.underlying105
  a46 := Tryz.isAgg105
  z46 := Tryz.sizeOf105
  v46 := Tryz.zeroValue105
  t51 := Tryz.underlying136
  a51 := Tryz.isAgg136
  z51 := Tryz.sizeOf136
  v51 := Tryz.zeroValue136 }
/-- bits.Len32: "Len32 returns the minimum number of bits required to_ represent x; the result is 0 for x == 0.": IT RETURNS 'Lib.bitLen x'; the world is as it was. ('h0', 'h1': x is a uint32.) (LAID: no walk: one application.) -/
theorem Tryz.bits_Len32 (x : Int) (w : World) (h0 : 0 ≤ x) (h1 : x ≤ 4294967295) :
    Calls Tryz.prog 79 #[.int .u32 x] w fun e w' => e = .returned (.int .i64 (Lib.bitLen x.toNat)) ∧ w' = w := Any.bits_Len32 Tryz.lays128 x w h0 h1
def Tryz.lays125_ren : Go.Shelf.Ren := ⟨fun | 125 => 52 | 128 => 79 | 129 => 80 | n => n, fun | 46 => 105 | 3 => 3 | 51 => 136 | 53 => 138 | 4 => 4 | 5 => 5 | 9 => 9 | n => n, fun | n => n⟩
theorem Tryz.lays125 : Go.Proofs.Lays.n125 Tryz.prog Tryz.lays125_ren := {
  mixed := by kernel_rfl
  f125 := Tryz.func52.trans (congrArg some (by kernel_rfl))
  f128 := Tryz.func79.trans (congrArg some (by kernel_rfl))
  f129 := Tryz.func80.trans (congrArg some (by kernel_rfl))
  t3 := Tryz.underlying3
  a3 := Tryz.isAgg3
  z3 := Tryz.sizeOf3
  v3 := Tryz.zeroValue3
  t4 := Tryz.underlying4
  a4 := Tryz.isAgg4
  z4 := Tryz.sizeOf4
  v4 := Tryz.zeroValue4
  t5 := Tryz.underlying5
  a5 := Tryz.isAgg5
  z5 := Tryz.sizeOf5
  v5 := Tryz.zeroValue5
  t9 := Tryz.underlying9
  a9 := Tryz.isAgg9
  z9 := Tryz.sizeOf9
  v9 := Tryz.zeroValue9
  t46 := Tryz.underlying105
  a46 := Tryz.isAgg105
  z46 := Tryz.sizeOf105
  v46 := Tryz.zeroValue105
  t51 := Tryz.underlying136
  a51 := Tryz.isAgg136
  z51 := Tryz.sizeOf136
  v51 := Tryz.zeroValue136
  t53 := Tryz.underlying138
  a53 := Tryz.isAgg138
  z53 := Tryz.sizeOf138
  v53 := Tryz.zeroValue138 }
/-- bits.Len: "Len returns the minimum number of bits required to_ represent x; the result is 0 for x == 0.": IT RETURNS 'Lib.bitLen x'; the world is as it was. (A uint has 64 bits in the model.) ITS CALLEE bits.Len64 IS MET BY ITS OWN CONTRACT OFF THE SHELF (lay that first). (LAID: no walk: one application.) -/
theorem Tryz.bits_Len (x : Int) (w : World) (h0 : 0 ≤ x) (h1 : x ≤ 18446744073709551615) :
    Calls Tryz.prog 52 #[.int .u64 x] w fun e w' => e = .returned (.int .i64 (Lib.bitLen x.toNat)) ∧ w' = w := Any.bits_Len Tryz.lays125 x w h0 h1
def Tryz.lays215_ren : Go.Shelf.Ren := ⟨fun | 215 => 125 | n => n, fun | 3 => 3 | 4 => 4 | n => n, fun | n => n⟩
theorem Tryz.lays215 : Go.Proofs.Lays.n215 Tryz.prog Tryz.lays215_ren := {
  mixed := by kernel_rfl
  f215 := Tryz.func125.trans (congrArg some (by kernel_rfl))
  t3 := Tryz.underlying3
  a3 := Tryz.isAgg3
  z3 := Tryz.sizeOf3
  v3 := Tryz.zeroValue3
  t4 := Tryz.underlying4
  a4 := Tryz.isAgg4
  z4 := Tryz.sizeOf4
  v4 := Tryz.zeroValue4 }
open Go.RowKit in
/-- cmp.isNaN at int: 'x != x': false. (LAID: no walk: one application.) -/
theorem Tryz.cmp_isNaN_int (x : Int) (w : World) :
    Calls Tryz.prog 125 #[.int .i64 x] w fun e w' => e = .returned (.bool false) ∧ w' = w := Any.cmp_isNaN_int Tryz.lays215 x w
open Go.RowKit in
/-- (*strings.Builder).String: "String returns the accumulated string.": OF A BUILDER THAT HOLDS AT LEAST ONE BYTE. ✋ THE MODEL FREEZES THOSE BYTES IN THE BUFFER (unsafe.String): a later write INTO them ends the model's run without an answer; a later append BEHIND them goes on. The statement's order of evaluation is drawn: one draw. THE FORM '_f': IT SAYS BESIDES THAT THE BUILDER IS A BUILDER STILL ('Lib.IsBuilderF', the same bytes): SO IT CAN BE WRITTEN ON: 'b.WriteString(b.String()[:k])'. (LAID: no walk: one application.) -/
theorem Tryz.Builder_String_f (B b : Nat) (l : List UInt8) (w : World) (h : Lib.IsBuilderF 109 5 B b (Lib.byteCells l) w) (h0 : l ≠ []) :
    Calls Tryz.prog 58 #[.pointer (some ⟨b, 0, none⟩)] w fun e w' => e = .returned (.string ⟨l.toArray⟩) ∧ (Lib.IsBuilderF 109 5 B b (Lib.byteCells l) w' ∧ Below B w w') := Any.Builder_String_f Tryz.lays169 Tryz.Builder_Extra_169 B b l w h h0
open Go.RowKit in
/-- (*strings.Builder).String OF A BUILDER THAT HOLDS NO BYTE: the empty string; THE FORM '_f': a builder still. (LAID: no walk: one application.) -/
theorem Tryz.Builder_String_empty_f (B b : Nat) (w : World) (h : Lib.IsBuilderF 109 5 B b [] w) (hBw : B ≤ w.heap.size) :
    Calls Tryz.prog 58 #[.pointer (some ⟨b, 0, none⟩)] w fun e w' => e = .returned (.string ⟨#[]⟩) ∧ (Lib.IsBuilderF 109 5 B b [] w' ∧ Below B w w') := Any.Builder_String_empty_f Tryz.lays169 Tryz.Builder_Extra_169 B b w h hBw
open Go.RowKit in
/-- (*strings.Builder).String: "String returns the accumulated string.": WHATEVER THE BUILDER HOLDS; THE FORM '_f': OF A BUILDER THAT MAY HAVE BEEN READ BEFORE; AND IT IS A BUILDER STILL, holding the same bytes: it can be written on. (LAID: no walk: one application.) -/
theorem Tryz.Builder_String_any_f (B b : Nat) (l : List UInt8) (w : World) (h : Lib.IsBuilderF 109 5 B b (Lib.byteCells l) w) (hBw : B ≤ w.heap.size) :
    Calls Tryz.prog 58 #[.pointer (some ⟨b, 0, none⟩)] w fun e w' => e = .returned (.string ⟨l.toArray⟩) ∧ (Lib.IsBuilderF 109 5 B b (Lib.byteCells l) w' ∧ Below B w w') := Any.Builder_String_any_f Tryz.lays169 Tryz.Builder_Extra_169 B b l w h hBw
open Go.RowKit in
/-- (*strings.Builder).String: "String returns the accumulated string.": OF A BUILDER THAT HOLDS AT LEAST ONE BYTE. ✋ THE MODEL FREEZES THOSE BYTES IN THE BUFFER (unsafe.String): a later write INTO them ends the model's run without an answer; a later append BEHIND them goes on. The statement's order of evaluation is drawn: one draw. THE FORM '_k': OVER 'Lib.IsBuilderF' (a builder that 'String()' may have read), AND WITH THE FRAME THAT REACHES ABOVE THE BUILDER: 'Lib.OthersKept': every block that is not b and is no row of uint8's stands as it stood: the iterator of a range among them. (LAID: no walk: one application.) -/
theorem Tryz.Builder_String_k (B b : Nat) (l : List UInt8) (w : World) (h : Lib.IsBuilderF 109 5 B b (Lib.byteCells l) w) (h0 : l ≠ []) :
    Calls Tryz.prog 58 #[.pointer (some ⟨b, 0, none⟩)] w fun e w' => e = .returned (.string ⟨l.toArray⟩) ∧ (Lib.IsBuilderF 109 5 B b (Lib.byteCells l) w' ∧ Below B w w' ∧ Lib.OthersKept 5 (some b) w w') := Any.Builder_String_k Tryz.lays169 Tryz.Builder_Extra_169 B b l w h h0
open Go.RowKit in
/-- (*strings.Builder).String OF A BUILDER THAT HOLDS NO BYTE: the empty string; THE FORM '_k': OVER 'Lib.IsBuilderF' (a builder that 'String()' may have read), AND WITH THE FRAME THAT REACHES ABOVE THE BUILDER: 'Lib.OthersKept': every block that is not b and is no row of uint8's stands as it stood: the iterator of a range among them. (LAID: no walk: one application.) -/
theorem Tryz.Builder_String_empty_k (B b : Nat) (w : World) (h : Lib.IsBuilderF 109 5 B b [] w) (hBw : B ≤ w.heap.size) :
    Calls Tryz.prog 58 #[.pointer (some ⟨b, 0, none⟩)] w fun e w' => e = .returned (.string ⟨#[]⟩) ∧ (Lib.IsBuilderF 109 5 B b [] w' ∧ Below B w w' ∧ Lib.OthersKept 5 (some b) w w') := Any.Builder_String_empty_k Tryz.lays169 Tryz.Builder_Extra_169 B b w h hBw
open Go.RowKit in
/-- (*strings.Builder).String: "String returns the accumulated string.": WHATEVER THE BUILDER HOLDS; THE FORM '_k': OVER 'Lib.IsBuilderF' (a builder that 'String()' may have read), AND WITH THE FRAME THAT REACHES ABOVE THE BUILDER: 'Lib.OthersKept': every block that is not b and is no row of uint8's stands as it stood: the iterator of a range among them. (LAID: no walk: one application.) -/
theorem Tryz.Builder_String_any_k (B b : Nat) (l : List UInt8) (w : World) (h : Lib.IsBuilderF 109 5 B b (Lib.byteCells l) w) (hBw : B ≤ w.heap.size) :
    Calls Tryz.prog 58 #[.pointer (some ⟨b, 0, none⟩)] w fun e w' => e = .returned (.string ⟨l.toArray⟩) ∧ (Lib.IsBuilderF 109 5 B b (Lib.byteCells l) w' ∧ Below B w w' ∧ Lib.OthersKept 5 (some b) w w') := Any.Builder_String_any_k Tryz.lays169 Tryz.Builder_Extra_169 B b l w h hBw
def Tryz.lays129_ren : Go.Shelf.Ren := ⟨fun | 129 => 80 | n => n, fun | 53 => 138 | 3 => 3 | 4 => 4 | 46 => 105 | 5 => 5 | 9 => 9 | n => n, fun | n => n⟩
theorem Tryz.lays129 : Go.Proofs.Lays.n129 Tryz.prog Tryz.lays129_ren := {
  mixed := by kernel_rfl
  f129 := Tryz.func80.trans (congrArg some (by kernel_rfl))
  t3 := Tryz.underlying3
  a3 := Tryz.isAgg3
  z3 := Tryz.sizeOf3
  v3 := Tryz.zeroValue3
  t4 := Tryz.underlying4
  a4 := Tryz.isAgg4
  z4 := Tryz.sizeOf4
  v4 := Tryz.zeroValue4
  t5 := Tryz.underlying5
  a5 := Tryz.isAgg5
  z5 := Tryz.sizeOf5
  v5 := Tryz.zeroValue5
  t9 := Tryz.underlying9
  a9 := Tryz.isAgg9
  z9 := Tryz.sizeOf9
  v9 := Tryz.zeroValue9
  t46 := Tryz.underlying105
  a46 := Tryz.isAgg105
  z46 := Tryz.sizeOf105
  v46 := Tryz.zeroValue105
  t53 := Tryz.underlying138
  a53 := Tryz.isAgg138
  z53 := Tryz.sizeOf138
  v53 := Tryz.zeroValue138 }
/-- bits.Len64: "Len64 returns the minimum number of bits required to_ represent x; the result is 0 for x == 0.": IT RETURNS 'Lib.bitLen x'; the world is as it was. ('h0', 'h1': x is a uint64.) (LAID: no walk: one application.) -/
theorem Tryz.bits_Len64 (x : Int) (w : World) (h0 : 0 ≤ x) (h1 : x ≤ 18446744073709551615) :
    Calls Tryz.prog 80 #[.int .u64 x] w fun e w' => e = .returned (.int .i64 (Lib.bitLen x.toNat)) ∧ w' = w := Any.bits_Len64 Tryz.lays129 x w h0 h1
def Tryz.lays317_ren : Go.Shelf.Ren := ⟨fun | 317 => 146 | n => n, fun | 3 => 3 | 46 => 105 | n => n, fun | n => n⟩
theorem Tryz.lays317 : Go.Proofs.Lays.n317 Tryz.prog Tryz.lays317_ren := {
  mixed := by kernel_rfl
  f317 := Tryz.func146.trans (congrArg some (by kernel_rfl))
  t3 := Tryz.underlying3
  a3 := Tryz.isAgg3
  z3 := Tryz.sizeOf3
  v3 := Tryz.zeroValue3
  t46 := Tryz.underlying105
  a46 := Tryz.isAgg105
  z46 := Tryz.sizeOf105
  v46 := Tryz.zeroValue105 }
open Go.Lib in
/-- internal/strconv.log10Pow2: "log10Pow2(x) returns ⌊log₁₀ 2**x⌋ = ⌊x * log₁₀ 2⌋.": '(x * 78913) >> 18', at an x up to_ 64 (a length in bits). The world is as it was. (LAID: no walk: one application.) -/
theorem Tryz.internal_strconv_log10Pow2 (x : Nat) (h : x ≤ 64) (w : World) :
    Calls Tryz.prog 146 #[.int .i64 x] w fun e w' => e = .returned (.int .i64 (Lib.l10 x)) ∧ w' = w := Any.internal_strconv_log10Pow2 Tryz.lays317 x h w
def Tryz.lays318_ren : Go.Shelf.Ren := ⟨fun | 318 => 147 | n => n, fun | 3 => 3 | 4 => 4 | n => n, fun | n => n⟩
theorem Tryz.lays318 : Go.Proofs.Lays.n318 Tryz.prog Tryz.lays318_ren := {
  mixed := by kernel_rfl
  f318 := Tryz.func147.trans (congrArg some (by kernel_rfl))
  t3 := Tryz.underlying3
  a3 := Tryz.isAgg3
  z3 := Tryz.sizeOf3
  v3 := Tryz.zeroValue3
  t4 := Tryz.underlying4
  a4 := Tryz.isAgg4
  z4 := Tryz.sizeOf4
  v4 := Tryz.zeroValue4 }
open Go.Lib in
/-- internal/strconv.bool2: "bool2 converts b to_ an integer: 1 for true, 0 for false." The world is as it was. (LAID: no walk: one application.) -/
theorem Tryz.internal_strconv_bool2_int (b : Bool) (w : World) :
    Calls Tryz.prog 147 #[.bool b] w fun e w' => e = .returned (.int .i64 (if b then 1 else 0)) ∧ w' = w := Any.internal_strconv_bool2_int Tryz.lays318 b w
def Tryz.lays283_ren : Go.Shelf.Ren := ⟨fun | 283 => 126 | n => n, fun | 3 => 3 | 9 => 9 | 4 => 4 | n => n, fun | n => n⟩
theorem Tryz.lays283 : Go.Proofs.Lays.n283 Tryz.prog Tryz.lays283_ren := {
  mixed := by kernel_rfl
  f283 := Tryz.func126.trans (congrArg some (by kernel_rfl))
  t3 := Tryz.underlying3
  a3 := Tryz.isAgg3
  z3 := Tryz.sizeOf3
  v3 := Tryz.zeroValue3
  t4 := Tryz.underlying4
  a4 := Tryz.isAgg4
  z4 := Tryz.sizeOf4
  v4 := Tryz.zeroValue4
  t9 := Tryz.underlying9
  a9 := Tryz.isAgg9
  z9 := Tryz.sizeOf9
  v9 := Tryz.zeroValue9 }
open Go.Lib in
/-- internal/strconv.small: "small returns the string for an i with 0 <= i < nSmalls.": i's decimal numeral. The world is as it was. (LAID: no walk: one application.) -/
theorem Tryz.internal_strconv_small (i : Nat) (h : i < 100) (w : World) :
    Calls Tryz.prog 126 #[.int .i64 i] w fun e w' => e = .returned (.string ⟨(Lib.decDigits i).toArray⟩) ∧ w' = w := Any.internal_strconv_small Tryz.lays283 i h w
def Tryz.laysM284_ren : Go.Shelf.Ren := ⟨fun | 284 => 127 | 129 => 80 | 317 => 146 | 318 => 147 | n => n, fun | 53 => 138 | 3 => 3 | 212 => 197 | 0 => 0 | 4 => 4 | 46 => 105 | 5 => 5 | 9 => 9 | n => n, fun | 17 => 0 | n => n⟩
theorem Tryz.laysM284 : Go.Proofs.LaysM.n284 Tryz.prog Tryz.laysM284_ren := {
  mixed := by kernel_rfl
  f129 := Tryz.func80.trans (congrArg some (by kernel_rfl))
  f284 := Tryz.func127.trans (congrArg some (by kernel_rfl))
  f317 := Tryz.func146.trans (congrArg some (by kernel_rfl))
  f318 := Tryz.func147.trans (congrArg some (by kernel_rfl))
  t0 := Tryz.underlying0
  a0 := Tryz.isAgg0
  z0 := Tryz.sizeOf0
  v0 := Tryz.zeroValue0
  t3 := Tryz.underlying3
  a3 := Tryz.isAgg3
  z3 := Tryz.sizeOf3
  v3 := Tryz.zeroValue3
  t4 := Tryz.underlying4
  a4 := Tryz.isAgg4
  z4 := Tryz.sizeOf4
  v4 := Tryz.zeroValue4
  t5 := Tryz.underlying5
  a5 := Tryz.isAgg5
  z5 := Tryz.sizeOf5
  v5 := Tryz.zeroValue5
  t9 := Tryz.underlying9
  a9 := Tryz.isAgg9
  z9 := Tryz.sizeOf9
  v9 := Tryz.zeroValue9
  t46 := Tryz.underlying105
  a46 := Tryz.isAgg105
  z46 := Tryz.sizeOf105
  v46 := Tryz.zeroValue105
  t53 := Tryz.underlying138
  a53 := Tryz.isAgg138
  z53 := Tryz.sizeOf138
  v53 := Tryz.zeroValue138
  t212 := Tryz.underlying197
  a212 := Tryz.isAgg197
  z212 := Tryz.sizeOf197
  v212 := Tryz.zeroValue197
  g17 := by kernel_rfl
  i0 := by kernel_rfl
  i3 := by kernel_rfl
  i4 := by kernel_rfl
  i5 := by kernel_rfl
  i9 := by kernel_rfl
  i46 := by kernel_rfl
  i53 := by kernel_rfl
  i212 := by kernel_rfl
  m17 := by kernel_rfl }
open Go.Lib in
/-- internal/strconv.numDigits, at a d that is not 0: THE NUMBER OF d's DECIMAL DIGITS. The world is as it was. (LAID: no walk: one application.) -/
theorem Tryz.internal_strconv_numDigits (u : Nat) (h1 : 1 ≤ u) (h2 : u < 18446744073709551616) (w : World) (htab : Lib.TabIs Tryz.prog w "internal/strconv.uint64pow10" .u64 Lib.pow10Tab) :
    Calls Tryz.prog 127 #[.int .u64 u] w fun e w' => e = .returned (.int .i64 (Lib.nDigits u)) ∧ w' = w := Any.internal_strconv_numDigits Tryz.laysM284 u h1 h2 w htab
def Tryz.lays285_ren : Go.Shelf.Ren := ⟨fun | 285 => 128 | n => n, fun | 37 => 107 | 53 => 138 | 3 => 3 | 4 => 4 | 51 => 136 | 9 => 9 | 5 => 5 | 0 => 0 | n => n, fun | n => n⟩
theorem Tryz.lays285 : Go.Proofs.Lays.n285 Tryz.prog Tryz.lays285_ren := {
  mixed := by kernel_rfl
  f285 := Tryz.func128.trans (congrArg some (by kernel_rfl))
  t0 := Tryz.underlying0
  a0 := Tryz.isAgg0
  z0 := Tryz.sizeOf0
  v0 := Tryz.zeroValue0
  t3 := Tryz.underlying3
  a3 := Tryz.isAgg3
  z3 := Tryz.sizeOf3
  v3 := Tryz.zeroValue3
  t4 := Tryz.underlying4
  a4 := Tryz.isAgg4
  z4 := Tryz.sizeOf4
  v4 := Tryz.zeroValue4
  t5 := Tryz.underlying5
  a5 := Tryz.isAgg5
  z5 := Tryz.sizeOf5
  v5 := Tryz.zeroValue5
  t9 := Tryz.underlying9
  a9 := Tryz.isAgg9
  z9 := Tryz.sizeOf9
  v9 := Tryz.zeroValue9
  t37 := Tryz.underlying107
  a37 := Tryz.isAgg107
  z37 := Tryz.sizeOf107
  v37 := Tryz.zeroValue107
  t51 := Tryz.underlying136
  a51 := Tryz.isAgg136
  z51 := Tryz.sizeOf136
  v51 := Tryz.zeroValue136
  t53 := Tryz.underlying138
  a53 := Tryz.isAgg138
  z53 := Tryz.sizeOf138
  v53 := Tryz.zeroValue138 }
open Go.RowKit Go.Sort Go.Lib in
/-- internal/strconv.formatBase10: "formatBase10 formats the decimal representation of u into a. The caller is responsible for ensuring that a is big enough to_ hold u. If a is too big, leading zeros will be filled in as needed.": THE ROW HOLDS u's DIGITS ('FmtInv .. 0 ..': every place t holds 'dg u (len - 1 - t)'); all else is as it was but for the count of draws. (LAID: no walk: one application.) -/
theorem Tryz.internal_strconv_formatBase10 (blk off cap : Nat) (u : Nat) (d : Array UInt8) (w : World) (hH : Holds (fun (b : UInt8) => Value.int .u8 (b.toNat : Int)) w blk off d) (hu : u < 10 ^ d.size) (hu64 : u < 18446744073709551616) (hsz : d.size < 4611686018427387904) :
    Calls Tryz.prog 128 #[.slice (some ⟨blk, off, none⟩) d.size cap, .int .u64 u] w fun e w' =>
      e = .returned (.tuple #[]) ∧ ∃ (n v' : Nat) (dk : Array UInt8), w' = (putRow (fun (b : UInt8) => Value.int .u8 (b.toNat : Int)) w blk off dk).drewN n ∧ FmtInv d.size u 0 v' dk := Any.internal_strconv_formatBase10 Tryz.lays285 blk off cap u d w hH hu hu64 hsz
def Tryz.laysM246_ren : Go.Shelf.Ren := ⟨fun | 246 => 110 | 283 => 126 | 284 => 127 | 285 => 128 | 286 => 129 | 129 => 80 | 317 => 146 | 318 => 147 | 319 => 148 | 320 => 149 | 337 => 156 | 338 => 157 | n => n, fun | 2 => 2 | 3 => 3 | 9 => 9 | 4 => 4 | 171 => 178 | 0 => 0 | 53 => 138 | 37 => 107 | 5 => 5 | 173 => 180 | 212 => 197 | 51 => 136 | 20 => 20 | 213 => 198 | 46 => 105 | 232 => 205 | 233 => 206 | n => n, fun | 17 => 0 | 18 => 1 | 19 => 2 | n => n⟩
theorem Tryz.laysM246 : Go.Proofs.LaysM.n246 Tryz.prog Tryz.laysM246_ren := {
  mixed := by kernel_rfl
  f129 := Tryz.func80.trans (congrArg some (by kernel_rfl))
  f246 := Tryz.func110.trans (congrArg some (by kernel_rfl))
  f283 := Tryz.func126.trans (congrArg some (by kernel_rfl))
  f284 := Tryz.func127.trans (congrArg some (by kernel_rfl))
  f285 := Tryz.func128.trans (congrArg some (by kernel_rfl))
  f286 := Tryz.func129.trans (congrArg some (by kernel_rfl))
  f317 := Tryz.func146.trans (congrArg some (by kernel_rfl))
  f318 := Tryz.func147.trans (congrArg some (by kernel_rfl))
  f319 := Tryz.func148.trans (congrArg some (by kernel_rfl))
  f320 := Tryz.func149.trans (congrArg some (by kernel_rfl))
  f337 := Tryz.func156.trans (congrArg some (by kernel_rfl))
  f338 := Tryz.func157.trans (congrArg some (by kernel_rfl))
  t0 := Tryz.underlying0
  a0 := Tryz.isAgg0
  z0 := Tryz.sizeOf0
  v0 := Tryz.zeroValue0
  t2 := Tryz.underlying2
  a2 := Tryz.isAgg2
  z2 := Tryz.sizeOf2
  v2 := Tryz.zeroValue2
  t3 := Tryz.underlying3
  a3 := Tryz.isAgg3
  z3 := Tryz.sizeOf3
  v3 := Tryz.zeroValue3
  t4 := Tryz.underlying4
  a4 := Tryz.isAgg4
  z4 := Tryz.sizeOf4
  v4 := Tryz.zeroValue4
  t5 := Tryz.underlying5
  a5 := Tryz.isAgg5
  z5 := Tryz.sizeOf5
  v5 := Tryz.zeroValue5
  t9 := Tryz.underlying9
  a9 := Tryz.isAgg9
  z9 := Tryz.sizeOf9
  v9 := Tryz.zeroValue9
  t20 := Tryz.underlying20
  a20 := Tryz.isAgg20
  z20 := Tryz.sizeOf20
  v20 := Tryz.zeroValue20
  t37 := Tryz.underlying107
  a37 := Tryz.isAgg107
  z37 := Tryz.sizeOf107
  v37 := Tryz.zeroValue107
  t46 := Tryz.underlying105
  a46 := Tryz.isAgg105
  z46 := Tryz.sizeOf105
  v46 := Tryz.zeroValue105
  t51 := Tryz.underlying136
  a51 := Tryz.isAgg136
  z51 := Tryz.sizeOf136
  v51 := Tryz.zeroValue136
  t53 := Tryz.underlying138
  a53 := Tryz.isAgg138
  z53 := Tryz.sizeOf138
  v53 := Tryz.zeroValue138
  t171 := Tryz.underlying178
  a171 := Tryz.isAgg178
  z171 := Tryz.sizeOf178
  v171 := Tryz.zeroValue178
  t173 := Tryz.underlying180
  a173 := Tryz.isAgg180
  z173 := Tryz.sizeOf180
  v173 := Tryz.zeroValue180
  t212 := Tryz.underlying197
  a212 := Tryz.isAgg197
  z212 := Tryz.sizeOf197
  v212 := Tryz.zeroValue197
  t213 := Tryz.underlying198
  a213 := Tryz.isAgg198
  z213 := Tryz.sizeOf198
  t232 := Tryz.underlying205
  a232 := Tryz.isAgg205
  z232 := Tryz.sizeOf205
  v232 := Tryz.zeroValue205
  t233 := Tryz.underlying206
  a233 := Tryz.isAgg206
  z233 := Tryz.sizeOf206
  v233 := Tryz.zeroValue206
  g17 := by kernel_rfl
  g18 := by kernel_rfl
  g19 := by kernel_rfl
  i0 := by kernel_rfl
  i2 := by kernel_rfl
  i3 := by kernel_rfl
  i4 := by kernel_rfl
  i5 := by kernel_rfl
  i9 := by kernel_rfl
  i20 := by kernel_rfl
  i37 := by kernel_rfl
  i46 := by kernel_rfl
  i51 := by kernel_rfl
  i53 := by kernel_rfl
  i171 := by kernel_rfl
  i173 := by kernel_rfl
  i212 := by kernel_rfl
  i232 := by kernel_rfl
  i233 := by kernel_rfl
  m17 := by kernel_rfl
  m18 := by kernel_rfl
  m19 := by kernel_rfl }
open Go.RowKit Go.Sort Go.Lib in
/-- internal/strconv.FormatInt: "FormatInt returns the string representation of i in the given base": AT BASE 10: i's decimal numeral, for every int64. The world behind the call: the world before it, new blocks behind the heap, draws. (LAID: no walk: one application.) -/
theorem Tryz.internal_strconv_FormatInt_10 (n : Int) (h0 : -9223372036854775808 ≤ n) (h1 : n ≤ 9223372036854775807) (w : World) (htab : Lib.TabIs Tryz.prog w "internal/strconv.uint64pow10" .u64 Lib.pow10Tab) :
    Calls Tryz.prog 110 #[.int .i64 n, .int .i64 10] w fun e w' => e = .returned (.string ⟨(Lib.itoa n).toArray⟩) ∧ ∃ k os, w' = grow (w.drewN k) os := Any.internal_strconv_FormatInt_10 Tryz.laysM246 n h0 h1 w htab
def Tryz.lays246_ren : Go.Shelf.Ren := ⟨fun | 246 => 110 | 283 => 126 | 284 => 127 | 285 => 128 | 286 => 129 | 129 => 80 | 317 => 146 | 318 => 147 | 319 => 148 | 320 => 149 | 337 => 156 | 338 => 157 | n => n, fun | 2 => 2 | 3 => 3 | 9 => 9 | 4 => 4 | 171 => 178 | 0 => 0 | 53 => 138 | 37 => 107 | 5 => 5 | 173 => 180 | 212 => 197 | 51 => 136 | 20 => 20 | 213 => 198 | 46 => 105 | 232 => 205 | 233 => 206 | n => n, fun | 17 => 0 | 18 => 1 | 19 => 2 | n => n⟩
theorem Tryz.lays246 : Go.Proofs.Lays.n246 Tryz.prog Tryz.lays246_ren := {
  mixed := by kernel_rfl
  f129 := Tryz.func80.trans (congrArg some (by kernel_rfl))
  f246 := Tryz.func110.trans (congrArg some (by kernel_rfl))
  f283 := Tryz.func126.trans (congrArg some (by kernel_rfl))
  f284 := Tryz.func127.trans (congrArg some (by kernel_rfl))
  f285 := Tryz.func128.trans (congrArg some (by kernel_rfl))
  f286 := Tryz.func129.trans (congrArg some (by kernel_rfl))
  f317 := Tryz.func146.trans (congrArg some (by kernel_rfl))
  f318 := Tryz.func147.trans (congrArg some (by kernel_rfl))
  f319 := Tryz.func148.trans (congrArg some (by kernel_rfl))
  f320 := Tryz.func149.trans (congrArg some (by kernel_rfl))
  f337 := Tryz.func156.trans (congrArg some (by kernel_rfl))
  f338 := Tryz.func157.trans (congrArg some (by kernel_rfl))
  t0 := Tryz.underlying0
  a0 := Tryz.isAgg0
  z0 := Tryz.sizeOf0
  v0 := Tryz.zeroValue0
  t2 := Tryz.underlying2
  a2 := Tryz.isAgg2
  z2 := Tryz.sizeOf2
  v2 := Tryz.zeroValue2
  t3 := Tryz.underlying3
  a3 := Tryz.isAgg3
  z3 := Tryz.sizeOf3
  v3 := Tryz.zeroValue3
  t4 := Tryz.underlying4
  a4 := Tryz.isAgg4
  z4 := Tryz.sizeOf4
  v4 := Tryz.zeroValue4
  t5 := Tryz.underlying5
  a5 := Tryz.isAgg5
  z5 := Tryz.sizeOf5
  v5 := Tryz.zeroValue5
  t9 := Tryz.underlying9
  a9 := Tryz.isAgg9
  z9 := Tryz.sizeOf9
  v9 := Tryz.zeroValue9
  t20 := Tryz.underlying20
  a20 := Tryz.isAgg20
  z20 := Tryz.sizeOf20
  v20 := Tryz.zeroValue20
  t37 := Tryz.underlying107
  a37 := Tryz.isAgg107
  z37 := Tryz.sizeOf107
  v37 := Tryz.zeroValue107
  t46 := Tryz.underlying105
  a46 := Tryz.isAgg105
  z46 := Tryz.sizeOf105
  v46 := Tryz.zeroValue105
  t51 := Tryz.underlying136
  a51 := Tryz.isAgg136
  z51 := Tryz.sizeOf136
  v51 := Tryz.zeroValue136
  t53 := Tryz.underlying138
  a53 := Tryz.isAgg138
  z53 := Tryz.sizeOf138
  v53 := Tryz.zeroValue138
  t171 := Tryz.underlying178
  a171 := Tryz.isAgg178
  z171 := Tryz.sizeOf178
  v171 := Tryz.zeroValue178
  t173 := Tryz.underlying180
  a173 := Tryz.isAgg180
  z173 := Tryz.sizeOf180
  v173 := Tryz.zeroValue180
  t212 := Tryz.underlying197
  a212 := Tryz.isAgg197
  z212 := Tryz.sizeOf197
  v212 := Tryz.zeroValue197
  t213 := Tryz.underlying198
  a213 := Tryz.isAgg198
  z213 := Tryz.sizeOf198
  t232 := Tryz.underlying205
  a232 := Tryz.isAgg205
  z232 := Tryz.sizeOf205
  v232 := Tryz.zeroValue205
  t233 := Tryz.underlying206
  a233 := Tryz.isAgg206
  z233 := Tryz.sizeOf206
  v233 := Tryz.zeroValue206
  g17 := by kernel_rfl
  g18 := by kernel_rfl
  g19 := by kernel_rfl }
open Go.RowKit Go.Sort Go.Lib in
/-- THE ROAD WITHOUT THE TABLE: 0 <= i < 100: two constants are read, nothing is laid: no premise on the world, and the world is as it was. (LAID: no walk: one application.) -/
theorem Tryz.internal_strconv_FormatInt_10_small (i : Nat) (hi : i < 100) (w : World) :
    Calls Tryz.prog 110 #[.int .i64 i, .int .i64 10] w fun e w' => e = .returned (.string ⟨(Lib.decDigits i).toArray⟩) ∧ w' = w := Any.internal_strconv_FormatInt_10_small Tryz.lays246 i hi w
def Tryz.laysM243_ren : Go.Shelf.Ren := ⟨fun | 243 => 82 | 246 => 110 | 283 => 126 | 284 => 127 | 285 => 128 | 286 => 129 | 129 => 80 | 317 => 146 | 318 => 147 | 319 => 148 | 320 => 149 | 337 => 156 | 338 => 157 | n => n, fun | 3 => 3 | 9 => 9 | 2 => 2 | 4 => 4 | 171 => 178 | 0 => 0 | 53 => 138 | 37 => 107 | 5 => 5 | 173 => 180 | 212 => 197 | 51 => 136 | 20 => 20 | 213 => 198 | 46 => 105 | 232 => 205 | 233 => 206 | n => n, fun | 17 => 0 | 18 => 1 | 19 => 2 | n => n⟩
theorem Tryz.laysM243 : Go.Proofs.LaysM.n243 Tryz.prog Tryz.laysM243_ren := {
  mixed := by kernel_rfl
  f129 := Tryz.func80.trans (congrArg some (by kernel_rfl))
  f243 := Tryz.func82.trans (congrArg some (by kernel_rfl))
  f246 := Tryz.func110.trans (congrArg some (by kernel_rfl))
  f283 := Tryz.func126.trans (congrArg some (by kernel_rfl))
  f284 := Tryz.func127.trans (congrArg some (by kernel_rfl))
  f285 := Tryz.func128.trans (congrArg some (by kernel_rfl))
  f286 := Tryz.func129.trans (congrArg some (by kernel_rfl))
  f317 := Tryz.func146.trans (congrArg some (by kernel_rfl))
  f318 := Tryz.func147.trans (congrArg some (by kernel_rfl))
  f319 := Tryz.func148.trans (congrArg some (by kernel_rfl))
  f320 := Tryz.func149.trans (congrArg some (by kernel_rfl))
  f337 := Tryz.func156.trans (congrArg some (by kernel_rfl))
  f338 := Tryz.func157.trans (congrArg some (by kernel_rfl))
  t0 := Tryz.underlying0
  a0 := Tryz.isAgg0
  z0 := Tryz.sizeOf0
  v0 := Tryz.zeroValue0
  t2 := Tryz.underlying2
  a2 := Tryz.isAgg2
  z2 := Tryz.sizeOf2
  v2 := Tryz.zeroValue2
  t3 := Tryz.underlying3
  a3 := Tryz.isAgg3
  z3 := Tryz.sizeOf3
  v3 := Tryz.zeroValue3
  t4 := Tryz.underlying4
  a4 := Tryz.isAgg4
  z4 := Tryz.sizeOf4
  v4 := Tryz.zeroValue4
  t5 := Tryz.underlying5
  a5 := Tryz.isAgg5
  z5 := Tryz.sizeOf5
  v5 := Tryz.zeroValue5
  t9 := Tryz.underlying9
  a9 := Tryz.isAgg9
  z9 := Tryz.sizeOf9
  v9 := Tryz.zeroValue9
  t20 := Tryz.underlying20
  a20 := Tryz.isAgg20
  z20 := Tryz.sizeOf20
  v20 := Tryz.zeroValue20
  t37 := Tryz.underlying107
  a37 := Tryz.isAgg107
  z37 := Tryz.sizeOf107
  v37 := Tryz.zeroValue107
  t46 := Tryz.underlying105
  a46 := Tryz.isAgg105
  z46 := Tryz.sizeOf105
  v46 := Tryz.zeroValue105
  t51 := Tryz.underlying136
  a51 := Tryz.isAgg136
  z51 := Tryz.sizeOf136
  v51 := Tryz.zeroValue136
  t53 := Tryz.underlying138
  a53 := Tryz.isAgg138
  z53 := Tryz.sizeOf138
  v53 := Tryz.zeroValue138
  t171 := Tryz.underlying178
  a171 := Tryz.isAgg178
  z171 := Tryz.sizeOf178
  v171 := Tryz.zeroValue178
  t173 := Tryz.underlying180
  a173 := Tryz.isAgg180
  z173 := Tryz.sizeOf180
  v173 := Tryz.zeroValue180
  t212 := Tryz.underlying197
  a212 := Tryz.isAgg197
  z212 := Tryz.sizeOf197
  v212 := Tryz.zeroValue197
  t213 := Tryz.underlying198
  a213 := Tryz.isAgg198
  z213 := Tryz.sizeOf198
  t232 := Tryz.underlying205
  a232 := Tryz.isAgg205
  z232 := Tryz.sizeOf205
  v232 := Tryz.zeroValue205
  t233 := Tryz.underlying206
  a233 := Tryz.isAgg206
  z233 := Tryz.sizeOf206
  v233 := Tryz.zeroValue206
  g17 := by kernel_rfl
  g18 := by kernel_rfl
  g19 := by kernel_rfl
  i0 := by kernel_rfl
  i2 := by kernel_rfl
  i3 := by kernel_rfl
  i4 := by kernel_rfl
  i5 := by kernel_rfl
  i9 := by kernel_rfl
  i20 := by kernel_rfl
  i37 := by kernel_rfl
  i46 := by kernel_rfl
  i51 := by kernel_rfl
  i53 := by kernel_rfl
  i171 := by kernel_rfl
  i173 := by kernel_rfl
  i212 := by kernel_rfl
  i232 := by kernel_rfl
  i233 := by kernel_rfl
  m17 := by kernel_rfl
  m18 := by kernel_rfl
  m19 := by kernel_rfl }
open Go.RowKit Go.Sort Go.Lib in
/-- internal/strconv.Itoa: "Itoa is equivalent to_ FormatInt(int64(i), 10).": i's decimal numeral, for every int. (LAID: no walk: one application.) -/
theorem Tryz.internal_strconv_Itoa (n : Int) (h0 : -9223372036854775808 ≤ n) (h1 : n ≤ 9223372036854775807) (w : World) (htab : Lib.TabIs Tryz.prog w "internal/strconv.uint64pow10" .u64 Lib.pow10Tab) :
    Calls Tryz.prog 82 #[.int .i64 n] w fun e w' => e = .returned (.string ⟨(Lib.itoa n).toArray⟩) ∧ ∃ k os, w' = grow (w.drewN k) os := Any.internal_strconv_Itoa Tryz.laysM243 n h0 h1 w htab
def Tryz.lays243_ren : Go.Shelf.Ren := ⟨fun | 243 => 82 | 246 => 110 | 283 => 126 | 284 => 127 | 285 => 128 | 286 => 129 | 129 => 80 | 317 => 146 | 318 => 147 | 319 => 148 | 320 => 149 | 337 => 156 | 338 => 157 | n => n, fun | 3 => 3 | 9 => 9 | 2 => 2 | 4 => 4 | 171 => 178 | 0 => 0 | 53 => 138 | 37 => 107 | 5 => 5 | 173 => 180 | 212 => 197 | 51 => 136 | 20 => 20 | 213 => 198 | 46 => 105 | 232 => 205 | 233 => 206 | n => n, fun | 17 => 0 | 18 => 1 | 19 => 2 | n => n⟩
theorem Tryz.lays243 : Go.Proofs.Lays.n243 Tryz.prog Tryz.lays243_ren := {
  mixed := by kernel_rfl
  f129 := Tryz.func80.trans (congrArg some (by kernel_rfl))
  f243 := Tryz.func82.trans (congrArg some (by kernel_rfl))
  f246 := Tryz.func110.trans (congrArg some (by kernel_rfl))
  f283 := Tryz.func126.trans (congrArg some (by kernel_rfl))
  f284 := Tryz.func127.trans (congrArg some (by kernel_rfl))
  f285 := Tryz.func128.trans (congrArg some (by kernel_rfl))
  f286 := Tryz.func129.trans (congrArg some (by kernel_rfl))
  f317 := Tryz.func146.trans (congrArg some (by kernel_rfl))
  f318 := Tryz.func147.trans (congrArg some (by kernel_rfl))
  f319 := Tryz.func148.trans (congrArg some (by kernel_rfl))
  f320 := Tryz.func149.trans (congrArg some (by kernel_rfl))
  f337 := Tryz.func156.trans (congrArg some (by kernel_rfl))
  f338 := Tryz.func157.trans (congrArg some (by kernel_rfl))
  t0 := Tryz.underlying0
  a0 := Tryz.isAgg0
  z0 := Tryz.sizeOf0
  v0 := Tryz.zeroValue0
  t2 := Tryz.underlying2
  a2 := Tryz.isAgg2
  z2 := Tryz.sizeOf2
  v2 := Tryz.zeroValue2
  t3 := Tryz.underlying3
  a3 := Tryz.isAgg3
  z3 := Tryz.sizeOf3
  v3 := Tryz.zeroValue3
  t4 := Tryz.underlying4
  a4 := Tryz.isAgg4
  z4 := Tryz.sizeOf4
  v4 := Tryz.zeroValue4
  t5 := Tryz.underlying5
  a5 := Tryz.isAgg5
  z5 := Tryz.sizeOf5
  v5 := Tryz.zeroValue5
  t9 := Tryz.underlying9
  a9 := Tryz.isAgg9
  z9 := Tryz.sizeOf9
  v9 := Tryz.zeroValue9
  t20 := Tryz.underlying20
  a20 := Tryz.isAgg20
  z20 := Tryz.sizeOf20
  v20 := Tryz.zeroValue20
  t37 := Tryz.underlying107
  a37 := Tryz.isAgg107
  z37 := Tryz.sizeOf107
  v37 := Tryz.zeroValue107
  t46 := Tryz.underlying105
  a46 := Tryz.isAgg105
  z46 := Tryz.sizeOf105
  v46 := Tryz.zeroValue105
  t51 := Tryz.underlying136
  a51 := Tryz.isAgg136
  z51 := Tryz.sizeOf136
  v51 := Tryz.zeroValue136
  t53 := Tryz.underlying138
  a53 := Tryz.isAgg138
  z53 := Tryz.sizeOf138
  v53 := Tryz.zeroValue138
  t171 := Tryz.underlying178
  a171 := Tryz.isAgg178
  z171 := Tryz.sizeOf178
  v171 := Tryz.zeroValue178
  t173 := Tryz.underlying180
  a173 := Tryz.isAgg180
  z173 := Tryz.sizeOf180
  v173 := Tryz.zeroValue180
  t212 := Tryz.underlying197
  a212 := Tryz.isAgg197
  z212 := Tryz.sizeOf197
  v212 := Tryz.zeroValue197
  t213 := Tryz.underlying198
  a213 := Tryz.isAgg198
  z213 := Tryz.sizeOf198
  t232 := Tryz.underlying205
  a232 := Tryz.isAgg205
  z232 := Tryz.sizeOf205
  v232 := Tryz.zeroValue205
  t233 := Tryz.underlying206
  a233 := Tryz.isAgg206
  z233 := Tryz.sizeOf206
  v233 := Tryz.zeroValue206
  g17 := by kernel_rfl
  g18 := by kernel_rfl
  g19 := by kernel_rfl }
open Go.RowKit Go.Sort Go.Lib in
/-- THE ROAD WITHOUT THE TABLE: 0 <= i < 100. (LAID: no walk: one application.) -/
theorem Tryz.internal_strconv_Itoa_small (i : Nat) (hi : i < 100) (w : World) :
    Calls Tryz.prog 82 #[.int .i64 i] w fun e w' => e = .returned (.string ⟨(Lib.decDigits i).toArray⟩) ∧ w' = w := Any.internal_strconv_Itoa_small Tryz.lays243 i hi w
def Tryz.laysM171_ren : Go.Shelf.Ren := ⟨fun | 171 => 57 | 243 => 82 | 246 => 110 | 283 => 126 | 284 => 127 | 285 => 128 | 286 => 129 | 129 => 80 | 317 => 146 | 318 => 147 | 319 => 148 | 320 => 149 | 337 => 156 | 338 => 157 | n => n, fun | 3 => 3 | 9 => 9 | 2 => 2 | 4 => 4 | 171 => 178 | 0 => 0 | 53 => 138 | 37 => 107 | 5 => 5 | 173 => 180 | 212 => 197 | 51 => 136 | 20 => 20 | 213 => 198 | 46 => 105 | 232 => 205 | 233 => 206 | n => n, fun | 17 => 0 | 18 => 1 | 19 => 2 | n => n⟩
theorem Tryz.laysM171 : Go.Proofs.LaysM.n171 Tryz.prog Tryz.laysM171_ren := {
  mixed := by kernel_rfl
  f129 := Tryz.func80.trans (congrArg some (by kernel_rfl))
  f171 := Tryz.func57.trans (congrArg some (by kernel_rfl))
  f243 := Tryz.func82.trans (congrArg some (by kernel_rfl))
  f246 := Tryz.func110.trans (congrArg some (by kernel_rfl))
  f283 := Tryz.func126.trans (congrArg some (by kernel_rfl))
  f284 := Tryz.func127.trans (congrArg some (by kernel_rfl))
  f285 := Tryz.func128.trans (congrArg some (by kernel_rfl))
  f286 := Tryz.func129.trans (congrArg some (by kernel_rfl))
  f317 := Tryz.func146.trans (congrArg some (by kernel_rfl))
  f318 := Tryz.func147.trans (congrArg some (by kernel_rfl))
  f319 := Tryz.func148.trans (congrArg some (by kernel_rfl))
  f320 := Tryz.func149.trans (congrArg some (by kernel_rfl))
  f337 := Tryz.func156.trans (congrArg some (by kernel_rfl))
  f338 := Tryz.func157.trans (congrArg some (by kernel_rfl))
  t0 := Tryz.underlying0
  a0 := Tryz.isAgg0
  z0 := Tryz.sizeOf0
  v0 := Tryz.zeroValue0
  t2 := Tryz.underlying2
  a2 := Tryz.isAgg2
  z2 := Tryz.sizeOf2
  v2 := Tryz.zeroValue2
  t3 := Tryz.underlying3
  a3 := Tryz.isAgg3
  z3 := Tryz.sizeOf3
  v3 := Tryz.zeroValue3
  t4 := Tryz.underlying4
  a4 := Tryz.isAgg4
  z4 := Tryz.sizeOf4
  v4 := Tryz.zeroValue4
  t5 := Tryz.underlying5
  a5 := Tryz.isAgg5
  z5 := Tryz.sizeOf5
  v5 := Tryz.zeroValue5
  t9 := Tryz.underlying9
  a9 := Tryz.isAgg9
  z9 := Tryz.sizeOf9
  v9 := Tryz.zeroValue9
  t20 := Tryz.underlying20
  a20 := Tryz.isAgg20
  z20 := Tryz.sizeOf20
  v20 := Tryz.zeroValue20
  t37 := Tryz.underlying107
  a37 := Tryz.isAgg107
  z37 := Tryz.sizeOf107
  v37 := Tryz.zeroValue107
  t46 := Tryz.underlying105
  a46 := Tryz.isAgg105
  z46 := Tryz.sizeOf105
  v46 := Tryz.zeroValue105
  t51 := Tryz.underlying136
  a51 := Tryz.isAgg136
  z51 := Tryz.sizeOf136
  v51 := Tryz.zeroValue136
  t53 := Tryz.underlying138
  a53 := Tryz.isAgg138
  z53 := Tryz.sizeOf138
  v53 := Tryz.zeroValue138
  t171 := Tryz.underlying178
  a171 := Tryz.isAgg178
  z171 := Tryz.sizeOf178
  v171 := Tryz.zeroValue178
  t173 := Tryz.underlying180
  a173 := Tryz.isAgg180
  z173 := Tryz.sizeOf180
  v173 := Tryz.zeroValue180
  t212 := Tryz.underlying197
  a212 := Tryz.isAgg197
  z212 := Tryz.sizeOf197
  v212 := Tryz.zeroValue197
  t213 := Tryz.underlying198
  a213 := Tryz.isAgg198
  z213 := Tryz.sizeOf198
  t232 := Tryz.underlying205
  a232 := Tryz.isAgg205
  z232 := Tryz.sizeOf205
  v232 := Tryz.zeroValue205
  t233 := Tryz.underlying206
  a233 := Tryz.isAgg206
  z233 := Tryz.sizeOf206
  v233 := Tryz.zeroValue206
  g17 := by kernel_rfl
  g18 := by kernel_rfl
  g19 := by kernel_rfl
  i0 := by kernel_rfl
  i2 := by kernel_rfl
  i3 := by kernel_rfl
  i4 := by kernel_rfl
  i5 := by kernel_rfl
  i9 := by kernel_rfl
  i20 := by kernel_rfl
  i37 := by kernel_rfl
  i46 := by kernel_rfl
  i51 := by kernel_rfl
  i53 := by kernel_rfl
  i171 := by kernel_rfl
  i173 := by kernel_rfl
  i212 := by kernel_rfl
  i232 := by kernel_rfl
  i233 := by kernel_rfl
  m17 := by kernel_rfl
  m18 := by kernel_rfl
  m19 := by kernel_rfl }
open Go.RowKit Go.Sort Go.Lib in
/-- strconv.Itoa: "Itoa is equivalent to_ FormatInt(int64(i), 10).": i's DECIMAL NUMERAL ('Lib.itoa': a '-' where i is negative, then the digits), FOR EVERY int. The world behind the call: the world before it, new blocks behind the heap (the library's 'var a [24]byte'), draws. (LAID: no walk: one application.) -/
theorem Tryz.strconv_Itoa (n : Int) (h0 : -9223372036854775808 ≤ n) (h1 : n ≤ 9223372036854775807) (w : World) (htab : Lib.TabIs Tryz.prog w "internal/strconv.uint64pow10" .u64 Lib.pow10Tab) :
    Calls Tryz.prog 57 #[.int .i64 n] w fun e w' => e = .returned (.string ⟨(Lib.itoa n).toArray⟩) ∧ ∃ k os, w' = grow (w.drewN k) os := Any.strconv_Itoa Tryz.laysM171 n h0 h1 w htab
def Tryz.lays171_ren : Go.Shelf.Ren := ⟨fun | 171 => 57 | 243 => 82 | 246 => 110 | 283 => 126 | 284 => 127 | 285 => 128 | 286 => 129 | 129 => 80 | 317 => 146 | 318 => 147 | 319 => 148 | 320 => 149 | 337 => 156 | 338 => 157 | n => n, fun | 3 => 3 | 9 => 9 | 2 => 2 | 4 => 4 | 171 => 178 | 0 => 0 | 53 => 138 | 37 => 107 | 5 => 5 | 173 => 180 | 212 => 197 | 51 => 136 | 20 => 20 | 213 => 198 | 46 => 105 | 232 => 205 | 233 => 206 | n => n, fun | 17 => 0 | 18 => 1 | 19 => 2 | n => n⟩
theorem Tryz.lays171 : Go.Proofs.Lays.n171 Tryz.prog Tryz.lays171_ren := {
  mixed := by kernel_rfl
  f129 := Tryz.func80.trans (congrArg some (by kernel_rfl))
  f171 := Tryz.func57.trans (congrArg some (by kernel_rfl))
  f243 := Tryz.func82.trans (congrArg some (by kernel_rfl))
  f246 := Tryz.func110.trans (congrArg some (by kernel_rfl))
  f283 := Tryz.func126.trans (congrArg some (by kernel_rfl))
  f284 := Tryz.func127.trans (congrArg some (by kernel_rfl))
  f285 := Tryz.func128.trans (congrArg some (by kernel_rfl))
  f286 := Tryz.func129.trans (congrArg some (by kernel_rfl))
  f317 := Tryz.func146.trans (congrArg some (by kernel_rfl))
  f318 := Tryz.func147.trans (congrArg some (by kernel_rfl))
  f319 := Tryz.func148.trans (congrArg some (by kernel_rfl))
  f320 := Tryz.func149.trans (congrArg some (by kernel_rfl))
  f337 := Tryz.func156.trans (congrArg some (by kernel_rfl))
  f338 := Tryz.func157.trans (congrArg some (by kernel_rfl))
  t0 := Tryz.underlying0
  a0 := Tryz.isAgg0
  z0 := Tryz.sizeOf0
  v0 := Tryz.zeroValue0
  t2 := Tryz.underlying2
  a2 := Tryz.isAgg2
  z2 := Tryz.sizeOf2
  v2 := Tryz.zeroValue2
  t3 := Tryz.underlying3
  a3 := Tryz.isAgg3
  z3 := Tryz.sizeOf3
  v3 := Tryz.zeroValue3
  t4 := Tryz.underlying4
  a4 := Tryz.isAgg4
  z4 := Tryz.sizeOf4
  v4 := Tryz.zeroValue4
  t5 := Tryz.underlying5
  a5 := Tryz.isAgg5
  z5 := Tryz.sizeOf5
  v5 := Tryz.zeroValue5
  t9 := Tryz.underlying9
  a9 := Tryz.isAgg9
  z9 := Tryz.sizeOf9
  v9 := Tryz.zeroValue9
  t20 := Tryz.underlying20
  a20 := Tryz.isAgg20
  z20 := Tryz.sizeOf20
  v20 := Tryz.zeroValue20
  t37 := Tryz.underlying107
  a37 := Tryz.isAgg107
  z37 := Tryz.sizeOf107
  v37 := Tryz.zeroValue107
  t46 := Tryz.underlying105
  a46 := Tryz.isAgg105
  z46 := Tryz.sizeOf105
  v46 := Tryz.zeroValue105
  t51 := Tryz.underlying136
  a51 := Tryz.isAgg136
  z51 := Tryz.sizeOf136
  v51 := Tryz.zeroValue136
  t53 := Tryz.underlying138
  a53 := Tryz.isAgg138
  z53 := Tryz.sizeOf138
  v53 := Tryz.zeroValue138
  t171 := Tryz.underlying178
  a171 := Tryz.isAgg178
  z171 := Tryz.sizeOf178
  v171 := Tryz.zeroValue178
  t173 := Tryz.underlying180
  a173 := Tryz.isAgg180
  z173 := Tryz.sizeOf180
  v173 := Tryz.zeroValue180
  t212 := Tryz.underlying197
  a212 := Tryz.isAgg197
  z212 := Tryz.sizeOf197
  v212 := Tryz.zeroValue197
  t213 := Tryz.underlying198
  a213 := Tryz.isAgg198
  z213 := Tryz.sizeOf198
  t232 := Tryz.underlying205
  a232 := Tryz.isAgg205
  z232 := Tryz.sizeOf205
  v232 := Tryz.zeroValue205
  t233 := Tryz.underlying206
  a233 := Tryz.isAgg206
  z233 := Tryz.sizeOf206
  v233 := Tryz.zeroValue206
  g17 := by kernel_rfl
  g18 := by kernel_rfl
  g19 := by kernel_rfl }
open Go.RowKit Go.Sort Go.Lib in
/-- THE ROAD WITHOUT THE TABLE: 0 <= i < 100: NO PREMISE ON THE WORLD, AND THE WORLD IS AS IT WAS: a row that keeps its argument in that range need list no table ('laid = []'). (LAID: no walk: one application.) -/
theorem Tryz.strconv_Itoa_small (i : Nat) (hi : i < 100) (w : World) :
    Calls Tryz.prog 57 #[.int .i64 i] w fun e w' => e = .returned (.string ⟨(Lib.decDigits i).toArray⟩) ∧ w' = w := Any.strconv_Itoa_small Tryz.lays171 i hi w
def Tryz.lays189_ren : Go.Shelf.Ren := ⟨fun | 189 => 51 | 125 => 52 | 257 => 78 | 128 => 79 | 129 => 80 | 294 => 100 | 295 => 101 | 296 => 102 | 297 => 103 | 298 => 104 | 299 => 105 | 216 => 106 | 300 => 107 | 301 => 108 | 328 => 120 | 329 => 121 | 330 => 122 | 331 => 123 | 332 => 124 | 215 => 125 | 343 => 145 | n => n, fun | 28 => 22 | 3 => 3 | 46 => 105 | 0 => 0 | 51 => 136 | 53 => 138 | 4 => 4 | 183 => 155 | 182 => 154 | 131 => 151 | 5 => 5 | 9 => 9 | 218 => 172 | 222 => 176 | 228 => 194 | 229 => 119 | n => n, fun | n => n⟩
theorem Tryz.lays189 : Go.Proofs.Lays.n189 Tryz.prog Tryz.lays189_ren := {
  mixed := by kernel_rfl
  f125 := Tryz.func52.trans (congrArg some (by kernel_rfl))
  f128 := Tryz.func79.trans (congrArg some (by kernel_rfl))
  f129 := Tryz.func80.trans (congrArg some (by kernel_rfl))
  f189 := Tryz.func51.trans (congrArg some (by kernel_rfl))
  f215 := Tryz.func125.trans (congrArg some (by kernel_rfl))
  f216 := Tryz.func106.trans (congrArg some (by kernel_rfl))
  f257 := Tryz.func78.trans (congrArg some (by kernel_rfl))
  f294 := Tryz.func100.trans (congrArg some (by kernel_rfl))
  f295 := Tryz.func101.trans (congrArg some (by kernel_rfl))
  f296 := Tryz.func102.trans (congrArg some (by kernel_rfl))
  f297 := Tryz.func103.trans (congrArg some (by kernel_rfl))
  f298 := Tryz.func104.trans (congrArg some (by kernel_rfl))
  f299 := Tryz.func105.trans (congrArg some (by kernel_rfl))
  f300 := Tryz.func107.trans (congrArg some (by kernel_rfl))
  f301 := Tryz.func108.trans (congrArg some (by kernel_rfl))
  f328 := Tryz.func120.trans (congrArg some (by kernel_rfl))
  f329 := Tryz.func121.trans (congrArg some (by kernel_rfl))
  f330 := Tryz.func122.trans (congrArg some (by kernel_rfl))
  f331 := Tryz.func123.trans (congrArg some (by kernel_rfl))
  f332 := Tryz.func124.trans (congrArg some (by kernel_rfl))
  f343 := Tryz.func145.trans (congrArg some (by kernel_rfl))
  t0 := Tryz.underlying0
  a0 := Tryz.isAgg0
  z0 := Tryz.sizeOf0
  v0 := Tryz.zeroValue0
  t3 := Tryz.underlying3
  a3 := Tryz.isAgg3
  z3 := Tryz.sizeOf3
  v3 := Tryz.zeroValue3
  t4 := Tryz.underlying4
  a4 := Tryz.isAgg4
  z4 := Tryz.sizeOf4
  v4 := Tryz.zeroValue4
  t5 := Tryz.underlying5
  a5 := Tryz.isAgg5
  z5 := Tryz.sizeOf5
  v5 := Tryz.zeroValue5
  t9 := Tryz.underlying9
  a9 := Tryz.isAgg9
  z9 := Tryz.sizeOf9
  v9 := Tryz.zeroValue9
  t28 := Tryz.underlying22
  a28 := Tryz.isAgg22
  z28 := Tryz.sizeOf22
  v28 := Tryz.zeroValue22
  t46 := Tryz.underlying105
  a46 := Tryz.isAgg105
  z46 := Tryz.sizeOf105
  v46 := Tryz.zeroValue105
  t51 := Tryz.underlying136
  a51 := Tryz.isAgg136
  z51 := Tryz.sizeOf136
  v51 := Tryz.zeroValue136
  t53 := Tryz.underlying138
  a53 := Tryz.isAgg138
  z53 := Tryz.sizeOf138
  v53 := Tryz.zeroValue138
  t131 := Tryz.underlying151
  a131 := Tryz.isAgg151
  z131 := Tryz.sizeOf151
  v131 := Tryz.zeroValue151
  t182 := Tryz.underlying154
  a182 := Tryz.isAgg154
  z182 := Tryz.sizeOf154
  v182 := Tryz.zeroValue154
  t183 := Tryz.underlying155
  a183 := Tryz.isAgg155
  z183 := Tryz.sizeOf155
  v183 := Tryz.zeroValue155
  t218 := Tryz.underlying172
  a218 := Tryz.isAgg172
  z218 := Tryz.sizeOf172
  v218 := Tryz.zeroValue172
  t222 := Tryz.underlying176
  a222 := Tryz.isAgg176
  z222 := Tryz.sizeOf176
  v222 := Tryz.zeroValue176
  t228 := Tryz.underlying194
  a228 := Tryz.isAgg194
  z228 := Tryz.sizeOf194
  v228 := Tryz.zeroValue194
  t229 := Tryz.underlying119
  a229 := Tryz.isAgg119
  z229 := Tryz.sizeOf119
  v229 := Tryz.zeroValue119 }
open Go.Sort Go.RowKit in
theorem Tryz.slices_Sort_int (blk off cap : Nat) (zs : List Int) (w : World) (hH : Holds (Value.int .i64) w blk off zs.toArray) (hblk : blk < w.heap.size) (hsz : zs.length < 4611686018427387904) :
    Calls Tryz.prog 51 #[.slice (some ⟨blk, off, none⟩) zs.length cap] w fun e w' =>
      e = .returned (.tuple #[]) ∧ ∃ n os, w' = grow (putRow (Value.int .i64) (Sort.ahead w n) blk off (zs.mergeSort fun x y => decide (x ≤ y)).toArray) os := Any.slices_Sort_int Tryz.lays189 blk off cap zs w hH hblk hsz
def Tryz.lays108_ren : Go.Shelf.Ren := ⟨fun | 108 => 113 | n => n, fun | 28 => 22 | 3 => 3 | 0 => 0 | 4 => 4 | n => n, fun | n => n⟩
theorem Tryz.lays108 : Go.Proofs.Lays.n108 Tryz.prog Tryz.lays108_ren := {
  mixed := by kernel_rfl
  f108 := Tryz.func113.trans (congrArg some (by kernel_rfl))
  t0 := Tryz.underlying0
  a0 := Tryz.isAgg0
  z0 := Tryz.sizeOf0
  v0 := Tryz.zeroValue0
  t3 := Tryz.underlying3
  a3 := Tryz.isAgg3
  z3 := Tryz.sizeOf3
  v3 := Tryz.zeroValue3
  t4 := Tryz.underlying4
  a4 := Tryz.isAgg4
  z4 := Tryz.sizeOf4
  v4 := Tryz.zeroValue4
  t28 := Tryz.underlying22
  a28 := Tryz.isAgg22
  z28 := Tryz.sizeOf22
  v28 := Tryz.zeroValue22 }
open Go.Lib in
/-- slices.Index at []int: "Index returns the index of the first occurrence of v in s, or -1 if not present.": IT RETURNS 'Lib.idxOf (the elements) v'; the world is as it was. 'zs': what the cells behind the slice's address hold (its spare capacity too, if you have it); 'zs.take n': its elements. (LAID: no walk: one application.) -/
theorem Tryz.slices_Index_int (b off n c : Nat) (zs : List Int) (x : Int) (w : World) (hz : n ≤ zs.length) (hbig : n ≤ 9223372036854775807) (hc : ∀ j, j < zs.length → w.cell? ⟨b, off + j, none⟩ = some (.int .i64 (zs.getD j 0))) :
    Calls Tryz.prog 113 #[.slice (some ⟨b, off, none⟩) n c, .int .i64 x] w fun e w' => e = .returned (.int .i64 (Lib.idxOf (zs.take n) x)) ∧ w' = w := Any.slices_Index_int Tryz.lays108 b off n c zs x w hz hbig hc
open Go.Lib in
/-- The same at a slice of length 0, a nil one too: no cell is known, none is asked for. (LAID: no walk: one application.) -/
theorem Tryz.slices_Index_int_empty (a : Option Addr) (c : Nat) (x : Int) (w : World) :
    Calls Tryz.prog 113 #[.slice a 0 c, .int .i64 x] w fun e w' => e = .returned (.int .i64 (Lib.idxOf [] x)) ∧ w' = w := Any.slices_Index_int_empty Tryz.lays108 a c x w
def Tryz.lays107_ren : Go.Shelf.Ren := ⟨fun | 107 => 91 | 108 => 113 | n => n, fun | 28 => 22 | 3 => 3 | 4 => 4 | 0 => 0 | n => n, fun | n => n⟩
theorem Tryz.lays107 : Go.Proofs.Lays.n107 Tryz.prog Tryz.lays107_ren := {
  mixed := by kernel_rfl
  f107 := Tryz.func91.trans (congrArg some (by kernel_rfl))
  f108 := Tryz.func113.trans (congrArg some (by kernel_rfl))
  t0 := Tryz.underlying0
  a0 := Tryz.isAgg0
  z0 := Tryz.sizeOf0
  v0 := Tryz.zeroValue0
  t3 := Tryz.underlying3
  a3 := Tryz.isAgg3
  z3 := Tryz.sizeOf3
  v3 := Tryz.zeroValue3
  t4 := Tryz.underlying4
  a4 := Tryz.isAgg4
  z4 := Tryz.sizeOf4
  v4 := Tryz.zeroValue4
  t28 := Tryz.underlying22
  a28 := Tryz.isAgg22
  z28 := Tryz.sizeOf22
  v28 := Tryz.zeroValue22 }
open Go.Lib in
/-- slices.Contains at []int: "Contains reports whether v is present in s.": IT RETURNS 'elements.contains v'; the world is as it was. ITS CALLEE slices.Index IS MET BY ITS OWN CONTRACT OFF THE SHELF (lay that first): no loop is walked here. (LAID: no walk: one application.) -/
theorem Tryz.slices_Contains_int (b off n c : Nat) (zs : List Int) (x : Int) (w : World) (hz : n ≤ zs.length) (hbig : n ≤ 9223372036854775807) (hc : ∀ j, j < zs.length → w.cell? ⟨b, off + j, none⟩ = some (.int .i64 (zs.getD j 0))) :
    Calls Tryz.prog 91 #[.slice (some ⟨b, off, none⟩) n c, .int .i64 x] w fun e w' => e = .returned (.bool ((zs.take n).contains x)) ∧ w' = w := Any.slices_Contains_int Tryz.lays107 b off n c zs x w hz hbig hc
open Go.Lib in
/-- The same at a slice of length 0, a nil one too. (LAID: no walk: one application.) -/
theorem Tryz.slices_Contains_int_empty (a : Option Addr) (c : Nat) (x : Int) (w : World) :
    Calls Tryz.prog 91 #[.slice a 0 c, .int .i64 x] w fun e w' => e = .returned (.bool false) ∧ w' = w := Any.slices_Contains_int_empty Tryz.lays107 a c x w
def Tryz.lays112_ren : Go.Shelf.Ren := ⟨fun | 112 => 159 | n => n, fun | 28 => 22 | 3 => 3 | 4 => 4 | 0 => 0 | n => n, fun | n => n⟩
theorem Tryz.lays112 : Go.Proofs.Lays.n112 Tryz.prog Tryz.lays112_ren := {
  mixed := by kernel_rfl
  f112 := Tryz.func159.trans (congrArg some (by kernel_rfl))
  t0 := Tryz.underlying0
  a0 := Tryz.isAgg0
  z0 := Tryz.sizeOf0
  v0 := Tryz.zeroValue0
  t3 := Tryz.underlying3
  a3 := Tryz.isAgg3
  z3 := Tryz.sizeOf3
  v3 := Tryz.zeroValue3
  t4 := Tryz.underlying4
  a4 := Tryz.isAgg4
  z4 := Tryz.sizeOf4
  v4 := Tryz.zeroValue4
  t28 := Tryz.underlying22
  a28 := Tryz.isAgg22
  z28 := Tryz.sizeOf22
  v28 := Tryz.zeroValue22 }
open Go.RowKit Go.Lib Go.Sort in
/-- slices.Reverse at []int, over an array: Go's loop from the two ends inward is walked; it makes 'Sort.reverseLoop 0 (len - 1)', which is 'Array.reverse' (Derived/Lib/SlicesMore.lean). (LAID: no walk: one application.) -/
theorem Tryz.slices_Reverse_int_arr (blk off cap : Nat) (d : Array Int) (w : World) (hH : Holds encI w blk off d) (hsz : d.size ≤ 9223372036854775807) :
    Calls Tryz.prog 159 #[.slice (some ⟨blk, off, none⟩) d.size cap] w fun e w' => e = .returned (.tuple #[]) ∧ ∃ n, w' = putRow encI (Sort.ahead w n) blk off d.reverse := Any.slices_Reverse_int_arr Tryz.lays112 blk off cap d w hH hsz
open Go.RowKit Go.Lib Go.Sort in
/-- slices.Reverse at []int: "Reverse reverses the elements of the slice in place.": THE SLICE's CELLS HOLD 'zs.reverse' BEHIND THE CALL; all else is as it was, but for the count of draws (the exchange 's[i], s[j] = s[j], s[i]' draws its order, once a round). IN THE WORDS OF slices.Sort's CONTRACT: 'Holds': the cells hold zs and none is frozen; 'putRow': the world with those cells holding another array. A slice of length 0 that is not nil is among them ('zs = []'); nil: '.._nil'. (LAID: no walk: one application.) -/
theorem Tryz.slices_Reverse_int (blk off cap : Nat) (zs : List Int) (w : World) (hH : Holds (Value.int .i64) w blk off zs.toArray) (hsz : zs.length ≤ 9223372036854775807) :
    Calls Tryz.prog 159 #[.slice (some ⟨blk, off, none⟩) zs.length cap] w fun e w' => e = .returned (.tuple #[]) ∧ ∃ n, w' = putRow (Value.int .i64) (Sort.ahead w n) blk off zs.reverse.toArray := Any.slices_Reverse_int Tryz.lays112 blk off cap zs w hH hsz
open Go.RowKit Go.Lib Go.Sort in
/-- The same at a slice of length 0, a nil one too: nothing is read, nothing written, nothing drawn. (LAID: no walk: one application.) -/
theorem Tryz.slices_Reverse_int_empty (a : Option Addr) (cap : Nat) (w : World) :
    Calls Tryz.prog 159 #[.slice a 0 cap] w fun e w' => e = .returned (.tuple #[]) ∧ w' = w := Any.slices_Reverse_int_empty Tryz.lays112 a cap w
def Tryz.laysNm215_ren : Go.Shelf.Ren := ⟨fun | 15 => 70 | n => n, fun | 22 => 22 | 3 => 3 | 4 => 4 | n => n, fun | n => n⟩
theorem Tryz.laysNm215 : Go.Proofs.Lays2.n15 Tryz.prog Tryz.laysNm215_ren := {
  mixed := by kernel_rfl
  f15 := Tryz.func70.trans (congrArg some (by kernel_rfl))
  t3 := Tryz.underlying3
  a3 := Tryz.isAgg3
  z3 := Tryz.sizeOf3
  v3 := Tryz.zeroValue3
  t4 := Tryz.underlying4
  a4 := Tryz.isAgg4
  z4 := Tryz.sizeOf4
  v4 := Tryz.zeroValue4
  t22 := Tryz.underlying22
  a22 := Tryz.isAgg22
  z22 := Tryz.sizeOf22
  v22 := Tryz.zeroValue22
  i3 := by kernel_rfl }
open Go.RowKit Go.Lib in
/-- slices.Clone at []int: "Clone returns a copy of the slice. The elements are copied using assignment, so this is a shallow clone. The result may have additional unused capacity. The result preserves the nilness of s.": OF A SLICE THAT IS NOT nil IT RETURNS A SLICE THAT IS NOT nil, OF THE SAME ELEMENTS, IN MEMORY OF THE CALL's OWN: in the how-to's words (6f): 'w'.ownsRow B e 1 v' n cells': v' begins at the head of a row among the blocks from B on (B: the heap's size at the call), not frozen, whose first cells are the elements · 'Below B w w'': below B all is as it was. The capacity is whatever the run-time gives. 'zs': what the cells behind the slice's address hold; 'zs.take n': its elements. (LAID: no walk: one application.) -/
theorem Tryz.slices_Clone_int (b off n c : Nat) (zs : List Int) (w : World) (hz : n ≤ zs.length) (hbig : n * 8 ≤ 140737488355328) (hc : ∀ j, j < zs.length → w.cell? ⟨b, off + j, none⟩ = some (.int .i64 (zs.getD j 0))) :
    Calls Tryz.prog 70 #[.slice (some ⟨b, off, none⟩) n c] w fun e w' => ∃ v', e = .returned v' ∧ w'.ownsRow w.heap.size 3 1 v' n ((zs.take n).map (Value.int .i64)) ∧ v' ≠ .slice none 0 0 ∧ Below w.heap.size w w' := Any.slices_Clone_int Tryz.laysNm215 b off n c zs w hz hbig hc
open Go.RowKit Go.Lib in
/-- The same at nil: nil comes back; the world is as it was. (LAID: no walk: one application.) -/
theorem Tryz.slices_Clone_int_nil (n c : Nat) (w : World) :
    Calls Tryz.prog 70 #[.slice none n c] w fun e w' => e = .returned (.slice none 0 0) ∧ w' = w := Any.slices_Clone_int_nil Tryz.laysNm215 n c w
open Go.RowKit Go.Lib in
/-- The same at a slice of length 0 that is not nil, WHATEVER ITS ADDRESS (no cell is asked for): a slice that is not nil and owns nothing comes back. (LAID: no walk: one application.) -/
theorem Tryz.slices_Clone_int_zero (a : Addr) (c : Nat) (w : World) :
    Calls Tryz.prog 70 #[.slice (some a) 0 c] w fun e w' => ∃ v', e = .returned v' ∧ w'.ownsRow w.heap.size 3 1 v' 0 [] ∧ v' ≠ .slice none 0 0 ∧ Below w.heap.size w w' := Any.slices_Clone_int_zero Tryz.laysNm215 a c w
def Tryz.laysNm237_ren : Go.Shelf.Ren := ⟨fun | 37 => 125 | n => n, fun | 3 => 3 | 4 => 4 | n => n, fun | n => n⟩
theorem Tryz.laysNm237 : Go.Proofs.Lays2.n37 Tryz.prog Tryz.laysNm237_ren := {
  mixed := by kernel_rfl
  f37 := Tryz.func125.trans (congrArg some (by kernel_rfl))
  t3 := Tryz.underlying3
  a3 := Tryz.isAgg3
  z3 := Tryz.sizeOf3
  v3 := Tryz.zeroValue3
  t4 := Tryz.underlying4
  a4 := Tryz.isAgg4
  z4 := Tryz.sizeOf4
  v4 := Tryz.zeroValue4 }
open Go.RowKit Go.Lib in
/-- cmp.isNaN[int]: 'x != x': false. (LAID: no walk: one application.) -/
theorem Tryz.cmp_isNaN_int2 (x : Int) (w : World) :
    Calls Tryz.prog 125 #[.int .i64 x] w fun e w' => e = .returned (.bool false) ∧ w' = w := Any.cmp_isNaN_int2 Tryz.laysNm237 x w
def Tryz.laysNm232_ren : Go.Shelf.Ren := ⟨fun | 32 => 142 | n => n, fun | 3 => 3 | 4 => 4 | n => n, fun | n => n⟩
theorem Tryz.laysNm232 : Go.Proofs.Lays2.n32 Tryz.prog Tryz.laysNm232_ren := {
  mixed := by kernel_rfl
  f32 := Tryz.func142.trans (congrArg some (by kernel_rfl))
  t3 := Tryz.underlying3
  a3 := Tryz.isAgg3
  z3 := Tryz.sizeOf3
  v3 := Tryz.zeroValue3
  t4 := Tryz.underlying4
  a4 := Tryz.isAgg4
  z4 := Tryz.sizeOf4
  v4 := Tryz.zeroValue4 }
open Go.RowKit Go.Lib in
/-- slices.isNaN[int]: 'x != x': false. (LAID: no walk: one application.) -/
theorem Tryz.slices_isNaN_int2 (x : Int) (w : World) :
    Calls Tryz.prog 142 #[.int .i64 x] w fun e w' => e = .returned (.bool false) ∧ w' = w := Any.slices_isNaN_int2 Tryz.laysNm232 x w
def Tryz.laysNm231_ren : Go.Shelf.Ren := ⟨fun | 31 => 106 | 37 => 125 | n => n, fun | 3 => 3 | 4 => 4 | n => n, fun | n => n⟩
theorem Tryz.laysNm231 : Go.Proofs.Lays2.n31 Tryz.prog Tryz.laysNm231_ren := {
  mixed := by kernel_rfl
  f31 := Tryz.func106.trans (congrArg some (by kernel_rfl))
  f37 := Tryz.func125.trans (congrArg some (by kernel_rfl))
  t3 := Tryz.underlying3
  a3 := Tryz.isAgg3
  z3 := Tryz.sizeOf3
  v3 := Tryz.zeroValue3
  t4 := Tryz.underlying4
  a4 := Tryz.isAgg4
  z4 := Tryz.sizeOf4
  v4 := Tryz.zeroValue4 }
open Go.RowKit Go.Lib in
/-- cmp.Less[int]: "Less reports whether x is less than y.": 'x < y'; the world is as it was. (LAID: no walk: one application.) -/
theorem Tryz.cmp_Less_int2 (x y : Int) (w : World) :
    Calls Tryz.prog 106 #[.int .i64 x, .int .i64 y] w fun e w' => e = .returned (.bool (decide (x < y))) ∧ w' = w := Any.cmp_Less_int2 Tryz.laysNm231 x y w
def Tryz.laysNm225_ren : Go.Shelf.Ren := ⟨fun | 25 => 117 | 31 => 106 | 32 => 142 | 37 => 125 | n => n, fun | 22 => 22 | 3 => 3 | 4 => 4 | 40 => 105 | 0 => 0 | n => n, fun | n => n⟩
theorem Tryz.laysNm225 : Go.Proofs.Lays2.n25 Tryz.prog Tryz.laysNm225_ren := {
  mixed := by kernel_rfl
  f25 := Tryz.func117.trans (congrArg some (by kernel_rfl))
  f31 := Tryz.func106.trans (congrArg some (by kernel_rfl))
  f32 := Tryz.func142.trans (congrArg some (by kernel_rfl))
  f37 := Tryz.func125.trans (congrArg some (by kernel_rfl))
  t0 := Tryz.underlying0
  a0 := Tryz.isAgg0
  z0 := Tryz.sizeOf0
  v0 := Tryz.zeroValue0
  t3 := Tryz.underlying3
  a3 := Tryz.isAgg3
  z3 := Tryz.sizeOf3
  v3 := Tryz.zeroValue3
  t4 := Tryz.underlying4
  a4 := Tryz.isAgg4
  z4 := Tryz.sizeOf4
  v4 := Tryz.zeroValue4
  t22 := Tryz.underlying22
  a22 := Tryz.isAgg22
  z22 := Tryz.sizeOf22
  v22 := Tryz.zeroValue22
  t40 := Tryz.underlying105
  a40 := Tryz.isAgg105
  z40 := Tryz.sizeOf105
  v40 := Tryz.zeroValue105 }
open Go.RowKit Go.Lib in
/-- slices.BinarySearch at []int: "BinarySearch searches for target in a sorted slice and returns the earliest position where target is found, or the position where target would appear in the sort order; it also returns a bool saying whether the target is really found in the slice. The slice must be sorted in increasing order.": OF A SORTED SLICE IT RETURNS how many elements are less than the target, and whether the target is among the elements; the world is as it was but for the count of draws. 'zs': what the cells behind the slice's address hold; 'zs.take n': its elements. (Of a slice that is not sorted: no contract here.) (LAID: no walk: one application.) -/
theorem Tryz.slices_BinarySearch_int (b off n c : Nat) (zs : List Int) (x : Int) (w : World) (hz : n ≤ zs.length) (hbig : n < 4611686018427387904) (hc : ∀ j, j < zs.length → w.cell? ⟨b, off + j, none⟩ = some (.int .i64 (zs.getD j 0))) (hs : (zs.take n).Pairwise (· ≤ ·)) :
    Calls Tryz.prog 117 #[.slice (some ⟨b, off, none⟩) n c, .int .i64 x] w fun e w' => e = .returned (.tuple #[.int .i64 ((zs.take n).countP (· < x) : Nat), .bool ((zs.take n).contains x)]) ∧ ∃ q, w' = w.drewN q := Any.slices_BinarySearch_int Tryz.laysNm225 b off n c zs x w hz hbig hc hs
def Tryz.laysNm223_ren : Go.Shelf.Ren := ⟨fun | 23 => 116 | n => n, fun | 22 => 22 | 3 => 3 | 4 => 4 | 0 => 0 | n => n, fun | n => n⟩
theorem Tryz.laysNm223 : Go.Proofs.Lays2.n23 Tryz.prog Tryz.laysNm223_ren := {
  mixed := by kernel_rfl
  f23 := Tryz.func116.trans (congrArg some (by kernel_rfl))
  t0 := Tryz.underlying0
  a0 := Tryz.isAgg0
  z0 := Tryz.sizeOf0
  v0 := Tryz.zeroValue0
  t3 := Tryz.underlying3
  a3 := Tryz.isAgg3
  z3 := Tryz.sizeOf3
  v3 := Tryz.zeroValue3
  t4 := Tryz.underlying4
  a4 := Tryz.isAgg4
  z4 := Tryz.sizeOf4
  v4 := Tryz.zeroValue4
  t22 := Tryz.underlying22
  a22 := Tryz.isAgg22
  z22 := Tryz.sizeOf22
  v22 := Tryz.zeroValue22
  i3 := by kernel_rfl }
open Go.RowKit Go.Lib Go.Sort in
/-- slices.Delete at []int, over an array. (LAID: no walk: one application.) -/
theorem Tryz.slices_Delete_int_arr (blk off cap i j : Nat) (d : Array Int) (w : World) (hH : Holds encI w blk off d) (hcap : d.size ≤ cap) (hm : cap ≤ 9223372036854775807) (hij : i ≤ j) (hj : j ≤ d.size) :
    Calls Tryz.prog 116 #[.slice (some ⟨blk, off, none⟩) d.size cap, .int .i64 i, .int .i64 j] w fun e w' => e = .returned (.slice (some ⟨blk, off, none⟩) (d.size - (j - i)) cap) ∧ ∃ q, w' = putRow encI (Sort.ahead w q) blk off (d.toList.take i ++ d.toList.drop j ++ List.replicate (j - i) 0).toArray := Any.slices_Delete_int_arr Tryz.laysNm223 blk off cap i j d w hH hcap hm hij hj
open Go.RowKit Go.Lib Go.Sort in
/-- slices.Delete at []int: "Delete modifies s in place by removing the elements s[i:j], and returns the modified slice. Delete panics if j > len(s) or s[i:j] is not a valid slice of s. Delete is O(len(s)-i), so if many items must be deleted, it is better to_ make a single call deleting them all together than to_ delete one at a time. Delete zeroes the elements s[len(s)-(j-i):len(s)]. If the result is empty, it has the same nilness as s.": FOR i ≤ j ≤ len(s) IT RETURNS THE SLICE CUT TO len(s) - (j - i) ELEMENTS; ITS CELLS HOLD what stood ahead of i, what stood from j on, then j - i zero values; all else is as it was, but for the count of draws. IN THE WORDS OF slices.Sort's CONTRACT ('Holds', 'putRow'). It asks 'zs.length ≤ cap ≤ 2^63 - 1' (every slice's). (Outside i ≤ j ≤ len(s) it panics: no contract here.) (LAID: no walk: one application.) -/
theorem Tryz.slices_Delete_int (blk off cap i j : Nat) (zs : List Int) (w : World) (hH : Holds (Value.int .i64) w blk off zs.toArray) (hcap : zs.length ≤ cap) (hm : cap ≤ 9223372036854775807) (hij : i ≤ j) (hj : j ≤ zs.length) :
    Calls Tryz.prog 116 #[.slice (some ⟨blk, off, none⟩) zs.length cap, .int .i64 i, .int .i64 j] w fun e w' => e = .returned (.slice (some ⟨blk, off, none⟩) (zs.length - (j - i)) cap) ∧ ∃ q, w' = putRow (Value.int .i64) (Sort.ahead w q) blk off (zs.take i ++ zs.drop j ++ List.replicate (j - i) 0).toArray := Any.slices_Delete_int Tryz.laysNm223 blk off cap i j zs w hH hcap hm hij hj
open Go.RowKit Go.Lib Go.Sort in
/-- slices.Reverse at []int, of an argument: the n cells hold the elements in reverse. (LAID: no walk: one application.) -/
theorem Tryz.slices_Reverse_int_cells (b off n c : Nat) (zs : List Int) (w : World) (hz : n ≤ zs.length) (hbig : n ≤ 9223372036854775807) (hc : ∀ j, j < zs.length → w.cell? ⟨b, off + j, none⟩ = some (.int .i64 (zs.getD j 0))) (hf : ∀ j, j < n → w.frozen? ⟨b, off + j, none⟩ = false) :
    Calls Tryz.prog 159 #[.slice (some ⟨b, off, none⟩) n c] w fun e w' => e = .returned (.tuple #[]) ∧ ∃ q, w' = (w.drewN q).setCells b off ((zs.take n).reverse.map (Value.int .i64)) := Any.slices_Reverse_int_cells Tryz.lays112 b off n c zs w hz hbig hc hf
open Go.RowKit Go.Lib Go.Sort in
/-- slices.Delete at []int, of an argument, for i ≤ j ≤ n: the slice cut to_ n - (j - i) elements; the n cells hold what stood ahead of i, what stood from j on, then zeros. (LAID: no walk: one application.) -/
theorem Tryz.slices_Delete_int_cells (b off n c i j : Nat) (zs : List Int) (w : World) (hz : n ≤ zs.length) (hcap : n ≤ c) (hm : c ≤ 9223372036854775807) (hij : i ≤ j) (hj : j ≤ n) (hc : ∀ j, j < zs.length → w.cell? ⟨b, off + j, none⟩ = some (.int .i64 (zs.getD j 0))) (hf : ∀ j, j < n → w.frozen? ⟨b, off + j, none⟩ = false) :
    Calls Tryz.prog 116 #[.slice (some ⟨b, off, none⟩) n c, .int .i64 i, .int .i64 j] w fun e w' => e = .returned (.slice (some ⟨b, off, none⟩) (n - (j - i)) c) ∧ ∃ q, w' = (w.drewN q).setCells b off (((zs.take n).take i ++ (zs.take n).drop j ++ List.replicate (j - i) 0).map (Value.int .i64)) := Any.slices_Delete_int_cells Tryz.laysNm223 b off n c i j zs w hz hcap hm hij hj hc hf
open Go.RowKit Go.Sort in
/-- .. and plain. (LAID: no walk: one application.) -/
theorem Tryz.slices_Sort_int_none (p : Option Addr) (cap : Nat) (w : World) :
    Calls Tryz.prog 51 #[.slice p 0 cap] w fun e w' => e = .returned (.tuple #[]) ∧ w' = w := Any.slices_Sort_int_none Tryz.lays189 p cap w
open Go.RowKit Go.Lib in
/-- slices.BinarySearch at []int of no element: position 0, not found; the world is as it was. (LAID: no walk: one application.) -/
theorem Tryz.slices_BinarySearch_int_empty (a : Option Addr) (c : Nat) (x : Int) (w : World) :
    Calls Tryz.prog 117 #[.slice a 0 c, .int .i64 x] w fun e w' => e = .returned (.tuple #[.int .i64 0, .bool false]) ∧ w' = w := Any.slices_BinarySearch_int_empty Tryz.laysNm225 a c x w
open Go.RowKit Go.Lib in
/-- slices.Delete at []int of no element ('Delete(s, 0, 0)'): s comes back; the world is as it was. (LAID: no walk: one application.) -/
theorem Tryz.slices_Delete_int_empty (a : Option Addr) (c : Nat) (w : World) :
    Calls Tryz.prog 116 #[.slice a 0 c, .int .i64 0, .int .i64 0] w fun e w' => e = .returned (.slice a 0 c) ∧ w' = w := Any.slices_Delete_int_empty Tryz.laysNm223 a c w
def Tryz.laysSlE041_f70_ren : Go.Shelf.Ren := ⟨fun | 41 => 70 | n => n, fun | 22 => 22 | 23 => 3 | 4 => 4 | n => n, fun | n => n⟩
theorem Tryz.laysSlE041_f70 : Go.Proofs.SlLaysE0.n41 Tryz.prog Tryz.laysSlE041_f70_ren := {
  mixed := by kernel_rfl
  f41 := ⟨Tryz.f70.name, by decide, Tryz.func70.trans (congrArg some (by kernel_rfl))⟩
  t4 := Tryz.underlying4
  a4 := Tryz.isAgg4
  z4 := Tryz.sizeOf4
  v4 := Tryz.zeroValue4
  t22 := Tryz.underlying22
  a22 := Tryz.isAgg22
  z22 := Tryz.sizeOf22
  v22 := Tryz.zeroValue22 }
open Go.RowKit Go.Lib in
/-- slices.Clone: "Clone returns a copy of the slice. The elements are copied using assignment, so this is a shallow clone. The result may have additional unused capacity. The result preserves the nilness of s.": OF A SLICE THAT IS NOT nil IT RETURNS A SLICE THAT IS NOT nil, OF THE SAME CELLS, IN MEMORY OF THE CALL's OWN ('ownsRow': the how-to's 6f); below the heap's size at the call all is as it was. (LAID AT THE INSTANCE 'slices.Clone[[]int,int]': no walk: one application.) -/
theorem Tryz.slices_Clone (i0 : TypeInfo) (z : Value) (size bytes : Nat) (hi : Tryz.prog.info? 3 = some i0) (hz0 : i0.zero = some z) (hz1 : i0.size = size) (hz2 : i0.bytes = bytes) (hzs : z.cells.size = size) (hsz : 0 < size) (z23 : ∀ w, (Go.sizeOf 3).run Tryz.prog w = .ok size w) (b off n c : Nat) (news : List Value) (w : World) (hl : news.length = n * size) (hn : n ≤ maxLen) (hbig : n * bytes ≤ 140737488355328) (hc : ∀ j u, news[j]? = some u → w.cell? ⟨b, off + j, none⟩ = some u) (h1 : ∀ u ∈ news, u.oneCell' = true) :
    Calls Tryz.prog 70 #[.slice (some ⟨b, off, none⟩) n c] w fun e w' => ∃ v', e = .returned v' ∧ w'.ownsRow w.heap.size 3 size v' n news ∧ v' ≠ .slice none 0 0 ∧ Below w.heap.size w w' := AnyE.slices_Clone Tryz.laysSlE041_f70 i0 z size bytes hi hz0 hz1 hz2 hzs hsz z23 b off n c news w hl hn hbig hc h1
open Go.RowKit Go.Lib in
/-- The same at nil: nil comes back; the world is as it was; nothing is asked of the element's type. (LAID AT THE INSTANCE 'slices.Clone[[]int,int]': no walk: one application.) -/
theorem Tryz.slices_Clone_nil (n c : Nat) (w : World) :
    Calls Tryz.prog 70 #[.slice none n c] w fun e w' => e = .returned (.slice none 0 0) ∧ w' = w := AnyE.slices_Clone_nil Tryz.laysSlE041_f70 n c w
end Go.Proofs

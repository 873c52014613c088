/- The references of layers 3, 5, 7, 10: contracts of the small ones. -/
import Derived.Test.YtjkhpbngpceenaaOp6
import Derived.BigQuiet
namespace Go.Proofs.Ytjkhpbngpceenaa
open Go.RowKit

set_option maxHeartbeats 4000000 in
theorem ref03_same (A A' : Option Addr) (c c' : Nat) (xs ys : List Int) (w : World) (hl : xs.length ≤ 9223372036854775807) (hl' : ys.length ≤ 9223372036854775807) (hI : Ints .i64 w A xs) (hI' : Ints .i64 w A' ys) :
    Calls Try.prog 14 #[.slice A xs.length c, .slice A' ys.length c'] w fun e w' => e = .returned (.bool (decide (xs = ys))) ∧ ∃ q, w' = w.drewN q := by
  by_cases hlen : xs.length = ys.length
  · have hlen2 : ys.length = xs.length := hlen.symm
    rw [hlen2]
    have HI := Lib.hid hI
    have HI' := Lib.hid hI'
    have Hlen := Lib.hid hlen
    have Hlen2 := Lib.hid hlen2
    clear hI hI' hlen hlen2
    go_enter Try.func14, Try.ntmps14
    go_wp2_with fail
    go_loopw [5] (fun i wr => ∃ k q : Nat, k ≤ xs.length ∧ i = .int .i64 k ∧ xs.take k = ys.take k ∧ wr = w.drewN q) (fun i _ => xs.length - (intOf i).toNat)
    case atStart => exact ⟨0, 0, Nat.zero_le _, rfl, rfl, rfl⟩
    case round =>
      obtain ⟨k, q, hk, rfl, htk, rfl⟩ := hrel
      by_cases hlt : k < xs.length
      · have hlt2 : k < ys.length := by have := Hlen.out; omega
        obtain ⟨b, off, rfl, -, hc⟩ := HI.out k hlt
        obtain ⟨b', off', rfl, -, hc'⟩ := HI'.out k hlt2
        rw [getD_at hlt] at hc
        rw [getD_at hlt2] at hc'
        have hd : w.drewN q = w.drewN q := rfl
        have k0 : (0 : Int) ≤ (k : Int) := by omega
        have k1 : (k : Int) < (xs.length : Int) := by omega
        have hnx : xs[k] = ys[k] → xs.take (k + 1) = ys.take (k + 1) := fun e => by rw [List.take_succ_eq_append_getElem hlt, List.take_succ_eq_append_getElem hlt2, htk, e]
        have hno : xs[k] ≠ ys[k] → decide (xs = ys) = false := fun e => by simp; intro h; subst h; exact e rfl
        generalize xs[k] = x at *
        generalize ys[k] = y at *
        by_cases hxy : x = y
        · have e1 : (x != y) = false := by simp [hxy]
          have HX := Lib.hid (hnx hxy)
          clear hnx hno htk hxy hd
          go_wp2_with fail
          go_quiet (fail)
          go_wp2_with fail
          go_roundw
          case rel => exact ⟨k + 1, _, by omega, by go_num, HX.out, by first | rfl | exact World.drewN_drewN _ _ _⟩
          case measure => simp [intOf]; omega
        · have e1 : (x != y) = true := by simp [hxy]
          have HX := Lib.hid (hno hxy)
          clear hnx hno htk hxy hd
          go_wp2_with fail
          go_quiet (fail)
          go_wp2_with fail
          go_ret
          exact ⟨by rw [HX.out]; rfl, _, by first | rfl | exact World.drewN_drewN _ _ _⟩
      · obtain rfl : k = xs.length := by omega
        have HX := Lib.hid (show decide (xs = ys) = true by
          rw [List.take_length] at htk
          rw [htk, Hlen.out, List.take_length]; simp)
        clear htk
        go_wp2_with fail
        go_ret
        exact ⟨by rw [HX.out]; rfl, _, rfl⟩
  · have HX := Lib.hid (show decide (xs = ys) = false by simp; intro h; exact hlen (by rw [h]))
    have e1 : ((xs.length : Int) != (ys.length : Int)) = true := by rw [bne_iff_ne]; omega
    have e2 : (xs.length != ys.length) = true := by rw [bne_iff_ne]; omega
    have HI := Lib.hid hI
    have HI' := Lib.hid hI'
    have Hlen := Lib.hid hlen
    clear hI hI' hlen
    go_enter Try.func14, Try.ntmps14
    go_wp2_with fail
    go_ret
    exact ⟨by rw [HX.out]; rfl, 0, rfl⟩
theorem prod_snoc (l : List Int) (x : Int) : Safe.prod (l ++ [x]) = Safe.prod l * x := by
  induction l with
  | nil => simp [Safe.prod]
  | cons a r ih => simp only [List.cons_append, Safe.prod, ih]; rw [Int.mul_assoc]
theorem prod_pos1 {l : List Int} (h : ∀ x ∈ l, 1 ≤ x) : 1 ≤ Safe.prod l := by
  induction l with
  | nil => simp [Safe.prod]
  | cons a r ih =>
    have h1 := h a (by simp)
    have h2 := ih fun x hx => h x (by simp [hx])
    simp only [Safe.prod]
    have := Int.mul_pos (show 0 < a by omega) (show 0 < Safe.prod r by omega)
    omega
set_option maxHeartbeats 4000000 in
theorem ref03_size (A : Option Addr) (c : Nat) (zs : List Int) (w : World) (hr : Sh.right zs = true) (hI : Ints .i64 w A zs) :
    Calls Try.prog 35 #[.slice A zs.length c] w fun e w' => e = .returned (.int .i64 (Safe.prod zs)) ∧ w = w' := by
  obtain ⟨-, h1, h2, h3, h4, h5⟩ := Sh.right_mul hr
  have hp : ∀ k, 1 ≤ Safe.prod (zs.take k) ∧ Safe.prod (zs.take k) ≤ 1099511627776 := fun k => by
    refine ⟨?_, Sh.prod_le (fun x hx => h3 x (List.mem_of_mem_take hx)) (by simp; omega)⟩
    exact prod_pos1 fun x hx => (h3 x (List.mem_of_mem_take hx)).1
  have HI := Lib.hid hI
  have Hr := Lib.hid hr
  have Hp := Lib.hid hp
  have H3 := Lib.hid h3
  clear hI hr hp h3
  go_enter Try.func35, Try.ntmps35
  go_wp2_with fail
  go_loop [3, 4] (fun t i => ∃ k : Nat, k ≤ zs.length ∧ i = .int .i64 k ∧ t = .int .i64 (Safe.prod (zs.take k))) (fun _ i => zs.length - (intOf i).toNat)
  case atStart => exact ⟨0, Nat.zero_le _, rfl, rfl⟩
  case round =>
    obtain ⟨k, hk, rfl, rfl⟩ := hrel
    by_cases hlt : k < zs.length
    · obtain ⟨b, off, rfl, -, hc⟩ := HI.out k hlt
      rw [getD_at hlt] at hc
      have hq := Hp.out (k + 1)
      have hs : Safe.prod (zs.take (k + 1)) = Safe.prod (zs.take k) * zs[k] := by rw [List.take_succ_eq_append_getElem hlt, prod_snoc]
      rw [hs] at hq
      generalize Safe.prod (zs.take k) = p at *
      generalize zs[k] = z at *
      obtain ⟨q1, q2⟩ := hq
      have hw : IntKind.i64.wrap (p * z) = p * z := IntWalk.i64_in _ (by omega)
      have Hs := Lib.hid hs
      clear hs
      go_wp2_with fail
      go_round
      case rel => exact ⟨k + 1, by omega, by go_num, by rw [Hs.out]⟩
      case measure => simp [intOf]; omega
    · obtain rfl : k = zs.length := by omega
      rw [List.take_length]
      go_wp2_with fail
      go_ret
      exact ⟨rfl, rfl⟩
set_option maxHeartbeats 4000000 in
theorem ref03_right (A : Option Addr) (c : Nat) (zs : List Int) (w : World) (hl : zs.length ≤ 9223372036854775807) (hI : Ints .i64 w A zs) :
    Calls Try.prog 38 #[.slice A zs.length c] w fun e w' => e = .returned (.bool (Sh.right zs)) ∧ w = w' := by
  by_cases hlen : 1 ≤ zs.length ∧ zs.length ≤ 4
  · obtain ⟨l1, l2⟩ := hlen
    have d1 : decide ((zs.length : Int) < 1) = false := by simp; omega
    have d2 : decide ((4 : Int) < (zs.length : Int)) = false := by simp; omega
    have HI := Lib.hid hI
    clear hI
    go_enter Try.func38, Try.ntmps38
    go_wp2_with fail
    go_loop [3, 4] (fun t i => ∃ k : Nat, k ≤ zs.length ∧ i = .int .i64 k ∧ (zs.take k).all Sh.side = true ∧ t = .int .i64 (Safe.prod (zs.take k))) (fun _ i => zs.length - (intOf i).toNat)
    case atStart => exact ⟨0, Nat.zero_le _, rfl, rfl, rfl⟩
    case round =>
      obtain ⟨k, hk, rfl, hall, rfl⟩ := hrel
      by_cases hlt : k < zs.length
      · obtain ⟨b, off, rfl, -, hc⟩ := HI.out k hlt
        rw [getD_at hlt] at hc
        have hs : Safe.prod (zs.take (k + 1)) = Safe.prod (zs.take k) * zs[k] := by rw [List.take_succ_eq_append_getElem hlt, prod_snoc]
        by_cases hz : 1 ≤ zs[k] ∧ zs[k] ≤ 1024
        · have hall2 : (zs.take (k + 1)).all Sh.side = true := by
            rw [List.take_succ_eq_append_getElem hlt, List.all_append, hall]
            simp [Sh.side, hz]
          have hb2 : ∀ x ∈ zs.take (k + 1), 1 ≤ x ∧ x ≤ 1024 := Sh.all_iff hall2
          have hq : Safe.prod (zs.take (k + 1)) ≤ 1099511627776 := Sh.prod_le hb2 (by simp; omega)
          have hq1 : 1 ≤ Safe.prod (zs.take (k + 1)) := by
            exact prod_pos1 fun x hx => (hb2 x hx).1
          rw [hs] at hq hq1
          generalize Safe.prod (zs.take k) = p at *
          generalize zs[k] = z at *
          have hw : IntKind.i64.wrap (p * z) = p * z := IntWalk.i64_in _ (by omega)
          have e1 : decide (z < 1) = false := by simp; omega
          have e2 : decide (1024 < z) = false := by simp; omega
          clear hz hall hb2
          have Hs := Lib.hid hs
          have Hall2 := Lib.hid hall2
          clear hs hall2
          go_wp2_with fail
          go_round
          case rel => exact ⟨k + 1, by omega, by go_num, Hall2.out, by rw [Hs.out]⟩
          case measure => simp [intOf]; omega
        · have hno : Sh.right zs = false := Sh.right_side (by
            rw [List.all_eq_false]
            exact ⟨zs[k], List.getElem_mem hlt, by rw [Sh.side_iff]; exact hz⟩)
          generalize zs[k] = z at *
          have Hno := Lib.hid hno
          have Hall := Lib.hid hall
          have Hs := Lib.hid hs
          clear hno hall hs
          by_cases hz1 : z < 1
          · have e1 : decide (z < 1) = true := by simpa using hz1
            clear hz
            go_wp2_with fail
            go_ret
            exact ⟨by rw [Hno.out]; rfl, rfl⟩
          · have e1 : decide (z < 1) = false := by simpa using hz1
            have e2 : decide (1024 < z) = true := by simp; omega
            clear hz
            go_wp2_with fail
            go_ret
            exact ⟨by rw [Hno.out]; rfl, rfl⟩
      · obtain rfl : k = zs.length := by omega
        rw [List.take_length] at hall ⊢
        have HR := Lib.hid (Sh.right_prod ⟨l1, l2⟩ hall)
        clear hall
        go_wp2_with fail
        go_ret
        exact ⟨by rw [HR.out]; rfl, rfl⟩
  · have HR := Lib.hid (Sh.right_len hlen)
    have HI := Lib.hid hI
    clear hI
    by_cases h1 : zs.length < 1
    · have d1 : decide ((zs.length : Int) < 1) = true := by simp; omega
      clear hlen
      go_enter Try.func38, Try.ntmps38
      go_wp2_with fail
      go_ret
      exact ⟨by rw [HR.out]; rfl, rfl⟩
    · have d1 : decide ((zs.length : Int) < 1) = false := by simp; omega
      have d2 : decide ((4 : Int) < (zs.length : Int)) = true := by simp; omega
      clear hlen
      go_enter Try.func38, Try.ntmps38
      go_wp2_with fail
      go_ret
      exact ⟨by rw [HR.out]; rfl, rfl⟩
set_option maxHeartbeats 4000000 in
theorem ref05_ins (k : Int) (w : World) : Calls Try.prog 78 #[.int .i64 k] w fun e w' => e = .returned (.int .i64 (Od.ptIns k)) ∧ w = w' := by
  by_cases h1 : 1 ≤ k ∧ k ≤ 5
  · have HX := Lib.hid (show Od.ptIns k = 1 by unfold Od.ptIns; rw [if_pos h1])
    obtain ⟨a, b⟩ := h1
    go_enter Try.func78, Try.ntmps78
    go_wp2_with fail
    go_ret
    exact ⟨by rw [HX.out]; rfl, rfl⟩
  · by_cases h2 : k = 6 ∨ k = 7
    · have HX := Lib.hid (show Od.ptIns k = 2 by unfold Od.ptIns; rw [if_neg h1, if_pos h2])
      clear h1
      rcases h2 with rfl | rfl
      all_goals
        go_enter Try.func78, Try.ntmps78
        go_wp2_with fail
        go_ret
        exact ⟨by rw [HX.out]; rfl, rfl⟩
    · have HX := Lib.hid (show Od.ptIns k = 0 by unfold Od.ptIns; rw [if_neg h1, if_neg h2])
      have e6 : (k == 6) = false := by simp; omega
      have e7 : (k == 7) = false := by simp; omega
      by_cases h3 : 1 ≤ k
      · have d2 : decide (k ≤ 5) = false := by simp; omega
        clear h1 h2
        go_enter Try.func78, Try.ntmps78
        go_wp2_with fail
        go_ret
        exact ⟨by rw [HX.out]; rfl, rfl⟩
      · have d2 : decide (1 ≤ k) = false := by simp; omega
        clear h1 h2
        go_enter Try.func78, Try.ntmps78
        go_wp2_with fail
        go_ret
        exact ⟨by rw [HX.out]; rfl, rfl⟩
def refIns (k : Int) : Int × Int := if 1 ≤ k ∧ k ≤ 7 then (Od.ptIns k, Od.ptIns k) else if k = 13 then (1, 8) else if 8 ≤ k ∧ k ≤ 15 then (1, 1) else (0, 0)
theorem refIns_right {o : OpD} (h : Od.right o = true) : refIns o.kind = (Od.least o, Od.most o) := by
  have hk := Od.right_kind h
  unfold refIns Od.least Od.most
  rw [if_pos h, if_pos h]
  by_cases h7 : o.kind ≤ 7
  · rw [if_pos ⟨hk.1, h7⟩, if_pos h7, if_pos h7]
  · rw [if_neg (by omega), if_neg h7, if_neg h7]
    by_cases h13 : o.kind = 13
    · rw [if_pos h13, if_pos h13]
    · rw [if_neg h13, if_neg h13, if_pos (by omega)]
def refPar (k : Int) : Int := if k = 8 then 2 else if k = 9 ∨ k = 10 then 1 else 0
theorem refPar_right {o : OpD} (h : Od.right o = true) : refPar o.kind = Od.params o := by unfold refPar Od.params; rw [if_pos h]
set_option maxHeartbeats 4000000 in
theorem ref10_ins (k : Int) (w : World) (hk : 1 ≤ k ∧ k ≤ 15) : Calls Try.prog 61 #[.int .i64 k] w fun e w' => e = .returned (.tuple #[.int .i64 (refIns k).1, .int .i64 (refIns k).2]) ∧ w = w' := by
  by_cases h1 : k ≤ 7
  · have HX := Lib.hid (show refIns k = (Od.ptIns k, Od.ptIns k) by unfold refIns; rw [if_pos ⟨hk.1, h1⟩])
    obtain ⟨a, b⟩ := hk
    go_enter Try.func61, Try.ntmps61
    go_wp2_with fail
    refine (ref05_ins k _).mono ?_
    rintro e w1 ⟨rfl, rfl⟩
    go_wp2_with fail
    go_ret2
    exact ⟨by rw [HX.out]; rfl, rfl⟩
  · have d7 : decide (k ≤ 7) = false := by simp; omega
    by_cases h13 : k = 13
    · have HX := Lib.hid (show refIns k = (1, 8) by unfold refIns; rw [if_neg (by omega), if_pos h13])
      subst h13
      clear hk
      go_enter Try.func61, Try.ntmps61
      go_wp2_with fail
      go_ret2
      exact ⟨by rw [HX.out]; rfl, rfl⟩
    · have HX := Lib.hid (show refIns k = (1, 1) by unfold refIns; rw [if_neg (by omega), if_neg h13, if_pos (by omega)])
      have e13 : (k == 13) = false := by simp; omega
      have g8 : 8 ≤ k := by omega
      obtain ⟨a, b⟩ := hk
      clear h13
      go_enter Try.func61, Try.ntmps61
      go_wp2_with fail
      go_ret2
      exact ⟨by rw [HX.out]; rfl, rfl⟩
set_option maxHeartbeats 4000000 in
theorem ref10_params (k : Int) (w : World) : Calls Try.prog 62 #[.int .i64 k] w fun e w' => e = .returned (.int .i64 (refPar k)) ∧ w = w' := by
  by_cases h8 : k = 8
  · subst h8
    go_enter Try.func62, Try.ntmps62
    go_wp2_with fail
    go_ret
    exact ⟨rfl, rfl⟩
  · by_cases h9 : k = 9
    · subst h9
      clear h8
      go_enter Try.func62, Try.ntmps62
      go_wp2_with fail
      go_ret
      exact ⟨rfl, rfl⟩
    · by_cases h10 : k = 10
      · subst h10
        clear h8 h9
        go_enter Try.func62, Try.ntmps62
        go_wp2_with fail
        go_ret
        exact ⟨rfl, rfl⟩
      · have HX := Lib.hid (show refPar k = 0 by unfold refPar; rw [if_neg h8, if_neg (by omega)])
        have e8 : (k == 8) = false := by simp; omega
        have e9 : (k == 9) = false := by simp; omega
        have e10 : (k == 10) = false := by simp; omega
        clear h8 h9 h10
        go_enter Try.func62, Try.ntmps62
        go_wp2_with fail
        go_ret
        exact ⟨by rw [HX.out]; rfl, rfl⟩
theorem window_steps {side width step : Int} (h1 : 1 ≤ step) (h2 : width ≤ side) (h3 : 1 ≤ width) (h4 : side ≤ 1024) {k : Int} (hk : 0 ≤ k) (hw : (k - 1) * step + width ≤ side) (hs : ¬ k * step + width ≤ side) : k = 1 + (side - width).tdiv step := by
  rw [Int.tdiv_eq_ediv_of_nonneg (by omega)]
  have e1 : (k - 1) * step ≤ side - width := by omega
  have e2 : side - width < k * step := by omega
  have h5 := Int.le_ediv_of_mul_le (show 0 < step by omega) e1
  have h6 := Int.ediv_lt_of_lt_mul (show 0 < step by omega) e2
  omega
set_option maxHeartbeats 4000000 in
theorem ref07_window (side width step : Int) (w : World) : Calls Try.prog 79 #[.int .i64 side, .int .i64 width, .int .i64 step] w fun e w' => e = .returned (.int .i64 (Od.window side width step).1) ∧ w = w' := by
  by_cases h1 : 1 ≤ side ∧ side ≤ 1024 ∧ 1 ≤ width ∧ width ≤ 1024 ∧ 1 ≤ step ∧ step ≤ 1024 ∧ width ≤ side
  · have HX := Lib.hid (show (Od.window side width step).1 = 1 + (side - width).tdiv step by
      unfold Od.window; rw [if_pos (by simp only [Sh.side_iff]; omega)])
    obtain ⟨a1, a2, a3, a4, a5, a6, a7⟩ := h1
    have c1 : decide (side < 1) = false := by simp; omega
    have c2 : decide (width < 1) = false := by simp; omega
    have c3 : decide (step < 1) = false := by simp; omega
    have c4 : decide (1024 < side) = false := by simp; omega
    have c5 : decide (1024 < width) = false := by simp; omega
    have c6 : decide (1024 < step) = false := by simp; omega
    have c7 : decide (side < width) = false := by simp; omega
    go_enter Try.func79, Try.ntmps79
    go_wp2_with fail
    go_loop [7, 8] (fun t i => ∃ k : Int, 0 ≤ k ∧ i = .int .i64 (k * step) ∧ t = .int .i64 k ∧ (k - 1) * step + width ≤ side) (fun _ i => (side + 1 - intOf i).toNat)
    case atStart => exact ⟨0, by omega, by rw [Int.zero_mul], rfl, by rw [Int.zero_sub, Int.neg_mul, Int.one_mul]; omega⟩
    case round =>
      obtain ⟨k, hk, rfl, rfl, hle⟩ := hrel
      have b1 : (k - 1) * step = k * step - step := by rw [Int.sub_mul, Int.one_mul]
      have b0 : 0 ≤ k * step := Int.mul_nonneg hk (by omega)
      have b3 : k ≤ k * step + 1 := by
        have := Int.mul_le_mul_of_nonneg_left (show 1 ≤ step from a5) hk
        omega
      have b2 : (k + 1) * step = k * step + step := by rw [Int.add_mul, Int.one_mul]
      have hst := @window_steps side width step a5 a7 a3 a2 k hk hle
      rw [b1] at hle
      have hle2 : k * step + width ≤ side → (k + 1 - 1) * step + width ≤ side := fun h => by rw [Int.add_sub_cancel]; exact h
      generalize k * step = m at *
      by_cases hc : m + width ≤ side
      · have HL := Lib.hid (hle2 hc)
        have Hb1 := Lib.hid b1
        have Hb2 := Lib.hid b2
        have Hst := Lib.hid hst
        have Hle2 := Lib.hid hle2
        clear b1 b2 hst hle2
        go_wp2_with fail
        go_round
        case rel => exact ⟨k + 1, by omega, by rw [Hb2.out], rfl, HL.out⟩
        case measure => simp [intOf]; omega
      · have HK := Lib.hid (hst hc)
        have Hb1 := Lib.hid b1
        have Hb2 := Lib.hid b2
        have Hst := Lib.hid hst
        have Hle2 := Lib.hid hle2
        clear b1 b2 hst hle2
        go_wp2_with fail
        go_ret
        exact ⟨by rw [HX.out, ← HK.out]; rfl, rfl⟩
  · have HX := Lib.hid (show (Od.window side width step).1 = 0 by
      unfold Od.window; rw [if_neg (by simp only [Sh.side_iff]; omega)])
    by_cases c1 : side < 1
    · have d1 : decide (side < 1) = true := by simpa using c1
      clear h1
      go_enter Try.func79, Try.ntmps79
      go_wp2_with fail
      go_ret
      exact ⟨by rw [HX.out]; rfl, rfl⟩
    · have d1 : decide (side < 1) = false := by simpa using c1
      by_cases c2 : width < 1
      · have d2 : decide (width < 1) = true := by simpa using c2
        clear h1
        go_enter Try.func79, Try.ntmps79
        go_wp2_with fail
        go_ret
        exact ⟨by rw [HX.out]; rfl, rfl⟩
      · have d2 : decide (width < 1) = false := by simpa using c2
        by_cases c3 : step < 1
        · have d3 : decide (step < 1) = true := by simpa using c3
          clear h1
          go_enter Try.func79, Try.ntmps79
          go_wp2_with fail
          go_ret
          exact ⟨by rw [HX.out]; rfl, rfl⟩
        · have d3 : decide (step < 1) = false := by simpa using c3
          by_cases c4 : 1024 < side
          · have d4 : decide (1024 < side) = true := by simpa using c4
            clear h1
            go_enter Try.func79, Try.ntmps79
            go_wp2_with fail
            go_ret
            exact ⟨by rw [HX.out]; rfl, rfl⟩
          · have d4 : decide (1024 < side) = false := by simpa using c4
            by_cases c5 : 1024 < width
            · have d5 : decide (1024 < width) = true := by simpa using c5
              clear h1
              go_enter Try.func79, Try.ntmps79
              go_wp2_with fail
              go_ret
              exact ⟨by rw [HX.out]; rfl, rfl⟩
            · have d5 : decide (1024 < width) = false := by simpa using c5
              by_cases c6 : 1024 < step
              · have d6 : decide (1024 < step) = true := by simpa using c6
                clear h1
                go_enter Try.func79, Try.ntmps79
                go_wp2_with fail
                go_ret
                exact ⟨by rw [HX.out]; rfl, rfl⟩
              · have d6 : decide (1024 < step) = false := by simpa using c6
                have d7 : decide (side < width) = true := by simp; omega
                clear h1
                go_enter Try.func79, Try.ntmps79
                go_wp2_with fail
                go_ret
                exact ⟨by rw [HX.out]; rfl, rfl⟩
end Go.Proofs.Ytjkhpbngpceenaa

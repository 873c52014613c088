/- Layer 2: what the reference computes: contracts. -/
import Derived.Test.YtggnpbgkfplgbaaSafeC
namespace Go.Proofs.Ytggnpbgkfplgbaa
open Go.RowKit

set_option maxHeartbeats 800000 in
theorem ref_add (A : Option Addr) (c : Nat) (zs : List Int) (w : World) (hl : zs.length ≤ 9223372036854775807) (hI : Ints .i64 w A zs) :
    Calls Try.prog 10 #[.slice A zs.length c] w fun e w' => e = .returned (.tuple #[.int .i64 (Safe.add zs).1, .int .i64 (Safe.add zs).2]) ∧ w = w' := by
  have HI := Lib.hid hI
  clear hI
  go_enter Try.func10, Try.ntmps10
  go_wp2_with fail
  go_loop [4] (fun i => ∃ k : Nat, k ≤ zs.length ∧ i = .int .i64 k ∧ ∀ j, j < k → Safe.ok (zs.getD j 0) = true) (fun i => zs.length - (intOf i).toNat)
  case atStart => exact ⟨0, Nat.zero_le _, rfl, by intro j hj; omega⟩
  case round =>
    obtain ⟨k, hk, rfl, hok⟩ := hrel
    have HO := Lib.hid hok
    clear hok
    by_cases hlt : k < zs.length
    · obtain ⟨b, off, rfl, hb, hc⟩ := HI.out k hlt
      have ez : zs.getD k 0 = zs[k] := by simp [hlt]
      have HE := Lib.hid ez
      clear ez
      go_wp2_with fail
      refine (ref_right _ _).mono ?_
      rintro e w' ⟨rfl, rfl⟩
      cases hz : Safe.ok zs[k]
      · have hfin := Lib.hid (Safe.add_range (Safe.not_all hlt (by rw [HE.out]; exact hz)))
        clear hz
        go_wp2_with fail
        go_ret2
        exact ⟨by rw [hfin.out]; rfl, rfl⟩
      · have HZ := Lib.hid hz
        clear hz
        go_wp2_with fail
        go_round
        case rel => exact ⟨k + 1, by omega, by go_num, fun j hj => by rcases Nat.lt_succ_iff_lt_or_eq.1 hj with h | h; exact HO.out j h; subst h; rw [HE.out]; exact HZ.out⟩
        case measure => simp [intOf]; omega
    · obtain rfl : k = zs.length := by omega
      have HA := Lib.hid (Safe.all_getD HO.out)
      clear HO
      go_wp2_with fail
      go_loop [5, 6] (fun s i => ∃ k : Nat, k ≤ zs.length ∧ i = .int .i64 k ∧ s = .int .i64 (Safe.sum (zs.take k)) ∧ Safe.sum (zs.take k) ≤ 1099511627776) (fun _ i => zs.length - (intOf i).toNat)
      case atStart => exact ⟨0, Nat.zero_le _, rfl, rfl, by simp [Safe.sum]⟩
      case round =>
        obtain ⟨k, hk, rfl, rfl, hs⟩ := hrel
        by_cases hlt : k < zs.length
        · obtain ⟨b, off, rfl, hb, hc⟩ := HI.out k hlt
          have ez : zs.getD k 0 = zs[k] := by simp [hlt]
          have ⟨hz0, hz1⟩ := (Safe.ok_iff _).1 (Safe.all_of HA.out k hlt)
          rw [ez] at hz0 hz1
          have h0 := Safe.sum_nonneg (zs.take k) (fun x hx => Safe.nonneg_of HA.out x (List.mem_of_mem_take hx))
          have HS := Lib.hid (Safe.sum_take_succ zs k hlt)
          have HE := Lib.hid ez
          clear ez
          by_cases hbig : 1099511627776 < Safe.sum (zs.take k) + zs[k]
          · have hfin := Lib.hid (Safe.add_big HA.out (k + 1) (by rw [HS.out]; exact hbig))
            go_wp2_with fail
            go_ret2
            exact ⟨by rw [hfin.out]; rfl, rfl⟩
          · go_wp2_with fail
            go_round
            case rel => exact ⟨k + 1, by omega, by go_num, by rw [HS.out], by rw [HS.out]; omega⟩
            case measure => simp [intOf]; omega
        · obtain rfl : k = zs.length := by omega
          have hfin := Lib.hid (Safe.add_sum HA.out (by rw [List.take_length] at hs; exact hs))
          go_wp2_with fail
          go_ret2
          exact ⟨by rw [hfin.out]; simp, rfl⟩

set_option maxHeartbeats 1200000 in
theorem ref_mul (A : Option Addr) (c : Nat) (zs : List Int) (w : World) (hl : zs.length ≤ 9223372036854775807) (hI : Ints .i64 w A zs) :
    Calls Try.prog 12 #[.slice A zs.length c] w fun e w' => e = .returned (.tuple #[.int .i64 (Safe.mul zs).1, .int .i64 (Safe.mul zs).2]) ∧ w = w' := by
  have HI := Lib.hid hI
  clear hI
  go_enter Try.func12, Try.ntmps12
  go_wp2_with fail
  go_loop [4] (fun i => ∃ k : Nat, k ≤ zs.length ∧ i = .int .i64 k ∧ ∀ j, j < k → Safe.ok (zs.getD j 0) = true) (fun i => zs.length - (intOf i).toNat)
  case atStart => exact ⟨0, Nat.zero_le _, rfl, by intro j hj; omega⟩
  case round =>
    obtain ⟨k, hk, rfl, hok⟩ := hrel
    have HO := Lib.hid hok
    clear hok
    by_cases hlt : k < zs.length
    · obtain ⟨b, off, rfl, hb, hc⟩ := HI.out k hlt
      have ez : zs.getD k 0 = zs[k] := by simp [hlt]
      have HE := Lib.hid ez
      clear ez
      go_wp2_with fail
      refine (ref_right _ _).mono ?_
      rintro e w' ⟨rfl, rfl⟩
      cases hz : Safe.ok zs[k]
      · have hfin := Lib.hid (Safe.mul_range (Safe.not_all hlt (by rw [HE.out]; exact hz)))
        clear hz
        go_wp2_with fail
        go_ret2
        exact ⟨by rw [hfin.out]; rfl, rfl⟩
      · have HZ := Lib.hid hz
        clear hz
        go_wp2_with fail
        go_round
        case rel => exact ⟨k + 1, by omega, by go_num, fun j hj => by rcases Nat.lt_succ_iff_lt_or_eq.1 hj with h | h; exact HO.out j h; subst h; rw [HE.out]; exact HZ.out⟩
        case measure => simp [intOf]; omega
    · obtain rfl : k = zs.length := by omega
      have HA := Lib.hid (Safe.all_getD HO.out)
      clear HO
      go_wp2_with fail
      go_loop [5] (fun i => ∃ k : Nat, k ≤ zs.length ∧ i = .int .i64 k ∧ ∀ j, j < k → (zs.getD j 0 != 0) = true) (fun i => zs.length - (intOf i).toNat)
      case atStart => exact ⟨0, Nat.zero_le _, rfl, by intro j hj; omega⟩
      case round =>
        obtain ⟨k, hk, rfl, hok⟩ := hrel
        have HO := Lib.hid hok
        clear hok
        by_cases hlt : k < zs.length
        · obtain ⟨b, off, rfl, hb, hc⟩ := HI.out k hlt
          have ez : zs.getD k 0 = zs[k] := by simp [hlt]
          have HE := Lib.hid ez
          clear ez
          by_cases hz : zs[k] = 0
          · have hfin := Lib.hid (Safe.mul_zero HA.out (Safe.not_all (p := (· != 0)) hlt (by rw [HE.out, hz]; rfl)))
            have hzb : (zs[k] == 0) = true := by simp [hz]
            clear hz
            go_wp2_with fail
            go_ret2
            exact ⟨by rw [hfin.out]; rfl, rfl⟩
          · have hzb : (zs[k] == 0) = false := by simp [hz]
            have HZ := Lib.hid hz
            clear hz
            go_wp2_with fail
            go_round
            case rel => exact ⟨k + 1, by omega, by go_num, fun j hj => by rcases Nat.lt_succ_iff_lt_or_eq.1 hj with h | h; exact HO.out j h; subst h; rw [HE.out]; simpa using HZ.out⟩
            case measure => simp [intOf]; omega
        · obtain rfl : k = zs.length := by omega
          have HZ := Lib.hid (Safe.all_getD (p := (· != 0)) HO.out)
          clear HO
          go_wp2_with fail
          go_loop [6, 7] (fun s i => ∃ k : Nat, k ≤ zs.length ∧ i = .int .i64 k ∧ s = .int .i64 (Safe.prod (zs.take k)) ∧ Safe.prod (zs.take k) ≤ 1099511627776) (fun _ i => zs.length - (intOf i).toNat)
          case atStart => exact ⟨0, Nat.zero_le _, rfl, rfl, by simp [Safe.prod]⟩
          case round =>
            obtain ⟨k, hk, rfl, rfl, hs⟩ := hrel
            by_cases hlt : k < zs.length
            · obtain ⟨b, off, rfl, hb, hc⟩ := HI.out k hlt
              have ez : zs.getD k 0 = zs[k] := by simp [hlt]
              have ⟨hz0, hz1⟩ := (Safe.ok_iff _).1 (Safe.all_of HA.out k hlt)
              have hz2 : 1 ≤ zs[k] := Safe.pos_of HA.out HZ.out _ (List.getElem_mem hlt)
              rw [ez] at hz0 hz1
              have h0 := Safe.prod_pos (zs.take k) (fun x hx => Safe.pos_of HA.out HZ.out x (List.mem_of_mem_take hx))
              have HS := Lib.hid (Safe.prod_take_succ zs k hlt)
              have HE := Lib.hid ez
              clear ez
              generalize hP : Safe.prod (zs.take k) = P at hs h0 HS
              have HP := Lib.hid hP
              clear hP
              by_cases hbig : P * zs[k] ≤ 1099511627776
              · have hd : P ≤ 1099511627776 / zs[k] := (Int.le_ediv_iff_mul_le (by omega)).2 hbig
                have hp : 0 ≤ P * zs[k] := Int.mul_nonneg (by omega) (by omega)
                go_wp2_with fail
                go_round
                case rel => exact ⟨k + 1, by omega, by go_num, by rw [HS.out], by rw [HS.out]; exact hbig⟩
                case measure => simp [intOf]; omega
              · have hd : 1099511627776 / zs[k] < P := by
                  rcases Int.lt_or_le (1099511627776 / zs[k]) P with h | h
                  · exact h
                  · exact absurd ((Int.le_ediv_iff_mul_le (by omega)).1 h) hbig
                have hfin := Lib.hid (Safe.mul_big HA.out HZ.out (k + 1) (by rw [HS.out, Safe.top_eq]; omega))
                clear hbig
                go_wp2_with fail
                go_ret2
                exact ⟨by rw [hfin.out]; rfl, rfl⟩
            · obtain rfl : k = zs.length := by omega
              have hfin := Lib.hid (Safe.mul_prod HA.out HZ.out (by rw [List.take_length] at hs; exact hs))
              go_wp2_with fail
              go_ret2
              exact ⟨by rw [hfin.out]; simp, rfl⟩
end Go.Proofs.Ytggnpbgkfplgbaa

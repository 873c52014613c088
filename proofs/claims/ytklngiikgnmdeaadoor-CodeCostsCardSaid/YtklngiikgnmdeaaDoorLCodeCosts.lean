/- The walk of the law CodeCosts. -/
import Derived.Test.YtklngiikgnmdeaaDoorAwakeQ
import Derived.Test.YtklngiikgnmdeaaDoorSafeC
namespace Go.Proofs.YtklngiikgnmdeaaDoor
open Go.RowKit

theorem costSum_skip (cost : List Int) (ps : List (Int × Int)) (k : Nat) (h : k < ps.length) (hr : Cd.reck ps[k] = false) : Safe.sum (Cd.costList cost (ps.take (k + 1))) = Safe.sum (Cd.costList cost (ps.take k)) := by
  rw [Cd.costList_take_skip cost ps k h hr]
theorem costSum_add (cost : List Int) (ps : List (Int × Int)) (k : Nat) (h : k < ps.length) (hr : Cd.reck ps[k] = true) : Safe.sum (Cd.costList cost (ps.take (k + 1))) = Safe.sum (Cd.costList cost (ps.take k)) + cost.getD ps[k].2.toNat 0 := by
  rw [Cd.costList_take_add cost ps k h hr, Safe.sum_append]; simp [Safe.sum]
theorem costs_cases {ps : List (Int × Int)} {cost : List Int} (h : Cd.check ps = 0) (h1 : ps.all (Cd.fine cost) = true) : (Cd.costs ps cost = (0, 12) ∧ 1099511627776 < Safe.sum (Cd.costList cost ps)) ∨ (Cd.costs ps cost = (Safe.sum (Cd.costList cost ps), 0) ∧ ¬ 1099511627776 < Safe.sum (Cd.costList cost ps)) := by
  by_cases hs : Safe.sum (Cd.costList cost ps) ≤ Safe.top
  · exact .inr ⟨Cd.costs_sum h h1 hs, by rw [Safe.top_eq] at hs; omega⟩
  · exact .inl ⟨Cd.costs_many h h1 hs, by rw [Safe.top_eq] at hs; omega⟩

set_option maxHeartbeats 2400000 in
theorem codeCosts_small (w : World) (A : Option Addr) (c : Nat) (ps : List (Int × Int)) (B : Option Addr) (d : Nat) (cost : List Int) (hl : ¬ 500 < ps.length) (hl2 : ¬ 600 < cost.length) (hI : Pairs w A ps) (hJ : Ints .i64 w B cost) :
    Calls Tryd.prog 5 #[.slice A ps.length c, .slice B cost.length d] w fun e w' => e = .returned (.bool true) ∧ Below w.heap.size w w' := by
  have HI := Lib.hid hI
  have HJ := Lib.hid hJ
  clear hI hJ
  go_enter Tryd.func5, Tryd.ntmps5
  go_wp2_with fail
  refine (code_cost A c ps B d cost _ (by omega) HI.out (by omega) HJ.out).mono ?_
  rintro e w1 ⟨rfl, h1⟩
  have hz1 := h1.size
  go_wp2_with fail
  refine (law17_right A c ps _ (by omega) (HI.out.below h1 (Nat.le_refl _))).mono ?_
  rintro e w2 ⟨rfl, h2⟩
  have hb2 := h1.trans (h2.mono hz1)
  have hz2 := hb2.size
  clear h1 h2
  cases hall : ps.all Cd.right
  · have hck := Lib.hid (Cd.check_form (ps := ps) (by omega) hall)
    have hcs := Lib.hid (Cd.costs_bad (ps := ps) (by rw [hck.out]; decide) cost)
    clear hall
    rw [hcs.out, hck.out]
    go_wp2_with fail
    refine (awake17 _).mono ?_
    rintro e w4 ⟨rfl, h4⟩
    go_wp2_with fail
    go_ret
    exact ⟨rfl, hb2.trans (h4.mono hb2.size)⟩
  · have hck := Lib.hid (Cd.check_ok (ps := ps) (by omega) hall)
    have HA := Lib.hid hall
    clear hall
    go_wp2_with fail
    go_loopw [7, 9, 39] (fun s _ i wr => ∃ k : Nat, k ≤ ps.length ∧ i = .int .i64 k ∧ s = .int .i64 (Safe.sum (Cd.costList cost (ps.take k))) ∧ 0 ≤ Safe.sum (Cd.costList cost (ps.take k)) ∧ Safe.sum (Cd.costList cost (ps.take k)) ≤ 1099511627776 * k ∧ (∀ j (hj : j < ps.length), j < k → Cd.fine cost ps[j] = true) ∧ Below w2.heap.size w2 wr) (fun _ _ i _ => ps.length - (intOf i).toNat)
    case atStart => exact ⟨0, Nat.zero_le _, rfl, rfl, by simp [Cd.costList, Safe.sum], by simp [Cd.costList, Safe.sum], by intro j _ hj; omega, Below.refl _ _⟩
    case round =>
      obtain ⟨k, hk, rfl, rfl, hs0, hs1, hok, hbel⟩ := hrel
      have HO := Lib.hid hok
      have hbw := hb2.trans (hbel.mono hz2)
      clear hok
      by_cases hlt : k < ps.length
      · obtain ⟨b, off, rfl, hb, hc, hd⟩ := HI.out.below hbw (Nat.le_refl _) k hlt
        have ⟨hr1, hr2, hr3, hr4⟩ := Cd.right_bd (Cd.all_of HA.out k hlt)
        have hb1 := hbel.alloc hbel.size (Obj.cells #[Value.int IntKind.i64 ps[k].1, Value.int IntKind.i64 ps[k].2] 30)
        have hk500 : (1099511627776 : Int) * k ≤ 549755813888000 := by omega
        cases hrk : Cd.reck ps[k]
        · have HS := Lib.hid (costSum_skip cost ps k hlt hrk)
          have HF := Lib.hid (show Cd.fine cost ps[k] = true by simp [Cd.fine, hrk])
          have hgt : 2 < ps[k].1 := by
            have hx : ¬ ps[k].1 = 1 ∧ ¬ ps[k].1 = 2 := by simpa [Cd.reck] using hrk
            omega
          clear hrk hbel
          generalize Safe.sum (Cd.costList cost (ps.take k)) = sm at hs0 hs1 HS
          go_wp2_with fail
          go_roundw
          case rel => exact ⟨k + 1, by omega, by go_num, by rw [HS.out], by rw [HS.out]; omega, by rw [HS.out]; omega, fun j hj hj2 => by rcases Nat.lt_succ_iff_lt_or_eq.1 hj2 with h | h; exact HO.out j hj h; subst h; exact HF.out, hb1⟩
          case measure => simp [intOf]; omega
        · have HS := Lib.hid (costSum_add cost ps k hlt hrk)
          have HK := Lib.hid hrk
          have hx : ps[k].1 = 1 ∨ ps[k].1 = 2 := by simpa [Cd.reck] using hrk
          have hx2 : ¬ 2 < ps[k].1 := by omega
          clear hrk hx
          generalize hp : ps[k] = p at hc hd hr1 hr2 hr3 hr4 hb1 HS HK hx2
          obtain ⟨kd, id⟩ := p
          have HP := Lib.hid hp
          clear hp
          dsimp only at hc hd hr1 hr2 hr3 hr4 hb1 HS HK hx2
          generalize Safe.sum (Cd.costList cost (ps.take k)) = sm at hs0 hs1 HS
          by_cases hin : id < (cost.length : Int)
          · obtain ⟨m, rfl⟩ := Int.eq_ofNat_of_zero_le hr3
            rw [Int.toNat_natCast] at HS
            obtain ⟨b2, off2, rfl, hbb2, hc2⟩ := HJ.out.below hbw (Nat.le_refl _) m (by omega)
            have hml : m < cost.length := by omega
            have ez : cost.getD m 0 = cost[m] := by simp [hml]
            have HE := Lib.hid ez
            clear ez
            cases hgood : Safe.ok cost[m]
            · have HF := Lib.hid (Cd.costs_form hck.out (Cd.not_all hlt (show Cd.fine cost ps[k] = false by rw [HP.out]; simp [Cd.fine, HK.out, Cd.costOk, hgood, hml])))
              have HG := Lib.hid hgood
              clear hgood
              rw [HF.out]
              go_wp2_with fail
              refine (ref_right _ _).mono ?_
              rintro e w3 ⟨rfl, rfl⟩
              rw [HG.out]
              go_wp2_with fail
              refine (awake17 _).mono ?_
              rintro e w4 ⟨rfl, h4⟩
              go_wp2_with fail
              go_ret
              have hb5 := hb2.trans (hb1.mono hz2)
              exact ⟨rfl, hb5.trans (h4.mono hb5.size)⟩
            · have HF := Lib.hid (show Cd.fine cost ps[k] = true by rw [HP.out]; simp [Cd.fine, HK.out, Cd.costOk, hgood, hml])
              have ⟨hg0, hg1⟩ := (Safe.ok_iff _).1 hgood
              have HG := Lib.hid hgood
              clear hgood
              go_wp2_with fail
              refine (ref_right _ _).mono ?_
              rintro e w3 ⟨rfl, rfl⟩
              rw [HG.out]
              go_wp2_with fail
              go_roundw
              case rel => exact ⟨k + 1, by omega, by go_num, by rw [HS.out, HE.out], by rw [HS.out, HE.out]; omega, by rw [HS.out, HE.out]; omega, fun j hj hj2 => by rcases Nat.lt_succ_iff_lt_or_eq.1 hj2 with h | h; exact HO.out j hj h; subst h; exact HF.out, hb1⟩
              case measure => simp [intOf]; omega
          · have HF := Lib.hid (Cd.costs_form hck.out (Cd.not_all hlt (show Cd.fine cost ps[k] = false by rw [HP.out]; simp [Cd.fine, HK.out, Cd.costOk]; intro h; omega)))
            rw [HF.out]
            go_wp2_with fail
            refine (awake17 _).mono ?_
            rintro e w4 ⟨rfl, h4⟩
            go_wp2_with fail
            go_ret
            have hb5 := hb2.trans (hb1.mono hz2)
            exact ⟨rfl, hb5.trans (h4.mono hb5.size)⟩
      · obtain rfl : k = ps.length := by omega
        have hc := costs_cases hck.out (Cd.all_get (p := Cd.fine cost) (fun j hj => HO.out j hj hj))
        rw [List.take_length] at hs0 hs1 ⊢
        generalize Safe.sum (Cd.costList cost ps) = sm at hs0 hs1 hc
        rcases hc with ⟨hc, hbig⟩ | ⟨hc, hbig⟩
        all_goals
          rw [hc]
          clear hc
          go_wp2_with fail
          refine (awake17 _).mono ?_
          rintro e w4 ⟨rfl, h4⟩
          go_wp2_with fail
          go_ret
          exact ⟨rfl, hbw.trans (h4.mono hbw.size)⟩

set_option maxHeartbeats 800000 in
theorem walkCodeCosts (w : World) (A : Option Addr) (c : Nat) (ps : List (Int × Int)) (hl : ps.length ≤ 9223372036854775807) (hI : Pairs w A ps) (_hw : ∀ p ∈ ps, (Lit.int .i64 p.1).wf = true ∧ (Lit.int .i64 p.2).wf = true)
    (B : Option Addr) (d : Nat) (cost : List Int) (hl2 : cost.length ≤ 9223372036854775807) (hJ : Ints .i64 w B cost) (_hw2 : ∀ n ∈ cost, (Lit.int .i64 n).wf = true) :
    Calls Tryd.prog 5 #[.slice A ps.length c, .slice B cost.length d] w fun e w' => e = .returned (.bool true) ∧ Below w.heap.size w w' := by
  by_cases h500 : 500 < ps.length
  · clear hI hJ _hw _hw2
    go_enter Tryd.func5, Tryd.ntmps5
    go_wp2_with fail
    refine (awake17 _).mono ?_
    rintro e w1 ⟨rfl, h1⟩
    go_wp2_with fail
    go_ret
    exact ⟨rfl, h1⟩
  · by_cases h600 : 600 < cost.length
    · clear hI hJ _hw _hw2
      go_enter Tryd.func5, Tryd.ntmps5
      go_wp2_with fail
      refine (awake17 _).mono ?_
      rintro e w1 ⟨rfl, h1⟩
      go_wp2_with fail
      go_ret
      exact ⟨rfl, h1⟩
    · exact codeCosts_small w A c ps B d cost h500 h600 hI hJ
end Go.Proofs.YtklngiikgnmdeaaDoor

/- Layer 17 (code): contracts. -/
import Derived.Test.YtklngiikgnmdeaaDoorChecked
import Derived.Test.YtklngiikgnmdeaaDoorMem
import Derived.Test.YtklngiikgnmdeaaDoorCodeP
import Derived.KernelRfl
import Derived.Deep.QuietTactic
import Derived.BigQuiet
namespace Go.Proofs.YtklngiikgnmdeaaDoor
open Go.RowKit

/-- The slice at A reads as the pairs ps. -/
def Pairs (w : World) (A : Option Addr) (ps : List (Int × Int)) : Prop :=
  ∀ k (h : k < ps.length), ∃ b off, A = some ⟨b, off, none⟩ ∧ b < w.heap.size ∧ w.cell? ⟨b, off + k * 2, none⟩ = some (.int .i64 ps[k].1) ∧ w.cell? ⟨b, off + k * 2 + 1, none⟩ = some (.int .i64 ps[k].2)

section
variable {w w' : World} {A : Option Addr} {ps : List (Int × Int)}
theorem Pairs.nil : Pairs w A [] := fun j hj => by simp at hj
theorem Pairs.below {B : Nat} (h : Pairs w A ps) (hb : Below B w w') (hB : w.heap.size ≤ B) : Pairs w' A ps := fun j hj => by
  obtain ⟨b, off, e, hl, hc, hd⟩ := h j hj
  exact ⟨b, off, e, Nat.lt_of_lt_of_le hl hb.size, (hb.cell (p := ⟨b, off + j * 2, none⟩) (Nat.lt_of_lt_of_le hl hB)).trans hc, (hb.cell (p := ⟨b, off + j * 2 + 1, none⟩) (Nat.lt_of_lt_of_le hl hB)).trans hd⟩
end

theorem code_right (a b : Int) (w : World) :
    Calls Tryd.prog 10 #[.agg #[.int .i64 a, .int .i64 b]] w fun e w' => e = .returned (.bool (Cd.right (a, b))) ∧ Below w.heap.size w w' := by
  rcases Cd.kinds a with h | h | h
  · have hfin := Lib.hid (Cd.right_45 (p := (a, b)) h)
    rcases h with rfl | rfl
    all_goals
      go_enter Tryd.func10, Tryd.ntmps10
      go_wp2_with fail
      go_ret
      exact ⟨ret_bool (by rw [hfin.out]), (Below.refl _ _).alloc (Nat.le_refl _) _⟩
  · have hfin := Lib.hid (Cd.right_1236 (p := (a, b)) h)
    by_cases h1 : 1 ≤ b
    · rcases h with rfl | rfl | rfl | rfl
      all_goals
        go_enter Tryd.func10, Tryd.ntmps10
        go_wp2_with fail
        go_ret
        exact ⟨ret_bool (by rw [hfin.out]; simp [h1]), (Below.refl _ _).alloc (Nat.le_refl _) _⟩
    · rcases h with rfl | rfl | rfl | rfl
      all_goals
        go_enter Tryd.func10, Tryd.ntmps10
        go_wp2_with fail
        go_ret
        exact ⟨ret_bool (by rw [hfin.out]; simp; omega), (Below.refl _ _).alloc (Nat.le_refl _) _⟩
  · obtain ⟨h1, h2, h3, h4, h5, h6⟩ := h
    have hfin := Lib.hid (Cd.right_other (p := (a, b)) h1 h2 h3 h4 h5 h6)
    have g1 : (a == 1) = false := by simp [h1]
    have g2 : (a == 2) = false := by simp [h2]
    have g3 : (a == 3) = false := by simp [h3]
    have g4 : (a == 4) = false := by simp [h4]
    have g5 : (a == 5) = false := by simp [h5]
    have g6 : (a == 6) = false := by simp [h6]
    clear h1 h2 h3 h4 h5 h6
    go_enter Tryd.func10, Tryd.ntmps10
    go_wp2_with fail
    go_ret
    exact ⟨ret_bool (by rw [hfin.out]), (Below.refl _ _).alloc (Nat.le_refl _) _⟩

set_option maxHeartbeats 400000 in
theorem code_check (A : Option Addr) (c : Nat) (ps : List (Int × Int)) (w : World) (hl : ps.length ≤ 9223372036854775807) (hI : Pairs w A ps) :
    Calls Tryd.prog 13 #[.slice A ps.length c] w fun e w' => e = .returned (.int .i64 (Cd.check ps)) ∧ Below w.heap.size w w' := by
  have HI := Lib.hid hI
  clear hI
  by_cases hm : 65536 < ps.length
  · have hfin := Lib.hid (Cd.check_many hm)
    go_enter Tryd.func13, Tryd.ntmps13
    go_wp2_with fail
    go_ret
    exact ⟨ret_int (by rw [hfin.out]), Below.refl _ _⟩
  · go_enter Tryd.func13, Tryd.ntmps13
    go_wp2_with fail
    go_loopw [4, 10] (fun _ i wr => ∃ k : Nat, k ≤ ps.length ∧ i = .int .i64 k ∧ Below w.heap.size w wr ∧ ∀ j (hj : j < ps.length), j < k → Cd.right ps[j] = true) (fun _ i _ => ps.length - (intOf i).toNat)
    case atStart => exact ⟨0, Nat.zero_le _, rfl, Below.refl _ _, by intro j _ hj; omega⟩
    case round =>
      obtain ⟨k, hk, rfl, hbel, hok⟩ := hrel
      have HO := Lib.hid hok
      clear hok
      by_cases hlt : k < ps.length
      · obtain ⟨b, off, rfl, hb, hc, hd⟩ := HI.out.below hbel (Nat.le_refl _) k hlt
        go_wp2_with fail
        refine (code_right _ _ _).mono ?_
        rintro e w1 ⟨rfl, h1⟩
        have hb1 : Below w.heap.size w w1 := (hbel.alloc hbel.size _).trans (h1.mono (by have := hbel.size; simp; omega))
        clear h1 hbel
        cases hr : Cd.right (ps[k].1, ps[k].2)
        · have hfin := Lib.hid (Cd.check_form hm (Cd.not_all hlt hr))
          clear hr
          go_wp2_with fail
          go_ret
          exact ⟨ret_int (by rw [hfin.out]), hb1⟩
        · have HR := Lib.hid hr
          clear hr
          go_wp2_with fail
          go_roundw
          case rel => exact ⟨k + 1, by omega, by go_num, hb1, fun j hj hj2 => by rcases Nat.lt_succ_iff_lt_or_eq.1 hj2 with h | h; exact HO.out j hj h; subst h; exact HR.out⟩
          case measure => simp [intOf]; omega
      · obtain rfl : k = ps.length := by omega
        have hfin := Lib.hid (Cd.check_ok hm (Cd.all_get (fun j hj => HO.out j hj hj)))
        go_wp2_with fail
        go_ret
        exact ⟨ret_int (by rw [hfin.out]), hbel⟩

theorem ref17_right (a b : Int) (w : World) :
    Calls Tryd.prog 11 #[.int .i64 a, .int .i64 b] w fun e w' => e = .returned (.bool (Cd.right (a, b))) ∧ w = w' := by
  rcases Cd.kinds a with h | h | h
  · have hfin := Lib.hid (Cd.right_45 (p := (a, b)) h)
    rcases h with rfl | rfl
    all_goals
      go_enter Tryd.func11, Tryd.ntmps11
      go_wp2_with fail
      go_ret
      exact ⟨ret_bool (by rw [hfin.out]), rfl⟩
  · have hfin := Lib.hid (Cd.right_1236 (p := (a, b)) h)
    by_cases h1 : 1 ≤ b
    · rcases h with rfl | rfl | rfl | rfl
      all_goals
        go_enter Tryd.func11, Tryd.ntmps11
        go_wp2_with fail
        go_ret
        exact ⟨ret_bool (by rw [hfin.out]; simp [h1]), rfl⟩
    · rcases h with rfl | rfl | rfl | rfl
      all_goals
        go_enter Tryd.func11, Tryd.ntmps11
        go_wp2_with fail
        go_ret
        exact ⟨ret_bool (by rw [hfin.out]; simp; omega), rfl⟩
  · obtain ⟨h1, h2, h3, h4, h5, h6⟩ := h
    have hfin := Lib.hid (Cd.right_other (p := (a, b)) h1 h2 h3 h4 h5 h6)
    have g1 : (a == 1) = false := by simp [h1]
    have g2 : (a == 2) = false := by simp [h2]
    have g3 : (a == 3) = false := by simp [h3]
    have g4 : (a == 4) = false := by simp [h4]
    have g5 : (a == 5) = false := by simp [h5]
    have g6 : (a == 6) = false := by simp [h6]
    clear h1 h2 h3 h4 h5 h6
    go_enter Tryd.func11, Tryd.ntmps11
    go_wp2_with fail
    go_ret
    exact ⟨ret_bool (by rw [hfin.out]), rfl⟩

end Go.Proofs.YtklngiikgnmdeaaDoor

/- Layer 17 (code): equality, names: contracts. -/
import Derived.Test.YtklngiikgnmdeaaDoorCodeB
import Derived.Test.YtklngiikgnmdeaaDoorCodeE
namespace Go.Proofs.YtklngiikgnmdeaaDoor
open Go.RowKit

theorem take_eq_succ {α : Type} (ps qs : List α) (k : Nat) (h1 : k < ps.length) (h2 : k < qs.length) : ps.take k = qs.take k → ps[k] = qs[k] → ps.take (k + 1) = qs.take (k + 1) := by
  intro h h'
  rw [List.take_succ_eq_append_getElem h1, List.take_succ_eq_append_getElem h2, h, h']

set_option maxHeartbeats 800000 in
theorem slices_equal_ins (A : Option Addr) (c : Nat) (ps : List (Int × Int)) (B : Option Addr) (d : Nat) (qs : List (Int × Int)) (w : World) (hl : ps.length ≤ 9223372036854775807) (hI : Pairs w A ps) (hJ : Pairs w B qs) :
    Calls Tryd.prog 22 #[.slice A ps.length c, .slice B qs.length d] w fun e w' => e = .returned (.bool (decide (ps = qs))) ∧ Below w.heap.size w w' := by
  have HI := Lib.hid hI
  have HJ := Lib.hid hJ
  have g1 := ins_stood
  have g2 := ins_guard
  clear hI hJ
  by_cases hlen : ps.length = qs.length
  · have hne : ((ps.length : Int) != (qs.length : Int)) = false := by simp [hlen]
    have HL := Lib.hid hlen
    have hq : qs.length ≤ 9223372036854775807 := by omega
    clear hlen
    go_enter Tryd.func22, Tryd.ntmps22
    go_wp2_with fail
    go_loopw [5, 13] (fun _ i wr => ∃ k : Nat, k ≤ ps.length ∧ i = .int .i64 k ∧ Below w.heap.size w wr ∧ ps.take k = qs.take k) (fun _ i _ => ps.length - (intOf i).toNat)
    case atStart => exact ⟨0, Nat.zero_le _, rfl, Below.refl _ _, rfl⟩
    case round =>
      obtain ⟨k, hk, rfl, hbel, hok⟩ := hrel
      have HO := Lib.hid hok
      clear hok
      by_cases hlt : k < ps.length
      · have hlq : k < qs.length := by have := HL.out; omega
        obtain ⟨b, off, rfl, hb, hc, hd⟩ := HI.out.below hbel (Nat.le_refl _) k hlt
        obtain ⟨b2, off2, rfl, hb2, hc2, hd2⟩ := HJ.out.below hbel (Nat.le_refl _) k hlq
        have HQ := Lib.hid (take_eq_succ ps qs k hlt hlq)
        cases he1 : (ps[k].1 == qs[k].1)
        · have hne : ps ≠ qs := fun h => by subst h; simp at he1
          have hfin := Lib.hid (decide_eq_false hne)
          clear hne
          go_wp2_with fail
          go_quiet (fail)
          go_wp2_with fail
          go_ret
          exact ⟨ret_bool (by rw [hfin.out]), Bdrawn hbel _⟩
        · cases he2 : (ps[k].2 == qs[k].2)
          · have hne : ps ≠ qs := fun h => by subst h; simp at he2
            have hfin := Lib.hid (decide_eq_false hne)
            clear hne
            go_wp2_with fail
            go_quiet (fail)
            go_wp2_with fail
            go_ret
            exact ⟨ret_bool (by rw [hfin.out]), Bdrawn hbel _⟩
          · have HE := Lib.hid (show ps[k] = qs[k] from Prod.ext (by simpa using he1) (by simpa using he2))
            go_wp2_with fail
            go_quiet (fail)
            go_wp2_with fail
            go_roundw
            case rel => exact ⟨k + 1, by omega, by go_num, Bdrawn hbel _, HQ.out HO.out HE.out⟩
            case measure => simp [intOf]; omega
      · obtain rfl : k = ps.length := by omega
        have hfin := Lib.hid (decide_eq_true (show ps = qs by have h := HO.out; rw [List.take_length, HL.out, List.take_length] at h; exact h))
        go_wp2_with fail
        go_ret
        exact ⟨ret_bool (by rw [hfin.out]), hbel⟩
  · have hne : ((ps.length : Int) != (qs.length : Int)) = true := by simp; omega
    have hfin := Lib.hid (decide_eq_false (show ps ≠ qs from fun h => hlen (by rw [h])))
    clear hlen
    go_enter Tryd.func22, Tryd.ntmps22
    go_wp2_with fail
    go_ret
    exact ⟨ret_bool (by rw [hfin.out]), Below.refl _ _⟩
theorem code_equal (A : Option Addr) (c : Nat) (ps : List (Int × Int)) (B : Option Addr) (d : Nat) (qs : List (Int × Int)) (w : World) (hl : ps.length ≤ 9223372036854775807) (hI : Pairs w A ps) (hJ : Pairs w B qs) :
    Calls Tryd.prog 15 #[.slice A ps.length c, .slice B qs.length d] w fun e w' => e = .returned (.bool (decide (ps = qs))) ∧ Below w.heap.size w w' := by
  have HI := Lib.hid hI
  have HJ := Lib.hid hJ
  clear hI hJ
  go_enter Tryd.func15, Tryd.ntmps15
  go_wp2_with fail
  refine (slices_equal_ins A c ps B d qs _ hl HI.out HJ.out).mono ?_
  rintro e w1 ⟨rfl, h1⟩
  go_wp2_with fail
  go_ret
  exact ⟨rfl, h1⟩

/-- The bytes of a kind's name. -/
def nameOf (kind : Int) : List UInt8 :=
  if kind = 1 then [115, 97, 118, 101] else if kind = 2 then [97, 103, 97, 105, 110] else if kind = 3 then [102, 114, 101, 101]
  else if kind = 4 then [101, 109, 105, 116] else if kind = 5 then [115, 101, 101, 100] else if kind = 6 then [98, 97, 99, 107] else []
theorem nameOf_out {kind : Int} (h : kind < 1 ∨ 7 ≤ kind) : nameOf kind = [] := by
  unfold nameOf
  rw [if_neg (by omega), if_neg (by omega), if_neg (by omega), if_neg (by omega), if_neg (by omega), if_neg (by omega)]

theorem code_name (kind : Int) (w : World) :
    Calls Tryd.prog 19 #[.int .i64 kind] w fun e w' => e = .returned (.string ⟨(nameOf kind).toArray⟩) ∧ Below w.heap.size w w' := by
  by_cases h0 : kind < 0
  · have hfin := Lib.hid (nameOf_out (.inl (show kind < 1 by omega)))
    go_enter Tryd.func19, Tryd.ntmps19
    go_wp2_with fail
    go_ret
    exact ⟨by rw [hfin.out]; rfl, (Below.refl _ _).alloc (Nat.le_refl _) _⟩
  · by_cases h7 : 7 ≤ kind
    · have hfin := Lib.hid (nameOf_out (.inr h7))
      go_enter Tryd.func19, Tryd.ntmps19
      go_wp2_with fail
      go_ret
      exact ⟨by rw [hfin.out]; rfl, (Below.refl _ _).alloc (Nat.le_refl _) _⟩
    · rcases (show kind = 0 ∨ kind = 1 ∨ kind = 2 ∨ kind = 3 ∨ kind = 4 ∨ kind = 5 ∨ kind = 6 by omega) with rfl | rfl | rfl | rfl | rfl | rfl | rfl
      all_goals
        go_enter Tryd.func19, Tryd.ntmps19
        go_wp2_with fail
        go_ret
        exact ⟨rfl, (Below.refl _ _).alloc (Nat.le_refl _) _⟩
end Go.Proofs.YtklngiikgnmdeaaDoor

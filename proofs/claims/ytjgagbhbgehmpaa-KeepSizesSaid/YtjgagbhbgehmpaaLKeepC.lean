/- Plain laws that the walks of KeepSizes, KeepDecodes and KeepCuts share. -/
import Derived.Test.YtjgagbhbgehmpaaLKeepEncodes
namespace Go.Proofs.Ytjgagbhbgehmpaa
open Go.RowKit

theorem small_err {s : Sav} (hsm : Lw.small s = true) (ha : Tn.alike s.p s.v = true) (hp : s.p.length ≤ 3000000000000) : Kp.err s = 0 := by
  have htn := Lw.small_tiny hsm ha hp
  refine Kp.err_ok ha ?_ (by have := htn.2.2.1; omega)
  have hll := (Kp.alike_all ha).1
  simp only [Lw.small, Bool.and_eq_true, decide_eq_true_eq] at hsm
  have r1 := Lw.raw_le (Kp.alike_all ha).2.1
  have r2 := Lw.raw_le (Kp.alike_all ha).2.2.1
  have r3 := Lw.raw_ge s.p
  have r4 := Lw.raw_ge s.v
  have := hsm.1
  unfold Lw.sz at this
  rw [wrap_in (Lw.raw s.p) (by omega) (by omega), wrap_in (Lw.raw s.v) (by omega) (by omega), wrap_in _ (by omega) (by omega)] at this
  omega

namespace Kq
open Fp Kr
theorem count_errs (most : Int) (st : Option (List Int)) : (count most st).2.1 = 0 ∨ (count most st).2.1 = 16 ∨ (count most st).2.1 = 12 := by
  unfold count
  split
  · simp
  · split <;> simp
theorem cells_errs (s : List Int) (st : Option (List Int)) : (Kr.cells s st).1 = 0 ∨ (Kr.cells s st).1 = 16 ∨ (Kr.cells s st).1 = 20 := by
  unfold Kr.cells
  split
  · simp
  · split <;> simp
theorem readP_errs (n : Nat) : ∀ acc st, (readP n acc st).1 = 0 ∨ (readP n acc st).1 = 16 ∨ (readP n acc st).1 = 20 := by
  induction n with
  | zero => intro acc st; simp [readP]
  | succ n ih =>
    intro acc st
    unfold readP
    split
    · simp
    · split
      · have := cells_errs (shapeR st).1 (shapeR st).2
        simpa using this
      · exact ih _ _
theorem readV_errs (fs : List (List Int)) : ∀ acc st, (readV fs acc st).1 = 0 ∨ (readV fs acc st).1 = 16 ∨ (readV fs acc st).1 = 20 := by
  induction fs with
  | nil => intro acc st; simp [readV]
  | cons f r ih =>
    intro acc st
    unfold readV
    split
    · have := cells_errs f st
      simpa using this
    · exact ih _ _
theorem state_errs (st : Option (List Int)) : (state st).1 = 0 ∨ (state st).1 = 16 ∨ (state st).1 = 12 ∨ (state st).1 = 20 := by
  unfold state state1
  split
  · have := count_errs 512 st
    rcases this with h | h | h <;> simp [h]
  · unfold state2
    split
    · have := readP_errs (count 512 st).1.toNat [] (count 512 st).2.2
      rcases this with h | h | h <;> simp [h]
    · unfold state3
      split
      · have := readV_errs ((readP (count 512 st).1.toNat [] (count 512 st).2.2).2.1.map (·.s)) [] (readP (count 512 st).1.toNat [] (count 512 st).2.2).2.2
        rcases this with h | h | h <;> simp [h]
      · simp
theorem metrics_errs (st : Option (List Int)) : (metrics st).1 = 0 ∨ (metrics st).1 = 16 ∨ (metrics st).1 = 12 := by
  unfold metrics metrics1
  split
  · have := count_errs 1024 st
    rcases this with h | h | h <;> simp [h]
  · split <;> simp
theorem decode_errs {bs : List Int} (h : openE bs = 0) : (Kr.decode bs).1 = 0 ∨ (Kr.decode bs).1 = 16 ∨ (Kr.decode bs).1 = 10 ∨ (Kr.decode bs).1 = 20 ∨ (Kr.decode bs).1 = 12 := by
  unfold Kr.decode
  simp only [h, ne_eq, not_true, if_false]
  unfold dec2
  split
  · simp
  · unfold dec3
    split
    · have := state_errs (get 4 (some (Fp.body bs))).2
      rcases this with h | h | h | h <;> simp [h]
    · unfold dec4
      split
      · have := metrics_errs (state (get 4 (some (Fp.body bs))).2).2.2.2
        rcases this with h | h | h <;> simp [h]
      · split
        · unfold endO
          split
          · simp
          · split <;> simp
        · simp
theorem open_mark {bs : List Int} (hb : ∀ x ∈ bs, 0 ≤ x ∧ x ≤ 255) (h8 : ¬ bs.length < 8) : (openE bs = 0 ↔ big (sum (Fp.body bs)) 4 = Fp.mark bs) ∧ (openE bs = 0 ∨ openE bs = 30) := by
  have hl : (Fp.mark bs).length = 4 := by unfold Fp.mark; rw [List.length_drop]; omega
  have hbm : ∀ x ∈ Fp.mark bs, 0 ≤ x ∧ x ≤ 255 := fun x hx => hb x (List.mem_of_mem_drop hx)
  have h1 := big_num (Fp.mark bs) hbm
  rw [hl] at h1
  unfold openE
  rw [if_neg h8]
  constructor
  · by_cases hs : num (Fp.mark bs) = sum (Fp.body bs)
    · rw [if_pos hs, ← hs, h1]; simp
    · rw [if_neg hs]
      constructor
      · intro h; simp at h
      · intro h
        refine absurd ?_ hs
        rw [← h, num_big]
        have := sum_range (Fp.body bs)
        simp; omega
  · by_cases hs : num (Fp.mark bs) = sum (Fp.body bs)
    · rw [if_pos hs]; simp
    · rw [if_neg hs]; simp
end Kq
end Go.Proofs.Ytjgagbhbgehmpaa

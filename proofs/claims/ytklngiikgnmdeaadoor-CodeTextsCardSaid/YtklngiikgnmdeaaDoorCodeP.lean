/- The plain law of layer 17: instructions and codes. No program is named here. -/
import Derived.Test.YtklngiikgnmdeaaDoorSafeP
namespace Go.Proofs.YtklngiikgnmdeaaDoor
namespace Cd

/-- An instruction: its kind and its number. -/
abbrev Ins := Int × Int

def right (p : Ins) : Bool :=
  if p.1 == 4 || p.1 == 5 then p.2 == 0
  else (p.1 == 1 || p.1 == 2 || p.1 == 3 || p.1 == 6) && (decide (1 ≤ p.2) && decide (p.2 ≤ 512))

def check (ps : List Ins) : Int := if 65536 < ps.length then 12 else if ps.all right then 0 else 10

theorem check_many {ps : List Ins} (h : 65536 < ps.length) : check ps = 12 := by simp [check, h]
theorem check_form {ps : List Ins} (h : ¬ 65536 < ps.length) (ha : ps.all right = false) : check ps = 10 := by simp [check, h, ha]
theorem check_ok {ps : List Ins} (h : ¬ 65536 < ps.length) (ha : ps.all right = true) : check ps = 0 := by simp [check, h, ha]

theorem right_45 {p : Ins} (h : p.1 = 4 ∨ p.1 = 5) : right p = (p.2 == 0) := by
  have : (p.1 == 4 || p.1 == 5) = true := by rcases h with h | h <;> simp [h]
  simp [right, this]
theorem right_1236 {p : Ins} (h : p.1 = 1 ∨ p.1 = 2 ∨ p.1 = 3 ∨ p.1 = 6) : right p = (decide (1 ≤ p.2) && decide (p.2 ≤ 512)) := by
  rcases h with h | h | h | h <;> simp [right, h]
theorem right_other {p : Ins} (h1 : p.1 ≠ 1) (h2 : p.1 ≠ 2) (h3 : p.1 ≠ 3) (h4 : p.1 ≠ 4) (h5 : p.1 ≠ 5) (h6 : p.1 ≠ 6) : right p = false := by simp [right, *]
theorem right_bd {p : Ins} (h : right p = true) : 1 ≤ p.1 ∧ p.1 ≤ 6 ∧ 0 ≤ p.2 ∧ p.2 ≤ 512 := by
  unfold right at h
  split at h
  · rename_i h1
    simp at h1 h
    omega
  · simp at h
    omega
theorem kinds (a : Int) : (a = 4 ∨ a = 5) ∨ (a = 1 ∨ a = 2 ∨ a = 3 ∨ a = 6) ∨ (a ≠ 1 ∧ a ≠ 2 ∧ a ≠ 3 ∧ a ≠ 4 ∧ a ≠ 5 ∧ a ≠ 6) := by omega

theorem all_of {p : Ins → Bool} {ps : List Ins} (h : ps.all p = true) (k : Nat) (hk : k < ps.length) : p ps[k] = true := by
  rw [List.all_eq_true] at h
  exact h _ (List.getElem_mem hk)
theorem all_get {p : Ins → Bool} {ps : List Ins} (h : ∀ j (hj : j < ps.length), p ps[j] = true) : ps.all p = true := by
  rw [List.all_eq_true]
  intro x hx
  obtain ⟨i, hi, rfl⟩ := List.getElem_of_mem hx
  exact h i hi
theorem not_all {p : Ins → Bool} {ps : List Ins} {k : Nat} (hk : k < ps.length) (h : p ps[k] = false) : ps.all p = false := by
  rw [Bool.eq_false_iff]
  intro h2
  rw [all_of h2 k hk] at h
  cases h

/-- How many of a kind. -/
def count (kind : Int) : List Ins → Int
  | [] => 0
  | p :: r => (if p.1 == kind then 1 else 0) + count kind r
theorem count_append (kind : Int) (a b : List Ins) : count kind (a ++ b) = count kind a + count kind b := by
  induction a with
  | nil => simp [count]
  | cons x r ih => simp [count, ih]; omega
theorem count_take_succ (kind : Int) (ps : List Ins) (k : Nat) (h : k < ps.length) : count kind (ps.take (k + 1)) = count kind (ps.take k) + (if ps[k].1 == kind then 1 else 0) := by
  rw [List.take_succ_eq_append_getElem h, count_append]; simp [count]
theorem count_bd (kind : Int) (ps : List Ins) : 0 ≤ count kind ps ∧ count kind ps ≤ ps.length := by
  induction ps with
  | nil => simp [count]
  | cons x r ih => simp only [count, List.length_cons]; split <;> omega

/-- The bytes of instructions. -/
def flat (ps : List Ins) : List Int := ps.flatMap fun p => [p.1, p.2 / 256, p.2 % 256]
theorem flat_length (ps : List Ins) : (flat ps).length = 3 * ps.length := by
  induction ps with
  | nil => rfl
  | cons x r ih => simp [flat] at ih ⊢; omega
theorem flat_append (a b : List Ins) : flat (a ++ b) = flat a ++ flat b := by simp [flat]
theorem flat_take_succ (ps : List Ins) (k : Nat) (h : k < ps.length) : flat (ps.take (k + 1)) = flat (ps.take k) ++ [ps[k].1, ps[k].2 / 256, ps[k].2 % 256] := by
  rw [List.take_succ_eq_append_getElem h, flat_append]; simp [flat]
def bytes (ps : List Ins) : List Int := if check ps = 0 then flat ps else []
theorem bytes_ok {ps : List Ins} (h : check ps = 0) : bytes ps = flat ps := by simp [bytes, h]
theorem bytes_bad {ps : List Ins} (h : check ps ≠ 0) : bytes ps = [] := by simp [bytes, h]
theorem check_zero {ps : List Ins} (h : check ps = 0) : ps.length ≤ 65536 ∧ ps.all right = true := by
  unfold check at h
  split at h
  · simp at h
  · split at h
    · exact ⟨by omega, by assumption⟩
    · simp at h
theorem check_cases (ps : List Ins) : check ps = 0 ∨ check ps = 10 ∨ check ps = 12 := by unfold check; split <;> (try split) <;> simp

/-- What is reckoned, and its cost. -/
def reck (p : Ins) : Bool := p.1 == 1 || p.1 == 2
def costOk (cost : List Int) (p : Ins) : Bool := decide (p.2 < cost.length) && Safe.ok (cost.getD p.2.toNat 0)
def costList (cost : List Int) (ps : List Ins) : List Int := (ps.filter reck).map fun p => cost.getD p.2.toNat 0
def fine (cost : List Int) (p : Ins) : Bool := !reck p || costOk cost p
def costs (ps : List Ins) (cost : List Int) : Int × Int :=
  if check ps = 0 then (if ps.all (fine cost) then (if Safe.sum (costList cost ps) ≤ Safe.top then (Safe.sum (costList cost ps), 0) else (0, 12)) else (0, 10)) else (0, check ps)
theorem costs_bad {ps : List Ins} (h : check ps ≠ 0) (cost : List Int) : costs ps cost = (0, check ps) := by simp [costs, h]
theorem costs_form {ps : List Ins} {cost : List Int} (h : check ps = 0) (h1 : ps.all (fine cost) = false) : costs ps cost = (0, 10) := by simp [costs, h, h1]
theorem costs_many {ps : List Ins} {cost : List Int} (h : check ps = 0) (h1 : ps.all (fine cost) = true) (h2 : ¬ Safe.sum (costList cost ps) ≤ Safe.top) : costs ps cost = (0, 12) := by simp [costs, h, h1, h2]
theorem costs_sum {ps : List Ins} {cost : List Int} (h : check ps = 0) (h1 : ps.all (fine cost) = true) (h2 : Safe.sum (costList cost ps) ≤ Safe.top) : costs ps cost = (Safe.sum (costList cost ps), 0) := by simp [costs, h, h1, h2]
theorem costList_take_skip (cost : List Int) (ps : List Ins) (k : Nat) (h : k < ps.length) (hr : reck ps[k] = false) : costList cost (ps.take (k + 1)) = costList cost (ps.take k) := by
  rw [List.take_succ_eq_append_getElem h, costList, List.filter_append, List.map_append]; simp [costList, hr]
theorem costList_take_add (cost : List Int) (ps : List Ins) (k : Nat) (h : k < ps.length) (hr : reck ps[k] = true) : costList cost (ps.take (k + 1)) = costList cost (ps.take k) ++ [cost.getD ps[k].2.toNat 0] := by
  rw [List.take_succ_eq_append_getElem h, costList, List.filter_append, List.map_append]; simp [costList, hr]
theorem costList_le (cost : List Int) (ps : List Ins) : (costList cost ps).length ≤ ps.length := by
  simp [costList]; exact List.length_filter_le _ _
theorem costList_ok {cost : List Int} {ps : List Ins} (h : ps.all (fine cost) = true) : (costList cost ps).all Safe.ok = true := by
  rw [List.all_eq_true] at h ⊢
  intro x hx
  simp only [costList, List.mem_map, List.mem_filter] at hx
  obtain ⟨p, ⟨hp, hr⟩, rfl⟩ := hx
  have := h p hp
  simp [fine, hr, costOk] at this
  simpa using this.2

/-- The instructions of bytes. -/
def insAt (zs : List Int) (k : Nat) : Ins := (zs.getD (3 * k) 0, zs.getD (3 * k + 1) 0 * 256 + zs.getD (3 * k + 2) 0)
def groupTo (zs : List Int) (k : Nat) : List Ins := (List.range k).map (insAt zs)
theorem groupTo_length (zs : List Int) (k : Nat) : (groupTo zs k).length = k := by simp [groupTo]
theorem groupTo_succ (zs : List Int) (k : Nat) : groupTo zs (k + 1) = groupTo zs k ++ [insAt zs k] := by simp [groupTo, List.range_succ]
def group (zs : List Int) : List Ins := groupTo zs (zs.length / 3)
def parse (zs : List Int) : List Ins × Int :=
  if zs.length % 3 = 0 then (if 65536 < zs.length / 3 then ([], 12) else if check (group zs) = 0 then (group zs, 0) else ([], check (group zs))) else ([], 16)
theorem parse_short {zs : List Int} (h : ¬ zs.length % 3 = 0) : parse zs = ([], 16) := by simp [parse, h]
theorem parse_many {zs : List Int} (h : zs.length % 3 = 0) (h1 : 65536 < zs.length / 3) : parse zs = ([], 12) := by simp [parse, h, h1]
theorem parse_bad {zs : List Int} (h : zs.length % 3 = 0) (h1 : ¬ 65536 < zs.length / 3) (h2 : ¬ check (group zs) = 0) : parse zs = ([], check (group zs)) := by simp [parse, h, h1, h2]
theorem parse_ok {zs : List Int} (h : zs.length % 3 = 0) (h1 : ¬ 65536 < zs.length / 3) (h2 : check (group zs) = 0) : parse zs = (group zs, 0) := by simp [parse, h, h1, h2]

theorem flat_at (ps : List Ins) : ∀ (k : Nat) (h : k < ps.length), (flat ps).getD (3 * k) 0 = ps[k].1 ∧ (flat ps).getD (3 * k + 1) 0 = ps[k].2 / 256 ∧ (flat ps).getD (3 * k + 2) 0 = ps[k].2 % 256 := by
  induction ps with
  | nil => intro k h; simp at h
  | cons x r ih =>
    intro k h
    rcases k with _ | k
    · simp [flat]
    · have := ih k (by simpa using h)
      have e1 : 3 * (k + 1) = 3 * k + 1 + 1 + 1 := by omega
      rw [e1]
      simpa [flat] using this
theorem insAt_flat (ps : List Ins) (k : Nat) (h : k < ps.length) : insAt (flat ps) k = ps[k] := by
  have ⟨a, b, c⟩ := flat_at ps k h
  unfold insAt
  rw [a, b, c]
  exact Prod.ext rfl (by simp only; omega)
theorem group_flat (ps : List Ins) : group (flat ps) = ps := by
  unfold group groupTo
  rw [flat_length, Nat.mul_div_cancel_left _ (by decide)]
  apply List.ext_getElem
  · simp
  · intro i h1 h2
    simp only [List.getElem_map, List.getElem_range]
    exact insAt_flat ps i h2
theorem parse_flat {ps : List Ins} (h : check ps = 0) : parse (flat ps) = (ps, 0) := by
  have hl := (check_zero h).1
  have hf := flat_length ps
  rw [parse_ok (by omega) (by omega) (by rw [group_flat]; exact h), group_flat]
theorem flat_byte {ps : List Ins} (h : ps.all right = true) : ∀ n ∈ flat ps, 0 ≤ n ∧ n ≤ 255 := by
  intro n hn
  rw [List.all_eq_true] at h
  simp only [flat, List.mem_flatMap] at hn
  obtain ⟨p, hp, hn⟩ := hn
  have ⟨a, b, c, d⟩ := right_bd (h p hp)
  simp only [List.mem_cons, List.mem_nil_iff, or_false] at hn
  rcases hn with rfl | rfl | rfl <;> omega

theorem flat_groupTo (zs : List Int) (hb : ∀ n ∈ zs, 0 ≤ n ∧ n ≤ 255) : ∀ k, 3 * k ≤ zs.length → flat (groupTo zs k) = zs.take (3 * k) := by
  intro k
  induction k with
  | zero => intro _; simp [groupTo, flat]
  | succ k ih =>
    intro h
    have h0 : 3 * k < zs.length := by omega
    have h1 : 3 * k + 1 < zs.length := by omega
    have h2 : 3 * k + 2 < zs.length := by omega
    have b1 := hb _ (List.getElem_mem h1)
    have b2 := hb _ (List.getElem_mem h2)
    rw [groupTo_succ, flat_append, ih (by omega)]
    have e : 3 * (k + 1) = 3 * k + 1 + 1 + 1 := by omega
    rw [e, List.take_succ_eq_append_getElem h2, List.take_succ_eq_append_getElem h1, List.take_succ_eq_append_getElem h0]
    have d1 : (zs[3 * k + 1] * 256 + zs[3 * k + 2]) / 256 = zs[3 * k + 1] := by omega
    have d2 : (zs[3 * k + 1] * 256 + zs[3 * k + 2]) % 256 = zs[3 * k + 2] := by omega
    have g0 : zs.getD (3 * k) 0 = zs[3 * k] := by simp [h0]
    have g1 : zs.getD (3 * k + 1) 0 = zs[3 * k + 1] := by simp [h1]
    have g2 : zs.getD (3 * k + 2) 0 = zs[3 * k + 2] := by simp [h2]
    have hf : flat [insAt zs k] = [zs[3 * k], zs[3 * k + 1], zs[3 * k + 2]] := by
      show [(insAt zs k).1, (insAt zs k).2 / 256, (insAt zs k).2 % 256] ++ [] = _
      simp only [insAt, g0, g1, g2, d1, d2, List.append_nil]
    rw [hf]
    simp only [List.append_assoc, List.cons_append, List.nil_append]
theorem flat_group {zs : List Int} (h3 : zs.length % 3 = 0) (hb : ∀ n ∈ zs, 0 ≤ n ∧ n ≤ 255) : flat (group zs) = zs := by
  unfold group
  rw [flat_groupTo zs hb _ (by omega), show 3 * (zs.length / 3) = zs.length by omega, List.take_length]
theorem group_length (zs : List Int) : (group zs).length = zs.length / 3 := groupTo_length _ _
theorem group_get (zs : List Int) (k : Nat) (h : k < (group zs).length) : (group zs)[k] = insAt zs k := by
  simp [group, groupTo]
end Cd
end Go.Proofs.YtklngiikgnmdeaaDoor

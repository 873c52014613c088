/- The plain law of layer 2: sums and products of numbers, or an error's number. No program is named here. -/
namespace Go.Proofs.Ytjkhpbngpceenaa
namespace Safe

def top : Int := 1099511627776
theorem top_eq : top = 1099511627776 := rfl
def ok (n : Int) : Bool := decide (0 ≤ n ∧ n ≤ 1099511627776)
theorem ok_iff (n : Int) : ok n = true ↔ 0 ≤ n ∧ n ≤ 1099511627776 := by simp [ok]

def sum : List Int → Int
  | [] => 0
  | x :: r => x + sum r
def prod : List Int → Int
  | [] => 1
  | x :: r => x * prod r

theorem sum_append (a b : List Int) : sum (a ++ b) = sum a + sum b := by
  induction a with
  | nil => simp [sum]
  | cons x r ih => simp [sum, ih]; omega
theorem prod_append (a b : List Int) : prod (a ++ b) = prod a * prod b := by
  induction a with
  | nil => simp [prod]
  | cons x r ih => simp [prod, ih, Int.mul_assoc]
theorem sum_reverse (a : List Int) : sum a.reverse = sum a := by
  induction a with
  | nil => rfl
  | cons x r ih => simp [sum_append, sum, ih]; omega
theorem prod_reverse (a : List Int) : prod a.reverse = prod a := by
  induction a with
  | nil => rfl
  | cons x r ih => simp [prod_append, prod, ih, Int.mul_comm]
theorem sum_take_succ (zs : List Int) (k : Nat) (h : k < zs.length) : sum (zs.take (k + 1)) = sum (zs.take k) + zs[k] := by
  rw [List.take_succ_eq_append_getElem h, sum_append]; simp [sum]
theorem prod_take_succ (zs : List Int) (k : Nat) (h : k < zs.length) : prod (zs.take (k + 1)) = prod (zs.take k) * zs[k] := by
  rw [List.take_succ_eq_append_getElem h, prod_append]; simp [prod]
theorem sum_nonneg (zs : List Int) (h : ∀ x ∈ zs, 0 ≤ x) : 0 ≤ sum zs := by
  induction zs with
  | nil => simp [sum]
  | cons x r ih =>
    have h1 := h x (by simp)
    have h2 := ih (fun y hy => h y (by simp [hy]))
    simp [sum]; omega
theorem prod_pos (zs : List Int) (h : ∀ x ∈ zs, 1 ≤ x) : 1 ≤ prod zs := by
  induction zs with
  | nil => simp [prod]
  | cons x r ih =>
    have h1 := h x (by simp)
    have h2 := ih (fun y hy => h y (by simp [hy]))
    have h3 : 0 < x * prod r := Int.mul_pos (by omega) (by omega)
    simp [prod]; omega
theorem sum_take_le (zs : List Int) (k : Nat) (h : ∀ x ∈ zs, 0 ≤ x) : sum (zs.take k) ≤ sum zs := by
  have e : sum zs = sum (zs.take k) + sum (zs.drop k) := by rw [← sum_append, List.take_append_drop]
  have := sum_nonneg (zs.drop k) (fun x hx => h x (List.mem_of_mem_drop hx))
  omega
theorem prod_take_le (zs : List Int) (k : Nat) (h : ∀ x ∈ zs, 1 ≤ x) : prod (zs.take k) ≤ prod zs := by
  have e : prod zs = prod (zs.take k) * prod (zs.drop k) := by rw [← prod_append, List.take_append_drop]
  have h1 := prod_pos (zs.drop k) (fun x hx => h x (List.mem_of_mem_drop hx))
  have h2 := prod_pos (zs.take k) (fun x hx => h x (List.mem_of_mem_take hx))
  rw [e]
  have : prod (zs.take k) * 1 ≤ prod (zs.take k) * prod (zs.drop k) := Int.mul_le_mul_of_nonneg_left h1 (by omega)
  omega

/-- All together, or an error's number. -/
def add (zs : List Int) : Int × Int := if zs.all ok then (if sum zs ≤ top then (sum zs, 0) else (0, 17)) else (0, 11)
/-- The product, or an error's number. -/
def mul (zs : List Int) : Int × Int := if zs.all ok then (if zs.all (· != 0) then (if prod zs ≤ top then (prod zs, 0) else (0, 17)) else (0, 0)) else (0, 11)

theorem add_reverse (zs : List Int) : add zs.reverse = add zs := by simp [add, sum_reverse]
theorem mul_reverse (zs : List Int) : mul zs.reverse = mul zs := by simp [mul, prod_reverse]

theorem all_getD {p : Int → Bool} {zs : List Int} (h : ∀ j, j < zs.length → p (zs.getD j 0) = true) : zs.all p = true := by
  rw [List.all_eq_true]
  intro x hx
  obtain ⟨i, hi, rfl⟩ := List.getElem_of_mem hx
  have := h i hi
  simpa [hi] using this
theorem all_of {p : Int → Bool} {zs : List Int} (h : zs.all p = true) : ∀ j, j < zs.length → p (zs.getD j 0) = true := by
  intro j hj
  rw [List.all_eq_true] at h
  have := h zs[j] (List.getElem_mem hj)
  simpa [hj] using this
theorem not_all {p : Int → Bool} {zs : List Int} {j : Nat} (hj : j < zs.length) (h : p (zs.getD j 0) = false) : zs.all p = false := by
  rw [Bool.eq_false_iff]
  intro h2
  rw [all_of h2 j hj] at h
  cases h
theorem nonneg_of {zs : List Int} (h : zs.all ok = true) : ∀ x ∈ zs, 0 ≤ x := fun x hx => by
  rw [List.all_eq_true] at h
  exact ((ok_iff x).1 (h x hx)).1
theorem pos_of {zs : List Int} (h : zs.all ok = true) (h0 : zs.all (· != 0) = true) : ∀ x ∈ zs, 1 ≤ x := fun x hx => by
  rw [List.all_eq_true] at h h0
  have h1 := ((ok_iff x).1 (h x hx)).1
  have h2 := h0 x hx
  simp at h2
  omega

theorem add_range {zs : List Int} (h : zs.all ok = false) : add zs = (0, 11) := by simp [add, h]
theorem add_big {zs : List Int} (h : zs.all ok = true) (k : Nat) (hs : top < sum (zs.take k)) : add zs = (0, 17) := by
  have := sum_take_le zs k (nonneg_of h)
  rw [add, if_pos h, if_neg (by omega)]
theorem add_sum {zs : List Int} (h : zs.all ok = true) (hs : sum zs ≤ top) : add zs = (sum zs, 0) := by
  rw [add, if_pos h, if_pos hs]
theorem mul_range {zs : List Int} (h : zs.all ok = false) : mul zs = (0, 11) := by simp [mul, h]
theorem mul_zero {zs : List Int} (h : zs.all ok = true) (h0 : zs.all (· != 0) = false) : mul zs = (0, 0) := by simp [mul, h, h0]
theorem mul_big {zs : List Int} (h : zs.all ok = true) (h0 : zs.all (· != 0) = true) (k : Nat) (hs : top < prod (zs.take k)) : mul zs = (0, 17) := by
  have := prod_take_le zs k (pos_of h h0)
  rw [mul, if_pos h, if_pos h0, if_neg (by omega)]
theorem mul_prod {zs : List Int} (h : zs.all ok = true) (h0 : zs.all (· != 0) = true) (hs : prod zs ≤ top) : mul zs = (prod zs, 0) := by
  rw [mul, if_pos h, if_pos h0, if_pos hs]

theorem add_bd (zs : List Int) : 0 ≤ (add zs).1 ∧ (add zs).1 ≤ 1099511627776 ∧ ((add zs).2 = 0 ∨ (add zs).2 = 11 ∨ (add zs).2 = 17) := by
  unfold add
  split
  · rename_i h
    have := sum_nonneg zs (nonneg_of h)
    split
    · rename_i h2
      rw [top_eq] at h2
      exact ⟨by simpa using this, by simpa using h2, by simp⟩
    · simp
  · simp
theorem mul_bd (zs : List Int) : 0 ≤ (mul zs).1 ∧ (mul zs).1 ≤ 1099511627776 ∧ ((mul zs).2 = 0 ∨ (mul zs).2 = 11 ∨ (mul zs).2 = 17) := by
  unfold mul
  split
  · rename_i h
    split
    · rename_i h0
      have := prod_pos zs (pos_of h h0)
      split
      · rename_i h2
        rw [top_eq] at h2
        exact ⟨by simp; omega, by simpa using h2, by simp⟩
      · simp
    · simp
  · simp
end Safe
end Go.Proofs.Ytjkhpbngpceenaa
namespace Go.Proofs.Ytjkhpbngpceenaa
namespace Safe
/-- The greatest one of all, and 0. -/
def maxTo (m : Int) : List Int → Int
  | [] => m
  | x :: r => maxTo (if m < x then x else m) r
def max (zs : List Int) : Int := maxTo 0 zs
theorem maxTo_append (a b : List Int) : ∀ m, maxTo m (a ++ b) = maxTo (maxTo m a) b := by
  induction a with
  | nil => intro m; rfl
  | cons x r ih => intro m; simp [maxTo, ih]
theorem max_take_succ (zs : List Int) (k : Nat) (h : k < zs.length) : max (zs.take (k + 1)) = if max (zs.take k) < zs[k] then zs[k] else max (zs.take k) := by
  rw [List.take_succ_eq_append_getElem h, max, maxTo_append]; rfl

/-- The root. -/
def nroot : Nat → Nat
  | 0 => 0
  | n + 1 => if (nroot n + 1) * (nroot n + 1) ≤ n + 1 then nroot n + 1 else nroot n
theorem nroot_spec (n : Nat) : nroot n * nroot n ≤ n ∧ n < (nroot n + 1) * (nroot n + 1) := by
  induction n with
  | zero => simp [nroot]
  | succ n ih =>
    unfold nroot
    split
    · rename_i h
      refine ⟨h, ?_⟩
      have : (nroot n + 1 + 1) * (nroot n + 1 + 1) = (nroot n + 1) * (nroot n + 1) + 2 * (nroot n + 1) + 1 := by grind
      omega
    · rename_i h
      exact ⟨by omega, by omega⟩
theorem nroot_uniq {n k : Nat} (h1 : k * k ≤ n) (h2 : n < (k + 1) * (k + 1)) : k = nroot n := by
  have ⟨h3, h4⟩ := nroot_spec n
  rcases Nat.lt_trichotomy k (nroot n) with h | h | h
  · have := Nat.mul_le_mul (show k + 1 ≤ nroot n from h) (show k + 1 ≤ nroot n from h)
    omega
  · exact h
  · have := Nat.mul_le_mul (show nroot n + 1 ≤ k from h) (show nroot n + 1 ≤ k from h)
    omega
def isqrt (n : Int) : Int := nroot n.toNat
theorem isqrt_nonpos {n : Int} (h : n ≤ 0) : isqrt n = 0 := by
  have : n.toNat = 0 := by omega
  simp [isqrt, this, nroot]
theorem isqrt_uniq {n k : Int} (h0 : 0 ≤ k) (h1 : k * k ≤ n) (h2 : n < (k + 1) * (k + 1)) : k = isqrt n := by
  obtain ⟨m, rfl⟩ := Int.eq_ofNat_of_zero_le h0
  have hn : 0 ≤ n := Int.le_trans (Int.mul_nonneg h0 h0) h1
  obtain ⟨p, rfl⟩ := Int.eq_ofNat_of_zero_le hn
  have e := nroot_uniq (n := p) (k := m) (by exact_mod_cast h1) (by exact_mod_cast h2)
  simp [isqrt, ← e]
theorem isqrt_spec {n : Int} (h : 1 ≤ n) : 1 ≤ isqrt n ∧ isqrt n * isqrt n ≤ n ∧ n < (isqrt n + 1) * (isqrt n + 1) := by
  obtain ⟨p, rfl⟩ := Int.eq_ofNat_of_zero_le (show 0 ≤ n by omega)
  have ⟨h3, h4⟩ := nroot_spec p
  refine ⟨?_, by simpa [isqrt] using (by exact_mod_cast h3), by simpa [isqrt] using (by exact_mod_cast h4)⟩
  rcases Nat.eq_zero_or_pos (nroot p) with h0 | h0
  · rw [h0] at h4; omega
  · simp [isqrt]; omega
end Safe
end Go.Proofs.Ytjkhpbngpceenaa

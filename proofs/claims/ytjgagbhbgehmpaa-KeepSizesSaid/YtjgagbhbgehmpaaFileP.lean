/- Numbers as bytes, the highest first: plain laws. -/
namespace Go.Proofs.Ytjgagbhbgehmpaa
namespace Fp

/-- A number's last bytes, the highest first. -/
def big (n : Int) : Nat → List Int
  | 0 => []
  | s + 1 => (n / 256 ^ s % 256) :: big n s
/-- The number of bytes. -/
def num (l : List Int) : Int := l.foldl (fun a c => a * 256 + c) 0
/-- The weighted sum of bytes, from the place k on. -/
def wsum : Nat → List Int → Int
  | _, [] => 0
  | k, c :: r => ((k : Int) + 1) * c + wsum (k + 1) r
def sum (l : List Int) : Int := wsum 0 l % 4294967296

theorem big_length (n : Int) (s : Nat) : (big n s).length = s := by
  induction s with
  | zero => rfl
  | succ s ih => simp [big, ih]
theorem big_byte (n : Int) (s : Nat) : ∀ x ∈ big n s, 0 ≤ x ∧ x ≤ 255 := by
  induction s with
  | zero => simp [big]
  | succ s ih =>
    intro x hx
    rcases List.mem_cons.1 hx with rfl | hx
    · omega
    · exact ih x hx
theorem big_last (n : Int) (s : Nat) : big n (s + 1) = big (n / 256) s ++ [n % 256] := by
  induction s with
  | zero => simp [big]
  | succ s ih =>
    rw [big, ih, big, List.cons_append]
    congr 2
    rw [Int.pow_succ, Int.mul_comm, Int.ediv_ediv_of_nonneg (by decide)]
theorem num_append (a : List Int) (c : Int) : num (a ++ [c]) = num a * 256 + c := by simp [num]
theorem num_big (n : Int) (s : Nat) : num (big n s) = n % 256 ^ s := by
  induction s generalizing n with
  | zero => simp [big, num, Int.emod_one]
  | succ s ih =>
    rw [big_last, num_append, ih]
    have hp : (0 : Int) < 256 ^ s := Int.pow_pos (by decide)
    have h1 := Int.emod_add_mul_ediv n 256
    have h2 := Int.emod_add_mul_ediv (n / 256) (256 ^ s)
    have h3 : n / 256 / 256 ^ s = n / (256 ^ (s + 1)) := by rw [Int.ediv_ediv_of_nonneg (by decide), Int.pow_succ, Int.mul_comm]
    have h4 := Int.emod_add_mul_ediv n (256 ^ (s + 1))
    rw [h3] at h2
    rw [Int.pow_succ] at h2 h4 ⊢
    generalize n / (256 ^ s * 256) = q at h2 h4
    generalize hP : (256 : Int) ^ s = P at *
    have h5 : P * 256 * q = 256 * (P * q) := by rw [Int.mul_comm P 256, Int.mul_assoc]
    generalize P * q = r at h2 h5
    omega
theorem num_byte (l : List Int) (h : ∀ x ∈ l, 0 ≤ x ∧ x ≤ 255) : 0 ≤ num l ∧ num l < 256 ^ l.length := by
  suffices H : ∀ m (l : List Int), l.length = m → (∀ x ∈ l, 0 ≤ x ∧ x ≤ 255) → 0 ≤ num l ∧ num l < 256 ^ m from H _ l rfl h
  intro m
  induction m with
  | zero => intro l hl _; rw [List.length_eq_zero_iff.1 hl]; simp [num]
  | succ m ih =>
    intro l hl hb
    obtain ⟨a, c, rfl⟩ : ∃ a c, l = a ++ [c] := by
      have hne : l ≠ [] := by intro h; simp [h] at hl
      exact ⟨_, _, (List.dropLast_concat_getLast hne).symm⟩
    have ha := ih a (by simpa using hl) (fun x hx => hb x (by simp [hx]))
    have hc := hb c (by simp)
    rw [num_append, Int.pow_succ]
    generalize (256 : Int) ^ m = P at *
    omega
theorem num_lt7 (l : List Int) (h : ∀ x ∈ l, 0 ≤ x ∧ x ≤ 255) (hl : l.length ≤ 7) : 0 ≤ num l ∧ num l < 72057594037927936 := by
  have ⟨h0, h1⟩ := num_byte l h
  refine ⟨h0, Int.lt_of_lt_of_le h1 ?_⟩
  have : l.length = 0 ∨ l.length = 1 ∨ l.length = 2 ∨ l.length = 3 ∨ l.length = 4 ∨ l.length = 5 ∨ l.length = 6 ∨ l.length = 7 := by omega
  rcases this with h | h | h | h | h | h | h | h <;> rw [h] <;> decide
theorem big_num (l : List Int) (h : ∀ x ∈ l, 0 ≤ x ∧ x ≤ 255) : big (num l) l.length = l := by
  suffices H : ∀ m (l : List Int), l.length = m → (∀ x ∈ l, 0 ≤ x ∧ x ≤ 255) → big (num l) m = l from H _ l rfl h
  intro m
  induction m with
  | zero => intro l hl _; rw [List.length_eq_zero_iff.1 hl]; rfl
  | succ m ih =>
    intro l hl hb
    obtain ⟨a, c, rfl⟩ : ∃ a c, l = a ++ [c] := by
      have hne : l ≠ [] := by intro h; simp [h] at hl
      exact ⟨_, _, (List.dropLast_concat_getLast hne).symm⟩
    have ha := ih a (by simpa using hl) (fun x hx => hb x (by simp [hx]))
    have hc := hb c (by simp)
    rw [big_last, num_append]
    have e1 : (num a * 256 + c) / 256 = num a := by omega
    have e2 : (num a * 256 + c) % 256 = c := by omega
    rw [e1, e2, ha]
theorem big_mod (n : Int) (s : Nat) : big (n % 256 ^ s) s = big n s := by
  have := big_num (big n s) (big_byte n s)
  rwa [big_length, num_big] at this
theorem big_wrap (z : Int) (s : Nat) (h : s ≤ 8) : big (z % 18446744073709551616) s = big z s := by
  rw [← big_mod (z % 18446744073709551616), ← big_mod z]
  congr 1
  apply Int.emod_emod_of_dvd
  refine ⟨256 ^ (8 - s), ?_⟩
  rw [← Int.pow_add, show s + (8 - s) = 8 by omega]
  rfl
/-- A shape's bytes; a list's bytes, eight each. -/
def shape (zs : List Int) : List Int := big zs.length 1 ++ zs.flatMap (big · 2)
def shapeTo (zs : List Int) (k : Nat) : List Int := big zs.length 1 ++ (zs.take k).flatMap (big · 2)
theorem shapeTo_zero (zs : List Int) : shapeTo zs 0 = big zs.length 1 := by simp [shapeTo]
theorem shapeTo_all (zs : List Int) : shapeTo zs zs.length = shape zs := by simp [shapeTo, shape]
theorem shapeTo_succ (zs : List Int) (k : Nat) (h : k < zs.length) : shapeTo zs (k + 1) = shapeTo zs k ++ big zs[k] 2 := by
  unfold shapeTo
  rw [List.take_succ_eq_append_getElem h, List.flatMap_append]; simp only [List.flatMap_cons, List.flatMap_nil, List.append_nil, List.append_assoc]
theorem flat_length (zs : List Int) (s : Nat) : (zs.flatMap (big · s)).length = s * zs.length := by
  induction zs with
  | nil => simp
  | cons z r ih => simp [ih, big_length, Nat.mul_succ]; omega
theorem shapeTo_length (zs : List Int) (k : Nat) (h : k ≤ zs.length) : (shapeTo zs k).length = 1 + 2 * k := by
  unfold shapeTo
  rw [List.length_append, flat_length, big_length, List.length_take, Nat.min_eq_left h]
theorem shape_length (zs : List Int) : (shape zs).length = 1 + 2 * zs.length := by rw [← shapeTo_all, shapeTo_length _ _ (Nat.le_refl _)]
def words (zs : List Int) : List Int := zs.flatMap (big · 8)
def wordsTo (zs : List Int) (k : Nat) : List Int := (zs.take k).flatMap (big · 8)
theorem wordsTo_zero (zs : List Int) : wordsTo zs 0 = [] := by simp [wordsTo]
theorem wordsTo_all (zs : List Int) : wordsTo zs zs.length = words zs := by simp [wordsTo, words]
theorem wordsTo_succ (zs : List Int) (k : Nat) (h : k < zs.length) : wordsTo zs (k + 1) = wordsTo zs k ++ big zs[k] 8 := by
  unfold wordsTo
  rw [List.take_succ_eq_append_getElem h, List.flatMap_append]; simp only [List.flatMap_cons, List.flatMap_nil, List.append_nil, List.append_assoc]
theorem wordsTo_length (zs : List Int) (k : Nat) (h : k ≤ zs.length) : (wordsTo zs k).length = 8 * k := by
  unfold wordsTo
  rw [flat_length, List.length_take, Nat.min_eq_left h]
theorem words_length (zs : List Int) : (words zs).length = 8 * zs.length := flat_length zs 8
theorem wsum_append (k : Nat) (a b : List Int) : wsum k (a ++ b) = wsum k a + wsum (k + a.length) b := by
  induction a generalizing k with
  | nil => simp [wsum]
  | cons c r ih => simp only [List.cons_append, wsum, ih, List.length_cons]; rw [show k + 1 + r.length = k + (r.length + 1) by omega]; omega
theorem sum_snoc (a : List Int) (c : Int) : sum (a ++ [c]) = (sum a + ((a.length : Int) + 1) * c) % 4294967296 := by
  unfold sum
  rw [wsum_append]
  simp [wsum]
theorem sum_range (l : List Int) : 0 ≤ sum l ∧ sum l < 4294967296 := by unfold sum; omega
theorem take_snoc (l : List Int) (k : Nat) (h : k < l.length) : l.take (k + 1) = l.take k ++ [l[k]] := by rw [List.take_succ_eq_append_getElem h]
theorem sum_step (l : List Int) (k : Nat) (h : k < l.length) : sum (l.take (k + 1)) = (sum (l.take k) + ((k : Int) + 1) * l[k]) % 4294967296 := by
  rw [take_snoc l k h, sum_snoc, List.length_take, Nat.min_eq_left (Nat.le_of_lt h)]
theorem num_step (l : List Int) (k : Nat) (h : k < l.length) : num (l.take (k + 1)) = num (l.take k) * 256 + l[k] := by
  rw [take_snoc l k h, num_append]
/-- Reading: the state is what is left, or none when it fell short. -/
def get (s : Nat) : Option (List Int) → Int × Option (List Int)
  | none => (0, none)
  | some bs => if bs.length < s then (0, none) else (num (bs.take s), some (bs.drop s))
def sides : Nat → List Int → Option (List Int × List Int)
  | 0, bs => some ([], bs)
  | c + 1, bs => if bs.length < 2 then none else (sides c (bs.drop 2)).map fun p => (num (bs.take 2) :: p.1, p.2)
def shapeR : Option (List Int) → List Int × Option (List Int)
  | none => ([], none)
  | some bs => if bs.length < 1 then ([], none) else
    match sides (num (bs.take 1)).toNat (bs.drop 1) with
    | none => ([], none)
    | some p => (p.1, some p.2)
theorem get_none (s : Nat) : get s none = (0, none) := rfl
theorem get_short {s : Nat} {bs : List Int} (h : bs.length < s) : get s (some bs) = (0, none) := by simp [get, h]
theorem get_ok {s : Nat} {bs : List Int} (h : ¬ bs.length < s) : get s (some bs) = (num (bs.take s), some (bs.drop s)) := by simp [get, h]
theorem sides_short {c : Nat} {bs : List Int} (h : bs.length < 2) : sides (c + 1) bs = none := by simp [sides, h]
theorem sides_ok {c : Nat} {bs : List Int} (h : ¬ bs.length < 2) : sides (c + 1) bs = (sides c (bs.drop 2)).map fun p => (num (bs.take 2) :: p.1, p.2) := by simp [sides, h]
def shapeF (c : Nat) (acc : List Int) : Option (List Int) → List Int × Option (List Int)
  | none => ([], none)
  | some bs => match sides c bs with
    | none => ([], none)
    | some p => (acc ++ p.1, some p.2)
theorem shapeR_F (st : Option (List Int)) : shapeR st = shapeF (get 1 st).1.toNat [] (get 1 st).2 := by
  cases st with
  | none => rfl
  | some bs =>
    by_cases h : bs.length < 1
    · rw [get_short h]; simp [shapeR, h, shapeF]
    · rw [get_ok h]; simp only [shapeR, h, if_false, shapeF]
      cases sides (num (bs.take 1)).toNat (bs.drop 1) <;> rfl
theorem shapeF_zero (acc bs : List Int) : shapeF 0 acc (some bs) = (acc, some bs) := by simp [shapeF, sides]
theorem shapeF_short {c : Nat} {acc bs : List Int} (h : bs.length < 2) : shapeF (c + 1) acc (some bs) = ([], none) := by simp [shapeF, sides_short h]
theorem shapeF_ok {c : Nat} {acc bs : List Int} (h : ¬ bs.length < 2) : shapeF (c + 1) acc (some bs) = shapeF c (acc ++ [num (bs.take 2)]) (some (bs.drop 2)) := by
  simp only [shapeF, sides_ok h]
  cases sides c (bs.drop 2) <;> simp
def okB : Option (List Int) → Prop
  | none => True
  | some bs => ∀ x ∈ bs, 0 ≤ x ∧ x ≤ 255
theorem get_one {st : Option (List Int)} (h : okB st) : 0 ≤ (get 1 st).1 ∧ (get 1 st).1 ≤ 255 ∧ ((get 1 st).2 = none → (get 1 st).1 = 0) := by
  cases st with
  | none => simp [get]
  | some bs =>
    by_cases hl : bs.length < 1
    · rw [get_short hl]; simp
    · rw [get_ok hl]
      have := num_byte (bs.take 1) (fun x hx => h x (List.mem_of_mem_take hx))
      rw [List.length_take, Nat.min_eq_left (by omega)] at this
      simp; omega
theorem two_bytes {bs : List Int} (h : ∀ x ∈ bs, 0 ≤ x ∧ x ≤ 255) (hl : ¬ bs.length < 2) : 0 ≤ num (bs.take 2) ∧ num (bs.take 2) ≤ 65535 := by
  have := num_byte (bs.take 2) (fun x hx => h x (List.mem_of_mem_take hx))
  rw [List.length_take, Nat.min_eq_left (by omega)] at this
  omega
end Fp
end Go.Proofs.Ytjgagbhbgehmpaa

/- Lemmas for the statements of this seat: contracts of functions and the plain laws. -/
import Derived.Lib.SlBytesConst
import Derived.SizedLaws
import Derived.Test.YtkmhagjdafeebaaGreatZ09
set_option linter.unusedVariables false
/- Layer 27 (keep): what is written is read again, what is read was written, what is cut off is short: plain laws. -/
namespace Go.Proofs.YtkmhagjdafeebaaGreat

namespace Kq
open Fp Kr
def inR (z : Int) : Prop := -9223372036854775808 ≤ z ∧ z ≤ 9223372036854775807
theorem sx_mod {z : Int} (h : inR z) : sx (z % 18446744073709551616) = z := by
  unfold sx inR at *; rw [IntKind.wrap_i64]; omega
theorem sx_in (n : Int) : inR (sx n) := by unfold sx inR; rw [IntKind.wrap_i64]; omega
theorem sx_big (n : Int) : big (sx n) 8 = big n 8 := by
  rw [← big_wrap (sx n) 8 (by omega), ← big_wrap n 8 (by omega)]
  congr 1
  unfold sx; rw [IntKind.wrap_i64]; omega
theorem split {p y a b : List Int} (h : p ++ y = a ++ b) : (∃ c, c ≠ [] ∧ p ++ c = a) ∨ ∃ c, p = a ++ c ∧ c ++ y = b := by
  rcases List.append_eq_append_iff.1 h with ⟨c, h1, h2⟩ | ⟨c, h1, h2⟩
  · cases c with
    | nil => exact .inr ⟨[], by simpa using h1.symm, by simpa using h2⟩
    | cons x r => exact .inl ⟨x :: r, by simp, h1.symm⟩
  · exact .inr ⟨c, h1, h2.symm⟩
theorem get_big (n : Int) (s : Nat) (r : List Int) : get s (some (big n s ++ r)) = (n % 256 ^ s, some r) := by
  have hl := big_length n s
  rw [get_ok (by rw [List.length_append]; omega), List.take_append_of_le_length (by omega), List.take_of_length_le (by omega), num_big]
  rw [List.drop_append_of_le_length (by omega), List.drop_eq_nil_of_le (by omega)]; rfl
theorem get_pre {p y : List Int} {n : Int} {s : Nat} (h : p ++ y = big n s) (hy : y ≠ []) : get s (some p) = (0, none) := by
  refine get_short ?_
  have := congrArg List.length h
  rw [List.length_append, big_length] at this
  have : 0 < y.length := List.length_pos_iff.2 hy
  omega
theorem get_inv {s : Nat} {bs r : List Int} (hb : ∀ x ∈ bs, 0 ≤ x ∧ x ≤ 255) (h : (get s (some bs)).2 = some r) : bs = big (get s (some bs)).1 s ++ r ∧ 0 ≤ (get s (some bs)).1 ∧ (get s (some bs)).1 < 256 ^ s := by
  by_cases hl : bs.length < s
  · rw [get_short hl] at h; cases h
  · rw [get_ok hl] at h ⊢
    injection h with h
    have hl2 : (bs.take s).length = s := by rw [List.length_take]; omega
    have h1 := big_num (bs.take s) (fun x hx => hb x (List.mem_of_mem_take hx))
    have h2 := num_byte (bs.take s) (fun x hx => hb x (List.mem_of_mem_take hx))
    rw [hl2] at h1 h2
    refine ⟨?_, h2⟩
    show bs = big (num (bs.take s)) s ++ r
    rw [h1, ← h, List.take_append_drop]
theorem get_none_of {s : Nat} {st : Option (List Int)} (h : st = none) : (get s st).2 = none := by subst h; rfl

theorem words_snoc (a : List Int) (z : Int) : words (a ++ [z]) = words a ++ big z 8 := by simp [words]
theorem snoc_cases (l : List Int) : l = [] ∨ ∃ a z, l = a ++ [z] := by
  rcases List.eq_nil_or_concat l with h | ⟨a, z, h⟩
  · exact .inl h
  · exact .inr ⟨a, z, by simpa using h⟩
theorem nums_words2 (n : Nat) : ∀ zs r, zs.length = n → (nums n (some (words zs ++ r))).2 = some r := by
  induction n with
  | zero => intro zs r h; have : zs = [] := List.eq_nil_of_length_eq_zero h; subst this; rfl
  | succ n ih =>
    intro zs r h
    rcases snoc_cases zs with rfl | ⟨a, z, rfl⟩
    · simp at h
    · rw [words_snoc, List.append_assoc, nums, ih a _ (by simpa using h), get_big]
theorem nums_words (n : Nat) : ∀ zs r, zs.length = n → (∀ z ∈ zs, inR z) → nums n (some (words zs ++ r)) = (zs, some r) := by
  induction n with
  | zero => intro zs r h _; have : zs = [] := List.eq_nil_of_length_eq_zero h; subst this; rfl
  | succ n ih =>
    intro zs r h hr
    rcases snoc_cases zs with rfl | ⟨a, z, rfl⟩
    · simp at h
    · rw [words_snoc, List.append_assoc, nums, ih a _ (by simpa using h) (fun x hx => hr x (by simp [hx])), get_big]
      have := sx_mod (hr z (by simp))
      simp only [show (256 : Int) ^ 8 = 18446744073709551616 by decide]
      rw [this]
theorem nums_pre (n : Nat) : ∀ zs p y, zs.length = n → p ++ y = words zs → y ≠ [] → (nums n (some p)).2 = none := by
  induction n with
  | zero =>
    intro zs p y h hp hy
    have : zs = [] := List.eq_nil_of_length_eq_zero h
    subst this
    simp [words] at hp
    exact absurd hp.2 hy
  | succ n ih =>
    intro zs p y h hp hy
    rcases snoc_cases zs with rfl | ⟨a, z, rfl⟩
    · simp at h
    · rw [words_snoc] at hp
      rw [nums]
      rcases split hp with ⟨c, hc, h1⟩ | ⟨c, rfl, h2⟩
      · exact get_none_of (ih a p c (by simpa using h) h1 hc)
      · show (get 8 (nums n (some (words a ++ c))).2).2 = none
        rw [nums_words2 n a c (by simpa using h), get_pre h2 hy]
theorem nums_inv (n : Nat) : ∀ bs r, (∀ x ∈ bs, 0 ≤ x ∧ x ≤ 255) → (nums n (some bs)).2 = some r → bs = words (nums n (some bs)).1 ++ r ∧ ∀ z ∈ (nums n (some bs)).1, inR z := by
  induction n with
  | zero => intro bs r _ h; injection h with h; subst h; simp [nums, words]
  | succ n ih =>
    intro bs r hb h
    rw [nums] at h ⊢
    cases hs : (nums n (some bs)).2 with
    | none => rw [hs] at h; cases h
    | some q =>
      rw [hs] at h
      obtain ⟨h1, h2⟩ := ih bs q hb hs
      have hq : ∀ x ∈ q, 0 ≤ x ∧ x ≤ 255 := fun x hx => hb x (by rw [h1]; exact List.mem_append_right _ hx)
      obtain ⟨h3, h4, h5⟩ := get_inv hq h
      refine ⟨?_, fun z hz => ?_⟩
      · show bs = words ((nums n (some bs)).1 ++ [sx (get 8 (some q)).1]) ++ r
        rw [words_snoc, sx_big, List.append_assoc, ← h3, ← h1]
      · rcases List.mem_append.1 hz with hz | hz
        · exact h2 z hz
        · rw [List.mem_singleton] at hz; subst hz; exact sx_in _

theorem sides_flat : ∀ (zs r : List Int), (∀ z ∈ zs, 0 ≤ z ∧ z ≤ 65535) → sides zs.length (zs.flatMap (big · 2) ++ r) = some (zs, r)
  | [], r, _ => rfl
  | z :: zs, r, h => by
    have hl := big_length z 2
    have hz := h z (by simp)
    rw [List.flatMap_cons, List.length_cons, sides_ok (by simp [hl]), List.append_assoc]
    have e1 : (big z 2 ++ (zs.flatMap (big · 2) ++ r)).drop 2 = zs.flatMap (big · 2) ++ r := by
      rw [List.drop_append_of_le_length (by omega), List.drop_eq_nil_of_le (by omega)]; rfl
    have e2 : (big z 2 ++ (zs.flatMap (big · 2) ++ r)).take 2 = big z 2 := by
      rw [List.take_append_of_le_length (by omega), List.take_of_length_le (by omega)]
    rw [e1, e2, sides_flat zs r (fun x hx => h x (by simp [hx])), num_big]
    simp; omega
theorem sides_pre : ∀ (zs p y : List Int), p ++ y = zs.flatMap (big · 2) → y ≠ [] → sides zs.length p = none
  | [], p, y, h, hy => by simp at h; exact absurd h.2 hy
  | z :: zs, p, y, h, hy => by
    have hl := big_length z 2
    rw [List.flatMap_cons] at h
    rcases split h with ⟨c, hc, h1⟩ | ⟨c, rfl, h2⟩
    · refine sides_short ?_
      have := congrArg List.length h1
      have : 0 < c.length := List.length_pos_iff.2 hc
      simp [hl] at *; omega
    · rw [List.length_cons, sides_ok (by simp [hl])]
      have e1 : (big z 2 ++ c).drop 2 = c := by rw [List.drop_append_of_le_length (by omega), List.drop_eq_nil_of_le (by omega)]; rfl
      rw [e1, sides_pre zs c y h2 hy]; rfl
theorem sides_inv : ∀ (n : Nat) (bs : List Int) (q : List Int × List Int), (∀ x ∈ bs, 0 ≤ x ∧ x ≤ 255) → sides n bs = some q → bs = q.1.flatMap (big · 2) ++ q.2 ∧ (∀ z ∈ q.1, 0 ≤ z ∧ z ≤ 65535) ∧ q.1.length = n
  | 0, bs, q, _, h => by simp [sides] at h; subst h; simp
  | n + 1, bs, q, hb, h => by
    by_cases hl : bs.length < 2
    · rw [sides_short hl] at h; cases h
    · rw [sides_ok hl] at h
      obtain ⟨q2, h2, rfl⟩ := Option.map_eq_some_iff.1 h
      obtain ⟨i1, i2, i3⟩ := sides_inv n _ q2 (fun x hx => hb x (List.mem_of_mem_drop hx)) h2
      have hl2 : (bs.take 2).length = 2 := by rw [List.length_take]; omega
      have h3 := big_num (bs.take 2) (fun x hx => hb x (List.mem_of_mem_take hx))
      rw [hl2] at h3
      have h4 := two_bytes hb hl
      refine ⟨?_, ?_, by simp [i3]⟩
      · simp only [List.flatMap_cons, h3, List.append_assoc]; rw [← i1, List.take_append_drop]
      · intro z hz
        rcases List.mem_cons.1 hz with rfl | hz
        · exact h4
        · exact i2 z hz
theorem shapeR_shape (zs r : List Int) (hl : zs.length ≤ 255) (h : ∀ z ∈ zs, 0 ≤ z ∧ z ≤ 65535) : shapeR (some (Fp.shape zs ++ r)) = (zs, some r) := by
  rw [shapeR_F, Fp.shape, List.append_assoc, get_big]
  have e : ((zs.length : Int) % 256 ^ 1).toNat = zs.length := by simp; omega
  simp only [shapeF]
  rw [e, sides_flat zs r h]
  rfl
theorem shapeR_pre {zs p y : List Int} (hl : zs.length ≤ 255) (h : p ++ y = Fp.shape zs) (hy : y ≠ []) : (shapeR (some p)).2 = none := by
  rw [shapeR_F]
  rcases split h with ⟨c, hc, h1⟩ | ⟨c, rfl, h2⟩
  · rw [get_pre h1 hc]; rfl
  · rw [get_big]
    have e : ((zs.length : Int) % 256 ^ 1).toNat = zs.length := by simp; omega
    simp only [shapeF]
    rw [e, sides_pre zs c y h2 hy]
theorem shapeR_inv {bs r : List Int} (hb : ∀ x ∈ bs, 0 ≤ x ∧ x ≤ 255) (h : (shapeR (some bs)).2 = some r) : bs = Fp.shape (shapeR (some bs)).1 ++ r := by
  rw [shapeR_F] at h ⊢
  cases hg : (get 1 (some bs)).2 with
  | none => rw [hg] at h; cases h
  | some q =>
    obtain ⟨h1, h2, h3⟩ := get_inv hb hg
    have hq : ∀ x ∈ q, 0 ≤ x ∧ x ≤ 255 := fun x hx => hb x (by rw [h1]; exact List.mem_append_right _ hx)
    rw [hg] at h
    simp only [shapeF] at h ⊢
    cases hs : sides (get 1 (some bs)).1.toNat q with
    | none => rw [hs] at h; cases h
    | some w =>
      rw [hs] at h
      injection h with h
      obtain ⟨i1, _, i3⟩ := sides_inv _ q w hq hs
      show bs = Fp.shape ([] ++ w.1) ++ r
      rw [List.nil_append, Fp.shape, i3, ← h, List.append_assoc, ← i1, Int.toNat_of_nonneg h2, ← h1]

/-- A tensor's cells are numbers of the machine. -/
def okT (t : Ten) : Prop := Tn.right t = true ∧ ∀ z ∈ t.c, inR z
theorem right_prod {t : Ten} (h : Tn.right t = true) : Sh.right t.s = true ∧ (Safe.prod t.s).toNat = t.c.length := by
  simp [Tn.right] at h; exact ⟨h.1, by omega⟩
theorem right_sides {t : Ten} (h : Tn.right t = true) : t.s.length ≤ 255 ∧ ∀ z ∈ t.s, 0 ≤ z ∧ z ≤ 65535 := by
  obtain ⟨_, h1, _, h2, _⟩ := Sh.right_mul (right_prod h).1
  exact ⟨by omega, fun z hz => by have := h2 z hz; omega⟩
theorem cells_words {t : Ten} (h : okT t) (r : List Int) : Kr.cells t.s (some (words t.c ++ r)) = (0, t.c, some r) := by
  obtain ⟨h1, h2⟩ := right_prod h.1
  have := nums_words t.c.length t.c r rfl h.2
  unfold Kr.cells
  rw [h1, h2, this]; rfl
theorem cells_pre {t : Ten} {p y : List Int} (h : Tn.right t = true) (hp : p ++ y = words t.c) (hy : y ≠ []) : Kr.cells t.s (some p) = (16, [], none) := by
  obtain ⟨h1, h2⟩ := right_prod h
  exact Kr.cells_short h1 (by rw [h2]; exact nums_pre _ t.c p y rfl hp hy)
theorem cells_inv {s bs : List Int} (hb : ∀ x ∈ bs, 0 ≤ x ∧ x ≤ 255) (h : (Kr.cells s (some bs)).1 = 0) : ∃ r, (Kr.cells s (some bs)).2.2 = some r ∧ bs = words (Kr.cells s (some bs)).2.1 ++ r ∧ okT ⟨s, (Kr.cells s (some bs)).2.1⟩ := by
  obtain ⟨hr, hl⟩ := cells_right h
  unfold Kr.cells at h ⊢
  rw [hr] at h ⊢
  simp only [Bool.true_eq_false, if_false] at h ⊢
  cases hn : (nums (Safe.prod s).toNat (some bs)).2 with
  | none => rw [hn] at h; simp at h
  | some r =>
    obtain ⟨h1, h2⟩ := nums_inv _ bs r hb hn
    refine ⟨r, by simp, by simpa using h1, ?_, by simpa using h2⟩
    obtain ⟨_, _, _, _, hp, _⟩ := Sh.right_mul hr
    simp [Tn.right, hr, nums_len]; omega

theorem readP_tens : ∀ (ts acc : List Ten) (r : List Int), (∀ t ∈ ts, okT t) → readP ts.length acc (some (Kp.tens ts ++ r)) = (0, acc ++ ts, some r)
  | [], acc, r, _ => by simp [readP, Kp.tens]
  | t :: ts, acc, r, h => by
    have ht := h t (by simp)
    have e : Kp.tens (t :: ts) ++ r = Fp.shape t.s ++ (words t.c ++ (Kp.tens ts ++ r)) := by simp [Kp.tens]
    have hs := shapeR_shape t.s (words t.c ++ (Kp.tens ts ++ r)) (right_sides ht.1).1 (right_sides ht.1).2
    have hc := cells_words ht (Kp.tens ts ++ r)
    rw [e, List.length_cons, readP_ok hs (by simp) (by rw [hc]), hc]
    rw [readP_tens ts _ r (fun u hu => h u (by simp [hu]))]
    simp
theorem readP_pre : ∀ (ts acc : List Ten) (p y : List Int), (∀ t ∈ ts, okT t) → p ++ y = Kp.tens ts → y ≠ [] → readP ts.length acc (some p) = (16, [], none)
  | [], acc, p, y, _, hp, hy => by simp [Kp.tens] at hp; exact absurd hp.2 hy
  | t :: ts, acc, p, y, h, hp, hy => by
    have ht := h t (by simp)
    have e : Kp.tens (t :: ts) = Fp.shape t.s ++ (words t.c ++ Kp.tens ts) := by simp [Kp.tens]
    rw [e] at hp
    rw [List.length_cons]
    rcases split hp with ⟨c, hc, h1⟩ | ⟨c, rfl, h2⟩
    · exact readP_short (shapeR_pre (right_sides ht.1).1 h1 hc)
    · have hs := shapeR_shape t.s c (right_sides ht.1).1 (right_sides ht.1).2
      rcases split h2 with ⟨d, hd, h3⟩ | ⟨d, rfl, h4⟩
      · have hcp := cells_pre ht.1 h3 hd
        rw [readP_bad hs (by simp) (by rw [hcp]; simp), hcp]
      · have hcw := cells_words ht d
        rw [readP_ok hs (by simp) (by rw [hcw]), hcw]
        exact readP_pre ts _ d y (fun u hu => h u (by simp [hu])) h4 hy
theorem readP_inv : ∀ (n : Nat) (acc : List Ten) (bs : List Int), (∀ x ∈ bs, 0 ≤ x ∧ x ≤ 255) → (readP n acc (some bs)).1 = 0 → ∃ ts r, readP n acc (some bs) = (0, acc ++ ts, some r) ∧ bs = Kp.tens ts ++ r ∧ ts.length = n ∧ ∀ t ∈ ts, okT t
  | 0, acc, bs, _, _ => ⟨[], bs, by simp [readP], by simp [Kp.tens], rfl, by simp⟩
  | n + 1, acc, bs, hb, h => by
    cases hs : (shapeR (some bs)).2 with
    | none => rw [readP_short hs] at h; simp at h
    | some q =>
      have h1 := shapeR_inv hb hs
      have hq : ∀ x ∈ q, 0 ≤ x ∧ x ≤ 255 := fun x hx => hb x (by rw [h1]; exact List.mem_append_right _ hx)
      have hsr : shapeR (some bs) = ((shapeR (some bs)).1, some q) := by rw [← hs]
      generalize (shapeR (some bs)).1 = f at h1 hsr
      by_cases hc : (Kr.cells f (some q)).1 = 0
      · rw [readP_ok hsr (by simp) hc] at h ⊢
        obtain ⟨r, c1, c2, c3⟩ := cells_inv hq hc
        rw [c1] at h ⊢
        have hr : ∀ x ∈ r, 0 ≤ x ∧ x ≤ 255 := fun x hx => hq x (by rw [c2]; exact List.mem_append_right _ hx)
        generalize (Kr.cells f (some q)).2.1 = cl at *
        obtain ⟨ts, r2, e1, e2, e3, e4⟩ := readP_inv n _ r hr h
        refine ⟨⟨f, cl⟩ :: ts, r2, by rw [e1]; simp, ?_, by simp [e3], ?_⟩
        · rw [h1, c2, e2]; simp [Kp.tens]
        · intro t ht
          rcases List.mem_cons.1 ht with rfl | ht
          · exact c3
          · exact e4 t ht
      · rw [readP_bad hsr (by simp) hc] at h; exact absurd h hc

theorem readV_cells : ∀ (ts acc : List Ten) (r : List Int), (∀ t ∈ ts, okT t) → readV (ts.map (·.s)) acc (some (Kp.cells ts ++ r)) = (0, acc ++ ts, some r)
  | [], acc, r, _ => by simp [readV, Kp.cells]
  | t :: ts, acc, r, h => by
    have ht := h t (by simp)
    have e : Kp.cells (t :: ts) ++ r = words t.c ++ (Kp.cells ts ++ r) := by simp [Kp.cells]
    have hc := cells_words ht (Kp.cells ts ++ r)
    rw [e, List.map_cons, readV_ok (by rw [hc]), hc]
    rw [readV_cells ts _ r (fun u hu => h u (by simp [hu]))]
    simp
theorem readV_pre : ∀ (ts acc : List Ten) (p y : List Int), (∀ t ∈ ts, okT t) → p ++ y = Kp.cells ts → y ≠ [] → readV (ts.map (·.s)) acc (some p) = (16, [], none)
  | [], acc, p, y, _, hp, hy => by simp [Kp.cells] at hp; exact absurd hp.2 hy
  | t :: ts, acc, p, y, h, hp, hy => by
    have ht := h t (by simp)
    have e : Kp.cells (t :: ts) = words t.c ++ Kp.cells ts := by simp [Kp.cells]
    rw [e] at hp
    rw [List.map_cons]
    rcases split hp with ⟨c, hc, h1⟩ | ⟨c, rfl, h2⟩
    · have hcp := cells_pre ht.1 h1 hc
      rw [readV_bad (by rw [hcp]; simp), hcp]
    · have hcw := cells_words ht c
      rw [readV_ok (by rw [hcw]), hcw]
      exact readV_pre ts _ c y (fun u hu => h u (by simp [hu])) h2 hy
theorem readV_inv : ∀ (fs : List (List Int)) (acc : List Ten) (bs : List Int), (∀ x ∈ bs, 0 ≤ x ∧ x ≤ 255) → (readV fs acc (some bs)).1 = 0 → ∃ ts r, readV fs acc (some bs) = (0, acc ++ ts, some r) ∧ bs = Kp.cells ts ++ r ∧ ts.map (·.s) = fs ∧ ∀ t ∈ ts, okT t
  | [], acc, bs, _, _ => ⟨[], bs, by simp [readV], by simp [Kp.cells], rfl, by simp⟩
  | f :: fs, acc, bs, hb, h => by
    by_cases hc : (Kr.cells f (some bs)).1 = 0
    · rw [readV_ok hc] at h ⊢
      obtain ⟨r, c1, c2, c3⟩ := cells_inv hb hc
      rw [c1] at h ⊢
      have hr : ∀ x ∈ r, 0 ≤ x ∧ x ≤ 255 := fun x hx => hb x (by rw [c2]; exact List.mem_append_right _ hx)
      generalize (Kr.cells f (some bs)).2.1 = cl at *
      obtain ⟨ts, r2, e1, e2, e3, e4⟩ := readV_inv fs _ r hr h
      refine ⟨⟨f, cl⟩ :: ts, r2, by rw [e1]; simp, ?_, by simp [e3], ?_⟩
      · rw [c2, e2]; simp [Kp.cells]
      · intro t ht
        rcases List.mem_cons.1 ht with rfl | ht
        · exact c3
        · exact e4 t ht
    · rw [readV_bad hc] at h; exact absurd h hc
end Kq
end Go.Proofs.YtkmhagjdafeebaaGreat
/- Layer 27 (keep): Encode and Decode are inverse; what is cut off, extended or begins otherwise is refused: plain laws. -/
namespace Go.Proofs.YtkmhagjdafeebaaGreat
namespace Kq
open Fp Kr

theorem count_big (n most : Nat) (r : List Int) (h : n ≤ most) (hm : most ≤ 65535) : count (most : Int) (some (big n 2 ++ r)) = ((n : Int), 0, some r) := by
  have e : (n : Int) % 256 ^ 2 = n := by simp; omega
  simp only [count, get_big, e]
  rw [if_neg (by simp), if_neg (by omega)]
theorem count_pre {n : Int} {most : Int} {p y : List Int} (h : p ++ y = big n 2) (hy : y ≠ []) : count most (some p) = (0, 16, none) := by
  simp [count, get_pre h hy]
theorem count_inv {most : Int} {bs : List Int} (hb : ∀ x ∈ bs, 0 ≤ x ∧ x ≤ 255) (h : (count most (some bs)).2.1 = 0) : ∃ r, (count most (some bs)).2.2 = some r ∧ bs = big (count most (some bs)).1 2 ++ r ∧ 0 ≤ (count most (some bs)).1 ∧ (count most (some bs)).1 ≤ most := by
  unfold count at h ⊢
  cases hg : (get 2 (some bs)).2 with
  | none => rw [hg] at h; simp at h
  | some r =>
    rw [hg] at h
    obtain ⟨h1, h2, h3⟩ := get_inv hb hg
    by_cases hm : most < (get 2 (some bs)).1
    · simp [hm] at h
    · simp only [Option.isNone_some, Bool.false_eq_true, if_false, hm]
      exact ⟨r, rfl, h1, h2, by omega⟩

def okS (s : Sav) : Prop := s.p.length ≤ 512 ∧ s.m.length ≤ 1024 ∧ (∀ t ∈ s.p, okT t) ∧ (∀ t ∈ s.v, okT t) ∧ s.p.map (·.s) = s.v.map (·.s) ∧ ∀ m ∈ s.m, ∀ z ∈ m.l, inR z
theorem okS_err {s : Sav} (h : okS s) : Kp.err s = 0 := by
  obtain ⟨h1, h2, h3, h4, h5, _⟩ := h
  have hl : s.p.length = s.v.length := by have := congrArg List.length h5; simpa using this
  refine Kp.err_ok ?_ h1 h2
  rw [Tn.alike_ok hl (List.all_eq_true.2 fun t ht => (h3 t ht).1) (List.all_eq_true.2 fun t ht => (h4 t ht).1)]
  simp [h5]
theorem err_okS {s : Sav} (h : Kp.err s = 0) (hr : (∀ t ∈ s.p, ∀ z ∈ t.c, inR z) ∧ (∀ t ∈ s.v, ∀ z ∈ t.c, inR z) ∧ ∀ m ∈ s.m, ∀ z ∈ m.l, inR z) : okS s := by
  unfold Kp.err at h
  split at h
  · simp at h
  · rename_i h1
    split at h
    · simp at h
    · rename_i h2
      have h1' : Tn.alike s.p s.v = true := by simpa using h1
      obtain ⟨_, a, b, c⟩ := Kp.alike_all h1'
      exact ⟨by omega, by omega, fun t ht => ⟨List.all_eq_true.1 a t ht, hr.1 t ht⟩, fun t ht => ⟨List.all_eq_true.1 b t ht, hr.2.1 t ht⟩, c, hr.2.2⟩

def stB (s : Sav) : List Int := big s.p.length 2 ++ (Kp.tens s.p ++ Kp.cells s.v)
theorem state_enc {s : Sav} (h : okS s) (r : List Int) : state (some (stB s ++ r)) = (0, s.p, s.v, some r) := by
  obtain ⟨h1, _, h3, h4, h5, _⟩ := h
  have e : stB s ++ r = big s.p.length 2 ++ (Kp.tens s.p ++ (Kp.cells s.v ++ r)) := by simp [stB]
  have ep := readP_tens s.p [] (Kp.cells s.v ++ r) h3
  have ev := readV_cells s.v [] r h4
  have ec := count_big s.p.length 512 (Kp.tens s.p ++ (Kp.cells s.v ++ r)) h1 (by omega)
  rw [e]
  unfold state
  rw [show (512 : Int) = ((512 : Nat) : Int) from rfl, ec]
  simp only [state1, Int.toNat_natCast, ne_eq, not_true, if_false, ep, List.nil_append, state2, h5, ev, state3]
theorem state_pre {s : Sav} (h : okS s) {p y : List Int} (hp : p ++ y = stB s) (hy : y ≠ []) : state (some p) = (16, [], [], none) := by
  obtain ⟨h1, _, h3, h4, h5, _⟩ := h
  unfold state
  rcases split hp with ⟨c, hc, e1⟩ | ⟨c, rfl, e2⟩
  · rw [count_pre e1 hc]; simp [state1]
  · have ec := count_big s.p.length 512 c h1 (by omega)
    rw [show (512 : Int) = ((512 : Nat) : Int) from rfl, ec]
    simp only [state1, Int.toNat_natCast, ne_eq, not_true, if_false]
    rcases split e2 with ⟨d, hd, e3⟩ | ⟨d, rfl, e4⟩
    · rw [readP_pre s.p [] c d h3 e3 hd]; simp [state2]
    · rw [readP_tens s.p [] d h3]
      simp only [state2, ne_eq, not_true, if_false, List.nil_append, h5]
      rw [readV_pre s.v [] d y h4 e4 hy]; simp [state3]

theorem mets_words (ms : List Met) : Kp.mets ms = words (ms.flatMap Met.l) := by
  induction ms with
  | nil => rfl
  | cons m r ih => simp only [Kp.mets, List.flatMap_cons] at ih ⊢; rw [ih, Kp.words_append]
theorem flat_l (ms : List Met) : (ms.flatMap Met.l).length = ms.length * 6 := by
  induction ms with
  | nil => rfl
  | cons m r ih => simp [ih, Met.l]; omega
theorem group_flat (ms : List Met) : group ms.length (ms.flatMap Met.l) = ms := by
  induction ms with
  | nil => rfl
  | cons m r ih =>
    rw [List.length_cons, group, List.flatMap_cons]
    have e : (m.l ++ r.flatMap Met.l).drop 6 = r.flatMap Met.l := by simp [Met.l]
    rw [e, ih]
    congr 1
theorem flat_group (n : Nat) (l : List Int) (h : l.length = n * 6) : (group n l).flatMap Met.l = l := by
  induction n generalizing l with
  | zero => have : l = [] := List.eq_nil_of_length_eq_zero (by omega); subst this; rfl
  | succ n ih =>
    rw [group, List.flatMap_cons, ih _ (by rw [List.length_drop]; omega)]
    match l, h with
    | a :: b :: c :: d :: e :: f :: r, _ => simp [Met.l]
    | [], h => simp only [List.length_nil] at h; omega
    | [_], h => simp only [List.length_cons, List.length_nil] at h; omega
    | [_, _], h => simp only [List.length_cons, List.length_nil] at h; omega
    | [_, _, _], h => simp only [List.length_cons, List.length_nil] at h; omega
    | [_, _, _, _], h => simp only [List.length_cons, List.length_nil] at h; omega
    | [_, _, _, _, _], h => simp only [List.length_cons, List.length_nil] at h; omega
def mtB (ms : List Met) : List Int := big ms.length 2 ++ Kp.mets ms
theorem metrics_enc {ms : List Met} (hl : ms.length ≤ 1024) (hr : ∀ m ∈ ms, ∀ z ∈ m.l, inR z) (r : List Int) : metrics (some (mtB ms ++ r)) = (0, ms, some r) := by
  have e : mtB ms ++ r = big ms.length 2 ++ (words (ms.flatMap Met.l) ++ r) := by rw [mtB, mets_words, List.append_assoc]
  have ec := count_big ms.length 1024 (words (ms.flatMap Met.l) ++ r) hl (by omega)
  have en := nums_words (ms.length * 6) (ms.flatMap Met.l) r (flat_l ms) (fun z hz => by obtain ⟨m, hm, hz⟩ := List.mem_flatMap.1 hz; exact hr m hm z hz)
  rw [e]
  unfold metrics
  rw [show (1024 : Int) = ((1024 : Nat) : Int) from rfl, ec]
  simp [metrics1, en, group_flat]
theorem metrics_pre {ms : List Met} (hl : ms.length ≤ 1024) {p y : List Int} (hp : p ++ y = mtB ms) (hy : y ≠ []) : metrics (some p) = (16, [], none) := by
  unfold metrics
  rcases split hp with ⟨c, hc, e1⟩ | ⟨c, rfl, e2⟩
  · rw [count_pre e1 hc]; simp [metrics1]
  · have ec := count_big ms.length 1024 c hl (by omega)
    rw [show (1024 : Int) = ((1024 : Nat) : Int) from rfl, ec]
    rw [mets_words] at e2
    simp [metrics1, nums_pre _ _ c y (flat_l ms) e2 hy]

theorem open_seal {b : List Int} (h : 4 ≤ b.length) : openE (b ++ big (sum b) 4) = 0 ∧ Fp.body (b ++ big (sum b) 4) = b := by
  have hl : (b ++ big (sum b) 4).length - 4 = b.length := by rw [List.length_append, big_length]; omega
  have hb : Fp.body (b ++ big (sum b) 4) = b := by unfold Fp.body; rw [hl, List.take_append_of_le_length (Nat.le_refl _), List.take_length]
  have hm : Fp.mark (b ++ big (sum b) 4) = big (sum b) 4 := by unfold Fp.mark; rw [hl, List.drop_append_of_le_length (Nat.le_refl _), List.drop_length, List.nil_append]
  refine ⟨?_, hb⟩
  unfold openE
  rw [if_neg (by rw [List.length_append, big_length]; omega), hb, hm, num_big, if_pos]
  have := sum_range b
  simp; omega
theorem decode_seal {b : List Int} (h : 4 ≤ b.length) : Kr.decode (b ++ big (sum b) 4) = dec2 (get 4 (some b)) := by
  obtain ⟨h1, h2⟩ := open_seal h
  unfold Kr.decode
  rw [h1, h2]; simp
theorem body_eq (s : Sav) : Kp.body s = big 1096042579 4 ++ (stB s ++ mtB s.m) := by simp [Kp.body, Kp.head, stB, mtB]
theorem magic_get (r : List Int) : get 4 (some (big 1096042579 4 ++ r)) = (1096042579, some r) := get_big _ _ _
theorem body_len4 (s : Sav) : 4 ≤ (Kp.body s).length := by rw [body_eq, List.length_append, big_length]; omega
theorem decode_long {s : Sav} (h : okS s) (more : List Int) : Kr.decode ((Kp.body s ++ more) ++ big (sum (Kp.body s ++ more)) 4) = if more.length = 0 then (0, s) else (10, none_) := by
  have h2 := h.2.1
  have h6 := h.2.2.2.2.2
  rw [decode_seal (by have := body_len4 s; rw [List.length_append]; omega), body_eq, List.append_assoc, List.append_assoc, magic_get]
  simp only [dec2, ne_eq, not_true, if_false]
  rw [state_enc h]
  simp only [dec3, ne_eq, not_true, if_false]
  rw [metrics_enc h2 h6]
  simp only [dec4, ne_eq, not_true, if_false, endO]
  by_cases hm : more.length = 0
  · simp [hm]
  · simp [hm]
theorem decode_enc {s : Sav} (h : okS s) : Kr.decode (Kp.enc s) = (0, s) := by
  have := decode_long h []
  rw [List.append_nil] at this
  exact this
theorem decode_cut {s : Sav} (h : okS s) {p y : List Int} (hp : p ++ y = Kp.body s) (hy : y ≠ []) (h4 : 4 ≤ p.length) : (Kr.decode (p ++ big (sum p) 4)).1 = 16 := by
  rw [decode_seal h4]
  rw [body_eq] at hp
  rcases split hp with ⟨c, hc, e1⟩ | ⟨c, rfl, e2⟩
  · have := congrArg List.length e1
    rw [List.length_append, big_length] at this
    have : 0 < c.length := List.length_pos_iff.2 hc
    omega
  · rw [magic_get]
    simp only [dec2, ne_eq, not_true, if_false]
    rcases split e2 with ⟨d, hd, e3⟩ | ⟨d, rfl, e4⟩
    · rw [state_pre h e3 hd]; simp [dec3]
    · rw [state_enc h]
      simp only [dec3, ne_eq, not_true, if_false]
      rw [metrics_pre h.2.1 e4 hy]; simp [dec4]
theorem decode_other {x r : List Int} (hx : x.length = 4) (hn : num x ≠ 1096042579) : (Kr.decode ((x ++ r) ++ big (sum (x ++ r)) 4)).1 = 10 := by
  rw [decode_seal (by rw [List.length_append]; omega), get_ok (by rw [List.length_append]; omega), List.take_append_of_le_length (by omega), List.take_of_length_le (by omega)]
  simp [dec2, hn]

theorem state_inv {bs : List Int} (hb : ∀ x ∈ bs, 0 ≤ x ∧ x ≤ 255) (h : (state (some bs)).1 = 0) : ∃ p v r, state (some bs) = (0, p, v, some r) ∧ bs = stB ⟨p, v, []⟩ ++ r ∧ p.length ≤ 512 ∧ (∀ t ∈ p, okT t) ∧ (∀ t ∈ v, okT t) ∧ p.map (·.s) = v.map (·.s) := by
  unfold state at h ⊢
  by_cases hc : (count 512 (some bs)).2.1 = 0
  · obtain ⟨r, c1, c2, c3, c4⟩ := count_inv hb hc
    have hr : ∀ x ∈ r, 0 ≤ x ∧ x ≤ 255 := fun x hx => hb x (by rw [c2]; exact List.mem_append_right _ hx)
    simp only [state1, hc, ne_eq, not_true, if_false, c1] at h ⊢
    generalize (count 512 (some bs)).1 = n at *
    by_cases hp : (readP n.toNat [] (some r)).1 = 0
    · obtain ⟨ts, r2, e1, e2, e3, e4⟩ := readP_inv n.toNat [] r hr hp
      have hr2 : ∀ x ∈ r2, 0 ≤ x ∧ x ≤ 255 := fun x hx => hr x (by rw [e2]; exact List.mem_append_right _ hx)
      rw [e1] at h ⊢
      simp only [state2, ne_eq, not_true, if_false, List.nil_append] at h ⊢
      by_cases hv : (readV (ts.map (·.s)) [] (some r2)).1 = 0
      · obtain ⟨vs, r3, f1, f2, f3, f4⟩ := readV_inv (ts.map (·.s)) [] r2 hr2 hv
        rw [f1] at h ⊢
        simp only [state3, ne_eq, not_true, if_false, List.nil_append] at h ⊢
        refine ⟨ts, vs, r3, rfl, ?_, by omega, e4, f4, f3.symm⟩
        rw [c2, e2, f2]
        have : (ts.length : Int) = n := by omega
        simp [stB, this]
      · simp [state3, hv] at h
    · simp [state2, hp] at h
  · simp [state1, hc] at h
theorem metrics_inv {bs : List Int} (hb : ∀ x ∈ bs, 0 ≤ x ∧ x ≤ 255) (h : (metrics (some bs)).1 = 0) : ∃ ms r, metrics (some bs) = (0, ms, some r) ∧ bs = mtB ms ++ r ∧ ms.length ≤ 1024 ∧ ∀ m ∈ ms, ∀ z ∈ m.l, inR z := by
  unfold metrics at h ⊢
  by_cases hc : (count 1024 (some bs)).2.1 = 0
  · obtain ⟨r, c1, c2, c3, c4⟩ := count_inv hb hc
    have hr : ∀ x ∈ r, 0 ≤ x ∧ x ≤ 255 := fun x hx => hb x (by rw [c2]; exact List.mem_append_right _ hx)
    simp only [metrics1, hc, ne_eq, not_true, if_false, c1] at h ⊢
    generalize (count 1024 (some bs)).1 = n at *
    cases hn : (nums (n.toNat * 6) (some r)).2 with
    | none => rw [hn] at h; simp at h
    | some q =>
      obtain ⟨i1, i2⟩ := nums_inv _ r q hr hn
      have hl := nums_len (n.toNat * 6) (some r)
      generalize (nums (n.toNat * 6) (some r)).1 = l at *
      refine ⟨group n.toNat l, q, by simp, ?_, by rw [group_len]; omega, fun m hm z hz => ?_⟩
      · rw [c2, i1, mtB, mets_words, flat_group _ _ hl, group_len, Int.toNat_of_nonneg c3, List.append_assoc]
      · refine i2 z ?_
        rw [← flat_group _ _ hl]
        exact List.mem_flatMap.2 ⟨m, hm, hz⟩
  · simp [metrics1, hc] at h
/-- What is decoded is what was encoded. -/
theorem decode_inv {bs : List Int} (hb : ∀ x ∈ bs, 0 ≤ x ∧ x ≤ 255) (h : (Kr.decode bs).1 = 0) : okS (Kr.decode bs).2 ∧ Kp.enc (Kr.decode bs).2 = bs := by
  unfold Kr.decode at h ⊢
  by_cases ho : openE bs = 0
  · simp only [ho, ne_eq, not_true, if_false] at h ⊢
    have hbb : ∀ x ∈ Fp.body bs, 0 ≤ x ∧ x ≤ 255 := fun x hx => hb x (List.mem_of_mem_take hx)
    have hbm : ∀ x ∈ Fp.mark bs, 0 ≤ x ∧ x ≤ 255 := fun x hx => hb x (List.mem_of_mem_drop hx)
    have hcat : Fp.body bs ++ Fp.mark bs = bs := List.take_append_drop _ _
    have hmark : Fp.mark bs = big (sum (Fp.body bs)) 4 := by
      unfold openE at ho
      by_cases h8 : bs.length < 8
      · simp [h8] at ho
      · simp only [h8, if_false] at ho
        by_cases hs : num (Fp.mark bs) = sum (Fp.body bs)
        · have hl : (Fp.mark bs).length = 4 := by unfold Fp.mark; rw [List.length_drop]; omega
          have := big_num (Fp.mark bs) hbm
          rw [hl, hs] at this
          exact this.symm
        · simp [hs] at ho
    cases hg : (get 4 (some (Fp.body bs))).2 with
    | none =>
      have : (get 4 (some (Fp.body bs))).1 = 0 := by
        by_cases hl : (Fp.body bs).length < 4
        · rw [get_short hl]
        · rw [get_ok hl] at hg; cases hg
      simp [dec2, this] at h
    | some r =>
      obtain ⟨g1, _, _⟩ := get_inv hbb hg
      simp only [dec2] at h ⊢
      by_cases hm : (get 4 (some (Fp.body bs))).1 = 1096042579
      · rw [hm] at g1
        have hr : ∀ x ∈ r, 0 ≤ x ∧ x ≤ 255 := fun x hx => hbb x (by rw [g1]; exact List.mem_append_right _ hx)
        simp only [hm, ne_eq, not_true, if_false, hg] at h ⊢
        by_cases hs : (state (some r)).1 = 0
        · obtain ⟨p, v, r2, s1, s2, s3, s4, s5, s6⟩ := state_inv hr hs
          have hr2 : ∀ x ∈ r2, 0 ≤ x ∧ x ≤ 255 := fun x hx => hr x (by rw [s2]; exact List.mem_append_right _ hx)
          rw [s1] at h ⊢
          simp only [dec3, ne_eq, not_true, if_false] at h ⊢
          by_cases hmm : (metrics (some r2)).1 = 0
          · obtain ⟨ms, r3, m1, m2, m3, m4⟩ := metrics_inv hr2 hmm
            rw [m1] at h ⊢
            simp only [dec4, ne_eq, not_true, if_false, endO] at h ⊢
            by_cases he : r3.length = 0
            · have : r3 = [] := List.eq_nil_of_length_eq_zero he
              subst this
              simp only [List.length_nil, if_true, not_true, if_false] at h ⊢
              refine ⟨⟨s3, m3, s4, s5, s6, m4⟩, ?_⟩
              have hbody : Kp.body ⟨p, v, ms⟩ = Fp.body bs := by
                rw [body_eq, g1, s2, m2]; simp [stB]
              rw [Kp.enc, hbody, ← hmark, hcat]
            · simp [he] at h
          · simp [dec4, hmm] at h
        · simp [dec3, hs] at h
      · simp [hm] at h
  · simp [ho] at h
end Kq
end Go.Proofs.YtkmhagjdafeebaaGreat
/- The bytes of a small state; what a state of numbers of the machine is. -/
namespace Go.Proofs.YtkmhagjdafeebaaGreat
open Go.RowKit
theorem enc_byte (s : Sav) : ∀ x ∈ Kp.enc s, 0 ≤ x ∧ x ≤ 255 := fun x hx => by
  rcases List.mem_append.1 hx with h | h
  · exact Kp.body_byte _ x h
  · exact Fp.big_byte _ _ x h
theorem enc_len_tiny {s : Sav} (h : s.tiny) : (Kp.enc s).length ≤ 20000000 := by
  obtain ⟨h1, h2, h3, h4, h5⟩ := h
  have a := Kp.tens_len' h4
  have b := Kp.cells_len' h5
  have c := Kp.mets_len s.m
  simp only [Kp.enc, Kp.body, List.length_append, Kp.head_len, Fp.big_length]
  omega
theorem tiny_ok {s : Sav} (h : s.tiny) : s.ok := by
  obtain ⟨h1, h2, h3, h4, h5⟩ := h
  exact ⟨by omega, by omega, by omega, fun t ht => by have := h4 t ht; omega, fun t ht => by have := h5 t ht; omega⟩
/-- The numbers of what came in are numbers of the machine. -/
def Sav.wide (s : Sav) : Prop := (∀ t ∈ s.p, ∀ z ∈ t.c, Kq.inR z) ∧ (∀ t ∈ s.v, ∀ z ∈ t.c, Kq.inR z) ∧ ∀ m ∈ s.m, ∀ z ∈ m.l, Kq.inR z

end Go.Proofs.YtkmhagjdafeebaaGreat
/- Layer 27 (keep): put, Encode, Size: contracts. -/
namespace Go.Proofs.YtkmhagjdafeebaaGreat
open Go.RowKit

theorem hold_writer {P : Program} {f : FuncId} (p : Nat) : ∀ (w : World), (Instr.makeFunc (.func f) #[.pointer (some ⟨p, 0, none⟩)] #[]).run P w = .ok (.func (.func f) #[.pointer (some ⟨p, 0, none⟩)] #[]) w := fun _ => rfl

set_option maxHeartbeats 1000000 in
theorem keep_put_fix (B p : Nat) (bs : List Int) (A : Option Addr) (c : Nat) (zs : List Int) (w : World) (h : Wr B p bs w) (hI : IntsK B p .i64 w A zs) (hl : zs.length ≤ 1000000) (hlen : bs.length ≤ 900000000) (hBw : B ≤ w.heap.size) :
    Calls Tryz.prog 41 #[.func (.func 39) #[.pointer (some ⟨p, 0, none⟩)] #[], .slice A zs.length c] w (WrPost B p (bs ++ Fp.words zs) w) := by
  have HW := Lib.hid h
  have HI := Lib.hid hI
  clear h hI
  go_enter Tryz.func41, Tryz.ntmps41
  go_wp2_with fail
  go_loopw [5, 8] (fun _ i wr => ∃ k : Nat, k ≤ zs.length ∧ i = .int .i64 k ∧ Wr B p (bs ++ Fp.wordsTo zs k) wr ∧ Below B w wr ∧ KeptW p w wr) (fun _ i _ => zs.length - (intOf i).toNat)
  case atStart => exact ⟨0, Nat.zero_le _, rfl, by rw [Fp.wordsTo_zero, List.append_nil]; exact HW.out, Below.refl _ _, Lib.OthersKept.refl _ _ _⟩
  case round =>
    clear HW
    obtain ⟨k, hk, rfl, hWr, hbel, hkept⟩ := hrel
    by_cases hlt : k < zs.length
    · obtain ⟨b, off, rfl, hb, hc⟩ := HI.out wr hbel hkept k hlt
      have HS := Lib.hid (Fp.wordsTo_succ zs k hlt)
      have hkl := Fp.wordsTo_length zs k hk
      have hsz := hbel.size
      have hu : IntKind.u64.wrap zs[k] = zs[k] % 18446744073709551616 := IntKind.wrap_u64 _
      have HW := Lib.hid hWr
      clear hWr
      go_wp2_with fail
      refine (writer_put B p (bs ++ Fp.wordsTo zs k) (zs[k] % 18446744073709551616) 8 _ HW.out (by omega) (by omega) (by omega) (by omega) (by simp; omega) (by omega)).mono ?_
      rintro e w2 ⟨rfl, hW2, hb2, hk2⟩
      rw [Fp.big_wrap _ _ (by omega), List.append_assoc, ← HS.out] at hW2
      have hb3 := hbel.trans hb2
      have hk3 := hkept.trans hk2
      clear hb2 hk2 hbel hkept HW
      go_wp2_with fail
      go_roundw
      case rel => exact ⟨k + 1, by omega, by go_num, hW2, hb3, hk3⟩
      case measure => simp [intOf]; omega
    · obtain rfl : k = zs.length := by omega
      rw [Fp.wordsTo_all] at hWr
      go_wp2_with fail
      go_end0
      exact ⟨rfl, hWr, hbel, hkept⟩
set_option maxHeartbeats 1000000 in
theorem keep_put_int (B p : Nat) (bs : List Int) (A : Option Addr) (c : Nat) (zs : List Int) (w : World) (h : Wr B p bs w) (hI : IntsK B p .i64 w A zs) (hl : zs.length ≤ 1000000) (hlen : bs.length ≤ 900000000) (hBw : B ≤ w.heap.size) :
    Calls Tryz.prog 42 #[.func (.func 39) #[.pointer (some ⟨p, 0, none⟩)] #[], .slice A zs.length c] w (WrPost B p (bs ++ Fp.words zs) w) := by
  have HW := Lib.hid h
  have HI := Lib.hid hI
  clear h hI
  go_enter Tryz.func42, Tryz.ntmps42
  go_wp2_with fail
  go_loopw [5, 8] (fun _ i wr => ∃ k : Nat, k ≤ zs.length ∧ i = .int .i64 k ∧ Wr B p (bs ++ Fp.wordsTo zs k) wr ∧ Below B w wr ∧ KeptW p w wr) (fun _ i _ => zs.length - (intOf i).toNat)
  case atStart => exact ⟨0, Nat.zero_le _, rfl, by rw [Fp.wordsTo_zero, List.append_nil]; exact HW.out, Below.refl _ _, Lib.OthersKept.refl _ _ _⟩
  case round =>
    clear HW
    obtain ⟨k, hk, rfl, hWr, hbel, hkept⟩ := hrel
    by_cases hlt : k < zs.length
    · obtain ⟨b, off, rfl, hb, hc⟩ := HI.out wr hbel hkept k hlt
      have HS := Lib.hid (Fp.wordsTo_succ zs k hlt)
      have hkl := Fp.wordsTo_length zs k hk
      have hsz := hbel.size
      have hu : IntKind.u64.wrap zs[k] = zs[k] % 18446744073709551616 := IntKind.wrap_u64 _
      have HW := Lib.hid hWr
      clear hWr
      go_wp2_with fail
      refine (writer_put B p (bs ++ Fp.wordsTo zs k) (zs[k] % 18446744073709551616) 8 _ HW.out (by omega) (by omega) (by omega) (by omega) (by simp; omega) (by omega)).mono ?_
      rintro e w2 ⟨rfl, hW2, hb2, hk2⟩
      rw [Fp.big_wrap _ _ (by omega), List.append_assoc, ← HS.out] at hW2
      have hb3 := hbel.trans hb2
      have hk3 := hkept.trans hk2
      clear hb2 hk2 hbel hkept HW
      go_wp2_with fail
      go_roundw
      case rel => exact ⟨k + 1, by omega, by go_num, hW2, hb3, hk3⟩
      case measure => simp [intOf]; omega
    · obtain rfl : k = zs.length := by omega
      rw [Fp.wordsTo_all] at hWr
      go_wp2_with fail
      go_end0
      exact ⟨rfl, hWr, hbel, hkept⟩

theorem IntsS.kept {B p : Nat} {k : IntKind} {w : World} {A : Option Addr} {zs : List Int} (h : IntsS B k w A zs) : IntsK B p k w A zs := fun _ hb _ => h _ hb
theorem IntsK.of_blk {B p g : Nat} {t : TypeId} {k : IntKind} {w : World} {zs : List Int} (h : Blk w g t (zs.map (Value.int k)).toArray) (hne : g ≠ p) (ht : t ≠ 5) : IntsK B p k w (some ⟨g, 0, none⟩) zs := fun _ _ hk => (h.keptW hk hne ht).ints

/-- The bytes of what is saved, or an error. -/
def EncP (s : Sav) (w : World) (e : Ending) (w' : World) : Prop :=
  (Kp.err s ≠ 0 ∧ e = .returned (.tuple #[.slice none 0 0, .int .i64 (Kp.err s)]) ∨ Kp.err s = 0 ∧ ∃ A c, e = .returned (.tuple #[.slice A (Kp.enc s).length c, .int .i64 0]) ∧ Ints .u8 w' A (Kp.enc s) ∧ (Kp.enc s).length ≤ c) ∧ Below w.heap.size w w'

set_option maxHeartbeats 4000000 in
set_option maxRecDepth 100000 in
theorem keep_encode (P V M : Option Addr) (c1 c2 c3 : Nat) (s : Sav) (w : World) (hp : s.p.length ≤ 9223372036854775807) (hv : s.v.length ≤ 9223372036854775807) (hm : s.m.length ≤ 9223372036854775807) (hS : SavR w P V M s) :
    Calls Tryz.prog 16 #[.agg #[.slice P s.p.length c1, .slice V s.v.length c2, .slice M s.m.length c3]] w (EncP s w) := by
  have hk0 := Blk.new w 32 #[.slice P s.p.length c1, .slice V s.v.length c2, .slice M s.m.length c3]
  have hb0 : Below w.heap.size w (w.alloc (.cells #[.slice P s.p.length c1, .slice V s.v.length c2, .slice M s.m.length c3] 32)) := (Below.refl _ _).alloc (Nat.le_refl _) _
  have HS := Lib.hid hS
  have Hk0 := Lib.hid hk0
  clear hS hk0
  have hmk := hold_writer (P := Tryz.prog) (f := 39)
  go_enter Tryz.func16, Tryz.ntmps16
  go_wp2_with fail
  refine (state_right P V c1 c2 s.p s.v _ hp hv (HS.out.1.below hb0 (Nat.le_refl _)) (HS.out.2.1.below hb0 (Nat.le_refl _))).mono ?_
  rintro e w1 ⟨rfl, h1⟩
  have hk1 := Hk0.out.below h1 Hk0.out.lt
  have hb1 := hb0.trans (h1.mono hb0.size)
  clear h1 hb0 Hk0
  cases ha : Tn.alike s.p s.v
  · have HE := Lib.hid (Kp.err_shape ha)
    clear ha
    go_wp2_with fail
    go_ret2
    exact ⟨.inl ⟨by rw [HE.out]; decide, by rw [HE.out]; rfl⟩, hb1⟩
  have g0 := hk1.cell 0
  have g1 := hk1.cell 1
  have g2 := hk1.cell 2
  simp at g0 g1 g2
  by_cases hp5 : 512 < s.p.length
  · have HE := Lib.hid (Kp.err_many ha (.inl hp5))
    clear ha
    go_wp2_with fail
    go_ret2
    exact ⟨.inl ⟨by rw [HE.out]; decide, by rw [HE.out]; rfl⟩, hb1⟩
  by_cases hm5 : 1024 < s.m.length
  · have HE := Lib.hid (Kp.err_many ha (.inr hm5))
    clear ha
    go_wp2_with fail
    go_ret2
    exact ⟨.inl ⟨by rw [HE.out]; decide, by rw [HE.out]; rfl⟩, hb1⟩
  have HE := Lib.hid (Kp.err_ok ha (by omega) (by omega))
  obtain ⟨hal, har, hav, has⟩ := Kp.alike_all ha
  have hvl : s.v.length ≤ 512 := by omega
  have HL := Lib.hid hal
  have HR := Lib.hid har
  have HV := Lib.hid hav
  have hsz1 : w.heap.size + 1 ≤ w1.heap.size := hk1.lt
  clear ha hal har hav has
  have hWn := Wr.new w.heap.size w1 (by omega)
  have hkn := hk1.alloc (.cells #[.slice none 0 0] 109)
  have hbn := hb1.alloc (by omega) (.cells #[.slice none 0 0] 109)
  have hszn : w1.heap.size + 1 ≤ (w1.alloc (.cells #[.slice none 0 0] 109)).heap.size := by simp
  have q1 : decide (512 < (s.p.length : Int)) = false := by simp; omega
  have q2 : decide (1024 < (s.m.length : Int)) = false := by simp; omega
  have HWn := Lib.hid hWn
  have Hkn := Lib.hid hkn
  clear hWn hkn
  clear hk1 hb1
  go_wp2_with fail
  generalize w1.heap.size = p at *
  generalize w1.alloc (.cells #[.slice none 0 0] 109) = w2 at *
  clear g0 g1 g2
  have hbp : w.heap.size ≠ p := by omega
  refine (writer_put w.heap.size p [] 1096042579 4 _ HWn.out (by omega) (by omega) (by omega) (by omega) (by simp) (by omega)).mono ?_
  rintro e w3 ⟨rfl, hW3, hb3, hk3⟩
  have hkn3 := Hkn.out.keptW hk3 hbp (by decide)
  have hbn3 := hbn.trans hb3
  have hsz3 := hb3.size
  rw [List.nil_append] at hW3
  clear HWn Hkn hk3 hb3 hbn
  have g0 := hkn3.cell 0
  simp at g0
  have hu1 : IntKind.u64.wrap (s.p.length : Int) = s.p.length := IntWalk.u64_in _ (by omega)
  have HW3 := Lib.hid hW3
  have Hkn3 := Lib.hid hkn3
  clear hW3 hkn3
  go_wp2_with fail
  refine (writer_put w.heap.size p (Fp.big 1096042579 4) s.p.length 2 _ HW3.out (by omega) (by omega) (by omega) (by omega) (by simp [Fp.big_length]) (by omega)).mono ?_
  rintro e w4 ⟨rfl, hW4, hb4, hk4⟩
  have hkn4 := Hkn3.out.keptW hk4 hbp (by decide)
  have hbn4 := hbn3.trans hb4
  have hsz4 := hb4.size
  have HW4 := Lib.hid (show Wr w.heap.size p (Kp.head s ++ Kp.tens (s.p.take 0)) w4 by simpa [Kp.head, Kp.tens] using hW4)
  clear HW3 Hkn3 hk4 hb4 hbn3 g0 hW4
  have g0 := hkn4.cell 0
  simp at g0
  have Hkn4 := Lib.hid hkn4
  clear hkn4
  go_wp2_with fail
  go_loopw [6, 37] (fun _ i wr => ∃ k : Nat, k ≤ s.p.length ∧ i = .int .i64 k ∧ Wr w.heap.size p (Kp.head s ++ Kp.tens (s.p.take k)) wr ∧ Below w.heap.size w wr ∧ Blk wr w.heap.size 32 #[.slice P s.p.length c1, .slice V s.v.length c2, .slice M s.m.length c3]) (fun _ i _ => s.p.length - (intOf i).toNat)
  case atStart => exact ⟨0, Nat.zero_le _, rfl, HW4.out, hbn4, Hkn4.out⟩
  case round =>
    clear HW4 hbn4 Hkn4 g0
    obtain ⟨k, hk, rfl, hWr, hbel, hkb⟩ := hrel
    have hsz := hbel.size
    by_cases hlt : k < s.p.length
    · obtain ⟨b, off, S, cS, C, dC, rfl, hb, e0, e1, hTR, _, _⟩ := HS.out.1 k hlt
      have e0' := (hbel.cell (p := ⟨b, off + k * 2, none⟩) hb).trans e0
      have e1' := (hbel.cell (p := ⟨b, off + k * 2 + 1, none⟩) hb).trans e1
      have hrl := Tn.right_len (List.all_eq_true.1 HR.out s.p[k] (List.getElem_mem hlt))
      have hnext := Kp.tens_take s.p k hlt
      have hln := Kp.tens_len (Kp.all_take HR.out k)
      rw [List.length_take, Nat.min_eq_left hk] at hln
      have hI1 := hTR.1.stable (B := w.heap.size) (Nat.le_refl _)
      have hI2 := hTR.2.stable (B := w.heap.size) (Nat.le_refl _)
      have Hnext := Lib.hid hnext
      have HI1 := Lib.hid hI1
      have HI2 := Lib.hid hI2
      clear hnext hI1 hI2
      generalize s.p[k] = t at *
      have hW5 := hWr.alloc (.cells #[.slice S t.s.length cS, .slice C t.c.length dC] 26)
      have hk5 := hkb.alloc (.cells #[.slice S t.s.length cS, .slice C t.c.length dC] 26)
      have ht5 := Blk.new wr 26 #[.slice S t.s.length cS, .slice C t.c.length dC]
      have hb5 := hbel.alloc hsz (.cells #[.slice S t.s.length cS, .slice C t.c.length dC] 26)
      have hpl := hWr.lt
      have HW5 := Lib.hid hW5
      have Hk5 := Lib.hid hk5
      have Ht5 := Lib.hid ht5
      clear hW5 hk5 ht5
      clear hTR e0 e1 hWr hkb
      obtain ⟨hr1, hr2, hr3⟩ := hrl
      have hkl := Kp.head_len s
      have Hkl := Lib.hid hkl
      clear hkl
      have hlen1 : (Kp.head s ++ Kp.tens (s.p.take k)).length ≤ 300000000 := by rw [List.length_append, Hkl.out]; omega
      have Hlen1 := Lib.hid hlen1
      clear hlen1
      go_wp2_with fail
      refine (writer_shape w.heap.size p _ S cS t.s _ HW5.out (HI1.out.below hb5) (by omega) (by have := Hlen1.out; omega) (by simp; omega)).mono ?_
      rintro e w6 ⟨rfl, hW6, hb6, hk6⟩
      have ht6 := Ht5.out.keptW hk6 (by omega) (by decide)
      have hkn6 := Hk5.out.keptW hk6 hbp (by decide)
      have hbn6 := hb5.trans hb6
      have hsz6 := hbn6.size
      have f1 := ht6.cell 1
      simp at f1
      have HW6 := Lib.hid hW6
      have Hkn6 := Lib.hid hkn6
      clear hW6 hkn6
      clear HW5 Hk5 Ht5 hk6 hb6 hb5 ht6 e0' e1'
      go_wp2_with fail
      refine (keep_put_fix w.heap.size p _ C dC t.c _ HW6.out (HI2.out.below hbn6).kept (by omega) (by have := Hlen1.out; rw [List.length_append, Fp.shape_length]; omega) (by omega)).mono ?_
      rintro e w7 ⟨rfl, hW7, hb7, hk7⟩
      have hkn7 := Hkn6.out.keptW hk7 hbp (by decide)
      have hbn7 := hbn6.trans hb7
      have HW7 := Lib.hid (show Wr w.heap.size p (Kp.head s ++ Kp.tens (s.p.take (k + 1))) w7 by rw [Hnext.out]; simpa [List.append_assoc] using hW7)
      clear hW7 hk7 hb7 HW6 Hkn6 f1 hbn6
      go_wp2_with fail
      go_roundw
      case rel => exact ⟨k + 1, by omega, by go_num, HW7.out, hbn7, hkn7⟩
      case measure => simp [intOf]; omega
    · obtain rfl : k = s.p.length := by omega
      rw [List.take_length] at hWr
      have g1 := hkb.cell 1
      simp at g1
      have HW8 := Lib.hid (show Wr w.heap.size p (Kp.head s ++ Kp.tens s.p ++ Kp.cells (s.v.take 0)) wr by simpa [Kp.cells] using hWr)
      have Hkb := Lib.hid hkb
      clear hkb
      clear hWr
      go_wp2_with fail
      go_loopw [8, 53] (fun _ i wr => ∃ k : Nat, k ≤ s.v.length ∧ i = .int .i64 k ∧ Wr w.heap.size p (Kp.head s ++ Kp.tens s.p ++ Kp.cells (s.v.take k)) wr ∧ Below w.heap.size w wr ∧ Blk wr w.heap.size 32 #[.slice P s.p.length c1, .slice V s.v.length c2, .slice M s.m.length c3]) (fun _ i _ => s.v.length - (intOf i).toNat)
      case atStart => exact ⟨0, Nat.zero_le _, rfl, HW8.out, hbel, Hkb.out⟩
      case round =>
        clear HW8 hbel Hkb g1 hsz
        have hlp := Kp.tens_len HR.out
        obtain ⟨wo, rfl⟩ : ∃ wo : World, wo = wr := ⟨_, rfl⟩
        obtain ⟨k, hk, rfl, hWr, hbel, hkb⟩ := hrel
        have hsz := hbel.size
        by_cases hlt : k < s.v.length
        · obtain ⟨b, off, S, cS, C, dC, rfl, hb, e0, e1, hTR, _, _⟩ := HS.out.2.1 k hlt
          have e0' := (hbel.cell (p := ⟨b, off + k * 2, none⟩) hb).trans e0
          have e1' := (hbel.cell (p := ⟨b, off + k * 2 + 1, none⟩) hb).trans e1
          have hrl := Tn.right_len (List.all_eq_true.1 HV.out s.v[k] (List.getElem_mem hlt))
          have hnext := Kp.cells_take s.v k hlt
          have hln := Kp.cells_len (Kp.all_take HV.out k)
          rw [List.length_take, Nat.min_eq_left hk] at hln
          have hI2 := hTR.2.stable (B := w.heap.size) (Nat.le_refl _)
          have Hnext := Lib.hid hnext
          have HI2 := Lib.hid hI2
          clear hnext hI2
          generalize s.v[k] = t at *
          have hW5 := hWr.alloc (.cells #[.slice S t.s.length cS, .slice C t.c.length dC] 26)
          have hk5 := hkb.alloc (.cells #[.slice S t.s.length cS, .slice C t.c.length dC] 26)
          have hb5 := hbel.alloc hsz (.cells #[.slice S t.s.length cS, .slice C t.c.length dC] 26)
          have hpl := hWr.lt
          have hsz5 := hb5.size
          have HW5 := Lib.hid hW5
          have Hk5 := Lib.hid hk5
          clear hW5 hk5
          clear hTR e0 e1 hWr hkb
          obtain ⟨hr1, hr2, hr3⟩ := hrl
          have hlen1 : (Kp.head s ++ Kp.tens s.p ++ Kp.cells (s.v.take k)).length ≤ 600000000 := by rw [List.length_append, List.length_append, Kp.head_len]; omega
          have Hlen1 := Lib.hid hlen1
          clear hlen1
          go_wp2_with fail
          refine (keep_put_fix w.heap.size p _ C dC t.c _ HW5.out (HI2.out.below hb5).kept (by omega) (by have := Hlen1.out; omega) hsz5).mono ?_
          rintro e w7 ⟨rfl, hW7, hb7, hk7⟩
          have hkn7 := Hk5.out.keptW hk7 hbp (by decide)
          have hbn7 := hb5.trans hb7
          have HW7 := Lib.hid (show Wr w.heap.size p (Kp.head s ++ Kp.tens s.p ++ Kp.cells (s.v.take (k + 1))) w7 by rw [Hnext.out, ← List.append_assoc]; exact hW7)
          clear hW7 hk7 hb7 HW5 Hk5 hb5
          go_wp2_with fail
          go_roundw
          case rel => exact ⟨k + 1, by omega, by go_num, HW7.out, hbn7, hkn7⟩
          case measure => simp [intOf]; omega
        · obtain rfl : k = s.v.length := by omega
          rw [List.take_length] at hWr
          have g2 := hkb.cell 2
          simp at g2
          have hlv := Kp.cells_len HV.out
          have hlen1 : (Kp.head s ++ Kp.tens s.p ++ Kp.cells s.v).length ≤ 600000000 := by rw [List.length_append, List.length_append, Kp.head_len]; omega
          have hu2 : IntKind.u64.wrap (s.m.length : Int) = s.m.length := IntWalk.u64_in _ (by omega)
          have Hkb := Lib.hid hkb
          have HWr := Lib.hid hWr
          have Hlen1 := Lib.hid hlen1
          clear hkb hWr hlen1
          go_wp2_with fail
          refine (writer_put w.heap.size p _ s.m.length 2 _ HWr.out (by omega) (by omega) (by omega) (by omega) (by have := Hlen1.out; omega) hsz).mono ?_
          rintro e w4 ⟨rfl, hW4, hb4, hk4⟩
          have hkn4 := Hkb.out.keptW hk4 hbp (by decide)
          have hbn4 := hbel.trans hb4
          have HW4 := Lib.hid (show Wr w.heap.size p (Kp.head s ++ Kp.tens s.p ++ Kp.cells s.v ++ Fp.big s.m.length 2 ++ Kp.mets (s.m.take 0)) w4 by simpa [Kp.mets] using hW4)
          clear HWr Hkb hk4 hb4 hbel g2 hW4
          have g2 := hkn4.cell 2
          simp at g2
          have Hkn4 := Lib.hid hkn4
          clear hkn4
          go_wp2_with fail
          go_loopw [10, 70] (fun _ i wr => ∃ k : Nat, k ≤ s.m.length ∧ i = .int .i64 k ∧ Wr w.heap.size p (Kp.head s ++ Kp.tens s.p ++ Kp.cells s.v ++ Fp.big s.m.length 2 ++ Kp.mets (s.m.take k)) wr ∧ Below w.heap.size w wr) (fun _ i _ => s.m.length - (intOf i).toNat)
          case atStart => exact ⟨0, Nat.zero_le _, rfl, HW4.out, hbn4⟩
          case round =>
            clear HW4 hbn4 Hkn4 g2 hsz
            obtain ⟨wo, rfl⟩ : ∃ wo : World, wo = wr := ⟨_, rfl⟩
            obtain ⟨k, hk, rfl, hWr, hbel⟩ := hrel
            have hsz := hbel.size
            by_cases hlt : k < s.m.length
            · obtain ⟨b, off, rfl, hb, e0, e1, e2, e3, e4, e5⟩ := HS.out.2.2.below hbel (Nat.le_refl _) k hlt
              have hnext := Kp.mets_take s.m k hlt
              have hln := Kp.mets_len (s.m.take k)
              rw [List.length_take, Nat.min_eq_left hk] at hln
              have Hnext := Lib.hid hnext
              clear hnext
              generalize s.m[k] = x at *
              have hlen2 : (Kp.head s ++ Kp.tens s.p ++ Kp.cells s.v ++ Fp.big s.m.length 2 ++ Kp.mets (s.m.take k)).length ≤ 700000000 := by have h1 := Hlen1.out; simp only [List.length_append, Fp.big_length] at h1 ⊢; omega
              have hpl := hWr.lt
              have hW5 := (hWr.alloc (.cells #[.int .i64 x.a, .int .i64 x.b, .int .i64 x.c, .int .i64 x.d, .int .i64 x.e, .int .i64 x.f] 70)).alloc (.cells #[.int .i64 x.a, .int .i64 x.b, .int .i64 x.c, .int .i64 x.d] 3)
              have hb5 := (hbel.alloc hsz (.cells #[.int .i64 x.a, .int .i64 x.b, .int .i64 x.c, .int .i64 x.d, .int .i64 x.e, .int .i64 x.f] 70)).alloc (by simp; omega) (.cells #[.int .i64 x.a, .int .i64 x.b, .int .i64 x.c, .int .i64 x.d] 3)
              have hq5 := (Blk.new wo 70 #[.int .i64 x.a, .int .i64 x.b, .int .i64 x.c, .int .i64 x.d, .int .i64 x.e, .int .i64 x.f]).alloc (.cells #[.int .i64 x.a, .int .i64 x.b, .int .i64 x.c, .int .i64 x.d] 3)
              have hr5 := Blk.new (wo.alloc (.cells #[.int .i64 x.a, .int .i64 x.b, .int .i64 x.c, .int .i64 x.d, .int .i64 x.e, .int .i64 x.f] 70)) 3 #[.int .i64 x.a, .int .i64 x.b, .int .i64 x.c, .int .i64 x.d]
              rw [World.size_alloc] at hr5
              have hsz5 := hb5.size
              have Hln := Lib.hid hln
              have HW5 := Lib.hid hW5
              have Hq5 := Lib.hid hq5
              have Hr5 := Lib.hid hr5
              have Hlen2 := Lib.hid hlen2
              clear hln hW5 hq5 hr5 hlen2
              clear hWr
              go_wp2_with fail
              refine (keep_put_int w.heap.size p _ (some ⟨wo.heap.size + 1, 0, none⟩) 4 [x.a, x.b, x.c, x.d] _ HW5.out (IntsK.of_blk Hr5.out (by omega) (by decide)) (by simp) (by have := Hlen2.out; omega) hsz5).mono ?_
              rintro e w6 ⟨rfl, hW6, hb6, hk6⟩
              have hq6 := Hq5.out.keptW hk6 (by omega) (by decide)
              have hbn6 := hb5.trans hb6
              have hsz6 := hbn6.size
              have d4 := hq6.cell 4
              have d5 := hq6.cell 5
              simp at d4 d5
              have hW7 := hW6.alloc (.cells #[.int .i64 x.e, .int .i64 x.f] 37)
              have hb7 := hbn6.alloc hsz6 (.cells #[.int .i64 x.e, .int .i64 x.f] 37)
              have hr7 := Blk.new w6 37 #[.int .i64 x.e, .int .i64 x.f]
              have hpl6 := hW6.lt
              have hsz7 := hb7.size
              have HW7 := Lib.hid hW7
              have Hr7 := Lib.hid hr7
              clear hW7 hr7
              clear hW6 hk6 hb6 HW5 Hq5 Hr5 hb5 hq6
              go_wp2_with fail
              refine (keep_put_fix w.heap.size p _ (some ⟨w6.heap.size, 0, none⟩) 2 [x.e, x.f] _ HW7.out (IntsK.of_blk Hr7.out (by omega) (by decide)) (by simp) (by have h1 := Hlen2.out; rw [List.length_append, Fp.words_length]; simp only [List.length_cons, List.length_nil]; omega) hsz7).mono ?_
              rintro e w8 ⟨rfl, hW8, hb8, hk8⟩
              have hbn8 := hb7.trans hb8
              have HW9 := Lib.hid (show Wr w.heap.size p (Kp.head s ++ Kp.tens s.p ++ Kp.cells s.v ++ Fp.big s.m.length 2 ++ Kp.mets (s.m.take (k + 1))) w8 by rw [Hnext.out, ← List.append_assoc, ← List.append_assoc]; exact hW8)
              clear hW8 hk8 hb8 HW7 Hr7 hb7 d4 d5 e0 e1 e2 e3 e4 e5
              go_wp2_with fail
              go_roundw
              case rel => exact ⟨k + 1, by omega, by go_num, HW9.out, hbn8⟩
              case measure => simp [intOf]; omega
            · obtain rfl : k = s.m.length := by omega
              rw [List.take_length] at hWr
              have hlm := Kp.mets_len s.m
              have hlen2 : (Kp.body s).length ≤ 800000000 := by have h1 := Hlen1.out; unfold Kp.body; simp only [List.length_append, Fp.big_length] at h1 ⊢; omega
              have hWb : Wr w.heap.size p (Kp.body s) wo := hWr
              have HWb := Lib.hid hWb
              have Hlm := Lib.hid hlm
              clear hWb hlm
              clear hWr
              go_wp2_with fail
              refine (writer_seal w.heap.size p (Kp.body s) _ HWb.out (by omega) (Kp.body_byte s)).mono ?_
              rintro e w9 ⟨A9, c9, rfl, hI9, hc9, hb9⟩
              have hbn9 := hbel.trans (hb9.mono hsz)
              have HL9 := Lib.hid (show (Kp.enc s).length = (Kp.body s).length + 4 by unfold Kp.enc; rw [List.length_append, Fp.big_length])
              have HI9 := Lib.hid hI9
              clear hI9
              clear hb9
              go_wp2_with fail
              go_ret2
              exact ⟨.inr ⟨HE.out, A9, c9, by rw [HL9.out]; rfl, HI9.out, by rw [HL9.out]; exact hc9⟩, hbn9⟩

def Kp.size (s : Sav) : Nat := if Kp.err s = 0 then (Kp.enc s).length else 0
set_option maxHeartbeats 1000000 in
theorem keep_size (P V M : Option Addr) (c1 c2 c3 : Nat) (s : Sav) (w : World) (hp : s.p.length ≤ 9223372036854775807) (hv : s.v.length ≤ 9223372036854775807) (hm : s.m.length ≤ 9223372036854775807) (hS : SavR w P V M s) :
    Calls Tryz.prog 22 #[.agg #[.slice P s.p.length c1, .slice V s.v.length c2, .slice M s.m.length c3]] w fun e w' => e = .returned (.int .i64 (Kp.size s)) ∧ Below w.heap.size w w' := by
  have hb0 : Below w.heap.size w (w.alloc (.cells #[.slice P s.p.length c1, .slice V s.v.length c2, .slice M s.m.length c3] 32)) := (Below.refl _ _).alloc (Nat.le_refl _) _
  have HS := Lib.hid hS
  clear hS
  go_enter Tryz.func22, Tryz.ntmps22
  go_wp2_with fail
  refine (keep_encode P V M c1 c2 c3 s _ hp hv hm (HS.out.below hb0 (Nat.le_refl _))).mono ?_
  rintro e w1 ⟨⟨he, rfl⟩ | ⟨he, A, c, rfl, hI, hc⟩, h1⟩
  · have hb1 := hb0.trans (h1.mono hb0.size)
    have hne : (Kp.err s != 0) = true := by simp [he]
    have HZ := Lib.hid (show Kp.size s = 0 by simp [Kp.size, he])
    clear he h1 hb0
    go_wp2_with fail
    go_ret
    exact ⟨by rw [HZ.out]; rfl, hb1⟩
  · have hb1 := hb0.trans (h1.mono hb0.size)
    have HZ := Lib.hid (show Kp.size s = (Kp.enc s).length by simp [Kp.size, he])
    clear he h1 hb0 hI hc
    go_wp2_with fail
    go_ret
    exact ⟨by rw [HZ.out]; rfl, hb1⟩
end Go.Proofs.YtkmhagjdafeebaaGreat
/- Layer 27: Load and Store: contracts. -/
namespace Go.Proofs.YtkmhagjdafeebaaGreat
open Go.RowKit
theorem okS_ok {s : Sav} (h : Kq.okS s) : s.ok := by
  obtain ⟨h1, h2, h3, h4, h5, -⟩ := h
  have hl := congrArg List.length h5
  simp at hl
  exact ⟨by omega, by omega, by omega, fun t ht => by have := Tn.right_len (h3 t ht).1; omega, fun t ht => by have := Tn.right_len (h4 t ht).1; omega⟩
namespace Tt
def loadE (ss : List (List Int)) (bs : List Int) : Int := if (Kr.decode bs).1 ≠ 0 then (Kr.decode bs).1 else rest ss (Kr.decode bs).2
end Tt
def LoadP (g : Nat) (wp : World) (A N : Option Addr) (c d D : Nat) (n : NetD) (bs : List Int) (s0 : Sav) (w : World) (e : Ending) (w' : World) : Prop :=
  e = .returned (.int .i64 (Tt.loadE (Nt.params n) bs)) ∧ (∃ P V M c1 c2 c3, TrR g wp A N P V M c d c1 c2 c3 D n (if Tt.loadE (Nt.params n) bs = 0 then (Kr.decode bs).2 else s0) w') ∧ Fr (fun b => b = g) w w'
set_option maxHeartbeats 8000000 in
set_option maxRecDepth 20000 in
theorem keep_load (g : Nat) (wp : World) (A N P0 V0 M0 B : Option Addr) (c d c1 c2 c3 D bc : Nat) (n : NetD) (bs : List Int) (s0 : Sav) (w : World) (hok : n.ok) (hT : TrR g wp A N P0 V0 M0 c d c1 c2 c3 D n s0 w) (hI : Ints .u8 w B bs) (hcap : bs.length ≤ bc) (hlen : bs.length ≤ 1000000000) (hby : ∀ x ∈ bs, 0 ≤ x ∧ x ≤ 255) :
    Calls Tryz.prog 13 #[.pointer (some ⟨g, 0, none⟩), .slice B bs.length bc] w (LoadP g wp A N c d D n bs s0 w) := by
  have hdi := fun h => Kq.decode_inv hby h
  have HE := Lib.hid (show Tt.loadE (Nt.params n) bs = if (Kr.decode bs).1 ≠ 0 then (Kr.decode bs).1 else Tt.rest (Nt.params n) (Kr.decode bs).2 from rfl)
  have HL := Lib.hid (fun (e : Ending) (w' : World) (h : e = .returned (.int .i64 (Tt.loadE (Nt.params n) bs)) ∧ (∃ P V M c1 c2 c3, TrR g wp A N P V M c d c1 c2 c3 D n (if Tt.loadE (Nt.params n) bs = 0 then (Kr.decode bs).2 else s0) w') ∧ Fr (fun b => b = g) w w') => (show LoadP g wp A N c d D n bs s0 w e w' from h))
  have Hok := Lib.hid hok
  have HT := Lib.hid hT
  have HI := Lib.hid hI
  have Hby := Lib.hid hby
  have Hdi := Lib.hid hdi
  clear hok hT hI hby hdi
  go_enter Tryz.func13, Tryz.ntmps13
  go_wp2_with fail
  refine (keep_decode B bc bs w HI.out hcap hlen Hby.out).mono ?_
  rintro e w1 ⟨hcase, h1⟩
  have h01 : Later w w1 := h1
  clear h1
  rcases hcase with ⟨he, rfl⟩ | ⟨he, P, V, M, d1, d2, d3, rfl, hS⟩
  · have hr : Tt.loadE (Nt.params n) bs = (Kr.decode bs).1 := by rw [HE.out, if_pos he]
    have h02 := h01.alloc (.cells #[.slice none 0 0, .slice none 0 0, .slice none 0 0] 32)
    have HR := Lib.hid (HL.out (.returned (.int .i64 (Kr.decode bs).1)) (w1.alloc (.cells #[.slice none 0 0, .slice none 0 0, .slice none 0 0] 32)) ⟨by rw [hr], ⟨P0, V0, M0, c1, c2, c3, by rw [if_neg (by rw [hr]; exact he)]; exact HT.out.later h02⟩, Fr.of_below h02 fun b hb _ => hb⟩)
    have q1 : ((Kr.decode bs).1 != 0) = true := by simpa using he
    clear hr he h01 h02 HL HE Hdi
    generalize (Kr.decode bs).1 = er at *
    go_wp2_with fail
    go_ret
    exact HR.out
  · have hr : Tt.loadE (Nt.params n) bs = Tt.rest (Nt.params n) (Kr.decode bs).2 := by rw [HE.out, if_neg (by rw [he]; simp)]
    obtain ⟨hoS, -⟩ := Hdi.out he
    have hsok := okS_ok hoS
    clear HE Hdi he hoS
    generalize (Kr.decode bs).2 = s at *
    have hk2 := Blk.new w1 32 #[.slice P s.p.length d1, .slice V s.v.length d2, .slice M s.m.length d3]
    have h12 := (Later.refl w1).alloc (.cells #[.slice P s.p.length d1, .slice V s.v.length d2, .slice M s.m.length d3] 32)
    have h02 := h01.trans h12
    have hS2 := hS.below h12 (Nat.le_refl _)
    have Hr := Lib.hid hr
    have Hsok := Lib.hid hsok
    have Hk2 := Lib.hid hk2
    have H02 := Lib.hid h02
    have HS2 := Lib.hid hS2
    clear hr hsok hk2 h02 hS2
    clear hS h12 h01
    go_upto_region 2 with fail
    show Code.wp _ _ _ _ (w1.alloc (.cells #[.slice P s.p.length d1, .slice V s.v.length d2, .slice M s.m.length d3] 32))
    generalize w1.alloc (.cells #[.slice P s.p.length d1, .slice V s.v.length d2, .slice M s.m.length d3] 32) = w2 at *
    have b0 := Hk2.out.cell 0
    have b1 := Hk2.out.cell 1
    have b2 := Hk2.out.cell 2
    simp at b0 b1 b2
    go_wp2_with fail
    refine (trainer_restore g wp A N P0 V0 M0 P V M c d c1 c2 c3 d1 d2 d3 D n s s0 w2 Hok.out (HT.out.later H02.out) Hsok.out HS2.out).mono ?_
    rintro e w3 ⟨rfl, hT3, hF3⟩
    have hF : Fr (fun b => b = g) w w3 := (Fr.of_below H02.out fun b hb _ => hb).trans hF3
    have HR := Lib.hid (HL.out (.returned (.int .i64 (Tt.rest (Nt.params n) s))) w3 ⟨by rw [Hr.out], by rw [Hr.out]; exact hT3, hF⟩)
    clear hT3 hF3 hF b0 b1 b2 HL Hr
    generalize Tt.rest (Nt.params n) s = er at *
    go_wp2_with fail
    go_ret
    exact HR.out
set_option maxHeartbeats 8000000 in
set_option maxRecDepth 20000 in
theorem keep_store (g : Nat) (wp : World) (A N P0 V0 M0 : Option Addr) (c d c1 c2 c3 D : Nat) (n : NetD) (s : Sav) (w : World) (hT : TrR g wp A N P0 V0 M0 c d c1 c2 c3 D n s w) (hs : s.ok) :
    Calls Tryz.prog 10 #[.pointer (some ⟨g, 0, none⟩)] w (EncP s w) := by
  have e0 : w.cell? ⟨g, 12, none⟩ = some (.slice P0 s.p.length c1) := hT.box.cell 12
  have e1 : w.cell? ⟨g, 13, none⟩ = some (.slice V0 s.v.length c2) := hT.box.cell 13
  have e2 : w.cell? ⟨g, 14, none⟩ = some (.slice M0 s.m.length c3) := hT.box.cell 14
  have HG := Lib.hid (trainer_saved g P0 V0 M0 c1 c2 c3 s w hs hT.sav e0 e1 e2)
  obtain ⟨s1, s2, s3, -, -⟩ := hs
  clear e0 e1 e2 hT
  go_enter Tryz.func10, Tryz.ntmps10
  go_wp2_with fail
  refine HG.out.mono ?_
  rintro e w1 ⟨P, V, M, mc, rfl, hR, h1⟩
  have h01 : Later w w1 := h1
  have hS := hR.now
  have H01 := Lib.hid h01
  have HS := Lib.hid hS
  clear h01 hS
  clear hR h1 HG
  go_wp2_with fail
  refine (keep_encode P V M s.p.length s.v.length mc s w1 (by omega) (by omega) (by omega) HS.out).mono ?_
  rintro e w2 ⟨hcase, h2⟩
  have h02 := H01.out.call h2
  rcases hcase with ⟨he, rfl⟩ | ⟨he, A2, c4, rfl, hI, hc⟩
  · have HR := Lib.hid (show EncP s w (.returned (.tuple #[.slice none 0 0, .int .i64 (Kp.err s)])) w2 from ⟨.inl ⟨he, rfl⟩, h02⟩)
    clear he h02 h2
    generalize Kp.err s = er at *
    go_wp2_with fail
    go_ret2
    exact HR.out
  · have HR := Lib.hid (show EncP s w (.returned (.tuple #[.slice A2 (Kp.enc s).length c4, .int .i64 0])) w2 from ⟨.inr ⟨he, A2, c4, rfl, hI, hc⟩, h02⟩)
    clear he h02 h2 hI hc
    generalize (Kp.enc s).length = ln at *
    go_wp2_with fail
    go_ret2
    exact HR.out
end Go.Proofs.YtkmhagjdafeebaaGreat
/- KeepLoads: the net of one bias and one mean is right, its only parameter has the in's shape. No program is named here. -/
namespace Go.Proofs.YtkmhagjdafeebaaGreat
open Go.RowKit
namespace Ld
def bias : OpD := ⟨9, 0, 0, 0, 0, 0, 0, []⟩
def mean (s : Int) : OpD := ⟨12, 0, s, 1, 0, 0, 0, []⟩
def net (s : Int) : NetD := ⟨[s], [⟨bias, [0], [[s]]⟩, ⟨mean s, [1], []⟩]⟩
theorem insF_same (s : Int) : Nt.insF (net s).nodes = Nt.insF (net 1).nodes := by
  funext id
  unfold Nt.insF Nt.node net
  match id.toNat - 1 with
  | 0 => rfl
  | 1 => rfl
  | k + 2 => rfl
theorem sorted (s : Int) : Nt.sorted (net s).nodes = [1, 2] := by
  unfold Nt.sorted
  rw [insF_same, show (net s).nodes.length = (net 1).nodes.length from rfl]
  decide +kernel
theorem isUsed_same (s id : Int) : Nt.isUsed (net s).nodes id = Nt.isUsed (net 1).nodes id := rfl
theorem unused (s : Int) : Nt.unused (net s).nodes = [2] := by
  have : Nt.unused (net s).nodes = Nt.unused (net 1).nodes := by
    unfold Nt.unused
    rw [show (net s).nodes.length = (net 1).nodes.length from rfl]
    exact List.filter_congr fun id _ => by rw [isUsed_same]
  rw [this]
  decide +kernel
theorem right_mean (s : Int) : Od.right (mean s) = true := by simp [Od.right, Od.used, mean]
theorem right_s1 {s : Int} (h : 1 ≤ s ∧ s ≤ 1024) : Sh.right [s] = true := by
  simp [Sh.right, Sh.side_iff, Safe.prod]
  omega
theorem window {s : Int} (h : 1 ≤ s ∧ s ≤ 1024) : Od.window s s 1 = (1, 0) := by
  unfold Od.window
  rw [if_pos (by simp [Sh.side_iff]; omega)]
  simp
theorem shape1 {s : Int} (h : 1 ≤ s ∧ s ≤ 1024) : Od.shape bias [[s]] [[s]] = ([s], 0) := by
  unfold Od.shape
  rw [if_neg (by have : Od.counts bias 1 1 = 0 := by decide
                 simpa using this), if_pos (by simp [right_s1 h])]
  simp [Od.byKind, bias, Od.same]
theorem counts2 (s : Int) : Od.counts (mean s) 0 1 = 0 := by
  have hr := right_mean s
  unfold Od.counts Od.least Od.most Od.params
  rw [if_pos hr, if_neg]
  rw [if_pos hr, if_pos hr, if_pos hr]
  simp [mean]
theorem shape2 {s : Int} (h : 1 ≤ s ∧ s ≤ 1024) : Od.shape (mean s) [] [[s]] = ([1], 0) := by
  unfold Od.shape
  rw [if_neg (by have := counts2 s; simpa using this), if_pos (by simp [right_s1 h])]
  have e : Od.byKind (mean s) [] [[s]] = Od.pool [s] s 1 := rfl
  rw [e]
  unfold Od.pool
  simp [right_s1 h, window h]
theorem lay {s : Int} (h : 1 ≤ s ∧ s ≤ 1024) : Nt.lay (net s).nodes (Nt.start (net s)) [1, 2] = ([[s], [s], [1]], 0) := by
  have s1 : Nt.layStep (net s).nodes (Nt.start (net s)) 1 = ([s], 0) := shape1 h
  unfold Nt.lay
  rw [s1, if_pos rfl]
  have s2 : Nt.layStep (net s).nodes ((Nt.start (net s)).set (1 : Int).toNat ([s], (0 : Int)).1) 2 = ([1], 0) := shape2 h
  unfold Nt.lay
  rw [s2, if_pos rfl]
  rfl
theorem shapes {s : Int} (h : 1 ≤ s ∧ s ≤ 1024) : Nt.shapes (net s) = [[s], [s], [1]] := by
  unfold Nt.shapes
  rw [sorted, lay h]
theorem check {s : Int} (h : 1 ≤ s ∧ s ≤ 1024) : Nt.check (net s) = 0 := by
  have hb : Nt.bads (net s).nodes.length (net s).nodes = 0 := by
    show Nt.bads 2 [⟨bias, [0], [[s]]⟩, ⟨mean s, [1], []⟩] = 0
    unfold Nt.bads
    rw [if_pos (show Od.right bias = true by decide), if_pos (by simp)]
    unfold Nt.bads
    rw [if_pos (right_mean s), if_pos (by simp)]
    rfl
  have hl : Nt.loss (net s).nodes = 2 := by unfold Nt.loss; rw [unused]; rfl
  unfold Nt.check
  rw [if_neg (by show ¬ ((2 : Nat) < 1 ∨ 512 < (2 : Nat)); omega), if_neg (by rw [show (net s).inn = [s] from rfl, right_s1 h]; decide), hb, if_neg (by omega), sorted, lay h, if_neg (by simp [net]), if_neg (by simp),
    if_neg (by unfold Nt.lossOk; rw [unused, hl]; decide), shapes h, hl, if_neg (by simp [Safe.prod])]
theorem params (s : Int) : Nt.params (net s) = [[s]] := rfl
end Ld
end Go.Proofs.YtkmhagjdafeebaaGreat
/- Layer 27's statements: the fixed answer. -/
namespace Go.Proofs.YtkmhagjdafeebaaGreat
open Go.RowKit

def t1 : Ten := ⟨[1], [-1]⟩
def s1 : Sav := ⟨[t1], [t1], [⟨0, 0, 7, 0, 0, 0⟩]⟩
def s0 : Sav := ⟨[], [], []⟩
theorem s1_ok : Kq.okS s1 := by
  refine ⟨by decide, by decide, ?_, ?_, rfl, ?_⟩
  · intro t ht; simp [s1] at ht; subst ht; exact ⟨by decide, by simp [t1, Kq.inR]⟩
  · intro t ht; simp [s1] at ht; subst ht; exact ⟨by decide, by simp [t1, Kq.inR]⟩
  · intro m hm; simp [s1] at hm; subst hm; simp [Met.l, Kq.inR]
theorem s0_ok : Kq.okS s0 := by
  refine ⟨by decide, by decide, ?_, ?_, rfl, ?_⟩ <;> simp [s0]
theorem s1_small : s1.ok := by
  refine ⟨by decide, by decide, by decide, ?_, ?_⟩ <;> (intro t ht; simp [s1] at ht; subst ht; simp [t1])

theorem Blk.alloc4 {w : World} {g : Nat} {t : TypeId} {cs : Array Value} (h : Blk w g t cs) (a b c d : Obj) : Blk ((((w.alloc a).alloc b).alloc c).alloc d) g t cs := (((h.alloc a).alloc b).alloc c).alloc d
theorem awake_state (w1 : World) (g h : Nat) (hG : Blk w1 g 3 (t1.s.map (Value.int .i64)).toArray) (hH : Blk w1 h 37 (t1.c.map (Value.int .i64)).toArray) :
    SavR (((((w1.alloc (.cells #[.slice (some ⟨g, 0, none⟩) t1.s.length t1.s.length, .slice (some ⟨h, 0, none⟩) t1.c.length t1.c.length] 26)).alloc (.cells #[.slice (some ⟨g, 0, none⟩) t1.s.length t1.s.length, .slice (some ⟨h, 0, none⟩) t1.c.length t1.c.length] 26)).alloc (.cells #[.slice (some ⟨g, 0, none⟩) t1.s.length t1.s.length, .slice (some ⟨h, 0, none⟩) t1.c.length t1.c.length] 26)).alloc (.cells #[.int .i64 0, .int .i64 0, .int .i64 7, .int .i64 0, .int .i64 0, .int .i64 0] 70)).alloc (.cells #[.slice (some ⟨w1.heap.size + 1, 0, none⟩) 1 1, .slice (some ⟨w1.heap.size + 1 + 1, 0, none⟩) 1 1, .slice (some ⟨w1.heap.size + 1 + 1 + 1, 0, none⟩) 1 1] 32)) (some ⟨w1.heap.size + 1, 0, none⟩) (some ⟨w1.heap.size + 1 + 1, 0, none⟩) (some ⟨w1.heap.size + 1 + 1 + 1, 0, none⟩) s1 ∧ Below w1.heap.size w1 (((((w1.alloc (.cells #[.slice (some ⟨g, 0, none⟩) t1.s.length t1.s.length, .slice (some ⟨h, 0, none⟩) t1.c.length t1.c.length] 26)).alloc (.cells #[.slice (some ⟨g, 0, none⟩) t1.s.length t1.s.length, .slice (some ⟨h, 0, none⟩) t1.c.length t1.c.length] 26)).alloc (.cells #[.slice (some ⟨g, 0, none⟩) t1.s.length t1.s.length, .slice (some ⟨h, 0, none⟩) t1.c.length t1.c.length] 26)).alloc (.cells #[.int .i64 0, .int .i64 0, .int .i64 7, .int .i64 0, .int .i64 0, .int .i64 0] 70)).alloc (.cells #[.slice (some ⟨w1.heap.size + 1, 0, none⟩) 1 1, .slice (some ⟨w1.heap.size + 1 + 1, 0, none⟩) 1 1, .slice (some ⟨w1.heap.size + 1 + 1 + 1, 0, none⟩) 1 1] 32)) ∧ Blk (((((w1.alloc (.cells #[.slice (some ⟨g, 0, none⟩) t1.s.length t1.s.length, .slice (some ⟨h, 0, none⟩) t1.c.length t1.c.length] 26)).alloc (.cells #[.slice (some ⟨g, 0, none⟩) t1.s.length t1.s.length, .slice (some ⟨h, 0, none⟩) t1.c.length t1.c.length] 26)).alloc (.cells #[.slice (some ⟨g, 0, none⟩) t1.s.length t1.s.length, .slice (some ⟨h, 0, none⟩) t1.c.length t1.c.length] 26)).alloc (.cells #[.int .i64 0, .int .i64 0, .int .i64 7, .int .i64 0, .int .i64 0, .int .i64 0] 70)).alloc (.cells #[.slice (some ⟨w1.heap.size + 1, 0, none⟩) 1 1, .slice (some ⟨w1.heap.size + 1 + 1, 0, none⟩) 1 1, .slice (some ⟨w1.heap.size + 1 + 1 + 1, 0, none⟩) 1 1] 32)) (w1.heap.size + 1 + 1 + 1 + 1) 32 #[.slice (some ⟨w1.heap.size + 1, 0, none⟩) 1 1, .slice (some ⟨w1.heap.size + 1 + 1, 0, none⟩) 1 1, .slice (some ⟨w1.heap.size + 1 + 1 + 1, 0, none⟩) 1 1] := by
  have hb : Below w1.heap.size w1 (((((w1.alloc (.cells #[.slice (some ⟨g, 0, none⟩) t1.s.length t1.s.length, .slice (some ⟨h, 0, none⟩) t1.c.length t1.c.length] 26)).alloc (.cells #[.slice (some ⟨g, 0, none⟩) t1.s.length t1.s.length, .slice (some ⟨h, 0, none⟩) t1.c.length t1.c.length] 26)).alloc (.cells #[.slice (some ⟨g, 0, none⟩) t1.s.length t1.s.length, .slice (some ⟨h, 0, none⟩) t1.c.length t1.c.length] 26)).alloc (.cells #[.int .i64 0, .int .i64 0, .int .i64 7, .int .i64 0, .int .i64 0, .int .i64 0] 70)).alloc (.cells #[.slice (some ⟨w1.heap.size + 1, 0, none⟩) 1 1, .slice (some ⟨w1.heap.size + 1 + 1, 0, none⟩) 1 1, .slice (some ⟨w1.heap.size + 1 + 1 + 1, 0, none⟩) 1 1] 32)) := (((((Below.refl _ w1).alloc (Nat.le_refl _) (.cells #[.slice (some ⟨g, 0, none⟩) t1.s.length t1.s.length, .slice (some ⟨h, 0, none⟩) t1.c.length t1.c.length] 26)).alloc (by simp) (.cells #[.slice (some ⟨g, 0, none⟩) t1.s.length t1.s.length, .slice (some ⟨h, 0, none⟩) t1.c.length t1.c.length] 26)).alloc (by simp; omega) (.cells #[.slice (some ⟨g, 0, none⟩) t1.s.length t1.s.length, .slice (some ⟨h, 0, none⟩) t1.c.length t1.c.length] 26)).alloc (by simp; omega) (.cells #[.int .i64 0, .int .i64 0, .int .i64 7, .int .i64 0, .int .i64 0, .int .i64 0] 70)).alloc (by simp; omega) (.cells #[.slice (some ⟨w1.heap.size + 1, 0, none⟩) 1 1, .slice (some ⟨w1.heap.size + 1 + 1, 0, none⟩) 1 1, .slice (some ⟨w1.heap.size + 1 + 1 + 1, 0, none⟩) 1 1] 32)
  have p1 := ((Blk.new (w1.alloc (.cells #[.slice (some ⟨g, 0, none⟩) t1.s.length t1.s.length, .slice (some ⟨h, 0, none⟩) t1.c.length t1.c.length] 26)) 26 #[.slice (some ⟨g, 0, none⟩) t1.s.length t1.s.length, .slice (some ⟨h, 0, none⟩) t1.c.length t1.c.length]).alloc (.cells #[.slice (some ⟨g, 0, none⟩) t1.s.length t1.s.length, .slice (some ⟨h, 0, none⟩) t1.c.length t1.c.length] 26)).alloc (.cells #[.int .i64 0, .int .i64 0, .int .i64 7, .int .i64 0, .int .i64 0, .int .i64 0] 70) |>.alloc (.cells #[.slice (some ⟨w1.heap.size + 1, 0, none⟩) 1 1, .slice (some ⟨w1.heap.size + 1 + 1, 0, none⟩) 1 1, .slice (some ⟨w1.heap.size + 1 + 1 + 1, 0, none⟩) 1 1] 32)
  have p2 := (Blk.new ((w1.alloc (.cells #[.slice (some ⟨g, 0, none⟩) t1.s.length t1.s.length, .slice (some ⟨h, 0, none⟩) t1.c.length t1.c.length] 26)).alloc (.cells #[.slice (some ⟨g, 0, none⟩) t1.s.length t1.s.length, .slice (some ⟨h, 0, none⟩) t1.c.length t1.c.length] 26)) 26 #[.slice (some ⟨g, 0, none⟩) t1.s.length t1.s.length, .slice (some ⟨h, 0, none⟩) t1.c.length t1.c.length]).alloc (.cells #[.int .i64 0, .int .i64 0, .int .i64 7, .int .i64 0, .int .i64 0, .int .i64 0] 70) |>.alloc (.cells #[.slice (some ⟨w1.heap.size + 1, 0, none⟩) 1 1, .slice (some ⟨w1.heap.size + 1 + 1, 0, none⟩) 1 1, .slice (some ⟨w1.heap.size + 1 + 1 + 1, 0, none⟩) 1 1] 32)
  have p3 := (Blk.new (((w1.alloc (.cells #[.slice (some ⟨g, 0, none⟩) t1.s.length t1.s.length, .slice (some ⟨h, 0, none⟩) t1.c.length t1.c.length] 26)).alloc (.cells #[.slice (some ⟨g, 0, none⟩) t1.s.length t1.s.length, .slice (some ⟨h, 0, none⟩) t1.c.length t1.c.length] 26)).alloc (.cells #[.slice (some ⟨g, 0, none⟩) t1.s.length t1.s.length, .slice (some ⟨h, 0, none⟩) t1.c.length t1.c.length] 26)) 70 #[.int .i64 0, .int .i64 0, .int .i64 7, .int .i64 0, .int .i64 0, .int .i64 0]).alloc (.cells #[.slice (some ⟨w1.heap.size + 1, 0, none⟩) 1 1, .slice (some ⟨w1.heap.size + 1 + 1, 0, none⟩) 1 1, .slice (some ⟨w1.heap.size + 1 + 1 + 1, 0, none⟩) 1 1] 32)
  have p4 := Blk.new ((((w1.alloc (.cells #[.slice (some ⟨g, 0, none⟩) t1.s.length t1.s.length, .slice (some ⟨h, 0, none⟩) t1.c.length t1.c.length] 26)).alloc (.cells #[.slice (some ⟨g, 0, none⟩) t1.s.length t1.s.length, .slice (some ⟨h, 0, none⟩) t1.c.length t1.c.length] 26)).alloc (.cells #[.slice (some ⟨g, 0, none⟩) t1.s.length t1.s.length, .slice (some ⟨h, 0, none⟩) t1.c.length t1.c.length] 26)).alloc (.cells #[.int .i64 0, .int .i64 0, .int .i64 7, .int .i64 0, .int .i64 0, .int .i64 0] 70)) 32 #[.slice (some ⟨w1.heap.size + 1, 0, none⟩) 1 1, .slice (some ⟨w1.heap.size + 1 + 1, 0, none⟩) 1 1, .slice (some ⟨w1.heap.size + 1 + 1 + 1, 0, none⟩) 1 1]
  simp only [World.size_alloc] at p1 p2 p3 p4
  have hG' := hG.below hb hG.lt
  have hH' := hH.below hb hH.lt
  generalize (((((w1.alloc (.cells #[.slice (some ⟨g, 0, none⟩) t1.s.length t1.s.length, .slice (some ⟨h, 0, none⟩) t1.c.length t1.c.length] 26)).alloc (.cells #[.slice (some ⟨g, 0, none⟩) t1.s.length t1.s.length, .slice (some ⟨h, 0, none⟩) t1.c.length t1.c.length] 26)).alloc (.cells #[.slice (some ⟨g, 0, none⟩) t1.s.length t1.s.length, .slice (some ⟨h, 0, none⟩) t1.c.length t1.c.length] 26)).alloc (.cells #[.int .i64 0, .int .i64 0, .int .i64 7, .int .i64 0, .int .i64 0, .int .i64 0] 70)).alloc (.cells #[.slice (some ⟨w1.heap.size + 1, 0, none⟩) 1 1, .slice (some ⟨w1.heap.size + 1 + 1, 0, none⟩) 1 1, .slice (some ⟨w1.heap.size + 1 + 1 + 1, 0, none⟩) 1 1] 32)) = W at *
  have key : ∀ b, Blk W b 26 #[.slice (some ⟨g, 0, none⟩) t1.s.length t1.s.length, .slice (some ⟨h, 0, none⟩) t1.c.length t1.c.length] → Tens W (some ⟨b, 0, none⟩) [t1] := fun b hb j hj => by
    obtain rfl : j = 0 := by simpa using hj
    exact ⟨b, 0, _, _, _, _, rfl, hb.lt, hb.cell 0, hb.cell 1, ⟨hG'.ints, hH'.ints⟩, by simp [t1], by simp [t1]⟩
  refine ⟨⟨key _ p1, key _ p2, fun j hj => ?_⟩, hb, p4⟩
  obtain rfl : j = 0 := by simpa [s1] using hj
  exact ⟨_, 0, rfl, p3.lt, p3.cell 0, p3.cell 1, p3.cell 2, p3.cell 3, p3.cell 4, p3.cell 5⟩

set_option maxHeartbeats 4000000 in
set_option maxRecDepth 100000 in
theorem awake27 (w : World) : Calls Tryz.prog 7 #[] w fun e w' => e = .returned (.bool true) ∧ Below w.heap.size w w' := by
  have hb0 : Below w.heap.size w ((w.alloc (.cells #[.int .i64 1] 3)).alloc (.cells #[.int .i64 (-1)] 37)) := ((Below.refl _ _).alloc (Nat.le_refl _) _).alloc (by simp) _
  have hI0 : Ints .i64 ((w.alloc (.cells #[.int .i64 1] 3)).alloc (.cells #[.int .i64 (-1)] 37)) (some ⟨w.heap.size, 0, none⟩) [1] := ((Blk.new w 3 #[.int .i64 1]).alloc _).ints (zs := [1])
  have hI1 : Ints .i64 ((w.alloc (.cells #[.int .i64 1] 3)).alloc (.cells #[.int .i64 (-1)] 37)) (some ⟨w.heap.size + 1, 0, none⟩) [-1] := by
    have := (Blk.new (w.alloc (.cells #[.int .i64 1] 3)) 37 #[.int .i64 (-1)]).ints (zs := [-1])
    rwa [World.size_alloc] at this
  have kc := fun (w : World) (C : Array Value) (n c : Nat) => Lib.run_convert_bytes_const (P := Tryz.prog) w 33 5 C n c Tryz.underlying33 Tryz.underlying5
  have HI0 := Lib.hid hI0
  have HI1 := Lib.hid hI1
  have Hkc := Lib.hid kc
  clear hI0 hI1 kc
  go_enter Tryz.func7, Tryz.ntmps7
  go_wp2_with fail
  refine (tensor_of (some ⟨w.heap.size, 0, none⟩) (some ⟨w.heap.size + 1, 0, none⟩) 1 1 t1 _ (by decide) (by decide) ⟨HI0.out, HI1.out⟩).mono ?_
  rintro e w1 ⟨hcase, h1⟩
  have hb1 := hb0.trans (h1.mono hb0.size)
  clear HI0 HI1 hb0
  rcases hcase with ⟨hr, _⟩ | ⟨_, v, rfl, g, h, rfl, hg, hh, hG, hH⟩
  · exact absurd hr (by decide)
  clear h1 hg hh
  obtain ⟨hS2, hb12, hk2⟩ := awake_state w1 g h hG hH
  have hb2 := hb1.trans (hb12.mono hb1.size)
  have HS2 := Lib.hid hS2
  have Hk2 := Lib.hid hk2
  clear hS2 hk2
  clear hG hH hb1 hb12
  go_wp2_with fail
  generalize (((((w1.alloc (.cells #[.slice (some ⟨g, 0, none⟩) t1.s.length t1.s.length, .slice (some ⟨h, 0, none⟩) t1.c.length t1.c.length] 26)).alloc (.cells #[.slice (some ⟨g, 0, none⟩) t1.s.length t1.s.length, .slice (some ⟨h, 0, none⟩) t1.c.length t1.c.length] 26)).alloc (.cells #[.slice (some ⟨g, 0, none⟩) t1.s.length t1.s.length, .slice (some ⟨h, 0, none⟩) t1.c.length t1.c.length] 26)).alloc (.cells #[.int .i64 0, .int .i64 0, .int .i64 7, .int .i64 0, .int .i64 0, .int .i64 0] 70)).alloc (.cells #[.slice (some ⟨w1.heap.size + 1, 0, none⟩) 1 1, .slice (some ⟨w1.heap.size + 1 + 1, 0, none⟩) 1 1, .slice (some ⟨w1.heap.size + 1 + 1 + 1, 0, none⟩) 1 1] 32)) = w2 at *
  generalize w1.heap.size = q at *
  refine (keep_encode (some ⟨q + 1, 0, none⟩) (some ⟨q + 1 + 1, 0, none⟩) (some ⟨q + 1 + 1 + 1, 0, none⟩) 1 1 1 s1 _ (by decide) (by decide) (by decide) HS2.out).mono ?_
  rintro e w3 ⟨hcase, h3⟩
  rcases hcase with ⟨he, _⟩ | ⟨_, A3, c3, rfl, hI3, hc3⟩
  · exact absurd (Kq.okS_err s1_ok) he
  have hS3 := HS2.out.below h3 (Nat.le_refl _)
  have hk3 := Hk2.out.below h3 Hk2.out.lt
  have hb3 := hb2.trans (h3.mono hb2.size)
  have hl3 : (Kp.enc s1).length ≤ 1000 := by decide
  have HI3 := Lib.hid hI3
  have HS3 := Lib.hid hS3
  have Hk3 := Lib.hid hk3
  clear hI3 hS3 hk3
  clear h3 hb2 HS2 Hk2
  go_wp2_with fail
  refine (keep_decode A3 c3 (Kp.enc s1) _ HI3.out hc3 (by omega) (fun x hx => by rcases List.mem_append.1 hx with h | h; exact Kp.body_byte _ x h; exact Fp.big_byte _ _ x h)).mono ?_
  rintro e w4 ⟨hcase, h4⟩
  rw [Kq.decode_enc s1_ok] at hcase
  rcases hcase with ⟨he, _⟩ | ⟨_, P4, V4, M4, d1, d2, d3, rfl, hS4⟩
  · exact absurd rfl he
  have hS5 := hS4.below ((Below.refl _ w4).alloc (Nat.le_refl _) (.cells #[.slice P4 1 d1, .slice V4 1 d2, .slice M4 1 d3] 32)) (Nat.le_refl _)
  have h45 : Below w4.heap.size w4 (w4.alloc (.cells #[.slice P4 1 d1, .slice V4 1 d2, .slice M4 1 d3] 32)) := (Below.refl _ w4).alloc (Nat.le_refl _) _
  have h35 := h4.trans (h45.mono h4.size)
  have hr5 := Blk.new w4 32 #[.slice P4 1 d1, .slice V4 1 d2, .slice M4 1 d3]
  have hI5 := HI3.out.below h35 (Nat.le_refl _)
  have hT5 := HS3.out.below h35 (Nat.le_refl _)
  have hk5 := Hk3.out.below h35 Hk3.out.lt
  have hb5 := hb3.trans (h35.mono hb3.size)
  have HS5 := Lib.hid hS5
  have Hr5 := Lib.hid hr5
  have HI5 := Lib.hid hI5
  have HT5 := Lib.hid hT5
  have Hk5 := Lib.hid hk5
  clear hS5 hr5 hI5 hT5 hk5
  clear h4 hS4 h45 h35 HI3 HS3 Hk3 hb3
  go_wp2_with fail
  have hq5 : w4.heap.size + 1 = (w4.alloc (.cells #[.slice P4 1 d1, .slice V4 1 d2, .slice M4 1 d3] 32)).heap.size := by simp
  show Calls Tryz.prog 16 _ (w4.alloc (.cells #[.slice P4 1 d1, .slice V4 1 d2, .slice M4 1 d3] 32)) _
  generalize w4.alloc (.cells #[.slice P4 1 d1, .slice V4 1 d2, .slice M4 1 d3] 32) = w5 at *
  generalize w4.heap.size = r at *
  refine (keep_encode none none none 0 0 0 s0 _ (by decide) (by decide) (by decide) ⟨fun j hj => absurd hj (by simp [s0]), fun j hj => absurd hj (by simp [s0]), fun j hj => absurd hj (by simp [s0])⟩).mono ?_
  rintro e w6 ⟨hcase, h6⟩
  rcases hcase with ⟨he, _⟩ | ⟨_, A6, c6, rfl, hI6, hc6⟩
  · exact absurd (Kq.okS_err s0_ok) he
  have hS6 := HS5.out.below h6 (Nat.le_refl _)
  have hr6 := Hr5.out.below h6 Hr5.out.lt
  have hT6 := HT5.out.below h6 (Nat.le_refl _)
  have hk6 := Hk5.out.below h6 Hk5.out.lt
  have hb6 := hb5.trans (h6.mono hb5.size)
  clear h6 HS5 Hr5 HT5 Hk5 HI5 hb5 hq5
  have h67 : Below w6.heap.size w6 (w6.alloc (.cells #[.int .u8 65, .int .u8 84, .int .u8 72, .int .u8 83] 5 (4, 5))) := (Below.refl _ w6).alloc (Nat.le_refl _) _
  have hN7 : Ints .u8 (w6.alloc (.cells #[.int .u8 65, .int .u8 84, .int .u8 72, .int .u8 83] 5 (4, 5))) (some ⟨w6.heap.size, 0, none⟩) [65, 84, 72, 83] := Ints.of_row fun j hj => by
    rw [Nat.zero_add, cell_of_row _ _ j _ _ _ (heap_alloc_new w6 _)]
    match j, hj with
    | 0, _ => rfl
    | 1, _ => rfl
    | 2, _ => rfl
    | 3, _ => rfl
  have hS7 := hS6.below h67 (Nat.le_refl _)
  have hr7 := hr6.below h67 hr6.lt
  have hT7 := hT6.below h67 (Nat.le_refl _)
  have hk7 := hk6.below h67 hk6.lt
  have hI7 := hI6.below h67 (Nat.le_refl _)
  have hb7 := hb6.trans (h67.mono hb6.size)
  have kc := Hkc.out w6 #[.int .u8 65, .int .u8 84, .int .u8 72, .int .u8 83] 4 4
  have HS7 := Lib.hid hS7
  have Hr7 := Lib.hid hr7
  have HT7 := Lib.hid hT7
  have Hk7 := Lib.hid hk7
  have HI7 := Lib.hid hI7
  have HN7 := Lib.hid hN7
  clear hS7 hr7 hT7 hk7 hI7 hN7
  clear hS6 hr6 hT6 hk6 hI6 hb6 h67 Hkc
  go_wp2_with fail
  clear kc
  generalize w6.alloc (.cells #[.int .u8 65, .int .u8 84, .int .u8 72, .int .u8 83] 5 (4, 5)) = w7 at *
  refine (keep_decode (some ⟨w6.heap.size, 0, none⟩) 4 [65, 84, 72, 83] _ HN7.out (by decide) (by decide) (by decide)).mono ?_
  rintro e w8 ⟨hcase, h8⟩
  rw [show Kr.decode [65, 84, 72, 83] = (16, Kr.none_) from rfl] at hcase
  rcases hcase with ⟨_, rfl⟩ | ⟨he, _⟩
  case inr => exact absurd he (by decide)
  have h89 : Below w8.heap.size w8 (w8.alloc (.cells #[.slice none 0 0, .slice none 0 0, .slice none 0 0] 32)) := (Below.refl _ w8).alloc (Nat.le_refl _) _
  have h79 := h8.trans (h89.mono h8.size)
  have hS9 := HS7.out.below h79 (Nat.le_refl _)
  have hr9 := Hr7.out.below h79 Hr7.out.lt
  have hT9 := HT7.out.below h79 (Nat.le_refl _)
  have hk9 := Hk7.out.below h79 Hk7.out.lt
  have hI9 := HI7.out.below h79 (Nat.le_refl _)
  have hb9 := hb7.trans (h79.mono hb7.size)
  clear h8 h89 h79 HS7 Hr7 HT7 Hk7 HI7 HN7 hb7
  have HS9 := Lib.hid hS9
  have Hr9 := Lib.hid hr9
  have HT9 := Lib.hid hT9
  have Hk9 := Lib.hid hk9
  have HI9 := Lib.hid hI9
  clear hS9 hr9 hT9 hk9 hI9
  have hkeep : ∀ W, Below (w8.alloc (.cells #[.slice none 0 0, .slice none 0 0, .slice none 0 0] 32)).heap.size (w8.alloc (.cells #[.slice none 0 0, .slice none 0 0, .slice none 0 0] 32)) W → W.cell? ⟨q + 1 + 1 + 1 + 1, 0, none⟩ = some (.slice (some ⟨q + 1, 0, none⟩) 1 1) ∧ W.cell? ⟨q + 1 + 1 + 1 + 1, 1, none⟩ = some (.slice (some ⟨q + 1 + 1, 0, none⟩) 1 1) ∧ W.cell? ⟨q + 1 + 1 + 1 + 1, 2, none⟩ = some (.slice (some ⟨q + 1 + 1 + 1, 0, none⟩) 1 1) ∧ W.cell? ⟨r, 0, none⟩ = some (.slice P4 1 d1) ∧ W.cell? ⟨r, 1, none⟩ = some (.slice V4 1 d2) ∧ W.cell? ⟨r, 2, none⟩ = some (.slice M4 1 d3) ∧ (convert 33 9 (.slice A6 (Kp.enc s0).length c6)).run Tryz.prog W = .ok (.string (strOfNums (Kp.enc s0))) W := fun W hW =>
    have a := Hk9.out.below hW Hk9.out.lt
    have b := Hr9.out.below hW Hr9.out.lt
    ⟨a.cell 0, a.cell 1, a.cell 2, b.cell 0, b.cell 1, b.cell 2, run_string_of c6 33 5 9 Tryz.underlying33 Tryz.underlying5 Tryz.underlying9 (HI9.out.below hW (Nat.le_refl _))⟩
  obtain ⟨a0, a1, a2, a3, a4, a5, a6⟩ := hkeep _ ((Below.refl _ _).drew)
  have Hkeep := Lib.hid hkeep
  clear hkeep
  go_wp2_with fail
  generalize w8.alloc (.cells #[.slice none 0 0, .slice none 0 0, .slice none 0 0] 32) = w9 at *
  have hsE : ∀ W, Below w9.heap.size w9 W → Calls Tryz.prog 14 #[.agg #[.slice P4 1 d1, .slice V4 1 d2, .slice M4 1 d3], .agg #[.slice (some ⟨q + 1, 0, none⟩) 1 1, .slice (some ⟨q + 1 + 1, 0, none⟩) 1 1, .slice (some ⟨q + 1 + 1 + 1, 0, none⟩) 1 1]] W fun e w' => e = .returned (.bool true) ∧ Below W.heap.size W w' := fun W hW => by
    have := saved_equal P4 V4 M4 (some ⟨q + 1, 0, none⟩) (some ⟨q + 1 + 1, 0, none⟩) (some ⟨q + 1 + 1 + 1, 0, none⟩) d1 d2 d3 1 1 1 s1 s1 W s1_small s1_small (HS9.out.below hW (Nat.le_refl _)) (HT9.out.below hW (Nat.le_refl _))
    rwa [(Sav.eq_iff s1 s1).2 rfl] at this
  have hsZ : ∀ W, Below w9.heap.size w9 W → Calls Tryz.prog 22 #[.agg #[.slice (some ⟨q + 1, 0, none⟩) 1 1, .slice (some ⟨q + 1 + 1, 0, none⟩) 1 1, .slice (some ⟨q + 1 + 1 + 1, 0, none⟩) 1 1]] W fun e w' => e = .returned (.int .i64 (Kp.enc s1).length) ∧ Below W.heap.size W w' := fun W hW => by
    have := keep_size (some ⟨q + 1, 0, none⟩) (some ⟨q + 1 + 1, 0, none⟩) (some ⟨q + 1 + 1 + 1, 0, none⟩) 1 1 1 s1 W (by decide) (by decide) (by decide) (HT9.out.below hW (Nat.le_refl _))
    rwa [show Kp.size s1 = (Kp.enc s1).length by simp [Kp.size, Kq.okS_err s1_ok]] at this
  have hsS : ∀ W, Calls Tryz.prog 21 #[.string ⟨#[65, 84, 72, 83]⟩] W fun e w' => e = .returned (.int .u64 (Fp.sum [65, 84, 72, 83])) ∧ W = w' := fun W => ref_sum ⟨#[65, 84, 72, 83]⟩ W (by decide)
  have hsB : ∀ W, Calls Tryz.prog 20 #[.int .u64 (Fp.sum [65, 84, 72, 83]), .int .i64 4] W fun e w' => e = .returned (.string (strOfNums (Fp.big (Fp.sum [65, 84, 72, 83]) 4))) ∧ Below W.heap.size W w' := fun W => ref_big (Fp.sum [65, 84, 72, 83]) 4 W (by decide) (by decide) (by decide)
  have hse : strOfNums (Kp.enc s0) = (⟨#[65, 84, 72, 83, 0, 0, 0, 0]⟩ : ByteArray) ++ strOfNums (Fp.big (Fp.sum [65, 84, 72, 83]) 4) := by
    have e1 : Kp.body s0 = [65, 84, 72, 83, 0, 0, 0, 0] := by decide
    have e2 : strOfNums [65, 84, 72, 83, 0, 0, 0, 0] = (⟨#[65, 84, 72, 83, 0, 0, 0, 0]⟩ : ByteArray) := by decide +kernel
    have e3 : Fp.sum [65, 84, 72, 83, 0, 0, 0, 0] = Fp.sum [65, 84, 72, 83] := by decide
    rw [Kp.enc, e1, e3, strOfNums_append, e2]
  have hsz : (strOfNums (Fp.big (Fp.sum [65, 84, 72, 83]) 4)).size ≤ 4 := str_size_le (by rw [Fp.big_length]; omega)
  have HsE := Lib.hid hsE
  have HsZ := Lib.hid hsZ
  have HsS := Lib.hid hsS
  have HsB := Lib.hid hsB
  clear hsE hsZ hsS hsB
  have hbd : Below w9.heap.size w9 w9.drew := (Below.refl _ _).drew
  generalize Fp.sum [65, 84, 72, 83] = sm at *
  generalize strOfNums (Fp.big sm 4) = sb at *
  generalize strOfNums (Kp.enc s0) = se at *
  have hcs : ¬ 9223372036854775807 < 8 + sb.size := by omega
  have heq : (se.toList == ((⟨#[65, 84, 72, 83, 0, 0, 0, 0]⟩ : ByteArray) ++ sb).toList) = true := by rw [hse]; simp
  clear hse
  go_region_held3 (fun W => W.cell? ⟨q + 1 + 1 + 1 + 1, 0, none⟩ = some (.slice (some ⟨q + 1, 0, none⟩) 1 1) ∧ W.cell? ⟨q + 1 + 1 + 1 + 1, 1, none⟩ = some (.slice (some ⟨q + 1 + 1, 0, none⟩) 1 1) ∧ W.cell? ⟨q + 1 + 1 + 1 + 1, 2, none⟩ = some (.slice (some ⟨q + 1 + 1 + 1, 0, none⟩) 1 1) ∧ W.cell? ⟨r, 0, none⟩ = some (.slice P4 1 d1) ∧ W.cell? ⟨r, 1, none⟩ = some (.slice V4 1 d2) ∧ W.cell? ⟨r, 2, none⟩ = some (.slice M4 1 d3) ∧ (convert 33 9 (.slice A6 (Kp.enc s0).length c6)).run Tryz.prog W = .ok (.string se) W) (first | exact Hkeep.out _ hbc | exact Hkeep.out _ hbb | exact Hkeep.out _ hba | exact Hkeep.out _ hbd)
    (first
      | (go_at_call 14; refine (HsE.out _ hbd).mono ?_; rintro e wa ⟨rfl, ha⟩; have hba := hbd.trans (ha.mono hbd.size))
      | (go_at_call 21; refine (HsS.out _).mono ?_; rintro e wz ⟨rfl, rfl⟩)
      | (go_at_call 20; refine (HsB.out _).mono ?_; rintro e wb ⟨rfl, hb⟩; have hbb := hba.trans (hb.mono hba.size))
      | (go_at_call 22; refine (HsZ.out _ hbb).mono ?_; rintro e wc ⟨rfl, hc⟩; have hbc := hbb.trans (hc.mono hbb.size)))
  have hbf := hb9.trans (hbc.mono hb9.size)
  clear a0 a1 a2 a3 a4 a5 a6
  go_wp2_with fail
  go_ret
  exact ⟨rfl, hbf⟩
end Go.Proofs.YtkmhagjdafeebaaGreat
/- Ops, and shapes of parameters and ins, come in as arguments, opened: no bound on their size. -/
namespace Go.Proofs.YtkmhagjdafeebaaGreat
open Go.ChangeShapes Go.WideShapes Go.Deep Go.RowKit

section
variable {H : Type} {enc : TypeId × Value → H} {P : Program} {W : World} {base : Nat} {spare : Nat → Bool} {held : Bool}
/-- The elements of a slice. -/
theorem slice_plain {t e : TypeId} {fuel : Nat} {v : Value} {x : DataW H × List MemPlace} (ht : P.underlying t = some (.slice e)) (h : DataW.trod enc P W base spare held fuel t [v] = some x) :
    v = .slice none 0 0 ∨ ∃ a len cap, v = .slice (some a) len cap ∧ len ≤ cap ∧ cap ≤ maxLen ∧
      ∀ i, i < len → ∃ cs' m y, W.cells? base (a.add (i * P.cellsOf e)) (P.cellsOf e) = some cs' ∧ DataW.trod enc P W base spare held m e cs' = some y := by
  rcases open_slice ht h with ⟨hcs, _⟩ | ⟨a, len, cap, m, n, D, Pl, hcs, _, hl, hm, hmm, hx, hi⟩
  · simp at hcs; exact .inl hcs
  · simp at hcs; subst hcs
    right
    have hlm : len ≤ m := by rw [hmm]; split <;> omega
    exact ⟨a, len, cap, rfl, hl, hm, fun i hil => by
      obtain ⟨cs', h1, h2⟩ := hi i (by omega)
      exact ⟨cs', n, _, h1, h2⟩⟩
end
theorem int_one' : Tryz.prog.cellsOf 3 = 1 := by kernel_rfl
/-- A slice of numbers, of whatever name. -/
theorem nums_open {H : Type} {enc : TypeId × Value → H} {W : World} {base : Nat} {spare : Nat → Bool} {held : Bool} {t : TypeId} {fuel : Nat} {v : Value} {x : DataW H × List MemPlace} (ht : Tryz.prog.underlying t = some (.slice 3))
    (h : DataW.trod enc Tryz.prog W base spare held fuel t [v] = some x) :
    ∃ A c zs, v = .slice A zs.length c ∧ Ints .i64 W A zs ∧ zs.length ≤ c ∧ c ≤ 9223372036854775807 ∧ ∀ z ∈ zs, -9223372036854775808 ≤ z ∧ z ≤ 9223372036854775807 := by
  obtain ⟨A, c, zs, rfl, hl, hc, hI, hw⟩ := ints_open ht Tryz.underlying3 int_one' h
  refine ⟨A, c, zs, rfl, hI, hc, ?_, fun z hz => wf_bd (hw z hz)⟩
  rcases slice_plain ht h with e | ⟨a, len, cap, e, _, hm, _⟩
  · injection e with _ _ e; omega
  · injection e with _ _ e; unfold maxLen at hm; omega
theorem one_list {l : List Value} (h : l.length = 1) : ∃ v, l = [v] := by
  match l, h with
  | [v], _ => exact ⟨v, rfl⟩
theorem choose_list {α : Type} [Inhabited α] {n : Nat} {Q : Nat → α → Prop} (h : ∀ i, i < n → ∃ a, Q i a) : ∃ l : List α, l.length = n ∧ ∀ i (hi : i < l.length), Q i l[i] := by
  obtain ⟨f, hf⟩ := @choose_lt α _ _ _ h
  exact ⟨(List.range n).map f, by simp, fun i hi => by simp at hi; simpa using hf i hi⟩
theorem addr_lit {W : World} {a : Addr} {v : Value} (h : W.cell? a = some v) : ∃ b off, a = ⟨b, off, none⟩ := by
  obtain ⟨b, off, spot⟩ := a
  have hs : spot = none := by simpa using World.cell?_spot h
  subst hs
  exact ⟨b, off, rfl⟩
theorem shp_one : Tryz.prog.cellsOf 23 = 1 := by kernel_rfl
/-- A slice of shapes. -/
theorem shps_open {H : Type} {enc : TypeId × Value → H} {W : World} {base : Nat} {spare : Nat → Bool} {held : Bool} {fuel : Nat} {v : Value} {x : DataW H × List MemPlace}
    (h : DataW.trod enc Tryz.prog W base spare held fuel 40 [v] = some x) :
    ∃ A c ss, v = .slice A ss.length c ∧ Shps W A ss ∧ ss.length ≤ c ∧ c ≤ 9223372036854775807 ∧ ∀ s ∈ ss, ∀ z ∈ s, -9223372036854775808 ≤ z ∧ z ≤ 9223372036854775807 := by
  rcases slice_plain Tryz.underlying40 h with rfl | ⟨a, len, cap, rfl, hl, hm, hi⟩
  · exact ⟨none, 0, [], rfl, Shps.nil, by simp, by omega, by simp⟩
  · rw [shp_one] at hi
    have key : ∀ i, i < len → ∃ q : (List Int) × (Option Addr) × Nat, W.cell? (a.add i) = some (.slice q.2.1 q.1.length q.2.2) ∧ Ints .i64 W q.2.1 q.1 ∧ q.1.length ≤ q.2.2 ∧ q.2.2 ≤ 9223372036854775807 ∧ ∀ z ∈ q.1, -9223372036854775808 ≤ z ∧ z ≤ 9223372036854775807 := fun i hil => by
      obtain ⟨cs', m, y, hc, ht⟩ := hi i hil
      obtain ⟨_, hlen, hat⟩ := World.cells?_some hc
      obtain ⟨v, rfl⟩ := one_list hlen
      obtain ⟨A, c, zs, rfl, h1, h2⟩ := nums_open Tryz.underlying23 ht
      refine ⟨(zs, A, c), ?_, h1, h2⟩
      have := hat 0 (by omega)
      rw [Nat.mul_one] at this
      simpa [Addr.add] using this
    obtain ⟨L, hL, hq⟩ := choose_list key
    refine ⟨some a, cap, L.map (·.1), by simp [hL], fun j hj => ?_, by simpa [hL] using hl, by unfold maxLen at hm; omega, fun s hs => ?_⟩
    · rw [List.length_map] at hj
      obtain ⟨h1, h2, h3, h4, _⟩ := hq j hj
      obtain ⟨h0, _⟩ := hq 0 (by omega)
      obtain ⟨b, off, rfl⟩ := addr_lit (show W.cell? a = _ by simpa [Addr.add] using h0)
      rw [add_plain'] at h1
      rw [List.getElem_map]
      exact ⟨b, off, _, _, rfl, World.block_lt_of_cell? _ _ h1, h1, h2, h3, h4⟩
    · obtain ⟨q, hqm, rfl⟩ := List.mem_map.1 hs
      obtain ⟨i, hi, rfl⟩ := List.getElem_of_mem hqm
      exact (hq i hi).2.2.2.2
theorem op_under : Tryz.prog.underlying 39 = some (.struct (Tryz.prog.fieldsOf 39)) := by kernel_rfl
theorem op_eight : (Tryz.prog.fieldsOf 39).size = 8 := by kernel_rfl
theorem op_types : (Tryz.prog.fieldsOf 39).toList.map (·.type) = [3, 37, 3, 3, 3, 3, 3, 23] := by kernel_rfl
theorem op_f0 : ((Tryz.prog.fieldsOf 39)[0]?).map (fun f => (f.type, f.offset, Tryz.prog.cellsOf f.type)) = some (3, 0, 1) := by kernel_rfl
theorem op_f1 : ((Tryz.prog.fieldsOf 39)[1]?).map (fun f => (f.type, f.offset, Tryz.prog.cellsOf f.type)) = some (37, 1, 1) := by kernel_rfl
theorem op_f2 : ((Tryz.prog.fieldsOf 39)[2]?).map (fun f => (f.type, f.offset, Tryz.prog.cellsOf f.type)) = some (3, 2, 1) := by kernel_rfl
theorem op_f3 : ((Tryz.prog.fieldsOf 39)[3]?).map (fun f => (f.type, f.offset, Tryz.prog.cellsOf f.type)) = some (3, 3, 1) := by kernel_rfl
theorem op_f4 : ((Tryz.prog.fieldsOf 39)[4]?).map (fun f => (f.type, f.offset, Tryz.prog.cellsOf f.type)) = some (3, 4, 1) := by kernel_rfl
theorem op_f5 : ((Tryz.prog.fieldsOf 39)[5]?).map (fun f => (f.type, f.offset, Tryz.prog.cellsOf f.type)) = some (3, 5, 1) := by kernel_rfl
theorem op_f6 : ((Tryz.prog.fieldsOf 39)[6]?).map (fun f => (f.type, f.offset, Tryz.prog.cellsOf f.type)) = some (3, 6, 1) := by kernel_rfl
theorem op_f7 : ((Tryz.prog.fieldsOf 39)[7]?).map (fun f => (f.type, f.offset, Tryz.prog.cellsOf f.type)) = some (23, 7, 1) := by kernel_rfl
theorem list8 {α : Type} {l : List α} (h : l.length = 8) : ∃ a b c d e f g i, l = [a, b, c, d, e, f, g, i] := by
  match l, h with
  | [a, b, c, d, e, f, g, i], _ => exact ⟨a, b, c, d, e, f, g, i, rfl⟩
theorem list10 {α : Type} {l : List α} (h : l.length = 10) : ∃ a b c d e f g i j k, l = [a, b, c, d, e, f, g, i, j, k] := by
  match l, h with
  | [a, b, c, d, e, f, g, i, j, k], _ => exact ⟨a, b, c, d, e, f, g, i, j, k, rfl⟩
theorem op_size : Tryz.prog.cellsOf 39 = 8 := by kernel_rfl
set_option maxRecDepth 100000 in
/-- An op's cells. -/
theorem op_cells_open {H : Type} {enc : TypeId × Value → H} {W : World} {base : Nat} {spare : Nat → Bool} {held : Bool} {fuel : Nat} {v0 v1 v2 v3 v4 v5 v6 v7 : Value} {x : DataW H × List MemPlace}
    (h : DataW.trod enc Tryz.prog W base spare held fuel 39 [v0, v1, v2, v3, v4, v5, v6, v7] = some x) :
    ∃ (o : OpD) (S : Option Addr) (c : Nat), v0 = .int .i64 o.kind ∧ v1 = .int .i64 o.k ∧ v2 = .int .i64 o.width ∧ v3 = .int .i64 o.step ∧ v4 = .int .i64 o.side ∧ v5 = .int .i64 o.frm ∧ v6 = .int .i64 o.to ∧ v7 = .slice S o.s.length c ∧
      Ints .i64 W S o.s ∧ o.s.length ≤ c ∧ c ≤ 9223372036854775807 ∧ o.wide ∧ ∀ z ∈ o.s, -9223372036854775808 ≤ z ∧ z ≤ 9223372036854775807 := by
  obtain ⟨ys, n, _, hx, _, hlen, hg⟩ := DataW.trod_struct op_under h
  rw [op_eight] at hlen
  obtain ⟨y0, y1, y2, y3, y4, y5, y6, y7, rfl⟩ := list8 hlen
  obtain ⟨f0, e0, t0⟩ := Option.map_eq_some_iff.1 op_f0
  simp only [Prod.mk.injEq] at t0
  have h0 := hg 0 f0 e0
  rw [t0.2.2, t0.2.1, t0.1] at h0
  simp at h0
  obtain ⟨f1, e1, t1⟩ := Option.map_eq_some_iff.1 op_f1
  simp only [Prod.mk.injEq] at t1
  have h1 := hg 1 f1 e1
  rw [t1.2.2, t1.2.1, t1.1] at h1
  simp at h1
  obtain ⟨f2, e2, t2⟩ := Option.map_eq_some_iff.1 op_f2
  simp only [Prod.mk.injEq] at t2
  have h2 := hg 2 f2 e2
  rw [t2.2.2, t2.2.1, t2.1] at h2
  simp at h2
  obtain ⟨f3, e3, t3⟩ := Option.map_eq_some_iff.1 op_f3
  simp only [Prod.mk.injEq] at t3
  have h3 := hg 3 f3 e3
  rw [t3.2.2, t3.2.1, t3.1] at h3
  simp at h3
  obtain ⟨f4, e4, t4⟩ := Option.map_eq_some_iff.1 op_f4
  simp only [Prod.mk.injEq] at t4
  have h4 := hg 4 f4 e4
  rw [t4.2.2, t4.2.1, t4.1] at h4
  simp at h4
  obtain ⟨f5, e5, t5⟩ := Option.map_eq_some_iff.1 op_f5
  simp only [Prod.mk.injEq] at t5
  have h5 := hg 5 f5 e5
  rw [t5.2.2, t5.2.1, t5.1] at h5
  simp at h5
  obtain ⟨f6, e6, t6⟩ := Option.map_eq_some_iff.1 op_f6
  simp only [Prod.mk.injEq] at t6
  have h6 := hg 6 f6 e6
  rw [t6.2.2, t6.2.1, t6.1] at h6
  simp at h6
  obtain ⟨f7, e7, t7⟩ := Option.map_eq_some_iff.1 op_f7
  simp only [Prod.mk.injEq] at t7
  have h7 := hg 7 f7 e7
  rw [t7.2.2, t7.2.1, t7.1] at h7
  simp at h7
  obtain ⟨x0, q0, _, w0⟩ := DataW.trod_int Tryz.underlying3 h0
  simp at q0
  subst q0
  obtain ⟨x1, q1, _, w1⟩ := DataW.trod_int Tryz.underlying37 h1
  simp at q1
  subst q1
  obtain ⟨x2, q2, _, w2⟩ := DataW.trod_int Tryz.underlying3 h2
  simp at q2
  subst q2
  obtain ⟨x3, q3, _, w3⟩ := DataW.trod_int Tryz.underlying3 h3
  simp at q3
  subst q3
  obtain ⟨x4, q4, _, w4⟩ := DataW.trod_int Tryz.underlying3 h4
  simp at q4
  subst q4
  obtain ⟨x5, q5, _, w5⟩ := DataW.trod_int Tryz.underlying3 h5
  simp at q5
  subst q5
  obtain ⟨x6, q6, _, w6⟩ := DataW.trod_int Tryz.underlying3 h6
  simp at q6
  subst q6
  obtain ⟨S, c, zs, rfl, hI, h1, h2, h4⟩ := nums_open Tryz.underlying23 h7
  refine ⟨⟨x0, x1, x2, x3, x4, x5, x6, zs⟩, S, c, rfl, rfl, rfl, rfl, rfl, rfl, rfl, rfl, hI, h1, h2, fun z hz => ?_, h4⟩
  simp at hz
  rcases hz with rfl | rfl | rfl | rfl | rfl | rfl | rfl
  · exact wf_bd w0
  · exact wf_bd w1
  · exact wf_bd w2
  · exact wf_bd w3
  · exact wf_bd w4
  · exact wf_bd w5
  · exact wf_bd w6
set_option maxRecDepth 100000 in
/-- An op. -/
theorem op_open {H : Type} {enc : TypeId × Value → H} {W : World} {r : Reach} {b0 base : Nat} {spare : Nat → Bool} {held : Bool} {v : Value} {d : DataW H} {p : List MemPlace}
    (hv : Value.okWide Tryz.prog W r b0 39 v) (h : DataW.Trod enc Tryz.prog W base spare held 39 v d p) :
    ∃ S c o, v = opVal o S c ∧ Ints .i64 W S o.s ∧ o.s.length ≤ c ∧ c ≤ 9223372036854775807 ∧ o.wide := by
  obtain ⟨cs, rfl, hsz⟩ := okWide_struct op_under hv
  obtain ⟨l⟩ := cs
  obtain ⟨v0, v1, v2, v3, v4, v5, v6, v7, rfl⟩ := list8 (hsz.trans op_size)
  obtain ⟨fuel, hf⟩ := h
  obtain ⟨o, S, c, rfl, rfl, rfl, rfl, rfl, rfl, rfl, rfl, h1, h2, h3, h4, _⟩ := op_cells_open hf
  exact ⟨S, c, o, rfl, h1, h2, h3, h4⟩
end Go.Proofs.YtkmhagjdafeebaaGreat
/- A tensor comes in as an argument, opened: no bound on its size. -/
namespace Go.Proofs.YtkmhagjdafeebaaGreat
open Go.ChangeShapes Go.WideShapes Go.Deep Go.RowKit
/-- A tensor's parts, of any size. -/
structure TenW (w : World) (S C : Option Addr) (c d : Nat) (t : Ten) : Prop where
  r : TenR w S C t
  s1 : t.s.length ≤ c
  s2 : c ≤ 9223372036854775807
  c1 : t.c.length ≤ d
  c2 : d ≤ 9223372036854775807
  num : Ly.In t
theorem TenW.small {w : World} {S C : Option Addr} {c d : Nat} {t : Ten} (h : TenW w S C c d t) (l1 : t.s.length ≤ 1048576) (l2 : t.c.length ≤ 1048576) : TenIn w S C c d t := ⟨h.r, h.s1, h.s2, h.c1, h.c2, l1, l2, h.num⟩
theorem fixW_one : Tryz.prog.cellsOf 37 = 1 := by kernel_rfl
theorem tenW_cells : Tryz.prog.cellsOf 26 = 2 := by kernel_rfl
theorem tenW_under : Tryz.prog.underlying 26 = some (.struct (Tryz.prog.fieldsOf 26)) := by kernel_rfl
theorem tenW_two : (Tryz.prog.fieldsOf 26).size = 2 := by kernel_rfl
theorem tenW_f0 : ((Tryz.prog.fieldsOf 26)[0]?).map (fun f => (f.type, f.offset, Tryz.prog.cellsOf f.type)) = some (23, 0, 1) := by kernel_rfl
theorem tenW_f1 : ((Tryz.prog.fieldsOf 26)[1]?).map (fun f => (f.type, f.offset, Tryz.prog.cellsOf f.type)) = some (24, 1, 1) := by kernel_rfl
/-- A slice of numbers of layer 1. -/
theorem fixs_open0 {H : Type} {enc : TypeId × Value → H} {W : World} {base : Nat} {spare : Nat → Bool} {held : Bool} {fuel : Nat} {v : Value} {x : DataW H × List MemPlace}
    (h : DataW.trod enc Tryz.prog W base spare held fuel 24 [v] = some x) :
    ∃ A c zs, v = .slice A zs.length c ∧ Ints .i64 W A zs ∧ zs.length ≤ c ∧ c ≤ 9223372036854775807 ∧ ∀ z ∈ zs, Fx.In z := by
  obtain ⟨A, c, zs, rfl, hl, hc, hI, hw⟩ := ints_open Tryz.underlying24 Tryz.underlying37 fixW_one h
  refine ⟨A, c, zs, rfl, hI, hc, ?_, fun z hz => wf_bd (hw z hz)⟩
  rcases slice_plain Tryz.underlying24 h with e | ⟨a, len, cap, e, _, hm, _⟩
  · injection e with _ _ e; omega
  · injection e with _ _ e; unfold maxLen at hm; omega
theorem list2 {α : Type} {l : List α} (h : l.length = 2) : ∃ a b, l = [a, b] := by
  match l, h with
  | [a, b], _ => exact ⟨a, b, rfl⟩
set_option maxRecDepth 100000 in
/-- A tensor's two cells. -/
theorem ten_open0 {H : Type} {enc : TypeId × Value → H} {W : World} {r : Reach} {b0 base : Nat} {spare : Nat → Bool} {held : Bool} {v : Value} {d : DataW H} {p : List MemPlace}
    (hv : Value.okWide Tryz.prog W r b0 26 v) (h : DataW.Trod enc Tryz.prog W base spare held 26 v d p) :
    ∃ (S C : Option Addr) (c d : Nat) (t : Ten), v = .agg #[.slice S t.s.length c, .slice C t.c.length d] ∧ TenW W S C c d t := by
  obtain ⟨cs, rfl, hsz⟩ := okWide_struct tenW_under hv
  obtain ⟨l⟩ := cs
  obtain ⟨v0, v1, rfl⟩ := list2 (hsz.trans tenW_cells)
  obtain ⟨fuel, hf⟩ := h
  obtain ⟨ys, n, _, hx, _, hlen, hg⟩ := DataW.trod_struct tenW_under hf
  rw [tenW_two] at hlen
  obtain ⟨y0, y1, rfl⟩ := list2 hlen
  obtain ⟨f0, e0, t0⟩ := Option.map_eq_some_iff.1 tenW_f0
  simp only [Prod.mk.injEq] at t0
  have h0 := hg 0 f0 e0
  rw [t0.2.2, t0.2.1, t0.1] at h0
  simp [Value.cells] at h0
  obtain ⟨f1, e1, t1⟩ := Option.map_eq_some_iff.1 tenW_f1
  simp only [Prod.mk.injEq] at t1
  have h1 := hg 1 f1 e1
  rw [t1.2.2, t1.2.1, t1.1] at h1
  simp [Value.cells] at h1
  obtain ⟨S, c, zs, rfl, a1, a2, a3, a5⟩ := nums_open Tryz.underlying23 h0
  obtain ⟨C, d, cs, rfl, b1, b2, b3, b5⟩ := fixs_open0 h1
  exact ⟨S, C, c, d, ⟨zs, cs⟩, rfl, ⟨a1, b1⟩, a2, a3, b2, b3, b5⟩
end Go.Proofs.YtkmhagjdafeebaaGreat
/- KeepLoads: the law's net in memory. -/
namespace Go.Proofs.YtkmhagjdafeebaaGreat
open Go.RowKit
theorem al5 (w : World) (o1 o2 o3 o4 o5 : Obj) : (((((w.alloc o1).alloc o2).alloc o3).alloc o4).alloc o5).heap[w.heap.size]? = some o1 ∧ (((((w.alloc o1).alloc o2).alloc o3).alloc o4).alloc o5).heap[w.heap.size + 1]? = some o2 ∧ (((((w.alloc o1).alloc o2).alloc o3).alloc o4).alloc o5).heap[w.heap.size + 1 + 1]? = some o3 ∧
    (((((w.alloc o1).alloc o2).alloc o3).alloc o4).alloc o5).heap[w.heap.size + 1 + 1 + 1]? = some o4 ∧ (((((w.alloc o1).alloc o2).alloc o3).alloc o4).alloc o5).heap[w.heap.size + 1 + 1 + 1 + 1]? = some o5 := by
  have k : ∀ (W : World) (o : Obj) (b : Nat) (v : Option Obj), b < W.heap.size → W.heap[b]? = v → (W.alloc o).heap[b]? = v := fun W o b v hb h => (Below.heap_alloc W o b hb).trans h
  have e : ∀ (W : World) (o : Obj) (b : Nat), b = W.heap.size → (W.alloc o).heap[b]? = some o := fun W o b hb => hb ▸ heap_alloc_new W o
  refine ⟨?_, ?_, ?_, ?_, ?_⟩
  all_goals repeat (first | exact e _ _ _ (by simp) | refine k _ _ _ _ (by simp <;> omega) ?_)
theorem later5 (w : World) (o1 o2 o3 o4 o5 : Obj) : Later w (((((w.alloc o1).alloc o2).alloc o3).alloc o4).alloc o5).drew := (((((((Later.refl w).alloc o1).alloc o2).alloc o3).alloc o4).alloc o5)).drew
def NetCut (w1 : World) (S : Option Addr) (c : Nat) (x : Int) (v : Value) (wx : World) : Prop :=
  ∃ tb N, v = .pointer (some ⟨tb, 0, none⟩) ∧ w1.heap.size ≤ tb ∧ Blk wx tb 45 #[.slice S 1 c, .slice (some ⟨N, 0, none⟩) 2 2] ∧ NetR wx S (some ⟨N, 0, none⟩) (Ld.net x) ∧ Later w1 wx
theorem ld_cut {w1 W : World} {S : Option Addr} {c q0 qP q1 qN tb : Nat} {x : Int} (h0 : W.heap[q0]? = some (.cells #[.int .i64 0] 3 (0, 0))) (hP : W.heap[qP]? = some (.cells #[.slice S 1 c] 23 (0, 0))) (h1 : W.heap[q1]? = some (.cells #[.int .i64 1] 3 (0, 0)))
    (hN : W.heap[qN]? = some (.cells #[.int .i64 9, .int .i64 0, .int .i64 0, .int .i64 0, .int .i64 0, .int .i64 0, .int .i64 0, .slice none 0 0, .slice (some ⟨q0, 0, none⟩) 1 1, .slice (some ⟨qP, 0, none⟩) 1 1, .int .i64 12, .int .i64 0, .int .i64 x, .int .i64 1, .int .i64 0, .int .i64 0, .int .i64 0, .slice none 0 0, .slice (some ⟨q1, 0, none⟩) 1 1, .slice none 0 0] 42 (0, 0)))
    (hB : W.heap[tb]? = some (.cells #[.slice S 1 c, .slice (some ⟨qN, 0, none⟩) 2 2] 45 (0, 0))) (hS : Ints .i64 w1 S [x]) (hc : 1 ≤ c) (hm : c ≤ 9223372036854775807) (hge : w1.heap.size ≤ tb) (hl : Later w1 W) :
    NetCut w1 S c x (.pointer (some ⟨tb, 0, none⟩)) W := by
  have gP : Blk W qP _ _ := hP
  have gN : Blk W qN _ _ := hN
  have hS2 := hS.below hl (Nat.le_refl _)
  have one : ∀ {b : Nat} {z : Int}, Blk W b 3 #[.int .i64 z] → Ints .i64 W (some ⟨b, 0, none⟩) [z] := fun {b z} h => Ints.of_row fun j hj => by
    obtain rfl : j = 0 := by simpa using hj
    simpa using h.cell 0
  refine ⟨tb, qN, rfl, hge, hB, ⟨hS2, fun j hj => ?_⟩, hl⟩
  have hj2 : j = 0 ∨ j = 1 := by simp [Ld.net] at hj; omega
  rcases hj2 with rfl | rfl
  · refine ⟨qN, 0, none, 0, some ⟨q0, 0, none⟩, 1, some ⟨qP, 0, none⟩, 1, rfl, gN.lt, gN.cell 0, gN.cell 1, gN.cell 2, gN.cell 3, gN.cell 4, gN.cell 5, gN.cell 6, gN.cell 7, gN.cell 8, gN.cell 9, ⟨Ints.nil, by simp [Ld.net, Ld.bias], by omega⟩, ⟨one h0, by simp [Ld.net], by omega⟩, fun i hi => ?_, by simp [Ld.net], by omega⟩
    obtain rfl : i = 0 := by simpa [Ld.net] using hi
    exact ⟨qP, 0, S, c, rfl, gP.lt, gP.cell 0, hS2, hc, hm⟩
  · exact ⟨qN, 0, none, 0, some ⟨q1, 0, none⟩, 1, none, 0, rfl, gN.lt, gN.cell 10, gN.cell 11, gN.cell 12, gN.cell 13, gN.cell 14, gN.cell 15, gN.cell 16, gN.cell 17, gN.cell 18, gN.cell 19, ⟨Ints.nil, by simp [Ld.net, Ld.mean], by omega⟩, ⟨one h1, by simp [Ld.net], by omega⟩, Shps.nil, by simp [Ld.net], by omega⟩
end Go.Proofs.YtkmhagjdafeebaaGreat
/- KeepLoads, plain law: the law's task fits, its first state is small and right, what is loaded. -/
namespace Go.Proofs.YtkmhagjdafeebaaGreat
open Go.RowKit
namespace Ld
theorem net_ok {x : Int} (h : 1 ≤ x ∧ x ≤ 1024) : (net x).ok := by
  refine ⟨by simp [net], by simp [net], fun v hv => ?_⟩
  simp [net] at hv
  rcases hv with rfl | rfl
  · exact ⟨by intro z hz; simp [bias] at hz; omega, by simp [bias], by simp, by simp, by simp, by intro z hz; simp at hz; omega⟩
  · exact ⟨by intro z hz; simp [mean] at hz; omega, by simp [mean], by simp, by simp, by simp, by intro z hz; simp at hz; omega⟩
theorem right_zero {x : Int} (h : 1 ≤ x ∧ x ≤ 1024) : Tn.right ⟨[x], List.replicate (Safe.prod [x]).toNat 0⟩ = true := by
  unfold Tn.right
  rw [right_s1 h]
  simp [Safe.prod]
  omega
theorem fits {x : Int} {tc : List Int} (h : 1 ≤ x ∧ x ≤ 1024) (hr : Tn.right ⟨[x], tc⟩ = true) : Pn.fits (net x) [⟨[x], tc⟩] ⟨(net x).inn, List.replicate (Safe.prod (net x).inn).toNat 0⟩ = 0 := by
  unfold Pn.fits
  rw [check h, if_neg (by simp), params, if_neg (by simp), if_neg, if_pos]
  · unfold Pn.tenIs
    rw [show (net x).inn = [x] from rfl, right_zero h]
    simp
  · unfold Pn.parOk
    simp [Pn.tenIs, Ly.got, hr]
theorem zero_right {t : Ten} (hr : Tn.right t = true) : Tn.right (zeroT t) = true := by
  unfold Tn.right zeroT Ly.zeros at *
  simpa using hr
theorem was_alike {t : Ten} (hr : Tn.right t = true) : Tn.alike (sav0 [t]).p (sav0 [t]).v = true := by
  unfold Tn.alike sav0
  simp [hr, zero_right hr]
  rfl
theorem was_err {t : Ten} (hr : Tn.right t = true) : Kp.err (sav0 [t]) = 0 := Kp.err_ok (was_alike hr) (by simp [sav0]) (by simp [sav0])
theorem was_ok {t : Ten} (hr : Tn.right t = true) : (sav0 [t]).ok := by
  have h := Tn.right_len hr
  refine ⟨by simp [sav0], by simp [sav0], by simp [sav0], fun u hu => ?_, fun u hu => ?_⟩
  · simp [sav0] at hu; subst hu; omega
  · simp [sav0] at hu; subst hu; simp [zeroT, Ly.zeros]; omega
theorem was_tiny {x : Int} {tc : List Int} (hr : Tn.right ⟨[x], tc⟩ = true) (hs : Lw.sz [(⟨[x], tc⟩ : Ten)] ≤ 200) : (sav0 [⟨[x], tc⟩]).tiny := by
  have h := Tn.right_len hr
  simp only at h
  have hc : tc.length ≤ 198 := by
    unfold Lw.sz Lw.raw at hs
    simp only [List.map_cons, List.map_nil, List.sum_cons, List.sum_nil, List.length_cons, List.length_nil] at hs
    rw [wrapk_in _ (by omega) (by omega)] at hs
    omega
  refine ⟨by simp [sav0], by simp [sav0], by simp [sav0], fun u hu => ?_, fun u hu => ?_⟩
  · simp [sav0] at hu; subst hu; simp; omega
  · simp [sav0] at hu; subst hu; simp [zeroT, Ly.zeros]; omega
theorem was_rest {x : Int} {tc : List Int} (hr : Tn.right ⟨[x], tc⟩ = true) : Tt.rest (Nt.params (net x)) (sav0 [⟨[x], tc⟩]) = 0 := by
  unfold Tt.rest
  rw [params, was_alike hr, if_neg (by simp [sav0]), if_neg (by simp [sav0]), if_neg (by simp [sav0])]
theorem loadE_zero {ss : List (List Int)} {bs : List Int} (h : Tt.loadE ss bs = 0) : (Kr.decode bs).1 = 0 := by
  unfold Tt.loadE at h
  by_cases e : (Kr.decode bs).1 = 0
  · exact e
  · rw [if_pos e] at h; exact absurd h e
/-- What a saved state's bytes load. -/
theorem load_enc {x : Int} {s : Sav} (he : Kp.err s = 0) (hw : s.wide) : (Kr.decode (Kp.enc s)).2 = s ∧ Tt.loadE (Nt.params (net x)) (Kp.enc s) = if s.p.map (·.s) = [[x]] then 0 else 20 := by
  have ho := Kq.err_okS he hw
  have hd := Kq.decode_enc ho
  have ha : Tn.alike s.p s.v = true := by
    cases e : Tn.alike s.p s.v
    · rw [Kp.err_shape e] at he; cases he
    · rfl
  have hm := ho.2.1
  refine ⟨by rw [hd], ?_⟩
  unfold Tt.loadE
  rw [hd, if_neg (by simp)]
  unfold Tt.rest
  simp only
  rw [params, ha]
  by_cases h : s.p.map (·.s) = [[x]]
  · have hl := congrArg List.length h
    simp at hl
    rw [if_neg (by simp [hl]), if_neg (by simp [h]), if_neg (by omega), if_pos h]
  · rw [if_neg h]
    split
    · rfl
    · first | rfl | rw [if_pos h]
theorem map_one {x : Int} {u : Ten} : ([u].map (·.s) = [[x]]) ↔ (u.s == [x]) = true := by simp
theorem map_head {x : Int} {l : List Ten} (h : l.length = 1) (h0 : 0 < l.length) : l.map (·.s) = [[x]] ↔ (l[0].s == [x]) = true := by
  match l, h with
  | [u], _ => exact map_one
theorem map_not {x : Int} {l : List Ten} (h : l.length ≠ 1) : l.map (·.s) ≠ [[x]] := fun e => h (by simpa using congrArg List.length e)
theorem small_of {s : Sav} (h : Lw.small s = true) (he : Kp.err s = 0) (hp : s.p.length ≤ 3000000000000) : s.tiny := by
  refine Lw.small_tiny h ?_ hp
  cases e : Tn.alike s.p s.v
  · rw [Kp.err_shape e] at he; cases he
  · rfl
end Ld
theorem dec_any {bs : List Int} {w w' : World} {e : Ending} (h : DecP bs w e w') : (∃ A1 n1 c1 A2 n2 c2 A3 n3 c3, e = .returned (.tuple #[.agg #[.slice A1 n1 c1, .slice A2 n2 c2, .slice A3 n3 c3], .int .i64 (Kr.decode bs).1])) ∧ Below w.heap.size w w' := by
  obtain ⟨h1, h2⟩ := h
  refine ⟨?_, h2⟩
  rcases h1 with ⟨_, rfl⟩ | ⟨h0, P, V, M, c1, c2, c3, rfl, _⟩
  · exact ⟨none, 0, 0, none, 0, 0, none, 0, 0, rfl⟩
  · exact ⟨_, _, _, _, _, _, _, _, _, by rw [h0]⟩
end Go.Proofs.YtkmhagjdafeebaaGreat
/- What was saved, come in as an argument, opened. -/
namespace Go.Proofs.YtkmhagjdafeebaaGreat
open Go.ChangeShapes Go.WideShapes Go.Deep Go.RowKit

theorem wf_in {n : Int} (h : (Lit.int .i64 n).wf = true) : Kq.inR n := wf_bd h

theorem ten_one : oneCellFields Tryz.prog (Tryz.prog.fieldsOf 26) = true := by kernel_rfl
theorem ten_cells : Tryz.prog.cellsOf 26 = (Tryz.prog.fieldsOf 26).size := by kernel_rfl
theorem ten_under : Tryz.prog.underlying 26 = some (.struct (Tryz.prog.fieldsOf 26)) := by kernel_rfl
theorem ten_two : (Tryz.prog.fieldsOf 26).size = 2 := by kernel_rfl
theorem ten_f0 : ((Tryz.prog.fieldsOf 26)[0]?).map (·.type) = some 23 := by kernel_rfl
theorem ten_f1 : ((Tryz.prog.fieldsOf 26)[1]?).map (·.type) = some 24 := by kernel_rfl
theorem int_one : Tryz.prog.cellsOf 3 = 1 := by kernel_rfl
theorem fix_one : Tryz.prog.cellsOf 37 = 1 := by kernel_rfl
theorem ten_bytes : Tryz.prog.bytesOf 26 = 48 := by kernel_rfl
theorem met_bytes : Tryz.prog.bytesOf 70 = 48 := by kernel_rfl

/-- Slices of tensors. -/
theorem tens_open {H : Type} {enc : TypeId × Value → H} {W : World} {base : Nat} {spare : Nat → Bool} {held : Bool} {fuel : Nat} {v : Value} {x : DataW H × List MemPlace}
    (h : DataW.trod enc Tryz.prog W base spare held fuel 27 [v] = some x) (hz : ∀ n ∈ x.1.weights Tryz.prog 27, n ≤ reachBytes) :
    ∃ A cap ts, v = .slice A ts.length cap ∧ ts.length ≤ 3000000000000 ∧ Tens W A ts ∧ ∀ t ∈ ts, ∀ z ∈ t.c, Kq.inR z := by
  rcases open_slice_fields Tryz.underlying27 ten_under ten_one ten_cells h with ⟨hcs, _⟩ | ⟨a, len, cap, m, D, Pl, hcs, _, hl, hm, hmm, hx, hi⟩
  · simp at hcs; subst hcs
    exact ⟨none, 0, [], rfl, by simp, fun j hj => absurd hj (by simp), by simp⟩
  · simp at hcs; subst hcs
    rw [ten_two] at hi
    have hlm : len ≤ m := by rw [hmm]; split <;> omega
    have hlen : len ≤ 3000000000000 := by
      have := hz ((((List.range len).map D).length + ((List.range (m - len)).map fun j => D (len + j)).length) * 48) (by rw [hx]; simp [DataW.weights, Tryz.underlying27, ten_bytes])
      simp at this
      unfold reachBytes at this
      omega
    obtain ⟨f0, e0, t0⟩ := Option.map_eq_some_iff.1 ten_f0
    obtain ⟨f1, e1, t1⟩ := Option.map_eq_some_iff.1 ten_f1
    have key : ∀ i, i < len → ∃ q : Ten × (Option Addr × Nat) × (Option Addr × Nat), W.cell? (a.add (i * 2)) = some (.slice q.2.1.1 q.1.s.length q.2.1.2) ∧ W.cell? (a.add (i * 2 + 1)) = some (.slice q.2.2.1 q.1.c.length q.2.2.2) ∧ TenR W q.2.1.1 q.2.2.1 q.1 ∧ q.1.s.length ≤ 9223372036854775807 ∧ q.1.c.length ≤ 9223372036854775807 ∧ ∀ z ∈ q.1.c, Kq.inR z := by
      intro i hil
      obtain ⟨ys, n, _, _, _, hf⟩ := hi i (by omega)
      obtain ⟨v0, y0, c0, _, r0⟩ := hf 0 f0 e0
      obtain ⟨v1, y1, c1, _, r1⟩ := hf 1 f1 e1
      rw [t0] at r0
      rw [t1] at r1
      obtain ⟨A0, k0, z0, rfl, b0, _, i0, w0⟩ := ints_open Tryz.underlying23 Tryz.underlying3 int_one r0
      obtain ⟨A1, k1, z1, rfl, b1, _, i1, w1⟩ := ints_open Tryz.underlying24 Tryz.underlying37 fix_one r1
      exact ⟨(⟨z0, z1⟩, (A0, k0), (A1, k1)), by simpa using c0, c1, ⟨i0, i1⟩, b0, b1, fun z hz => wf_in (w1 z hz)⟩
    obtain ⟨f, hf⟩ := @choose_lt (Ten × (Option Addr × Nat) × (Option Addr × Nat)) ⟨(⟨[], []⟩, (none, 0), (none, 0))⟩ _ _ key
    have hget : ∀ k (hk : k < ((List.range len).map fun i => (f i).1).length), ((List.range len).map fun i => (f i).1)[k] = (f k).1 := by intro k hk; simp
    refine ⟨some a, cap, (List.range len).map fun i => (f i).1, by simp, by simpa using hlen, ?_, ?_⟩
    · intro k hk
      have hk' : k < len := by simpa using hk
      obtain ⟨b, off, rfl⟩ := plain_row (w := W) (a := a) (by simpa using (hf 0 (by omega)).1)
      obtain ⟨c0, c1, hT, l0, l1, _⟩ := hf k hk'
      rw [add_plain'] at c0 c1
      rw [hget k hk]
      exact ⟨b, off, _, _, _, _, rfl, World.block_lt_of_cell? _ _ c0, c0, by rw [Nat.add_assoc]; exact c1, hT, l0, l1⟩
    · intro t ht
      simp only [List.mem_map, List.mem_range] at ht
      obtain ⟨i, hil, rfl⟩ := ht
      exact (hf i hil).2.2.2.2.2

theorem met_one : oneCellFields Tryz.prog (Tryz.prog.fieldsOf 70) = true := by kernel_rfl
theorem met_cells : Tryz.prog.cellsOf 70 = (Tryz.prog.fieldsOf 70).size := by kernel_rfl
theorem met_under : Tryz.prog.underlying 70 = some (.struct (Tryz.prog.fieldsOf 70)) := by kernel_rfl
theorem met_six : (Tryz.prog.fieldsOf 70).size = 6 := by kernel_rfl
theorem met_f0 : ((Tryz.prog.fieldsOf 70)[0]?).map (·.type) = some 3 := by kernel_rfl
theorem met_f1 : ((Tryz.prog.fieldsOf 70)[1]?).map (·.type) = some 3 := by kernel_rfl
theorem met_f2 : ((Tryz.prog.fieldsOf 70)[2]?).map (·.type) = some 3 := by kernel_rfl
theorem met_f3 : ((Tryz.prog.fieldsOf 70)[3]?).map (·.type) = some 3 := by kernel_rfl
theorem met_f4 : ((Tryz.prog.fieldsOf 70)[4]?).map (·.type) = some 37 := by kernel_rfl
theorem met_f5 : ((Tryz.prog.fieldsOf 70)[5]?).map (·.type) = some 37 := by kernel_rfl
theorem mets_open {H : Type} {enc : TypeId × Value → H} {W : World} {base : Nat} {spare : Nat → Bool} {held : Bool} {fuel : Nat} {v : Value} {x : DataW H × List MemPlace}
    (h : DataW.trod enc Tryz.prog W base spare held fuel 30 [v] = some x) (hz : ∀ n ∈ x.1.weights Tryz.prog 30, n ≤ reachBytes) :
    ∃ A cap ms, v = .slice A ms.length cap ∧ ms.length ≤ 3000000000000 ∧ Mets W A ms ∧ ∀ m ∈ ms, ∀ z ∈ m.l, Kq.inR z := by
  rcases open_slice_fields Tryz.underlying30 met_under met_one met_cells h with ⟨hcs, _⟩ | ⟨a, len, cap, m, D, Pl, hcs, _, hl, hm, hmm, hx, hi⟩
  · simp at hcs; subst hcs
    exact ⟨none, 0, [], rfl, by simp, fun j hj => absurd hj (by simp), by simp⟩
  · simp at hcs; subst hcs
    rw [met_six] at hi
    have hlm : len ≤ m := by rw [hmm]; split <;> omega
    have hlen : len ≤ 3000000000000 := by
      have := hz ((((List.range len).map D).length + ((List.range (m - len)).map fun j => D (len + j)).length) * 48) (by rw [hx]; simp [DataW.weights, Tryz.underlying30, met_bytes])
      simp at this
      unfold reachBytes at this
      omega
    obtain ⟨f0, e0, t0⟩ := Option.map_eq_some_iff.1 met_f0
    obtain ⟨f1, e1, t1⟩ := Option.map_eq_some_iff.1 met_f1
    obtain ⟨f2, e2, t2⟩ := Option.map_eq_some_iff.1 met_f2
    obtain ⟨f3, e3, t3⟩ := Option.map_eq_some_iff.1 met_f3
    obtain ⟨f4, e4, t4⟩ := Option.map_eq_some_iff.1 met_f4
    obtain ⟨f5, e5, t5⟩ := Option.map_eq_some_iff.1 met_f5
    have key : ∀ i, i < len → ∃ q : Met, W.cell? (a.add (i * 6)) = some (.int .i64 q.a) ∧ W.cell? (a.add (i * 6 + 1)) = some (.int .i64 q.b) ∧ W.cell? (a.add (i * 6 + 2)) = some (.int .i64 q.c) ∧ W.cell? (a.add (i * 6 + 3)) = some (.int .i64 q.d) ∧ W.cell? (a.add (i * 6 + 4)) = some (.int .i64 q.e) ∧ W.cell? (a.add (i * 6 + 5)) = some (.int .i64 q.f) ∧ ∀ z ∈ q.l, Kq.inR z := by
      intro i hil
      obtain ⟨ys, n, _, _, _, hf⟩ := hi i (by omega)
      obtain ⟨v0, y0, c0, _, r0⟩ := hf 0 f0 e0
      obtain ⟨v1, y1, c1, _, r1⟩ := hf 1 f1 e1
      obtain ⟨v2, y2, c2, _, r2⟩ := hf 2 f2 e2
      obtain ⟨v3, y3, c3, _, r3⟩ := hf 3 f3 e3
      obtain ⟨v4, y4, c4, _, r4⟩ := hf 4 f4 e4
      obtain ⟨v5, y5, c5, _, r5⟩ := hf 5 f5 e5
      rw [t0] at r0
      rw [t1] at r1
      rw [t2] at r2
      rw [t3] at r3
      rw [t4] at r4
      rw [t5] at r5
      obtain ⟨x0, q0, _, w0⟩ := DataW.trod_int Tryz.underlying3 r0
      obtain ⟨x1, q1, _, w1⟩ := DataW.trod_int Tryz.underlying3 r1
      obtain ⟨x2, q2, _, w2⟩ := DataW.trod_int Tryz.underlying3 r2
      obtain ⟨x3, q3, _, w3⟩ := DataW.trod_int Tryz.underlying3 r3
      obtain ⟨x4, q4, _, w4⟩ := DataW.trod_int Tryz.underlying37 r4
      obtain ⟨x5, q5, _, w5⟩ := DataW.trod_int Tryz.underlying37 r5
      simp at q0 q1 q2 q3 q4 q5
      subst q0 q1 q2 q3 q4 q5
      refine ⟨⟨x0, x1, x2, x3, x4, x5⟩, by simpa using c0, c1, c2, c3, c4, c5, fun z hz => ?_⟩
      simp [Met.l] at hz
      rcases hz with rfl | rfl | rfl | rfl | rfl | rfl
      · exact wf_in w0
      · exact wf_in w1
      · exact wf_in w2
      · exact wf_in w3
      · exact wf_in w4
      · exact wf_in w5
    obtain ⟨f, hf⟩ := @choose_lt Met ⟨⟨0, 0, 0, 0, 0, 0⟩⟩ _ _ key
    have hget : ∀ k (hk : k < ((List.range len).map f).length), ((List.range len).map f)[k] = f k := by intro k hk; simp
    refine ⟨some a, cap, (List.range len).map f, by simp, by simpa using hlen, ?_, ?_⟩
    · intro k hk
      have hk' : k < len := by simpa using hk
      obtain ⟨b, off, rfl⟩ := plain_row (w := W) (a := a) (by simpa using (hf 0 (by omega)).1)
      obtain ⟨c0, c1, c2, c3, c4, c5, _⟩ := hf k hk'
      rw [add_plain'] at c0 c1 c2 c3 c4 c5
      rw [hget k hk]
      refine ⟨b, off, rfl, World.block_lt_of_cell? _ _ c0, c0, ?_, ?_, ?_, ?_, ?_⟩
      all_goals (rw [Nat.add_assoc]; assumption)
    · intro t ht
      simp only [List.mem_map, List.mem_range] at ht
      obtain ⟨i, hil, rfl⟩ := ht
      exact (hf i hil).2.2.2.2.2.2

theorem sav_cells : Tryz.prog.cellsOf 32 = 3 := by kernel_rfl
theorem sav_under : Tryz.prog.underlying 32 = some (.struct (Tryz.prog.fieldsOf 32)) := by kernel_rfl
theorem sav_two : (Tryz.prog.fieldsOf 32).size = 2 := by kernel_rfl
theorem sav_f0 : ((Tryz.prog.fieldsOf 32)[0]?).map (fun f => (f.type, f.offset, Tryz.prog.cellsOf f.type)) = some (29, 0, 2) := by kernel_rfl
theorem sav_f1 : ((Tryz.prog.fieldsOf 32)[1]?).map (fun f => (f.type, f.offset, Tryz.prog.cellsOf f.type)) = some (30, 2, 1) := by kernel_rfl
theorem sav_types : (Tryz.prog.fieldsOf 32).toList.map (·.type) = [29, 30] := by kernel_rfl
theorem sta_under : Tryz.prog.underlying 29 = some (.struct (Tryz.prog.fieldsOf 29)) := by kernel_rfl
theorem sta_two : (Tryz.prog.fieldsOf 29).size = 2 := by kernel_rfl
theorem sta_f0 : ((Tryz.prog.fieldsOf 29)[0]?).map (fun f => (f.type, f.offset, Tryz.prog.cellsOf f.type)) = some (27, 0, 1) := by kernel_rfl
theorem sta_f1 : ((Tryz.prog.fieldsOf 29)[1]?).map (fun f => (f.type, f.offset, Tryz.prog.cellsOf f.type)) = some (27, 1, 1) := by kernel_rfl
theorem sta_types : (Tryz.prog.fieldsOf 29).toList.map (·.type) = [27, 27] := by kernel_rfl
theorem pair_of {α : Type} {l : List α} (h : l.length = 2) : ∃ a b, l = [a, b] := by
  match l, h with
  | [a, b], _ => exact ⟨a, b, rfl⟩
set_option maxRecDepth 100000 in
/-- What was saved. -/
theorem saved_open {H : Type} {enc : TypeId × Value → H} {W : World} {r : Reach} {b0 base : Nat} {spare : Nat → Bool} {held : Bool} {v : Value} {d : DataW H} {p : List MemPlace}
    (hv : Value.okWide Tryz.prog W r b0 32 v) (h : DataW.Trod enc Tryz.prog W base spare held 32 v d p) (hz : ∀ n ∈ d.weights Tryz.prog 32, n ≤ reachBytes) :
    ∃ P V M c1 c2 c3 s, v = .agg #[.slice P s.p.length c1, .slice V s.v.length c2, .slice M s.m.length c3] ∧ s.p.length ≤ 3000000000000 ∧ s.v.length ≤ 3000000000000 ∧ s.m.length ≤ 3000000000000 ∧ SavR W P V M s ∧ s.wide := by
  obtain ⟨cs, rfl, hsz⟩ := okWide_struct sav_under hv
  obtain ⟨l⟩ := cs
  match l, hsz.trans sav_cells with
  | [v0, v1, v2], _ =>
    obtain ⟨fuel, hf⟩ := h
    obtain ⟨ys, n, _, hx, _, hlen, hg⟩ := DataW.trod_struct sav_under hf
    rw [sav_two] at hlen
    obtain ⟨y0, y1, rfl⟩ := pair_of hlen
    simp only [Prod.mk.injEq, List.map_cons, List.map_nil] at hx
    obtain ⟨rfl, _⟩ := hx
    obtain ⟨f0, e0, t0⟩ := Option.map_eq_some_iff.1 sav_f0
    obtain ⟨f1, e1, t1⟩ := Option.map_eq_some_iff.1 sav_f1
    simp only [Prod.mk.injEq] at t0 t1
    obtain ⟨t00, t01, t02⟩ := t0
    obtain ⟨t10, t11, t12⟩ := t1
    have h0 := hg 0 f0 e0
    have h1 := hg 1 f1 e1
    rw [t02, t01, t00] at h0
    rw [t12, t11, t10] at h1
    simp [Value.cells] at h0 h1
    have hz0 : ∀ n ∈ y0.1.weights Tryz.prog 29, n ≤ reachBytes := fun n hn => hz n (by simp [DataW.weights, DataW.weightsEach, hn])
    have hz1 : ∀ n ∈ y1.1.weights Tryz.prog 30, n ≤ reachBytes := fun n hn => hz n (by simp [DataW.weights, DataW.weightsEach, hn])
    obtain ⟨M, c3, ms, rfl, hml, hM, hMw⟩ := mets_open h1 hz1
    obtain ⟨zs, n2, _, hx2, _, hlen2, hg2⟩ := DataW.trod_struct sta_under h0
    rw [sta_two] at hlen2
    obtain ⟨z0, z1, rfl⟩ := pair_of hlen2
    obtain ⟨g0, i0, u0⟩ := Option.map_eq_some_iff.1 sta_f0
    obtain ⟨g1, i1, u1⟩ := Option.map_eq_some_iff.1 sta_f1
    simp only [Prod.mk.injEq] at u0 u1
    obtain ⟨u00, u01, u02⟩ := u0
    obtain ⟨u10, u11, u12⟩ := u1
    have k0 := hg2 0 g0 i0
    have k1 := hg2 1 g1 i1
    rw [u02, u01, u00] at k0
    rw [u12, u11, u10] at k1
    simp at k0 k1
    rw [hx2] at hz0
    have hy0 : ∀ n ∈ z0.1.weights Tryz.prog 27, n ≤ reachBytes := fun n hn => hz0 n (by simp [DataW.weights, DataW.weightsEach, hn])
    have hy1 : ∀ n ∈ z1.1.weights Tryz.prog 27, n ≤ reachBytes := fun n hn => hz0 n (by simp [DataW.weights, DataW.weightsEach, hn])
    obtain ⟨P, c1, ps, rfl, hpl, hP, hPw⟩ := tens_open k0 hy0
    obtain ⟨V, c2, vs, rfl, hvl, hV, hVw⟩ := tens_open k1 hy1
    exact ⟨P, V, M, c1, c2, c3, ⟨ps, vs, ms⟩, rfl, hpl, hvl, hml, ⟨hP, hV, hM⟩, hPw, hVw, hMw⟩
end Go.Proofs.YtkmhagjdafeebaaGreat

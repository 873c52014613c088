/- Layer 27 (keep): what is written is read again, what is read was written, what is cut off is short: plain laws. -/
import Derived.Test.YtjgagbhbgehmpaaKeepD
namespace Go.Proofs.Ytjgagbhbgehmpaa

namespace Kq
open Fp Kr
def inR (z : Int) : Prop := -9223372036854775808 ≤ z ∧ z ≤ 9223372036854775807
theorem sx_mod {z : Int} (h : inR z) : sx (z % 18446744073709551616) = z := by
  unfold sx inR at *; rw [IntKind.wrap_i64]; omega
theorem sx_in (n : Int) : inR (sx n) := by unfold sx inR; rw [IntKind.wrap_i64]; omega
theorem sx_big (n : Int) : big (sx n) 8 = big n 8 := by
  rw [← big_wrap (sx n) 8 (by omega), ← big_wrap n 8 (by omega)]
  congr 1
  unfold sx; rw [IntKind.wrap_i64]; omega
theorem split {p y a b : List Int} (h : p ++ y = a ++ b) : (∃ c, c ≠ [] ∧ p ++ c = a) ∨ ∃ c, p = a ++ c ∧ c ++ y = b := by
  rcases List.append_eq_append_iff.1 h with ⟨c, h1, h2⟩ | ⟨c, h1, h2⟩
  · cases c with
    | nil => exact .inr ⟨[], by simpa using h1.symm, by simpa using h2⟩
    | cons x r => exact .inl ⟨x :: r, by simp, h1.symm⟩
  · exact .inr ⟨c, h1, h2.symm⟩
theorem get_big (n : Int) (s : Nat) (r : List Int) : get s (some (big n s ++ r)) = (n % 256 ^ s, some r) := by
  have hl := big_length n s
  rw [get_ok (by rw [List.length_append]; omega), List.take_append_of_le_length (by omega), List.take_of_length_le (by omega), num_big]
  rw [List.drop_append_of_le_length (by omega), List.drop_eq_nil_of_le (by omega)]; rfl
theorem get_pre {p y : List Int} {n : Int} {s : Nat} (h : p ++ y = big n s) (hy : y ≠ []) : get s (some p) = (0, none) := by
  refine get_short ?_
  have := congrArg List.length h
  rw [List.length_append, big_length] at this
  have : 0 < y.length := List.length_pos_iff.2 hy
  omega
theorem get_inv {s : Nat} {bs r : List Int} (hb : ∀ x ∈ bs, 0 ≤ x ∧ x ≤ 255) (h : (get s (some bs)).2 = some r) : bs = big (get s (some bs)).1 s ++ r ∧ 0 ≤ (get s (some bs)).1 ∧ (get s (some bs)).1 < 256 ^ s := by
  by_cases hl : bs.length < s
  · rw [get_short hl] at h; cases h
  · rw [get_ok hl] at h ⊢
    injection h with h
    have hl2 : (bs.take s).length = s := by rw [List.length_take]; omega
    have h1 := big_num (bs.take s) (fun x hx => hb x (List.mem_of_mem_take hx))
    have h2 := num_byte (bs.take s) (fun x hx => hb x (List.mem_of_mem_take hx))
    rw [hl2] at h1 h2
    refine ⟨?_, h2⟩
    show bs = big (num (bs.take s)) s ++ r
    rw [h1, ← h, List.take_append_drop]
theorem get_none_of {s : Nat} {st : Option (List Int)} (h : st = none) : (get s st).2 = none := by subst h; rfl

theorem words_snoc (a : List Int) (z : Int) : words (a ++ [z]) = words a ++ big z 8 := by simp [words]
theorem snoc_cases (l : List Int) : l = [] ∨ ∃ a z, l = a ++ [z] := by
  rcases List.eq_nil_or_concat l with h | ⟨a, z, h⟩
  · exact .inl h
  · exact .inr ⟨a, z, by simpa using h⟩
theorem nums_words2 (n : Nat) : ∀ zs r, zs.length = n → (nums n (some (words zs ++ r))).2 = some r := by
  induction n with
  | zero => intro zs r h; have : zs = [] := List.eq_nil_of_length_eq_zero h; subst this; rfl
  | succ n ih =>
    intro zs r h
    rcases snoc_cases zs with rfl | ⟨a, z, rfl⟩
    · simp at h
    · rw [words_snoc, List.append_assoc, nums, ih a _ (by simpa using h), get_big]
theorem nums_words (n : Nat) : ∀ zs r, zs.length = n → (∀ z ∈ zs, inR z) → nums n (some (words zs ++ r)) = (zs, some r) := by
  induction n with
  | zero => intro zs r h _; have : zs = [] := List.eq_nil_of_length_eq_zero h; subst this; rfl
  | succ n ih =>
    intro zs r h hr
    rcases snoc_cases zs with rfl | ⟨a, z, rfl⟩
    · simp at h
    · rw [words_snoc, List.append_assoc, nums, ih a _ (by simpa using h) (fun x hx => hr x (by simp [hx])), get_big]
      have := sx_mod (hr z (by simp))
      simp only [show (256 : Int) ^ 8 = 18446744073709551616 by decide]
      rw [this]
theorem nums_pre (n : Nat) : ∀ zs p y, zs.length = n → p ++ y = words zs → y ≠ [] → (nums n (some p)).2 = none := by
  induction n with
  | zero =>
    intro zs p y h hp hy
    have : zs = [] := List.eq_nil_of_length_eq_zero h
    subst this
    simp [words] at hp
    exact absurd hp.2 hy
  | succ n ih =>
    intro zs p y h hp hy
    rcases snoc_cases zs with rfl | ⟨a, z, rfl⟩
    · simp at h
    · rw [words_snoc] at hp
      rw [nums]
      rcases split hp with ⟨c, hc, h1⟩ | ⟨c, rfl, h2⟩
      · exact get_none_of (ih a p c (by simpa using h) h1 hc)
      · show (get 8 (nums n (some (words a ++ c))).2).2 = none
        rw [nums_words2 n a c (by simpa using h), get_pre h2 hy]
theorem nums_inv (n : Nat) : ∀ bs r, (∀ x ∈ bs, 0 ≤ x ∧ x ≤ 255) → (nums n (some bs)).2 = some r → bs = words (nums n (some bs)).1 ++ r ∧ ∀ z ∈ (nums n (some bs)).1, inR z := by
  induction n with
  | zero => intro bs r _ h; injection h with h; subst h; simp [nums, words]
  | succ n ih =>
    intro bs r hb h
    rw [nums] at h ⊢
    cases hs : (nums n (some bs)).2 with
    | none => rw [hs] at h; cases h
    | some q =>
      rw [hs] at h
      obtain ⟨h1, h2⟩ := ih bs q hb hs
      have hq : ∀ x ∈ q, 0 ≤ x ∧ x ≤ 255 := fun x hx => hb x (by rw [h1]; exact List.mem_append_right _ hx)
      obtain ⟨h3, h4, h5⟩ := get_inv hq h
      refine ⟨?_, fun z hz => ?_⟩
      · show bs = words ((nums n (some bs)).1 ++ [sx (get 8 (some q)).1]) ++ r
        rw [words_snoc, sx_big, List.append_assoc, ← h3, ← h1]
      · rcases List.mem_append.1 hz with hz | hz
        · exact h2 z hz
        · rw [List.mem_singleton] at hz; subst hz; exact sx_in _

theorem sides_flat : ∀ (zs r : List Int), (∀ z ∈ zs, 0 ≤ z ∧ z ≤ 65535) → sides zs.length (zs.flatMap (big · 2) ++ r) = some (zs, r)
  | [], r, _ => rfl
  | z :: zs, r, h => by
    have hl := big_length z 2
    have hz := h z (by simp)
    rw [List.flatMap_cons, List.length_cons, sides_ok (by simp [hl]), List.append_assoc]
    have e1 : (big z 2 ++ (zs.flatMap (big · 2) ++ r)).drop 2 = zs.flatMap (big · 2) ++ r := by
      rw [List.drop_append_of_le_length (by omega), List.drop_eq_nil_of_le (by omega)]; rfl
    have e2 : (big z 2 ++ (zs.flatMap (big · 2) ++ r)).take 2 = big z 2 := by
      rw [List.take_append_of_le_length (by omega), List.take_of_length_le (by omega)]
    rw [e1, e2, sides_flat zs r (fun x hx => h x (by simp [hx])), num_big]
    simp; omega
theorem sides_pre : ∀ (zs p y : List Int), p ++ y = zs.flatMap (big · 2) → y ≠ [] → sides zs.length p = none
  | [], p, y, h, hy => by simp at h; exact absurd h.2 hy
  | z :: zs, p, y, h, hy => by
    have hl := big_length z 2
    rw [List.flatMap_cons] at h
    rcases split h with ⟨c, hc, h1⟩ | ⟨c, rfl, h2⟩
    · refine sides_short ?_
      have := congrArg List.length h1
      have : 0 < c.length := List.length_pos_iff.2 hc
      simp [hl] at *; omega
    · rw [List.length_cons, sides_ok (by simp [hl])]
      have e1 : (big z 2 ++ c).drop 2 = c := by rw [List.drop_append_of_le_length (by omega), List.drop_eq_nil_of_le (by omega)]; rfl
      rw [e1, sides_pre zs c y h2 hy]; rfl
theorem sides_inv : ∀ (n : Nat) (bs : List Int) (q : List Int × List Int), (∀ x ∈ bs, 0 ≤ x ∧ x ≤ 255) → sides n bs = some q → bs = q.1.flatMap (big · 2) ++ q.2 ∧ (∀ z ∈ q.1, 0 ≤ z ∧ z ≤ 65535) ∧ q.1.length = n
  | 0, bs, q, _, h => by simp [sides] at h; subst h; simp
  | n + 1, bs, q, hb, h => by
    by_cases hl : bs.length < 2
    · rw [sides_short hl] at h; cases h
    · rw [sides_ok hl] at h
      obtain ⟨q2, h2, rfl⟩ := Option.map_eq_some_iff.1 h
      obtain ⟨i1, i2, i3⟩ := sides_inv n _ q2 (fun x hx => hb x (List.mem_of_mem_drop hx)) h2
      have hl2 : (bs.take 2).length = 2 := by rw [List.length_take]; omega
      have h3 := big_num (bs.take 2) (fun x hx => hb x (List.mem_of_mem_take hx))
      rw [hl2] at h3
      have h4 := two_bytes hb hl
      refine ⟨?_, ?_, by simp [i3]⟩
      · simp only [List.flatMap_cons, h3, List.append_assoc]; rw [← i1, List.take_append_drop]
      · intro z hz
        rcases List.mem_cons.1 hz with rfl | hz
        · exact h4
        · exact i2 z hz
theorem shapeR_shape (zs r : List Int) (hl : zs.length ≤ 255) (h : ∀ z ∈ zs, 0 ≤ z ∧ z ≤ 65535) : shapeR (some (Fp.shape zs ++ r)) = (zs, some r) := by
  rw [shapeR_F, Fp.shape, List.append_assoc, get_big]
  have e : ((zs.length : Int) % 256 ^ 1).toNat = zs.length := by simp; omega
  simp only [shapeF]
  rw [e, sides_flat zs r h]
  rfl
theorem shapeR_pre {zs p y : List Int} (hl : zs.length ≤ 255) (h : p ++ y = Fp.shape zs) (hy : y ≠ []) : (shapeR (some p)).2 = none := by
  rw [shapeR_F]
  rcases split h with ⟨c, hc, h1⟩ | ⟨c, rfl, h2⟩
  · rw [get_pre h1 hc]; rfl
  · rw [get_big]
    have e : ((zs.length : Int) % 256 ^ 1).toNat = zs.length := by simp; omega
    simp only [shapeF]
    rw [e, sides_pre zs c y h2 hy]
theorem shapeR_inv {bs r : List Int} (hb : ∀ x ∈ bs, 0 ≤ x ∧ x ≤ 255) (h : (shapeR (some bs)).2 = some r) : bs = Fp.shape (shapeR (some bs)).1 ++ r := by
  rw [shapeR_F] at h ⊢
  cases hg : (get 1 (some bs)).2 with
  | none => rw [hg] at h; cases h
  | some q =>
    obtain ⟨h1, h2, h3⟩ := get_inv hb hg
    have hq : ∀ x ∈ q, 0 ≤ x ∧ x ≤ 255 := fun x hx => hb x (by rw [h1]; exact List.mem_append_right _ hx)
    rw [hg] at h
    simp only [shapeF] at h ⊢
    cases hs : sides (get 1 (some bs)).1.toNat q with
    | none => rw [hs] at h; cases h
    | some w =>
      rw [hs] at h
      injection h with h
      obtain ⟨i1, _, i3⟩ := sides_inv _ q w hq hs
      show bs = Fp.shape ([] ++ w.1) ++ r
      rw [List.nil_append, Fp.shape, i3, ← h, List.append_assoc, ← i1, Int.toNat_of_nonneg h2, ← h1]

/-- A tensor's cells are numbers of the machine. -/
def okT (t : Ten) : Prop := Tn.right t = true ∧ ∀ z ∈ t.c, inR z
theorem right_prod {t : Ten} (h : Tn.right t = true) : Sh.right t.s = true ∧ (Safe.prod t.s).toNat = t.c.length := by
  simp [Tn.right] at h; exact ⟨h.1, by omega⟩
theorem right_sides {t : Ten} (h : Tn.right t = true) : t.s.length ≤ 255 ∧ ∀ z ∈ t.s, 0 ≤ z ∧ z ≤ 65535 := by
  obtain ⟨_, h1, _, h2, _⟩ := Sh.right_mul (right_prod h).1
  exact ⟨by omega, fun z hz => by have := h2 z hz; omega⟩
theorem cells_words {t : Ten} (h : okT t) (r : List Int) : Kr.cells t.s (some (words t.c ++ r)) = (0, t.c, some r) := by
  obtain ⟨h1, h2⟩ := right_prod h.1
  have := nums_words t.c.length t.c r rfl h.2
  unfold Kr.cells
  rw [h1, h2, this]; rfl
theorem cells_pre {t : Ten} {p y : List Int} (h : Tn.right t = true) (hp : p ++ y = words t.c) (hy : y ≠ []) : Kr.cells t.s (some p) = (16, [], none) := by
  obtain ⟨h1, h2⟩ := right_prod h
  exact Kr.cells_short h1 (by rw [h2]; exact nums_pre _ t.c p y rfl hp hy)
theorem cells_inv {s bs : List Int} (hb : ∀ x ∈ bs, 0 ≤ x ∧ x ≤ 255) (h : (Kr.cells s (some bs)).1 = 0) : ∃ r, (Kr.cells s (some bs)).2.2 = some r ∧ bs = words (Kr.cells s (some bs)).2.1 ++ r ∧ okT ⟨s, (Kr.cells s (some bs)).2.1⟩ := by
  obtain ⟨hr, hl⟩ := cells_right h
  unfold Kr.cells at h ⊢
  rw [hr] at h ⊢
  simp only [Bool.true_eq_false, if_false] at h ⊢
  cases hn : (nums (Safe.prod s).toNat (some bs)).2 with
  | none => rw [hn] at h; simp at h
  | some r =>
    obtain ⟨h1, h2⟩ := nums_inv _ bs r hb hn
    refine ⟨r, by simp, by simpa using h1, ?_, by simpa using h2⟩
    obtain ⟨_, _, _, _, hp, _⟩ := Sh.right_mul hr
    simp [Tn.right, hr, nums_len]; omega

theorem readP_tens : ∀ (ts acc : List Ten) (r : List Int), (∀ t ∈ ts, okT t) → readP ts.length acc (some (Kp.tens ts ++ r)) = (0, acc ++ ts, some r)
  | [], acc, r, _ => by simp [readP, Kp.tens]
  | t :: ts, acc, r, h => by
    have ht := h t (by simp)
    have e : Kp.tens (t :: ts) ++ r = Fp.shape t.s ++ (words t.c ++ (Kp.tens ts ++ r)) := by simp [Kp.tens]
    have hs := shapeR_shape t.s (words t.c ++ (Kp.tens ts ++ r)) (right_sides ht.1).1 (right_sides ht.1).2
    have hc := cells_words ht (Kp.tens ts ++ r)
    rw [e, List.length_cons, readP_ok hs (by simp) (by rw [hc]), hc]
    rw [readP_tens ts _ r (fun u hu => h u (by simp [hu]))]
    simp
theorem readP_pre : ∀ (ts acc : List Ten) (p y : List Int), (∀ t ∈ ts, okT t) → p ++ y = Kp.tens ts → y ≠ [] → readP ts.length acc (some p) = (16, [], none)
  | [], acc, p, y, _, hp, hy => by simp [Kp.tens] at hp; exact absurd hp.2 hy
  | t :: ts, acc, p, y, h, hp, hy => by
    have ht := h t (by simp)
    have e : Kp.tens (t :: ts) = Fp.shape t.s ++ (words t.c ++ Kp.tens ts) := by simp [Kp.tens]
    rw [e] at hp
    rw [List.length_cons]
    rcases split hp with ⟨c, hc, h1⟩ | ⟨c, rfl, h2⟩
    · exact readP_short (shapeR_pre (right_sides ht.1).1 h1 hc)
    · have hs := shapeR_shape t.s c (right_sides ht.1).1 (right_sides ht.1).2
      rcases split h2 with ⟨d, hd, h3⟩ | ⟨d, rfl, h4⟩
      · have hcp := cells_pre ht.1 h3 hd
        rw [readP_bad hs (by simp) (by rw [hcp]; simp), hcp]
      · have hcw := cells_words ht d
        rw [readP_ok hs (by simp) (by rw [hcw]), hcw]
        exact readP_pre ts _ d y (fun u hu => h u (by simp [hu])) h4 hy
theorem readP_inv : ∀ (n : Nat) (acc : List Ten) (bs : List Int), (∀ x ∈ bs, 0 ≤ x ∧ x ≤ 255) → (readP n acc (some bs)).1 = 0 → ∃ ts r, readP n acc (some bs) = (0, acc ++ ts, some r) ∧ bs = Kp.tens ts ++ r ∧ ts.length = n ∧ ∀ t ∈ ts, okT t
  | 0, acc, bs, _, _ => ⟨[], bs, by simp [readP], by simp [Kp.tens], rfl, by simp⟩
  | n + 1, acc, bs, hb, h => by
    cases hs : (shapeR (some bs)).2 with
    | none => rw [readP_short hs] at h; simp at h
    | some q =>
      have h1 := shapeR_inv hb hs
      have hq : ∀ x ∈ q, 0 ≤ x ∧ x ≤ 255 := fun x hx => hb x (by rw [h1]; exact List.mem_append_right _ hx)
      have hsr : shapeR (some bs) = ((shapeR (some bs)).1, some q) := by rw [← hs]
      generalize (shapeR (some bs)).1 = f at h1 hsr
      by_cases hc : (Kr.cells f (some q)).1 = 0
      · rw [readP_ok hsr (by simp) hc] at h ⊢
        obtain ⟨r, c1, c2, c3⟩ := cells_inv hq hc
        rw [c1] at h ⊢
        have hr : ∀ x ∈ r, 0 ≤ x ∧ x ≤ 255 := fun x hx => hq x (by rw [c2]; exact List.mem_append_right _ hx)
        generalize (Kr.cells f (some q)).2.1 = cl at *
        obtain ⟨ts, r2, e1, e2, e3, e4⟩ := readP_inv n _ r hr h
        refine ⟨⟨f, cl⟩ :: ts, r2, by rw [e1]; simp, ?_, by simp [e3], ?_⟩
        · rw [h1, c2, e2]; simp [Kp.tens]
        · intro t ht
          rcases List.mem_cons.1 ht with rfl | ht
          · exact c3
          · exact e4 t ht
      · rw [readP_bad hsr (by simp) hc] at h; exact absurd h hc

theorem readV_cells : ∀ (ts acc : List Ten) (r : List Int), (∀ t ∈ ts, okT t) → readV (ts.map (·.s)) acc (some (Kp.cells ts ++ r)) = (0, acc ++ ts, some r)
  | [], acc, r, _ => by simp [readV, Kp.cells]
  | t :: ts, acc, r, h => by
    have ht := h t (by simp)
    have e : Kp.cells (t :: ts) ++ r = words t.c ++ (Kp.cells ts ++ r) := by simp [Kp.cells]
    have hc := cells_words ht (Kp.cells ts ++ r)
    rw [e, List.map_cons, readV_ok (by rw [hc]), hc]
    rw [readV_cells ts _ r (fun u hu => h u (by simp [hu]))]
    simp
theorem readV_pre : ∀ (ts acc : List Ten) (p y : List Int), (∀ t ∈ ts, okT t) → p ++ y = Kp.cells ts → y ≠ [] → readV (ts.map (·.s)) acc (some p) = (16, [], none)
  | [], acc, p, y, _, hp, hy => by simp [Kp.cells] at hp; exact absurd hp.2 hy
  | t :: ts, acc, p, y, h, hp, hy => by
    have ht := h t (by simp)
    have e : Kp.cells (t :: ts) = words t.c ++ Kp.cells ts := by simp [Kp.cells]
    rw [e] at hp
    rw [List.map_cons]
    rcases split hp with ⟨c, hc, h1⟩ | ⟨c, rfl, h2⟩
    · have hcp := cells_pre ht.1 h1 hc
      rw [readV_bad (by rw [hcp]; simp), hcp]
    · have hcw := cells_words ht c
      rw [readV_ok (by rw [hcw]), hcw]
      exact readV_pre ts _ c y (fun u hu => h u (by simp [hu])) h2 hy
theorem readV_inv : ∀ (fs : List (List Int)) (acc : List Ten) (bs : List Int), (∀ x ∈ bs, 0 ≤ x ∧ x ≤ 255) → (readV fs acc (some bs)).1 = 0 → ∃ ts r, readV fs acc (some bs) = (0, acc ++ ts, some r) ∧ bs = Kp.cells ts ++ r ∧ ts.map (·.s) = fs ∧ ∀ t ∈ ts, okT t
  | [], acc, bs, _, _ => ⟨[], bs, by simp [readV], by simp [Kp.cells], rfl, by simp⟩
  | f :: fs, acc, bs, hb, h => by
    by_cases hc : (Kr.cells f (some bs)).1 = 0
    · rw [readV_ok hc] at h ⊢
      obtain ⟨r, c1, c2, c3⟩ := cells_inv hb hc
      rw [c1] at h ⊢
      have hr : ∀ x ∈ r, 0 ≤ x ∧ x ≤ 255 := fun x hx => hb x (by rw [c2]; exact List.mem_append_right _ hx)
      generalize (Kr.cells f (some bs)).2.1 = cl at *
      obtain ⟨ts, r2, e1, e2, e3, e4⟩ := readV_inv fs _ r hr h
      refine ⟨⟨f, cl⟩ :: ts, r2, by rw [e1]; simp, ?_, by simp [e3], ?_⟩
      · rw [c2, e2]; simp [Kp.cells]
      · intro t ht
        rcases List.mem_cons.1 ht with rfl | ht
        · exact c3
        · exact e4 t ht
    · rw [readV_bad hc] at h; exact absurd h hc
end Kq
end Go.Proofs.Ytjgagbhbgehmpaa

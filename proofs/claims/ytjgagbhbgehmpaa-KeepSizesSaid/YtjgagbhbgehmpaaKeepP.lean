/- Layer 27 (keep): the bytes of what is saved: plain laws. -/
import Derived.Test.YtjgagbhbgehmpaaFileP
import Derived.Test.YtjgagbhbgehmpaaTrainS
namespace Go.Proofs.Ytjgagbhbgehmpaa
namespace Kp
def tens (ts : List Ten) : List Int := ts.flatMap fun t => Fp.shape t.s ++ Fp.words t.c
def cells (ts : List Ten) : List Int := ts.flatMap fun t => Fp.words t.c
def mets (ms : List Met) : List Int := ms.flatMap fun m => Fp.words m.l
def head (s : Sav) : List Int := Fp.big 1096042579 4 ++ Fp.big s.p.length 2
def body (s : Sav) : List Int := head s ++ tens s.p ++ cells s.v ++ Fp.big s.m.length 2 ++ mets s.m
def enc (s : Sav) : List Int := body s ++ Fp.big (Fp.sum (body s)) 4
def err (s : Sav) : Int := if Tn.alike s.p s.v = false then 20 else if 512 < s.p.length ∨ 1024 < s.m.length then 12 else 0
theorem err_shape {s : Sav} (h : Tn.alike s.p s.v = false) : err s = 20 := by simp [err, h]
theorem err_many {s : Sav} (h : Tn.alike s.p s.v = true) (hm : 512 < s.p.length ∨ 1024 < s.m.length) : err s = 12 := by simp [err, h, hm]
theorem err_ok {s : Sav} (h : Tn.alike s.p s.v = true) (hp : s.p.length ≤ 512) (hm : s.m.length ≤ 1024) : err s = 0 := by simp [err, h]; omega
theorem take_flat {α : Type} (f : α → List Int) (l : List α) (k : Nat) (h : k < l.length) : (l.take (k + 1)).flatMap f = (l.take k).flatMap f ++ f l[k] := by
  rw [List.take_succ_eq_append_getElem h, List.flatMap_append]; simp
theorem tens_take (l : List Ten) (k : Nat) (h : k < l.length) : tens (l.take (k + 1)) = tens (l.take k) ++ Fp.shape l[k].s ++ Fp.words l[k].c := by
  unfold tens; rw [take_flat _ _ _ h, List.append_assoc]
theorem cells_take (l : List Ten) (k : Nat) (h : k < l.length) : cells (l.take (k + 1)) = cells (l.take k) ++ Fp.words l[k].c := take_flat _ _ _ h
theorem words_append (a b : List Int) : Fp.words (a ++ b) = Fp.words a ++ Fp.words b := by simp [Fp.words]
theorem mets_take (l : List Met) (k : Nat) (h : k < l.length) : mets (l.take (k + 1)) = mets (l.take k) ++ Fp.words [l[k].a, l[k].b, l[k].c, l[k].d] ++ Fp.words [l[k].e, l[k].f] := by
  unfold mets; rw [take_flat _ _ _ h, List.append_assoc, ← words_append]; rfl
theorem flat_le {α : Type} (f : α → List Int) (l : List α) (n : Nat) (h : ∀ x ∈ l, (f x).length ≤ n) : (l.flatMap f).length ≤ l.length * n := by
  induction l with
  | nil => simp
  | cons x r ih =>
    have h1 := h x (by simp)
    have h2 := ih fun y hy => h y (by simp [hy])
    simp only [List.flatMap_cons, List.length_append, List.length_cons, Nat.succ_mul]
    omega
theorem tens_len {l : List Ten} (h : l.all Tn.right = true) : (tens l).length ≤ l.length * 524297 := flat_le _ _ _ fun t ht => by
  have := Tn.right_len (List.all_eq_true.1 h t ht)
  rw [List.length_append, Fp.shape_length, Fp.words_length]
  omega
theorem cells_len {l : List Ten} (h : l.all Tn.right = true) : (cells l).length ≤ l.length * 524288 := flat_le _ _ _ fun t ht => by
  have := Tn.right_len (List.all_eq_true.1 h t ht)
  rw [Fp.words_length]
  omega
theorem mets_len (l : List Met) : (mets l).length = 48 * l.length := by
  induction l with
  | nil => rfl
  | cons m r ih => simp only [mets, List.flatMap_cons, List.length_append, List.length_cons] at ih ⊢; rw [ih, Fp.words_length]; simp [Met.l]; omega
theorem all_take {α : Type} {p : α → Bool} {l : List α} (h : l.all p = true) (k : Nat) : (l.take k).all p = true := by
  rw [List.all_eq_true] at h ⊢
  exact fun x hx => h x (List.mem_of_mem_take hx)
theorem alike_all {a b : List Ten} (h : Tn.alike a b = true) : a.length = b.length ∧ a.all Tn.right = true ∧ b.all Tn.right = true ∧ a.map (·.s) = b.map (·.s) := by
  simp only [Tn.alike, Bool.and_eq_true, decide_eq_true_eq, beq_iff_eq] at h
  exact ⟨h.1.1.1, h.1.1.2, h.1.2, h.2⟩
theorem head_len (s : Sav) : (head s).length = 6 := by simp [head, Fp.big_length]
theorem bytes_flat {α : Type} (f : α → List Int) (l : List α) (h : ∀ x ∈ l, ∀ y ∈ f x, 0 ≤ y ∧ y ≤ 255) : ∀ y ∈ l.flatMap f, 0 ≤ y ∧ y ≤ 255 := fun y hy => by
  obtain ⟨x, hx, hy⟩ := List.mem_flatMap.1 hy
  exact h x hx y hy
theorem words_byte (zs : List Int) : ∀ y ∈ Fp.words zs, 0 ≤ y ∧ y ≤ 255 := bytes_flat _ _ fun x _ => Fp.big_byte x 8
theorem shape_byte (zs : List Int) : ∀ y ∈ Fp.shape zs, 0 ≤ y ∧ y ≤ 255 := fun y hy => by
  rcases List.mem_append.1 hy with h | h
  · exact Fp.big_byte _ _ y h
  · exact bytes_flat _ _ (fun x _ => Fp.big_byte x 2) y h
theorem body_byte (s : Sav) : ∀ y ∈ body s, 0 ≤ y ∧ y ≤ 255 := fun y hy => by
  simp only [body, head, List.mem_append] at hy
  rcases hy with (((h | h) | h) | h) | h
  · rcases h with h | h <;> exact Fp.big_byte _ _ y h
  · refine bytes_flat _ _ (fun t _ y hy => ?_) y h
    rcases List.mem_append.1 hy with h | h
    · exact shape_byte _ y h
    · exact words_byte _ y h
  · exact bytes_flat _ _ (fun t _ => words_byte _) y h
  · exact Fp.big_byte _ _ y h
  · exact bytes_flat _ _ (fun t _ => words_byte _) y h
end Kp
end Go.Proofs.Ytjgagbhbgehmpaa

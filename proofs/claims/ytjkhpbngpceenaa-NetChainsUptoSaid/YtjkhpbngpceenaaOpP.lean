/- The plain law of layer 10: which ops are right, and what shape they answer with. -/
import Derived.Test.YtjkhpbngpceenaaShape
namespace Go.Proofs.Ytjkhpbngpceenaa
/-- What a node does. -/
structure OpD where
  kind : Int
  k : Int
  width : Int
  step : Int
  side : Int
  frm : Int
  to : Int
  s : List Int
deriving DecidableEq
namespace Od
def used (o : OpD) : OpD :=
  if o.kind = 2 ∨ o.kind = 5 then ⟨o.kind, o.k, 0, 0, 0, 0, 0, []⟩
  else if o.kind = 10 then ⟨o.kind, 0, 0, o.step, 0, 0, 0, []⟩
  else if o.kind = 11 ∨ o.kind = 12 then ⟨o.kind, 0, o.width, o.step, 0, 0, 0, []⟩
  else if o.kind = 13 then ⟨o.kind, 0, 0, 0, o.side, 0, 0, []⟩
  else if o.kind = 14 then ⟨o.kind, 0, 0, 0, o.side, o.frm, o.to, []⟩
  else if o.kind = 15 then ⟨o.kind, 0, 0, 0, 0, 0, 0, o.s⟩
  else ⟨o.kind, 0, 0, 0, 0, 0, 0, []⟩
def right (o : OpD) : Bool := decide (1 ≤ o.kind ∧ o.kind ≤ 15) && decide (o = used o)
/-- As the document has it. -/
def refRight (o : OpD) : Bool :=
  if o.kind < 1 ∨ 15 < o.kind then false
  else if o.k ≠ 0 ∧ o.kind ≠ 2 ∧ o.kind ≠ 5 then false
  else if o.width ≠ 0 ∧ o.kind ≠ 11 ∧ o.kind ≠ 12 then false
  else if o.step ≠ 0 ∧ (o.kind < 10 ∨ 12 < o.kind) then false
  else if o.side ≠ 0 ∧ o.kind ≠ 13 ∧ o.kind ≠ 14 then false
  else if (o.frm ≠ 0 ∨ o.to ≠ 0) ∧ o.kind ≠ 14 then false
  else decide (o.s = [] ∨ o.kind = 15)
theorem ref_right (o : OpD) : refRight o = right o := by
  obtain ⟨kind, k, width, step, side, frm, to, s⟩ := o
  rw [Bool.eq_iff_iff]
  unfold refRight right used
  simp only [Bool.and_eq_true, decide_eq_true_eq]
  by_cases h1 : 1 ≤ kind ∧ kind ≤ 15
  · have hk : kind = 1 ∨ kind = 2 ∨ kind = 3 ∨ kind = 4 ∨ kind = 5 ∨ kind = 6 ∨ kind = 7 ∨ kind = 8 ∨ kind = 9 ∨ kind = 10 ∨ kind = 11 ∨ kind = 12 ∨ kind = 13 ∨ kind = 14 ∨ kind = 15 := by omega
    rcases hk with rfl | rfl | rfl | rfl | rfl | rfl | rfl | rfl | rfl | rfl | rfl | rfl | rfl | rfl | rfl <;> simp <;> grind
  · have : kind < 1 ∨ 15 < kind := by omega
    simp [this]
    omega
def ptIns (k : Int) : Int := if 1 ≤ k ∧ k ≤ 5 then 1 else if k = 6 ∨ k = 7 then 2 else 0
def least (o : OpD) : Int := if right o then (if o.kind ≤ 7 then ptIns o.kind else 1) else 0
def most (o : OpD) : Int := if right o then (if o.kind ≤ 7 then ptIns o.kind else if o.kind = 13 then 8 else 1) else 0
def params (o : OpD) : Int := if right o then (if o.kind = 8 then 2 else if o.kind = 9 ∨ o.kind = 10 then 1 else 0) else 0
def counts (o : OpD) (p x : Int) : Int := if right o then (if x < least o ∨ most o < x ∨ p ≠ params o then 20 else 0) else 21
theorem right_kind {o : OpD} (h : right o = true) : 1 ≤ o.kind ∧ o.kind ≤ 15 := by simp [right] at h; exact h.1
theorem least_pos {o : OpD} (h : right o = true) : 1 ≤ least o := by
  have := right_kind h
  unfold least ptIns
  rw [if_pos h]
  split
  · split
    · omega
    · split <;> omega
  · omega
theorem most_le {o : OpD} (h : right o = true) : most o ≤ 8 := by
  unfold most ptIns
  rw [if_pos h]
  split
  · split
    · omega
    · split <;> omega
  · split <;> omega

def window (side width step : Int) : Int × Int := if Sh.side side ∧ Sh.side width ∧ Sh.side step ∧ width ≤ side then (1 + (side - width).tdiv step, 0) else (0, 11)
def inR (side : Int) (s : List Int) : Bool := decide (0 ≤ side ∧ side < s.length)
def at_ (s : List Int) (i : Int) : Int := s.getD i.toNat 0
def pool (x : List Int) (width step : Int) : List Int × Int :=
  if Sh.right x then (if (window (x.getD (x.length - 1) 0) width step).2 = 0 then (x.set (x.length - 1) (window (x.getD (x.length - 1) 0) width step).1, 0) else ([], 11)) else ([], 20)
def wn (w x : List Int) (step : Int) (i : Nat) : Int × Int := window (x.getD (i + 1) 0) (w.getD (i + 2) 0) step
def outs (w x : List Int) (step : Int) (k : Nat) : List Int := w.getD 0 0 :: (List.range k).map fun i => (wn w x step i).1
def conv (w x : List Int) (step : Int) : List Int × Int :=
  if Sh.right w && Sh.right x && decide (2 ≤ x.length ∧ x.length ≤ 3 ∧ w.length = x.length + 1 ∧ w.getD 1 0 = x.getD 0 0) then
    (if (List.range (x.length - 1)).all (fun i => decide ((wn w x step i).2 = 0)) then
      (if Sh.right (outs w x step (x.length - 1)) then (outs w x step (x.length - 1), 0) else ([], 20)) else ([], 11)) else ([], 20)
def joinOk (s t : List Int) (side : Int) : Bool := (List.range s.length).all fun i => decide ((i : Int) = side) || decide (s.getD i 0 = t.getD i 0)
def joinL (s t : List Int) (side : Int) : List Int := s.set side.toNat (at_ s side + at_ t side)
def join (s t : List Int) (side : Int) : List Int × Int :=
  if Sh.right s && Sh.right t && decide (s.length = t.length) then
    (if inR side s then (if joinOk s t side && Sh.right (joinL s t side) then (joinL s t side, 0) else ([], 20)) else ([], 11)) else ([], 20)
def joinAll (side : Int) : List Int → List (List Int) → List Int × Int
  | s, [] => (s, 0)
  | s, t :: r => if (join s t side).2 = 0 then joinAll side (join s t side).1 r else ([], (join s t side).2)
def joined (side : Int) (l : List (List Int)) : List Int × Int :=
  if l.length = 1 ∧ inR side (l.getD 0 []) = false then ([], 11) else joinAll side (l.getD 0 []) (l.drop 1)
def cut (s : List Int) (side frm to : Int) : List Int × Int :=
  if Sh.right s then (if inR side s && decide (0 ≤ frm ∧ to ≤ at_ s side ∧ frm < to) then (s.set side.toNat (to - frm), 0) else ([], 11)) else ([], 20)
def same (l : List (List Int)) : List Int × Int := if l.all (fun s => decide (s = l.getD 0 [])) then (l.getD 0 [], 0) else ([], 20)
def dense (w b x : List Int) : List Int × Int :=
  if w.length = 2 ∧ b.length = 1 ∧ b.getD 0 0 = w.getD 0 0 ∧ Sh.right x = true ∧ Safe.prod x = w.getD 1 0 then ([w.getD 0 0], 0) else ([], 20)
def turned (x s : List Int) : List Int × Int := if Sh.right x && Sh.right s && decide (Safe.prod s = Safe.prod x) then (s, 0) else ([], 20)
/-- By the kind, of right shapes, as many as there should be. -/
def byKind (o : OpD) (p x : List (List Int)) : List Int × Int :=
  if o.kind = 8 then dense (p.getD 0 []) (p.getD 1 []) (x.getD 0 [])
  else if o.kind = 9 then same [p.getD 0 [], x.getD 0 []]
  else if o.kind = 10 then conv (p.getD 0 []) (x.getD 0 []) o.step
  else if o.kind = 11 ∨ o.kind = 12 then pool (x.getD 0 []) o.width o.step
  else if o.kind = 13 then joined o.side x
  else if o.kind = 14 then cut (x.getD 0 []) o.side o.frm o.to
  else if o.kind = 15 then turned (x.getD 0 []) o.s
  else same x
def shape (o : OpD) (p x : List (List Int)) : List Int × Int :=
  if counts o p.length x.length ≠ 0 then ([], counts o p.length x.length)
  else if p.all Sh.right && x.all Sh.right then byKind o p x else ([], 20)

theorem window_ok {side width step : Int} (h : (window side width step).2 = 0) : 1 ≤ (window side width step).1 ∧ (window side width step).1 ≤ side := by
  unfold window at h ⊢
  split at h
  · rename_i hc
    rw [if_pos hc]
    simp only [Sh.side_iff] at hc
    have h1 : 0 ≤ (side - width).tdiv step := Int.tdiv_nonneg (by omega) (by omega)
    have h2 : (side - width).tdiv step ≤ side - width := Int.tdiv_le_self _ (by omega)
    simp only
    omega
  · simp at h
theorem window_err {side width step : Int} (h : (window side width step).2 ≠ 0) : window side width step = (0, 11) := by
  unfold window at h ⊢
  split
  · rename_i hc; rw [if_pos hc] at h; simp at h
  · rfl
theorem prod_set {l : List Int} (h : ∀ x ∈ l, 1 ≤ x) {i : Nat} (hi : i < l.length) {n : Int} (h2 : n ≤ l[i]) : Safe.prod (l.set i n) ≤ Safe.prod l := by
  induction l generalizing i with
  | nil => simp at hi
  | cons a r ih =>
    have ha := h a (by simp)
    have hr : ∀ x ∈ r, 1 ≤ x := fun x hx => h x (by simp [hx])
    have hp := Safe.prod_pos r hr
    cases i with
    | zero =>
      simp only [List.set_cons_zero, Safe.prod]
      simp at h2
      exact Int.mul_le_mul_of_nonneg_right h2 (by omega)
    | succ i =>
      simp only [List.set_cons_succ, Safe.prod]
      simp at h2 hi
      exact Int.mul_le_mul_of_nonneg_left (ih hr hi h2) (by omega)
theorem right_set {l : List Int} (h : Sh.right l = true) {i : Nat} (hi : i < l.length) {n : Int} (h1 : 1 ≤ n) (h2 : n ≤ l[i]) : Sh.right (l.set i n) = true := by
  obtain ⟨_, a1, a2, a3, a4, a5⟩ := Sh.right_mul h
  have hp := prod_set (fun x hx => (a3 x hx).1) hi h2
  have hm := a3 _ (List.getElem_mem hi)
  simp only [Sh.right, Bool.and_eq_true, decide_eq_true_eq, List.length_set, List.all_eq_true, Sh.side_iff]
  refine ⟨⟨⟨a2, a1⟩, fun x hx => ?_⟩, by omega⟩
  rcases List.mem_or_eq_of_mem_set hx with hx | rfl
  · exact a3 x hx
  · omega
theorem joinAll_right {side : Int} : ∀ {l : List (List Int)} {s : List Int}, Sh.right s = true → (joinAll side s l).2 = 0 → Sh.right (joinAll side s l).1 = true
  | [], _, hs, _ => hs
  | t :: r, s, hs, h => by
    rw [joinAll] at h ⊢
    split at h
    · rename_i hj
      rw [if_pos hj]
      refine joinAll_right ?_ h
      unfold join at hj ⊢
      split at hj
      · rename_i h1
        rw [if_pos h1]
        split at hj
        · rename_i h2
          rw [if_pos h2]
          split at hj
          · rename_i h3
            rw [if_pos h3]
            simp at h3
            exact h3.2
          · simp at hj
        · simp at hj
      · simp at hj
    · rename_i hj; exact absurd h hj
theorem all_getD0 {l : List (List Int)} (h : l.all Sh.right = true) (hl : 0 < l.length) : Sh.right (l.getD 0 []) = true := by
  cases l with
  | nil => simp at hl
  | cons a r => simp at h; simpa using h.1
theorem shape_ok {o : OpD} {p x : List (List Int)} (h : (shape o p x).2 = 0) : right o = true ∧ least o ≤ x.length ∧ (x.length : Int) ≤ most o ∧ (p.length : Int) = params o ∧ p.all Sh.right = true ∧ x.all Sh.right = true ∧ shape o p x = byKind o p x := by
  unfold shape counts at h ⊢
  cases hr : right o
  · simp [hr] at h
  · by_cases hc : (x.length : Int) < least o ∨ most o < (x.length : Int) ∨ (p.length : Int) ≠ params o
    · simp [hr, hc] at h
    · simp only [hr, if_true, hc, if_false, ne_eq, not_true_eq_false] at h ⊢
      have hc' := hc
      simp only [not_or] at hc'
      cases hp : p.all Sh.right
      · simp [hp] at h
      · cases hx : x.all Sh.right
        · simp [hp, hx] at h
        · simp
          omega
theorem shape_right {o : OpD} {p x : List (List Int)} (h : (shape o p x).2 = 0) : Sh.right (shape o p x).1 = true := by
  obtain ⟨hr, h1, h2, h3, hp, hx, e⟩ := shape_ok h
  rw [e] at h ⊢
  have hl := least_pos hr
  have hx0 := all_getD0 hx (by omega)
  obtain ⟨_, a1, a2, a3, a4, a5⟩ := Sh.right_mul hx0
  unfold byKind at h ⊢
  split at h
  · rename_i hk
    rw [if_pos hk]
    unfold params at h3
    rw [if_pos hr, if_pos hk] at h3
    have hp0 := all_getD0 hp (by omega)
    obtain ⟨_, b1, b2, b3, b4, b5⟩ := Sh.right_mul hp0
    unfold dense at h ⊢
    split at h
    · rename_i hc
      rw [if_pos hc]
      generalize p.getD 0 [] = w at *
      match w, hc.1 with
      | [a, b], _ =>
        have := b3 a (by simp)
        have h1 : Safe.prod [a] ≤ 65536 := by simp [Safe.prod]; omega
        simp [Sh.right, Sh.side_iff, h1]
        omega
    · simp at h
  · rename_i hk
    rw [if_neg hk]
    split at h
    · rename_i hk
      rw [if_pos hk]
      unfold params at h3
      rw [if_pos hr, if_neg (by omega), if_pos (by omega)] at h3
      have hp0 := all_getD0 hp (by omega)
      unfold same at h ⊢
      split at h
      · rename_i hc; rw [if_pos hc]; simpa using hp0
      · simp at h
    · rename_i hk2
      rw [if_neg hk2]
      split at h
      · rename_i hk
        rw [if_pos hk]
        unfold conv at h ⊢
        split at h
        · rename_i c1
          rw [if_pos c1]
          split at h
          · rename_i c2
            rw [if_pos c2]
            split at h
            · rename_i c3; rw [if_pos c3]; exact c3
            · simp at h
          · simp at h
        · simp at h
      · rename_i hk3
        rw [if_neg hk3]
        split at h
        · rename_i hk
          rw [if_pos hk]
          unfold pool at h ⊢
          rw [if_pos hx0] at h ⊢
          split at h
          · rename_i c1
            rw [if_pos c1]
            have := window_ok c1
            generalize x.getD 0 [] = x0 at *
            have hi : x0.length - 1 < x0.length := by omega
            refine right_set hx0 hi this.1 ?_
            have e2 : x0.getD (x0.length - 1) 0 = x0[x0.length - 1] := by rw [List.getD_eq_getElem?_getD, List.getElem?_eq_getElem hi]; rfl
            have := this.2
            omega
          · simp at h
        · rename_i hk4
          rw [if_neg hk4]
          split at h
          · rename_i hk
            rw [if_pos hk]
            unfold joined at h ⊢
            split at h
            · simp at h
            · rename_i c1; rw [if_neg c1]; exact joinAll_right hx0 h
          · rename_i hk5
            rw [if_neg hk5]
            split at h
            · rename_i hk
              rw [if_pos hk]
              unfold cut at h ⊢
              rw [if_pos hx0] at h ⊢
              split at h
              · rename_i c1
                rw [if_pos c1]
                simp [inR, at_] at c1
                obtain ⟨⟨c2, c3⟩, c4, c5, c6⟩ := c1
                have hi : o.side.toNat < (x.getD 0 []).length := by simp; omega
                refine right_set hx0 hi (by omega) ?_
                have : (x.getD 0 [])[o.side.toNat]?.getD 0 = (x.getD 0 [])[o.side.toNat] := by rw [List.getElem?_eq_getElem hi]; rfl
                simp at this c5
                rw [this] at c5
                simp
                omega
              · simp at h
            · rename_i hk6
              rw [if_neg hk6]
              split at h
              · rename_i hk
                rw [if_pos hk]
                unfold turned at h ⊢
                split at h
                · rename_i c1; rw [if_pos c1]; simp at c1; exact c1.1.2
                · simp at h
              · rename_i hk7
                rw [if_neg hk7]
                unfold same at h ⊢
                split at h
                · rename_i c1; rw [if_pos c1]; exact hx0
                · simp at h
end Od
end Go.Proofs.Ytjkhpbngpceenaa

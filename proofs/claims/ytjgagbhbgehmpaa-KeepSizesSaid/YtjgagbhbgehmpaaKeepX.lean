/- Layer 27 (keep): Encode and Decode are inverse; what is cut off, extended or begins otherwise is refused: plain laws. -/
import Derived.Test.YtjgagbhbgehmpaaKeepQ
namespace Go.Proofs.Ytjgagbhbgehmpaa
namespace Kq
open Fp Kr

theorem count_big (n most : Nat) (r : List Int) (h : n ≤ most) (hm : most ≤ 65535) : count (most : Int) (some (big n 2 ++ r)) = ((n : Int), 0, some r) := by
  have e : (n : Int) % 256 ^ 2 = n := by simp; omega
  simp only [count, get_big, e]
  rw [if_neg (by simp), if_neg (by omega)]
theorem count_pre {n : Int} {most : Int} {p y : List Int} (h : p ++ y = big n 2) (hy : y ≠ []) : count most (some p) = (0, 16, none) := by
  simp [count, get_pre h hy]
theorem count_inv {most : Int} {bs : List Int} (hb : ∀ x ∈ bs, 0 ≤ x ∧ x ≤ 255) (h : (count most (some bs)).2.1 = 0) : ∃ r, (count most (some bs)).2.2 = some r ∧ bs = big (count most (some bs)).1 2 ++ r ∧ 0 ≤ (count most (some bs)).1 ∧ (count most (some bs)).1 ≤ most := by
  unfold count at h ⊢
  cases hg : (get 2 (some bs)).2 with
  | none => rw [hg] at h; simp at h
  | some r =>
    rw [hg] at h
    obtain ⟨h1, h2, h3⟩ := get_inv hb hg
    by_cases hm : most < (get 2 (some bs)).1
    · simp [hm] at h
    · simp only [Option.isNone_some, Bool.false_eq_true, if_false, hm]
      exact ⟨r, rfl, h1, h2, by omega⟩

def okS (s : Sav) : Prop := s.p.length ≤ 512 ∧ s.m.length ≤ 1024 ∧ (∀ t ∈ s.p, okT t) ∧ (∀ t ∈ s.v, okT t) ∧ s.p.map (·.s) = s.v.map (·.s) ∧ ∀ m ∈ s.m, ∀ z ∈ m.l, inR z
theorem okS_err {s : Sav} (h : okS s) : Kp.err s = 0 := by
  obtain ⟨h1, h2, h3, h4, h5, _⟩ := h
  have hl : s.p.length = s.v.length := by have := congrArg List.length h5; simpa using this
  refine Kp.err_ok ?_ h1 h2
  rw [Tn.alike_ok hl (List.all_eq_true.2 fun t ht => (h3 t ht).1) (List.all_eq_true.2 fun t ht => (h4 t ht).1)]
  simp [h5]
theorem err_okS {s : Sav} (h : Kp.err s = 0) (hr : (∀ t ∈ s.p, ∀ z ∈ t.c, inR z) ∧ (∀ t ∈ s.v, ∀ z ∈ t.c, inR z) ∧ ∀ m ∈ s.m, ∀ z ∈ m.l, inR z) : okS s := by
  unfold Kp.err at h
  split at h
  · simp at h
  · rename_i h1
    split at h
    · simp at h
    · rename_i h2
      have h1' : Tn.alike s.p s.v = true := by simpa using h1
      obtain ⟨_, a, b, c⟩ := Kp.alike_all h1'
      exact ⟨by omega, by omega, fun t ht => ⟨List.all_eq_true.1 a t ht, hr.1 t ht⟩, fun t ht => ⟨List.all_eq_true.1 b t ht, hr.2.1 t ht⟩, c, hr.2.2⟩

def stB (s : Sav) : List Int := big s.p.length 2 ++ (Kp.tens s.p ++ Kp.cells s.v)
theorem state_enc {s : Sav} (h : okS s) (r : List Int) : state (some (stB s ++ r)) = (0, s.p, s.v, some r) := by
  obtain ⟨h1, _, h3, h4, h5, _⟩ := h
  have e : stB s ++ r = big s.p.length 2 ++ (Kp.tens s.p ++ (Kp.cells s.v ++ r)) := by simp [stB]
  have ep := readP_tens s.p [] (Kp.cells s.v ++ r) h3
  have ev := readV_cells s.v [] r h4
  have ec := count_big s.p.length 512 (Kp.tens s.p ++ (Kp.cells s.v ++ r)) h1 (by omega)
  rw [e]
  unfold state
  rw [show (512 : Int) = ((512 : Nat) : Int) from rfl, ec]
  simp only [state1, Int.toNat_natCast, ne_eq, not_true, if_false, ep, List.nil_append, state2, h5, ev, state3]
theorem state_pre {s : Sav} (h : okS s) {p y : List Int} (hp : p ++ y = stB s) (hy : y ≠ []) : state (some p) = (16, [], [], none) := by
  obtain ⟨h1, _, h3, h4, h5, _⟩ := h
  unfold state
  rcases split hp with ⟨c, hc, e1⟩ | ⟨c, rfl, e2⟩
  · rw [count_pre e1 hc]; simp [state1]
  · have ec := count_big s.p.length 512 c h1 (by omega)
    rw [show (512 : Int) = ((512 : Nat) : Int) from rfl, ec]
    simp only [state1, Int.toNat_natCast, ne_eq, not_true, if_false]
    rcases split e2 with ⟨d, hd, e3⟩ | ⟨d, rfl, e4⟩
    · rw [readP_pre s.p [] c d h3 e3 hd]; simp [state2]
    · rw [readP_tens s.p [] d h3]
      simp only [state2, ne_eq, not_true, if_false, List.nil_append, h5]
      rw [readV_pre s.v [] d y h4 e4 hy]; simp [state3]

theorem mets_words (ms : List Met) : Kp.mets ms = words (ms.flatMap Met.l) := by
  induction ms with
  | nil => rfl
  | cons m r ih => simp only [Kp.mets, List.flatMap_cons] at ih ⊢; rw [ih, Kp.words_append]
theorem flat_l (ms : List Met) : (ms.flatMap Met.l).length = ms.length * 6 := by
  induction ms with
  | nil => rfl
  | cons m r ih => simp [ih, Met.l]; omega
theorem group_flat (ms : List Met) : group ms.length (ms.flatMap Met.l) = ms := by
  induction ms with
  | nil => rfl
  | cons m r ih =>
    rw [List.length_cons, group, List.flatMap_cons]
    have e : (m.l ++ r.flatMap Met.l).drop 6 = r.flatMap Met.l := by simp [Met.l]
    rw [e, ih]
    congr 1
theorem flat_group (n : Nat) (l : List Int) (h : l.length = n * 6) : (group n l).flatMap Met.l = l := by
  induction n generalizing l with
  | zero => have : l = [] := List.eq_nil_of_length_eq_zero (by omega); subst this; rfl
  | succ n ih =>
    rw [group, List.flatMap_cons, ih _ (by rw [List.length_drop]; omega)]
    match l, h with
    | a :: b :: c :: d :: e :: f :: r, _ => simp [Met.l]
    | [], h => simp only [List.length_nil] at h; omega
    | [_], h => simp only [List.length_cons, List.length_nil] at h; omega
    | [_, _], h => simp only [List.length_cons, List.length_nil] at h; omega
    | [_, _, _], h => simp only [List.length_cons, List.length_nil] at h; omega
    | [_, _, _, _], h => simp only [List.length_cons, List.length_nil] at h; omega
    | [_, _, _, _, _], h => simp only [List.length_cons, List.length_nil] at h; omega
def mtB (ms : List Met) : List Int := big ms.length 2 ++ Kp.mets ms
theorem metrics_enc {ms : List Met} (hl : ms.length ≤ 1024) (hr : ∀ m ∈ ms, ∀ z ∈ m.l, inR z) (r : List Int) : metrics (some (mtB ms ++ r)) = (0, ms, some r) := by
  have e : mtB ms ++ r = big ms.length 2 ++ (words (ms.flatMap Met.l) ++ r) := by rw [mtB, mets_words, List.append_assoc]
  have ec := count_big ms.length 1024 (words (ms.flatMap Met.l) ++ r) hl (by omega)
  have en := nums_words (ms.length * 6) (ms.flatMap Met.l) r (flat_l ms) (fun z hz => by obtain ⟨m, hm, hz⟩ := List.mem_flatMap.1 hz; exact hr m hm z hz)
  rw [e]
  unfold metrics
  rw [show (1024 : Int) = ((1024 : Nat) : Int) from rfl, ec]
  simp [metrics1, en, group_flat]
theorem metrics_pre {ms : List Met} (hl : ms.length ≤ 1024) {p y : List Int} (hp : p ++ y = mtB ms) (hy : y ≠ []) : metrics (some p) = (16, [], none) := by
  unfold metrics
  rcases split hp with ⟨c, hc, e1⟩ | ⟨c, rfl, e2⟩
  · rw [count_pre e1 hc]; simp [metrics1]
  · have ec := count_big ms.length 1024 c hl (by omega)
    rw [show (1024 : Int) = ((1024 : Nat) : Int) from rfl, ec]
    rw [mets_words] at e2
    simp [metrics1, nums_pre _ _ c y (flat_l ms) e2 hy]

theorem open_seal {b : List Int} (h : 4 ≤ b.length) : openE (b ++ big (sum b) 4) = 0 ∧ Fp.body (b ++ big (sum b) 4) = b := by
  have hl : (b ++ big (sum b) 4).length - 4 = b.length := by rw [List.length_append, big_length]; omega
  have hb : Fp.body (b ++ big (sum b) 4) = b := by unfold Fp.body; rw [hl, List.take_append_of_le_length (Nat.le_refl _), List.take_length]
  have hm : Fp.mark (b ++ big (sum b) 4) = big (sum b) 4 := by unfold Fp.mark; rw [hl, List.drop_append_of_le_length (Nat.le_refl _), List.drop_length, List.nil_append]
  refine ⟨?_, hb⟩
  unfold openE
  rw [if_neg (by rw [List.length_append, big_length]; omega), hb, hm, num_big, if_pos]
  have := sum_range b
  simp; omega
theorem decode_seal {b : List Int} (h : 4 ≤ b.length) : Kr.decode (b ++ big (sum b) 4) = dec2 (get 4 (some b)) := by
  obtain ⟨h1, h2⟩ := open_seal h
  unfold Kr.decode
  rw [h1, h2]; simp
theorem body_eq (s : Sav) : Kp.body s = big 1096042579 4 ++ (stB s ++ mtB s.m) := by simp [Kp.body, Kp.head, stB, mtB]
theorem magic_get (r : List Int) : get 4 (some (big 1096042579 4 ++ r)) = (1096042579, some r) := get_big _ _ _
theorem body_len4 (s : Sav) : 4 ≤ (Kp.body s).length := by rw [body_eq, List.length_append, big_length]; omega
theorem decode_long {s : Sav} (h : okS s) (more : List Int) : Kr.decode ((Kp.body s ++ more) ++ big (sum (Kp.body s ++ more)) 4) = if more.length = 0 then (0, s) else (10, none_) := by
  have h2 := h.2.1
  have h6 := h.2.2.2.2.2
  rw [decode_seal (by have := body_len4 s; rw [List.length_append]; omega), body_eq, List.append_assoc, List.append_assoc, magic_get]
  simp only [dec2, ne_eq, not_true, if_false]
  rw [state_enc h]
  simp only [dec3, ne_eq, not_true, if_false]
  rw [metrics_enc h2 h6]
  simp only [dec4, ne_eq, not_true, if_false, endO]
  by_cases hm : more.length = 0
  · simp [hm]
  · simp [hm]
theorem decode_enc {s : Sav} (h : okS s) : Kr.decode (Kp.enc s) = (0, s) := by
  have := decode_long h []
  rw [List.append_nil] at this
  exact this
theorem decode_cut {s : Sav} (h : okS s) {p y : List Int} (hp : p ++ y = Kp.body s) (hy : y ≠ []) (h4 : 4 ≤ p.length) : (Kr.decode (p ++ big (sum p) 4)).1 = 16 := by
  rw [decode_seal h4]
  rw [body_eq] at hp
  rcases split hp with ⟨c, hc, e1⟩ | ⟨c, rfl, e2⟩
  · have := congrArg List.length e1
    rw [List.length_append, big_length] at this
    have : 0 < c.length := List.length_pos_iff.2 hc
    omega
  · rw [magic_get]
    simp only [dec2, ne_eq, not_true, if_false]
    rcases split e2 with ⟨d, hd, e3⟩ | ⟨d, rfl, e4⟩
    · rw [state_pre h e3 hd]; simp [dec3]
    · rw [state_enc h]
      simp only [dec3, ne_eq, not_true, if_false]
      rw [metrics_pre h.2.1 e4 hy]; simp [dec4]
theorem decode_other {x r : List Int} (hx : x.length = 4) (hn : num x ≠ 1096042579) : (Kr.decode ((x ++ r) ++ big (sum (x ++ r)) 4)).1 = 10 := by
  rw [decode_seal (by rw [List.length_append]; omega), get_ok (by rw [List.length_append]; omega), List.take_append_of_le_length (by omega), List.take_of_length_le (by omega)]
  simp [dec2, hn]

theorem state_inv {bs : List Int} (hb : ∀ x ∈ bs, 0 ≤ x ∧ x ≤ 255) (h : (state (some bs)).1 = 0) : ∃ p v r, state (some bs) = (0, p, v, some r) ∧ bs = stB ⟨p, v, []⟩ ++ r ∧ p.length ≤ 512 ∧ (∀ t ∈ p, okT t) ∧ (∀ t ∈ v, okT t) ∧ p.map (·.s) = v.map (·.s) := by
  unfold state at h ⊢
  by_cases hc : (count 512 (some bs)).2.1 = 0
  · obtain ⟨r, c1, c2, c3, c4⟩ := count_inv hb hc
    have hr : ∀ x ∈ r, 0 ≤ x ∧ x ≤ 255 := fun x hx => hb x (by rw [c2]; exact List.mem_append_right _ hx)
    simp only [state1, hc, ne_eq, not_true, if_false, c1] at h ⊢
    generalize (count 512 (some bs)).1 = n at *
    by_cases hp : (readP n.toNat [] (some r)).1 = 0
    · obtain ⟨ts, r2, e1, e2, e3, e4⟩ := readP_inv n.toNat [] r hr hp
      have hr2 : ∀ x ∈ r2, 0 ≤ x ∧ x ≤ 255 := fun x hx => hr x (by rw [e2]; exact List.mem_append_right _ hx)
      rw [e1] at h ⊢
      simp only [state2, ne_eq, not_true, if_false, List.nil_append] at h ⊢
      by_cases hv : (readV (ts.map (·.s)) [] (some r2)).1 = 0
      · obtain ⟨vs, r3, f1, f2, f3, f4⟩ := readV_inv (ts.map (·.s)) [] r2 hr2 hv
        rw [f1] at h ⊢
        simp only [state3, ne_eq, not_true, if_false, List.nil_append] at h ⊢
        refine ⟨ts, vs, r3, rfl, ?_, by omega, e4, f4, f3.symm⟩
        rw [c2, e2, f2]
        have : (ts.length : Int) = n := by omega
        simp [stB, this]
      · simp [state3, hv] at h
    · simp [state2, hp] at h
  · simp [state1, hc] at h
theorem metrics_inv {bs : List Int} (hb : ∀ x ∈ bs, 0 ≤ x ∧ x ≤ 255) (h : (metrics (some bs)).1 = 0) : ∃ ms r, metrics (some bs) = (0, ms, some r) ∧ bs = mtB ms ++ r ∧ ms.length ≤ 1024 ∧ ∀ m ∈ ms, ∀ z ∈ m.l, inR z := by
  unfold metrics at h ⊢
  by_cases hc : (count 1024 (some bs)).2.1 = 0
  · obtain ⟨r, c1, c2, c3, c4⟩ := count_inv hb hc
    have hr : ∀ x ∈ r, 0 ≤ x ∧ x ≤ 255 := fun x hx => hb x (by rw [c2]; exact List.mem_append_right _ hx)
    simp only [metrics1, hc, ne_eq, not_true, if_false, c1] at h ⊢
    generalize (count 1024 (some bs)).1 = n at *
    cases hn : (nums (n.toNat * 6) (some r)).2 with
    | none => rw [hn] at h; simp at h
    | some q =>
      obtain ⟨i1, i2⟩ := nums_inv _ r q hr hn
      have hl := nums_len (n.toNat * 6) (some r)
      generalize (nums (n.toNat * 6) (some r)).1 = l at *
      refine ⟨group n.toNat l, q, by simp, ?_, by rw [group_len]; omega, fun m hm z hz => ?_⟩
      · rw [c2, i1, mtB, mets_words, flat_group _ _ hl, group_len, Int.toNat_of_nonneg c3, List.append_assoc]
      · refine i2 z ?_
        rw [← flat_group _ _ hl]
        exact List.mem_flatMap.2 ⟨m, hm, hz⟩
  · simp [metrics1, hc] at h
/-- What is decoded is what was encoded. -/
theorem decode_inv {bs : List Int} (hb : ∀ x ∈ bs, 0 ≤ x ∧ x ≤ 255) (h : (Kr.decode bs).1 = 0) : okS (Kr.decode bs).2 ∧ Kp.enc (Kr.decode bs).2 = bs := by
  unfold Kr.decode at h ⊢
  by_cases ho : openE bs = 0
  · simp only [ho, ne_eq, not_true, if_false] at h ⊢
    have hbb : ∀ x ∈ Fp.body bs, 0 ≤ x ∧ x ≤ 255 := fun x hx => hb x (List.mem_of_mem_take hx)
    have hbm : ∀ x ∈ Fp.mark bs, 0 ≤ x ∧ x ≤ 255 := fun x hx => hb x (List.mem_of_mem_drop hx)
    have hcat : Fp.body bs ++ Fp.mark bs = bs := List.take_append_drop _ _
    have hmark : Fp.mark bs = big (sum (Fp.body bs)) 4 := by
      unfold openE at ho
      by_cases h8 : bs.length < 8
      · simp [h8] at ho
      · simp only [h8, if_false] at ho
        by_cases hs : num (Fp.mark bs) = sum (Fp.body bs)
        · have hl : (Fp.mark bs).length = 4 := by unfold Fp.mark; rw [List.length_drop]; omega
          have := big_num (Fp.mark bs) hbm
          rw [hl, hs] at this
          exact this.symm
        · simp [hs] at ho
    cases hg : (get 4 (some (Fp.body bs))).2 with
    | none =>
      have : (get 4 (some (Fp.body bs))).1 = 0 := by
        by_cases hl : (Fp.body bs).length < 4
        · rw [get_short hl]
        · rw [get_ok hl] at hg; cases hg
      simp [dec2, this] at h
    | some r =>
      obtain ⟨g1, _, _⟩ := get_inv hbb hg
      simp only [dec2] at h ⊢
      by_cases hm : (get 4 (some (Fp.body bs))).1 = 1096042579
      · rw [hm] at g1
        have hr : ∀ x ∈ r, 0 ≤ x ∧ x ≤ 255 := fun x hx => hbb x (by rw [g1]; exact List.mem_append_right _ hx)
        simp only [hm, ne_eq, not_true, if_false, hg] at h ⊢
        by_cases hs : (state (some r)).1 = 0
        · obtain ⟨p, v, r2, s1, s2, s3, s4, s5, s6⟩ := state_inv hr hs
          have hr2 : ∀ x ∈ r2, 0 ≤ x ∧ x ≤ 255 := fun x hx => hr x (by rw [s2]; exact List.mem_append_right _ hx)
          rw [s1] at h ⊢
          simp only [dec3, ne_eq, not_true, if_false] at h ⊢
          by_cases hmm : (metrics (some r2)).1 = 0
          · obtain ⟨ms, r3, m1, m2, m3, m4⟩ := metrics_inv hr2 hmm
            rw [m1] at h ⊢
            simp only [dec4, ne_eq, not_true, if_false, endO] at h ⊢
            by_cases he : r3.length = 0
            · have : r3 = [] := List.eq_nil_of_length_eq_zero he
              subst this
              simp only [List.length_nil, if_true, not_true, if_false] at h ⊢
              refine ⟨⟨s3, m3, s4, s5, s6, m4⟩, ?_⟩
              have hbody : Kp.body ⟨p, v, ms⟩ = Fp.body bs := by
                rw [body_eq, g1, s2, m2]; simp [stB]
              rw [Kp.enc, hbody, ← hmark, hcat]
            · simp [he] at h
          · simp [dec4, hmm] at h
        · simp [dec3, hs] at h
      · simp [hm] at h
  · simp [ho] at h
end Kq
end Go.Proofs.Ytjgagbhbgehmpaa

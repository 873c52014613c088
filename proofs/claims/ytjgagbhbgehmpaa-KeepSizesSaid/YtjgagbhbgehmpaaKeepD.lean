/- Layer 27 (keep): Decode: contract. -/
import Derived.Test.YtjgagbhbgehmpaaKeepM
namespace Go.Proofs.Ytjgagbhbgehmpaa
open Go.RowKit

namespace Kr
def none_ : Sav := ⟨[], [], []⟩
def dec4 (s : Int × List Ten × List Ten × Option (List Int)) (m : Int × List Met × Option (List Int)) : Int × Sav :=
  if m.1 ≠ 0 then (m.1, none_) else if Fp.endO m.2.2 ≠ 0 then (Fp.endO m.2.2, none_) else (0, ⟨s.2.1, s.2.2.1, m.2.1⟩)
def dec3 (s : Int × List Ten × List Ten × Option (List Int)) : Int × Sav := if s.1 ≠ 0 then (s.1, none_) else dec4 s (metrics s.2.2.2)
def dec2 (g : Int × Option (List Int)) : Int × Sav := if g.1 ≠ 1096042579 then (10, none_) else dec3 (state g.2)
def decode (bs : List Int) : Int × Sav := if Fp.openE bs ≠ 0 then (Fp.openE bs, none_) else dec2 (Fp.get 4 (some (Fp.body bs)))

theorem readP_small {n : Nat} {acc : List Ten} {st : Option (List Int)} (ha : ∀ t ∈ acc, Tn.right t = true) (h : (readP n acc st).1 = 0) : (∀ t ∈ (readP n acc st).2.1, Tn.right t = true) ∧ (readP n acc st).2.1.length = acc.length + n := by
  induction n generalizing acc st with
  | zero => exact ⟨ha, rfl⟩
  | succ n ih =>
    unfold readP at h ⊢
    split
    · rename_i h1; rw [if_pos h1] at h; simp at h
    · rename_i h1
      rw [if_neg h1] at h
      split
      · rename_i h2; rw [if_pos h2] at h; exact absurd h h2
      · rename_i h2
        rw [if_neg h2] at h
        have h0 : (cells (Fp.shapeR st).1 (Fp.shapeR st).2).1 = 0 := by simpa using h2
        obtain ⟨hr, hl⟩ := cells_right h0
        have := ih (acc := acc ++ [⟨(Fp.shapeR st).1, (cells (Fp.shapeR st).1 (Fp.shapeR st).2).2.1⟩]) (by
          intro t ht
          rcases List.mem_append.1 ht with ht | ht
          · exact ha t ht
          · rw [List.mem_singleton] at ht; subst ht
            obtain ⟨_, _, _, _, h1, _⟩ := Sh.right_mul hr
            simp only [Tn.right, hr, Bool.true_and, decide_eq_true_eq, hl]; omega) h
        refine ⟨this.1, ?_⟩
        rw [this.2]; simp; omega
theorem readV_small {fs : List (List Int)} {acc : List Ten} {st : Option (List Int)} (ha : ∀ t ∈ acc, Tn.right t = true) (h : (readV fs acc st).1 = 0) : (∀ t ∈ (readV fs acc st).2.1, Tn.right t = true) ∧ (readV fs acc st).2.1.map (·.s) = acc.map (·.s) ++ fs := by
  induction fs generalizing acc st with
  | nil => exact ⟨ha, by simp [readV]⟩
  | cons f r ih =>
    unfold readV at h ⊢
    split
    · rename_i h2; rw [if_pos h2] at h; exact absurd h h2
    · rename_i h2
      rw [if_neg h2] at h
      have h0 : (cells f st).1 = 0 := by simpa using h2
      obtain ⟨hr, hl⟩ := cells_right h0
      have := ih (acc := acc ++ [⟨f, (cells f st).2.1⟩]) (by
        intro t ht
        rcases List.mem_append.1 ht with ht | ht
        · exact ha t ht
        · rw [List.mem_singleton] at ht; subst ht
          obtain ⟨_, _, _, _, h1, _⟩ := Sh.right_mul hr
          simp only [Tn.right, hr, Bool.true_and, decide_eq_true_eq, hl]; omega) h
      refine ⟨this.1, ?_⟩
      rw [this.2]; simp
theorem count_le {most : Int} {st : Option (List Int)} (h0 : 0 ≤ most) (hb : Fp.okB st) : 0 ≤ (count most st).1 ∧ (count most st).1 ≤ most := by
  unfold count
  have h2 := get_two hb
  split
  · simp; omega
  · split <;> simp <;> omega
/-- What a state that was read is. -/
theorem state_small {st : Option (List Int)} (hb : Fp.okB st) (h : (state st).1 = 0) : Tn.alike (state st).2.1 (state st).2.2.1 = true ∧ (state st).2.1.length ≤ 512 := by
  unfold state state1 at h ⊢
  split
  · rename_i h1; rw [if_pos h1] at h; exact absurd h h1
  · rename_i h1
    rw [if_neg h1] at h
    have hc := count_le (most := 512) (st := st) (by omega) hb
    generalize (count 512 st).1 = n at *
    generalize (count 512 st).2.2 = st1 at *
    unfold state2 at h ⊢
    split
    · rename_i h2; rw [if_pos h2] at h; exact absurd h h2
    · rename_i h2
      rw [if_neg h2] at h
      have h2' : (readP n.toNat [] st1).1 = 0 := by simpa using h2
      obtain ⟨p1, p2⟩ := readP_small (by simp) h2'
      generalize readP n.toNat [] st1 = p at *
      unfold state3 at h ⊢
      split
      · rename_i h3; rw [if_pos h3] at h; exact absurd h h3
      · rename_i h3
        have h3' : (readV (p.2.1.map (·.s)) [] p.2.2).1 = 0 := by simpa using h3
        obtain ⟨v1, v2⟩ := readV_small (by simp) h3'
        generalize readV (p.2.1.map (·.s)) [] p.2.2 = v at *
        simp only [List.map_nil, List.nil_append] at v2
        have hl : p.2.1.length = v.2.1.length := by have := congrArg List.length v2; simpa using this.symm
        refine ⟨?_, by simp at p2 ⊢; omega⟩
        rw [Tn.alike_ok hl (List.all_eq_true.2 p1) (List.all_eq_true.2 v1)]
        simp [v2]
theorem metrics_small {st : Option (List Int)} (hb : Fp.okB st) (h : (metrics st).1 = 0) : (metrics st).2.1.length ≤ 1024 := by
  unfold metrics metrics1 at h ⊢
  have hc := count_le (most := 1024) (st := st) (by omega) hb
  split
  · simp
  · split
    · simp
    · simp only [group_len]; omega
end Kr

theorem Fp.okB_body {bs : List Int} (h : ∀ x ∈ bs, 0 ≤ x ∧ x ≤ 255) : Fp.okB (some (Fp.body bs)) := fun x hx => h x (List.mem_of_mem_take hx)

def DecP (bs : List Int) (w : World) (e : Ending) (w' : World) : Prop :=
  ((Kr.decode bs).1 ≠ 0 ∧ e = .returned (.tuple #[.agg #[.slice none 0 0, .slice none 0 0, .slice none 0 0], .int .i64 (Kr.decode bs).1]) ∨ (Kr.decode bs).1 = 0 ∧ ∃ P V M c1 c2 c3, e = .returned (.tuple #[.agg #[.slice P (Kr.decode bs).2.p.length c1, .slice V (Kr.decode bs).2.v.length c2, .slice M (Kr.decode bs).2.m.length c3], .int .i64 0]) ∧ SavR w' P V M (Kr.decode bs).2) ∧ Below w.heap.size w w'
theorem zero_box3 {B : Nat} {w w' : World} (hb : Below B w w') (a b c : Value) : Below B w (((w'.setCell ⟨B, 0, none⟩ a).setCell ⟨B, 1, none⟩ b).setCell ⟨B, 2, none⟩ c) :=
  ((hb.setCell (p := ⟨B, 0, none⟩) (Nat.le_refl _) _).setCell (p := ⟨B, 1, none⟩) (Nat.le_refl _) _).setCell (p := ⟨B, 2, none⟩) (Nat.le_refl _) _
set_option maxHeartbeats 4000000 in
set_option maxRecDepth 100000 in
theorem keep_decode (A : Option Addr) (c : Nat) (bs : List Int) (w : World) (hI : Ints .u8 w A bs) (hcap : bs.length ≤ c) (hlen : bs.length ≤ 1000000000) (hby : ∀ x ∈ bs, 0 ≤ x ∧ x ≤ 255) :
    Calls Try.prog 12 #[.slice A bs.length c] w (DecP bs w) := by
  have hk0 := Blk.new w 27 #[.slice none 0 0, .slice none 0 0, .slice none 0 0]
  have hI0 := hI.alloc (.cells #[.slice none 0 0, .slice none 0 0, .slice none 0 0] 27)
  have hb0 : Below w.heap.size w (w.alloc (.cells #[.slice none 0 0, .slice none 0 0, .slice none 0 0] 27)) := (Below.refl _ _).alloc (Nat.le_refl _) _
  have HD := Lib.hid (show Kr.decode bs = if Fp.openE bs ≠ 0 then (Fp.openE bs, Kr.none_) else Kr.dec2 (Fp.get 4 (some (Fp.body bs))) from rfl)
  have Hk0 := Lib.hid hk0
  have HI0 := Lib.hid hI0
  have Hby := Lib.hid hby
  clear hk0 hI0 hby
  clear hI
  go_enter Try.func12, Try.ntmps12
  go_wp2_with fail
  refine (new_reader A c bs _ HI0.out hcap hlen Hby.out).mono ?_
  rintro e w1 ⟨hcase, h1⟩
  have hk1 := Hk0.out.below h1 Hk0.out.lt
  have hb1 := hb0.trans (h1.mono hb0.size)
  have hsz1 := h1.size
  rw [World.size_alloc] at hsz1
  clear h1 hb0 Hk0 HI0
  rcases hcase with ⟨he, rfl⟩ | ⟨he, r, rfl, hrb, hR1⟩
  · have HE := Lib.hid (show Kr.decode bs = (Fp.openE bs, Kr.none_) by rw [HD.out, if_pos he])
    have hne : (Fp.openE bs != 0) = true := by simp [he]
    have hb2 := zero_box3 hb1 (.slice none 0 0) (.slice none 0 0) (.slice none 0 0)
    have c0 := hk1.cell 0
    have c1 := hk1.cell 1
    have c2 := hk1.cell 2
    have f0 := hk1.frozen 0
    have f1 := hk1.frozen 1
    have f2 := hk1.frozen 2
    simp at c0 c1 c2
    have He := Lib.hid he
    clear he
    clear hk1 hb1
    generalize Fp.openE bs = er at *
    go_wp2_with fail
    refine bodyPost_ret (v := .tuple #[.agg #[.slice none 0 0, .slice none 0 0, .slice none 0 0], .int .i64 er]) (by simp [results, Try.results12, go_sem, c0, c1, c2]) rfl ?_
    exact ⟨.inl ⟨by rw [HE.out]; exact He.out, by rw [HE.out]⟩, hb2⟩
  · have HD2 := Lib.hid (show Kr.decode bs = Kr.dec2 (Fp.get 4 (some (Fp.body bs))) by rw [HD.out, he]; rfl)
    rw [World.size_alloc] at hrb
    have hO1 : RdO r (some (Fp.body bs)) w1 := ⟨hR1, Fp.okB_body Hby.out, by unfold Fp.body; rw [List.length_take]; omega⟩
    have HO1 := Lib.hid hO1
    have Hk1 := Lib.hid hk1
    clear hO1 hk1
    clear hR1 he HD
    go_wp2_with fail
    refine (reader_getO r 4 (some (Fp.body bs)) _ HO1.out (by omega) (by omega)).mono ?_
    rintro e w2 ⟨rfl, hR2, hg2⟩
    have hF2 := Fr.of_grown (S := fun b => b = r) hg2 (fun k e _ => by injection e with e; exact e.symm)
    have hk2 := hF2.blk Hk1.out (by omega)
    have hb2 := hb1.trans (hF2.below (B := w.heap.size) (fun b e => by omega) hb1.size)
    have HD3 := Lib.hid (show Kr.decode bs = Kr.dec2 ((Fp.get 4 (some (Fp.body bs))).1, (Fp.get 4 (some (Fp.body bs))).2) from HD2.out)
    generalize (Fp.get 4 (some (Fp.body bs))).1 = mg at *
    generalize (Fp.get 4 (some (Fp.body bs))).2 = st2 at *
    clear HO1 Hk1 hg2 hF2 hb1 HD2
    have c0 := hk2.cell 0
    have c1 := hk2.cell 1
    have c2 := hk2.cell 2
    have f0 := hk2.frozen 0
    have f1 := hk2.frozen 1
    have f2 := hk2.frozen 2
    simp at c0 c1 c2
    by_cases hm : mg = 1096042579
    · have hmb : (mg != 1096042579) = false := by simp [hm]
      have HD4 := Lib.hid (show Kr.decode bs = Kr.dec3 (Kr.state st2) by rw [HD3.out]; simp [Kr.dec2, hm])
      have hq3 := Blk.new w2 27 #[.slice none 0 0, .slice none 0 0, .slice none 0 0]
      have hk3 := hk2.alloc (.cells #[.slice none 0 0, .slice none 0 0, .slice none 0 0] 27)
      have hR3 := hR2.alloc (.cells #[.slice none 0 0, .slice none 0 0, .slice none 0 0] 27)
      have hb3 := hb2.alloc hb2.size (.cells #[.slice none 0 0, .slice none 0 0, .slice none 0 0] 27)
      have hrl2 := hR2.lt
      have hokb := hR2.ok
      have Hq3 := Lib.hid hq3
      have Hk3 := Lib.hid hk3
      have HR3 := Lib.hid hR3
      have Hokb := Lib.hid hokb
      clear hq3 hk3 hR3 hokb
      clear hm HD3 hk2 hR2 hb2 c0 c1 c2 f0 f1 f2
      go_wp2_with fail
      have hs3 : w2.heap.size + 1 ≤ (w2.alloc (.cells #[.slice none 0 0, .slice none 0 0, .slice none 0 0] 27)).heap.size := by simp
      generalize w2.alloc (.cells #[.slice none 0 0, .slice none 0 0, .slice none 0 0] 27) = w3 at *
      generalize w2.heap.size = q at *
      refine (keep_state r st2 _ HR3.out).mono ?_
      rintro e w4 ⟨hcase, hR4, hF4⟩
      have hk4 := hF4.blk Hk3.out (by omega)
      have hq4 := hF4.blk Hq3.out (by omega)
      have hb4 := hb3.trans (hF4.below (B := w.heap.size) (fun b e => by omega) (by omega))
      have hsz4 := hF4.size
      clear HR3 Hk3 Hq3 hb3 hF4
      rcases hcase with ⟨he, rfl⟩ | ⟨he, A1, k1, A2, k2, LP, LV, rfl, hLP, hLV, hN, hV⟩
      · have HE := Lib.hid (show Kr.decode bs = ((Kr.state st2).1, Kr.none_) by rw [HD4.out]; simp [Kr.dec3, he])
        have hne : ((Kr.state st2).1 != 0) = true := by simp [he]
        have c0 := hk4.cell 0
        have c1 := hk4.cell 1
        have c2 := hk4.cell 2
        have f0 := hk4.frozen 0
        have f1 := hk4.frozen 1
        have f2 := hk4.frozen 2
        have d0 := hq4.cell 0
        have d1 := hq4.cell 1
        have g0 := hq4.frozen 0
        have g1 := hq4.frozen 1
        simp at c0 c1 c2 d0 d1
        have hqB : ¬ q = w.heap.size := by omega
        have hBq : ¬ w.heap.size = q := by omega
        have hb5 := zero_box3 ((hb4.setCell (p := ⟨q, 0, none⟩) (by simp; omega) (.slice none 0 0)).setCell (p := ⟨q, 1, none⟩) (by simp; omega) (.slice none 0 0)) (.slice none 0 0) (.slice none 0 0) (.slice none 0 0)
        have He := Lib.hid he
        clear he
        clear hk4 hq4 hb4 hR4
        generalize (Kr.state st2).1 = er at *
        go_wp2_with fail
        refine bodyPost_ret (v := .tuple #[.agg #[.slice none 0 0, .slice none 0 0, .slice none 0 0], .int .i64 er]) (by simp [results, Try.results12, go_sem, c0, c1, c2, hqB, hBq]) rfl ?_
        exact ⟨.inl ⟨by rw [HE.out]; exact He.out, by rw [HE.out]⟩, hb5⟩
      · have HD5 := Lib.hid (show Kr.decode bs = Kr.dec4 (Kr.state st2) (Kr.metrics (Kr.state st2).2.2.2) by rw [HD4.out]; simp [Kr.dec3, he])
        obtain ⟨hal, hpl⟩ := Kr.state_small Hokb.out he
        obtain ⟨hall, har, hav, _⟩ := Kp.alike_all hal
        have hqB : ¬ q = w.heap.size := by omega
        have hBq : ¬ w.heap.size = q := by omega
        have hvl : (Kr.state st2).2.2.1.length ≤ 512 := by omega
        generalize hsp : (Kr.state st2).2.1 = sp at *
        generalize hsv : (Kr.state st2).2.2.1 = sv at *
        generalize hst : (Kr.state st2).2.2.2 = st3 at *
        have HD6 := Lib.hid (show Kr.decode bs = Kr.dec4 (0, sp, sv, st3) (Kr.metrics st3) by rw [HD5.out, ← hsp, ← hsv, ← hst]; rfl)
        have hT5 : Fr (fun b => b = q) w4 ((w4.setCell ⟨q, 0, none⟩ (.slice A1 sp.length k1)).setCell ⟨q, 1, none⟩ (.slice A2 sv.length k2)) := ((Fr.refl (fun b => b = q) _).setCell (p := ⟨q, 0, none⟩) (fun _ => rfl) _).setCell (p := ⟨q, 1, none⟩) (fun _ => rfl) _
        have hk5 := hT5.blk hk4 (by omega)
        have hq5 := (hq4.set_ 0 (.slice A1 sp.length k1)).set_ 1 (.slice A2 sv.length k2)
        simp at hq5
        have hR5 := hR4.fr hT5 (fun b e => by omega)
        have hN5 := OwnRow.fr hN hT5 (fun b hb _ e => by omega)
        have hV5 := OwnRow.fr hV hT5 (fun b hb _ e => by omega)
        have hb5 := hb4.trans (hT5.below (B := w.heap.size) (fun b e => by omega) (by omega))
        have d0 := hq4.cell 0
        have d1 := hq4.cell 1
        have g0 := hq4.frozen 0
        have g1 := hq4.frozen 1
        simp at d0 d1
        have hs5 : w4.heap.size ≤ ((w4.setCell ⟨q, 0, none⟩ (.slice A1 sp.length k1)).setCell ⟨q, 1, none⟩ (.slice A2 sv.length k2)).heap.size := by simp
        have Hk5 := Lib.hid hk5
        have Hq5 := Lib.hid hq5
        have HR5 := Lib.hid hR5
        have HN5 := Lib.hid hN5
        have HV5 := Lib.hid hV5
        have HLP := Lib.hid hLP
        have HLV := Lib.hid hLV
        have Har := Lib.hid har
        have Hav := Lib.hid hav
        clear hk5 hq5 hR5 hN5 hV5 hLP hLV har hav
        clear hk4 hq4 hb4 hR4 hN hV hT5 HD4 HD5 hsp hsv hst hal hall he
        go_wp2_with fail
        generalize (w4.setCell ⟨q, 0, none⟩ (.slice A1 sp.length _)).setCell ⟨q, 1, none⟩ (.slice A2 sv.length _) = w5 at *
        clear d0 d1 g0 g1
        refine (keep_metrics r st3 _ HR5.out).mono ?_
        rintro e w6 ⟨hcase, hR6, hF6⟩
        have hk6 := hF6.blk Hk5.out (by omega)
        have hq6 := hF6.blk Hq5.out (by omega)
        have hN6 := OwnRow.fr HN5.out hF6 (fun b hb _ e => by omega)
        have hV6 := OwnRow.fr HV5.out hF6 (fun b hb _ e => by omega)
        have hb6 := hb5.trans (hF6.below (B := w.heap.size) (fun b e => by omega) (by omega))
        have hsz6 := hF6.size
        have c0 := hk6.cell 0
        have c1 := hk6.cell 1
        have c2 := hk6.cell 2
        have f0 := hk6.frozen 0
        have f1 := hk6.frozen 1
        have f2 := hk6.frozen 2
        have e0 := hq6.cell 0
        have e1 := hq6.cell 1
        have e2 := hq6.cell 2
        have g2 := hq6.frozen 2
        simp at c0 c1 c2 e0 e1 e2
        have hokb6 := HR5.out.ok
        clear Hk5 Hq5 HR5 HN5 HV5 hb5
        rcases hcase with ⟨he, rfl⟩ | ⟨he, v3, rfl, gm, lm, rfl, hgm, hM, hlm, hgr⟩
        · have HE := Lib.hid (show Kr.decode bs = ((Kr.metrics st3).1, Kr.none_) by rw [HD6.out]; simp [Kr.dec4, he])
          have hne : ((Kr.metrics st3).1 != 0) = true := by simp [he]
          have hb7 := zero_box3 (hb6.setCell (p := ⟨q, 2, none⟩) (by simp; omega) (.slice none 0 0)) (.slice none 0 0) (.slice none 0 0) (.slice none 0 0)
          have He := Lib.hid he
          clear he
          clear hk6 hq6 hb6 hR6 hN6 hV6 hokb6
          generalize (Kr.metrics st3).1 = er at *
          go_wp2_with fail
          refine bodyPost_ret (v := .tuple #[.agg #[.slice none 0 0, .slice none 0 0, .slice none 0 0], .int .i64 er]) (by simp [results, Try.results12, go_sem, c0, c1, c2, hqB, hBq]) rfl ?_
          exact ⟨.inl ⟨by rw [HE.out]; exact He.out, by rw [HE.out]⟩, hb7⟩
        · have hml := Kr.metrics_small hokb6 he
          have HD7 := Lib.hid (show Kr.decode bs = if Fp.endO (Kr.metrics st3).2.2 ≠ 0 then (Fp.endO (Kr.metrics st3).2.2, Kr.none_) else (0, ⟨sp, sv, (Kr.metrics st3).2.1⟩) by rw [HD6.out]; simp [Kr.dec4, he])
          generalize (Kr.metrics st3).2.1 = ms at *
          generalize (Kr.metrics st3).2.2 = st4 at *
          have hT7 : Fr (fun b => b = q) w6 (w6.setCell ⟨q, 2, none⟩ (.slice (some ⟨gm, 0, none⟩) ms.length ms.length)) := (Fr.refl (fun b => b = q) _).setCell (p := ⟨q, 2, none⟩) (fun _ => rfl) _
          have hR7 := hR6.fr hT7 (fun b e => by omega)
          have hN7 := OwnRow.fr hN6 hT7 (fun b hb _ e => by omega)
          have hV7 := OwnRow.fr hV6 hT7 (fun b hb _ e => by omega)
          have hM7 := hT7.blk hM (by omega)
          have hb7 := hb6.trans (hT7.below (B := w.heap.size) (fun b e => by omega) (by omega))
          have hz7 := zero_box3 hb7 (.slice none 0 0) (.slice none 0 0) (.slice none 0 0)
          have HR7 := Lib.hid hR7
          have HN7 := Lib.hid hN7
          have HV7 := Lib.hid hV7
          have HM7 := Lib.hid hM7
          have Hlm := Lib.hid hlm
          have Hgr := Lib.hid hgr
          clear hR7 hN7 hV7 hM7 hlm hgr
          clear hk6 hq6 hb6 hR6 hN6 hV6 hM hT7 hokb6 he
          go_wp2_with fail
          refine (reader_endO r st4 _ HR7.out).mono ?_
          rintro e w8 ⟨rfl, rfl⟩
          by_cases hend : Fp.endO st4 = 0
          · have heb : (Fp.endO st4 != 0) = false := by simp [hend]
            have HE := Lib.hid (show Kr.decode bs = (0, ⟨sp, sv, ms⟩) by rw [HD7.out]; simp [hend])
            have hT8 : Fr (fun b => b = w.heap.size) (w6.setCell ⟨q, 2, none⟩ (.slice (some ⟨gm, 0, none⟩) ms.length ms.length)) ((((w6.setCell ⟨q, 2, none⟩ (.slice (some ⟨gm, 0, none⟩) ms.length ms.length)).setCell ⟨w.heap.size, 0, none⟩ (.slice A1 sp.length k1)).setCell ⟨w.heap.size, 1, none⟩ (.slice A2 sv.length k2)).setCell ⟨w.heap.size, 2, none⟩ (.slice (some ⟨gm, 0, none⟩) ms.length ms.length)) := (((Fr.refl (fun b => b = w.heap.size) _).setCell (p := ⟨w.heap.size, 0, none⟩) (fun _ => rfl) _).setCell (p := ⟨w.heap.size, 1, none⟩) (fun _ => rfl) _).setCell (p := ⟨w.heap.size, 2, none⟩) (fun _ => rfl) _
            have hz8 := zero_box3 hb7 (.slice A1 sp.length k1) (.slice A2 sv.length k2) (.slice (some ⟨gm, 0, none⟩) ms.length ms.length)
            have hN8 := OwnRow.fr HN7.out hT8 (fun b hb _ e => by omega)
            have hV8 := OwnRow.fr HV7.out hT8 (fun b hb _ e => by omega)
            have hM8 := hT8.blk HM7.out (by omega)
            have HN8 := Lib.hid hN8
            have HV8 := Lib.hid hV8
            have HM8 := Lib.hid hM8
            have Hz8 := Lib.hid hz8
            clear hN8 hV8 hM8 hz8
            clear hT8 hz7 hb7 HR7 HN7 HV7 HM7 hend
            go_wp2_with fail
            refine bodyPost_ret (v := .tuple #[.agg #[.slice A1 sp.length k1, .slice A2 sv.length k2, .slice (some ⟨gm, 0, none⟩) ms.length ms.length], .int .i64 0]) (by simp [results, Try.results12, go_sem, c0, c1, c2, e0, e1, e2, hqB, hBq]) rfl ?_
            refine ⟨.inr ⟨by rw [HE.out], A1, A2, some ⟨gm, 0, none⟩, k1, k2, ms.length, by rw [HE.out], ?_⟩, Hz8.out⟩
            rw [HE.out]
            have hsm : ∀ (L : List TenA) (l : List Ten), L.map (·.1) = l → l.all Tn.right = true → ∀ x ∈ L, x.1.s.length ≤ 1000000 ∧ x.1.c.length ≤ 1000000 := fun L l e h x hx => by
              have := Tn.right_len (List.all_eq_true.1 h x.1 (by rw [← e]; exact List.mem_map_of_mem hx))
              omega
            obtain ⟨A1', d1', hv1, ht1⟩ := TensN.tens HN8.out (hsm _ _ HLP.out Har.out)
            obtain ⟨A2', d2', hv2, ht2⟩ := TensN.tens HV8.out (hsm _ _ HLV.out Hav.out)
            injection hv1 with hv1
            injection hv2 with hv2
            subst hv1 hv2
            rw [HLP.out] at ht1
            rw [HLV.out] at ht2
            have hm8 := HM8.out.mets Hlm.out
            rw [← Hgr.out] at hm8
            exact ⟨ht1, ht2, hm8⟩
          · have heb : (Fp.endO st4 != 0) = true := by simp [hend]
            have HE := Lib.hid (show Kr.decode bs = (Fp.endO st4, Kr.none_) by rw [HD7.out]; simp [hend])
            have Hend := Lib.hid hend
            clear hend
            generalize Fp.endO st4 = er at *
            go_wp2_with fail
            refine bodyPost_ret (v := .tuple #[.agg #[.slice none 0 0, .slice none 0 0, .slice none 0 0], .int .i64 er]) (by simp [results, Try.results12, go_sem, c0, c1, c2, hqB, hBq]) rfl ?_
            exact ⟨.inl ⟨by rw [HE.out]; exact Hend.out, by rw [HE.out]⟩, hz7⟩
    · have hmb : (mg != 1096042579) = true := by simp [hm]
      have HE := Lib.hid (show Kr.decode bs = (10, Kr.none_) by rw [HD3.out]; simp [Kr.dec2, hm])
      have hb3 := zero_box3 hb2 (.slice none 0 0) (.slice none 0 0) (.slice none 0 0)
      clear hm hk2 hR2 hb2
      go_wp2_with fail
      refine bodyPost_ret (v := .tuple #[.agg #[.slice none 0 0, .slice none 0 0, .slice none 0 0], .int .i64 10]) (by simp [results, Try.results12, go_sem, c0, c1, c2]) rfl ?_
      exact ⟨.inl ⟨by rw [HE.out]; simp, by rw [HE.out]⟩, hb3⟩
end Go.Proofs.Ytjgagbhbgehmpaa

/- The walk of the law KeepEncodes. -/
import Derived.Test.YtjgagbhbgehmpaaAwakeK
namespace Go.Proofs.Ytjgagbhbgehmpaa
open Go.RowKit

/-- A call that ends in the fixed answer. -/
theorem enc_byte (s : Sav) : ∀ x ∈ Kp.enc s, 0 ≤ x ∧ x ≤ 255 := fun x hx => by
  rcases List.mem_append.1 hx with h | h
  · exact Kp.body_byte _ x h
  · exact Fp.big_byte _ _ x h
theorem enc_len_tiny {s : Sav} (h : s.tiny) : (Kp.enc s).length ≤ 20000000 := by
  obtain ⟨h1, h2, h3, h4, h5⟩ := h
  have a := Kp.tens_len' h4
  have b := Kp.cells_len' h5
  have c := Kp.mets_len s.m
  simp only [Kp.enc, Kp.body, List.length_append, Kp.head_len, Fp.big_length]
  omega
theorem tiny_ok {s : Sav} (h : s.tiny) : s.ok := by
  obtain ⟨h1, h2, h3, h4, h5⟩ := h
  exact ⟨by omega, by omega, by omega, fun t ht => by have := h4 t ht; omega, fun t ht => by have := h5 t ht; omega⟩
/-- The numbers of what came in are numbers of the machine. -/
def Sav.wide (s : Sav) : Prop := (∀ t ∈ s.p, ∀ z ∈ t.c, Kq.inR z) ∧ (∀ t ∈ s.v, ∀ z ∈ t.c, Kq.inR z) ∧ ∀ m ∈ s.m, ∀ z ∈ m.l, Kq.inR z

set_option maxHeartbeats 4000000 in
set_option maxRecDepth 100000 in
theorem walkKeepEncodes (w : World) (P V M : Option Addr) (c1 c2 c3 : Nat) (s : Sav) (hp : s.p.length ≤ 3000000000000) (hv : s.v.length ≤ 3000000000000) (hm : s.m.length ≤ 3000000000000) (hS : SavR w P V M s) (hw : s.wide) :
    Calls Try.prog 3 #[.agg #[.slice P s.p.length c1, .slice V s.v.length c2, .slice M s.m.length c3]] w fun e w' => e = .returned (.bool true) ∧ Below w.heap.size w w' := by
  have hk0 := Blk.new w 27 #[.slice P s.p.length c1, .slice V s.v.length c2, .slice M s.m.length c3]
  have hb0 : Below w.heap.size w (w.alloc (.cells #[.slice P s.p.length c1, .slice V s.v.length c2, .slice M s.m.length c3] 27)) := (Below.refl _ _).alloc (Nat.le_refl _) _
  have Hk0 := Lib.hid hk0
  have HS := Lib.hid hS
  have Hw := Lib.hid hw
  clear hk0 hS hw
  go_enter Try.func3, Try.ntmps3
  go_wp2_with fail
  refine (law_small P V M c1 c2 c3 s _ (by omega) (by omega) (HS.out.below hb0 (Nat.le_refl _))).mono ?_
  rintro e w1 ⟨rfl, h1⟩
  have hk1 := Hk0.out.below h1 Hk0.out.lt
  have hb1 := hb0.trans (h1.mono hb0.size)
  clear h1 hb0 Hk0
  cases hsm : Lw.small s
  · clear hk1
    go_wp2_with fail
    refine (awake27 _).mono ?_
    rintro e w2 ⟨rfl, h2⟩
    have hb2 := hb1.trans (h2.mono hb1.size)
    go_wp2_with fail
    go_ret
    exact ⟨rfl, hb2⟩
  have e0 := hk1.cell 0
  have e1 := hk1.cell 1
  have e2 := hk1.cell 2
  simp at e0 e1 e2
  have Hk1 := Lib.hid hk1
  clear hk1
  go_wp2_with fail
  refine (keep_encode P V M c1 c2 c3 s _ (by omega) (by omega) (by omega) (HS.out.below hb1 (Nat.le_refl _))).mono ?_
  rintro e w2 ⟨hcase, h2⟩
  have hk2 := Hk1.out.below h2 Hk1.out.lt
  have hb2 := hb1.trans (h2.mono hb1.size)
  clear h2 hb1 Hk1 e0 e1 e2
  have e0 := hk2.cell 0
  have e1 := hk2.cell 1
  have e2 := hk2.cell 2
  simp at e0 e1 e2
  have Hk2 := Lib.hid hk2
  clear hk2
  cases ha : Tn.alike s.p s.v
  · have HE := Lib.hid (Kp.err_shape ha)
    have HZ := Lib.hid (show Kp.size s = 0 by simp [Kp.size, HE.out])
    rcases hcase with ⟨_, rfl⟩ | ⟨he, _⟩
    case inr => rw [HE.out] at he; exact absurd he (by decide)
    rw [HE.out]
    have Ha := Lib.hid ha
    clear ha
    go_wp2_with fail
    refine (state_right P V c1 c2 s.p s.v _ (by omega) (by omega) (HS.out.1.below hb2 (Nat.le_refl _)) (HS.out.2.1.below hb2 (Nat.le_refl _))).mono ?_
    rintro e w3 ⟨rfl, h3⟩
    rw [Ha.out]
    have hk3 := Hk2.out.below h3 Hk2.out.lt
    have hb3 := hb2.trans (h3.mono hb2.size)
    clear h3 hb2 e0 e1 e2 Hk2
    have e0 := hk3.cell 0
    have e1 := hk3.cell 1
    have e2 := hk3.cell 2
    simp at e0 e1 e2
    go_wp2_with fail
    refine (keep_size P V M c1 c2 c3 s _ (by omega) (by omega) (by omega) (HS.out.below hb3 (Nat.le_refl _))).mono ?_
    rintro e w4 ⟨rfl, h4⟩
    rw [HZ.out]
    have hb4 := hb3.trans (h4.mono hb3.size)
    clear h4 hb3 e0 e1 e2 hk3
    go_wp2_with fail
    refine (awake27 _).mono ?_
    rintro e w5 ⟨rfl, h5⟩
    have hb5 := hb4.trans (h5.mono hb4.size)
    go_wp2_with fail
    go_ret
    exact ⟨rfl, hb5⟩
  · have htn := Lw.small_tiny hsm ha (by omega)
    have hen := enc_len_tiny htn
    have herr : Kp.err s = 0 := Kp.err_ok ha (by
      obtain ⟨_, _, _, _, _⟩ := htn
      have hll := (Kp.alike_all ha).1
      simp only [Lw.small, Bool.and_eq_true, decide_eq_true_eq] at hsm
      have r1 := Lw.raw_le (Kp.alike_all ha).2.1
      have r2 := Lw.raw_le (Kp.alike_all ha).2.2.1
      have r3 := Lw.raw_ge s.p
      have r4 := Lw.raw_ge s.v
      have := hsm.1
      unfold Lw.sz at this
      rw [wrap_in (Lw.raw s.p) (by omega) (by omega), wrap_in (Lw.raw s.v) (by omega) (by omega), wrap_in _ (by omega) (by omega)] at this
      omega) (by have := htn.2.2.1; omega)
    have HO := Lib.hid (Kq.err_okS herr Hw.out)
    have HZ := Lib.hid (show Kp.size s = (Kp.enc s).length by simp [Kp.size, herr])
    have HTN := Lib.hid htn
    rcases hcase with ⟨he, _⟩ | ⟨_, A2, c4, rfl, hI2, hc2⟩
    case inl => exact absurd herr he
    have Ha := Lib.hid ha
    have HI2 := Lib.hid hI2
    clear ha hI2
    clear herr htn hsm
    go_wp2_with fail
    refine (state_right P V c1 c2 s.p s.v _ (by omega) (by omega) (HS.out.1.below hb2 (Nat.le_refl _)) (HS.out.2.1.below hb2 (Nat.le_refl _))).mono ?_
    rintro e w3 ⟨rfl, h3⟩
    rw [Ha.out]
    have hk3 := Hk2.out.below h3 Hk2.out.lt
    have hb3 := hb2.trans (h3.mono hb2.size)
    have hI3 := HI2.out.below h3 (Nat.le_refl _)
    have Hk3 := Lib.hid hk3
    have HI3 := Lib.hid hI3
    clear hk3 hI3
    clear h3 hb2 e0 e1 e2 Hk2 HI2
    go_wp2_with fail
    refine (keep_decode A2 c4 (Kp.enc s) _ HI3.out hc2 (by omega) (enc_byte s)).mono ?_
    rintro e w4 ⟨hcase, h4⟩
    rw [Kq.decode_enc HO.out] at hcase
    rcases hcase with ⟨he, _⟩ | ⟨_, P4, V4, M4, d1, d2, d3, rfl, hS4⟩
    case inl => exact absurd rfl he
    simp only at hS4 ⊢
    have h45 : Below w4.heap.size w4 (w4.alloc (.cells #[.slice P4 s.p.length d1, .slice V4 s.v.length d2, .slice M4 s.m.length d3] 27)) := (Below.refl _ w4).alloc (Nat.le_refl _) _
    have h35 := h4.trans (h45.mono h4.size)
    have hS5 := hS4.below h45 (Nat.le_refl _)
    have hr5 := Blk.new w4 27 #[.slice P4 s.p.length d1, .slice V4 s.v.length d2, .slice M4 s.m.length d3]
    have hI5 := HI3.out.below h35 (Nat.le_refl _)
    have hk5 := Hk3.out.below h35 Hk3.out.lt
    have hb5 := hb3.trans (h35.mono hb3.size)
    have HS5 := Lib.hid hS5
    have Hr5 := Lib.hid hr5
    have HI5 := Lib.hid hI5
    have Hk5 := Lib.hid hk5
    clear hS5 hr5 hI5 hk5
    clear h4 hS4 h45 h35 HI3 Hk3 hb3
    go_wp2_with fail
    show Code.wp _ _ _ _ (w4.alloc (.cells #[.slice P4 s.p.length d1, .slice V4 s.v.length d2, .slice M4 s.m.length d3] 27))
    generalize w4.alloc (.cells #[.slice P4 s.p.length d1, .slice V4 s.v.length d2, .slice M4 s.m.length d3] 27) = w5 at *
    generalize w4.heap.size = r at *
    have hkeep : ∀ W, Below w5.heap.size w5 W → W.cell? ⟨w.heap.size, 0, none⟩ = some (.slice P s.p.length c1) ∧ W.cell? ⟨w.heap.size, 1, none⟩ = some (.slice V s.v.length c2) ∧ W.cell? ⟨w.heap.size, 2, none⟩ = some (.slice M s.m.length c3) ∧ W.cell? ⟨r, 0, none⟩ = some (.slice P4 s.p.length d1) ∧ W.cell? ⟨r, 1, none⟩ = some (.slice V4 s.v.length d2) ∧ W.cell? ⟨r, 2, none⟩ = some (.slice M4 s.m.length d3) ∧ (convert 30 9 (.slice A2 (Kp.enc s).length c4)).run Try.prog W = .ok (.string (strOfNums (Kp.enc s))) W := fun W hW =>
      have a := Hk5.out.below hW Hk5.out.lt
      have b := Hr5.out.below hW Hr5.out.lt
      ⟨a.cell 0, a.cell 1, a.cell 2, b.cell 0, b.cell 1, b.cell 2, run_string_of c4 30 5 9 Try.underlying30 Try.underlying5 Try.underlying9 (HI5.out.below hW (Nat.le_refl _))⟩
    have hsW : ∀ W, Below w5.heap.size w5 W → SavR W P V M s := fun W hW => (HS.out.below hb5 (Nat.le_refl _)).below hW (Nat.le_refl _)
    have hsE : ∀ W, Below w5.heap.size w5 W → Calls Try.prog 14 #[.agg #[.slice P4 s.p.length d1, .slice V4 s.v.length d2, .slice M4 s.m.length d3], .agg #[.slice P s.p.length c1, .slice V s.v.length c2, .slice M s.m.length c3]] W fun e w' => e = .returned (.bool true) ∧ Below W.heap.size W w' := fun W hW => by
      have := saved_equal P4 V4 M4 P V M d1 d2 d3 c1 c2 c3 s s W (tiny_ok HTN.out) (tiny_ok HTN.out) (HS5.out.below hW (Nat.le_refl _)) (hsW W hW)
      rwa [(Sav.eq_iff s s).2 rfl] at this
    have hsZ : ∀ W, Below w5.heap.size w5 W → Calls Try.prog 11 #[.agg #[.slice P s.p.length c1, .slice V s.v.length c2, .slice M s.m.length c3]] W fun e w' => e = .returned (.int .i64 (Kp.enc s).length) ∧ Below W.heap.size W w' := fun W hW => by
      have := keep_size P V M c1 c2 c3 s W (by omega) (by omega) (by omega) (hsW W hW)
      rwa [HZ.out] at this
    have hsB : ∀ W, Below w5.heap.size w5 W → Calls Try.prog 13 #[.agg #[.slice P s.p.length c1, .slice V s.v.length c2, .slice M s.m.length c3]] W fun e w' => e = .returned (.string (strOfNums (Kp.enc s))) ∧ Below W.heap.size W w' := fun W hW => law_bytes P V M c1 c2 c3 s W HTN.out (hsW W hW)
    obtain ⟨a0, a1, a2, a3, a4, a5, a6⟩ := hkeep _ ((Below.refl _ _).drew)
    have Hkeep := Lib.hid hkeep
    have HsE := Lib.hid hsE
    have HsZ := Lib.hid hsZ
    have HsB := Lib.hid hsB
    clear hkeep hsE hsZ hsB
    clear hsW
    have hbd : Below w5.heap.size w5 w5.drew := (Below.refl _ _).drew
    generalize strOfNums (Kp.enc s) = se at *
    go_region_held3 (fun W => W.cell? ⟨w.heap.size, 0, none⟩ = some (.slice P s.p.length c1) ∧ W.cell? ⟨w.heap.size, 1, none⟩ = some (.slice V s.v.length c2) ∧ W.cell? ⟨w.heap.size, 2, none⟩ = some (.slice M s.m.length c3) ∧ W.cell? ⟨r, 0, none⟩ = some (.slice P4 s.p.length d1) ∧ W.cell? ⟨r, 1, none⟩ = some (.slice V4 s.v.length d2) ∧ W.cell? ⟨r, 2, none⟩ = some (.slice M4 s.m.length d3) ∧ (convert 30 9 (.slice A2 (Kp.enc s).length c4)).run Try.prog W = .ok (.string se) W) (first | exact Hkeep.out _ hbx | exact Hkeep.out _ hbc | exact Hkeep.out _ hbb | exact Hkeep.out _ hba | exact Hkeep.out _ hbd)
      (first
        | (go_at_call 13; refine (HsB.out _ hbd).mono ?_; rintro e wa ⟨rfl, ha⟩; have hba := hbd.trans (ha.mono hbd.size))
        | (go_at_call 11; refine (HsZ.out _ hba).mono ?_; rintro e wb ⟨rfl, hb⟩; have hbb := hba.trans (hb.mono hba.size))
        | (go_at_call 14; refine (HsE.out _ hbb).mono ?_; rintro e wc ⟨rfl, hc⟩; have hbc := hbb.trans (hc.mono hbb.size))
        | (go_at_call 8; refine (awake27 _).mono ?_; rintro e wx ⟨rfl, hx⟩; have hbx := hbc.trans (hx.mono hbc.size)))
    have hbf := hb5.trans (hbx.mono hb5.size)
    clear a0 a1 a2 a3 a4 a5 a6
    go_wp2_with fail
    go_ret
    exact ⟨rfl, hbf⟩
end Go.Proofs.Ytjgagbhbgehmpaa

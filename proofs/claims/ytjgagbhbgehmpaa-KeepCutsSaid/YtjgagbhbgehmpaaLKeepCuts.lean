/- The walk of the law KeepCuts. -/
import Derived.Test.YtjgagbhbgehmpaaLKeepC
import Derived.WalkSpells
namespace Go.Proofs.Ytjgagbhbgehmpaa
open Go.RowKit

theorem str_extract (a b : List Int) : (strOfNums (a ++ b)).extract 0 a.length = strOfNums a := by
  rw [strOfNums_append]
  apply ByteArray.ext
  simp [strOfNums, ByteArray.data_extract]

theorem str_take (l : List Int) (n : Nat) (h : n ≤ l.length) : (strOfNums l).extract 0 n = strOfNums (l.take n) := by
  have := str_extract (l.take n) (l.drop n)
  rwa [List.take_append_drop, List.length_take, Nat.min_eq_left h] at this
theorem str_other (l : List Int) : (⟨#[65, 84, 72, 84]⟩ : ByteArray) ++ (strOfNums l).extract 4 l.length = strOfNums ([65, 84, 72, 84] ++ l.drop 4) := by
  rw [strOfNums_append]
  congr 1
  apply ByteArray.ext
  simp [strOfNums, ByteArray.data_extract]
  rw [List.take_of_length_le (by simp)]
theorem cut_code {s : Sav} (h : Kq.okS s) {n : Nat} (h4 : 4 ≤ n) (hn : n ≤ (Kp.body s).length) : (Kr.decode ((Kp.body s).take n ++ Fp.big (Fp.sum ((Kp.body s).take n)) 4)).1 = if n = (Kp.body s).length then 0 else 16 := by
  by_cases hc : n = (Kp.body s).length
  · rw [if_pos hc, hc, List.take_length]
    have := Kq.decode_enc h
    rw [Kp.enc] at this
    rw [this]
  · rw [if_neg hc]
    exact Kq.decode_cut h (List.take_append_drop n _) (by intro e; have := congrArg List.length e; rw [List.length_drop] at this; simp at this; omega) (by rw [List.length_take]; omega)
theorem other_code (l : List Int) : (Kr.decode (([65, 84, 72, 84] ++ l.drop 4) ++ Fp.big (Fp.sum ([65, 84, 72, 84] ++ l.drop 4)) 4)).1 = 10 :=
  Kq.decode_other rfl (by decide)
theorem byte_of' {bs : List Int} (h : ∀ n ∈ bs, (Lit.int .u8 n).wf = true) : ∀ x ∈ bs, 0 ≤ x ∧ x ≤ 255 := fun x hx => wf_bd8 (h x hx)
def DecQ (bs : List Int) (w : World) (e : Ending) (w' : World) : Prop :=
  ∃ P V M n1 n2 n3 c1 c2 c3, e = .returned (.tuple #[.agg #[.slice P n1 c1, .slice V n2 c2, .slice M n3 c3], .int .i64 (Kr.decode bs).1]) ∧ Below w.heap.size w w'
theorem decode_any (A : Option Addr) (c : Nat) (bs : List Int) (k : Nat) (w : World) (hk : bs.length = k) (hI : Ints .u8 w A bs) (hcap : k ≤ c) (hlen : k ≤ 1000000000) (hby : ∀ x ∈ bs, 0 ≤ x ∧ x ≤ 255) :
    Calls Try.prog 12 #[.slice A k c] w (DecQ bs w) := by
  subst hk
  refine (keep_decode A c bs w hI hcap hlen hby).mono ?_
  rintro e w1 ⟨⟨_, rfl⟩ | ⟨he, P, V, M, c1, c2, c3, rfl, _⟩, h1⟩
  · exact ⟨_, _, _, _, _, _, _, _, _, rfl, h1⟩
  · exact ⟨P, V, M, _, _, _, c1, c2, c3, by rw [he], h1⟩
theorem seal_byte {bs : List Int} (h : ∀ x ∈ bs, 0 ≤ x ∧ x ≤ 255) : ∀ x ∈ bs ++ Fp.big (Fp.sum bs) 4, 0 ≤ x ∧ x ≤ 255 := fun x hx => by
  rcases List.mem_append.1 hx with h' | h'
  · exact h x h'
  · exact Fp.big_byte _ _ x h'
theorem seal_len (bs : List Int) : (bs ++ Fp.big (Fp.sum bs) 4).length = bs.length + 4 := by rw [List.length_append, Fp.big_length]

set_option maxHeartbeats 4000000 in
set_option maxRecDepth 100000 in
theorem walkKeepCuts (w : World) (P V M : Option Addr) (c1 c2 c3 : Nat) (s : Sav) (hp : s.p.length ≤ 3000000000000) (hv : s.v.length ≤ 3000000000000) (hm : s.m.length ≤ 3000000000000) (hS : SavR w P V M s) (hw : s.wide)
    (cut : Int) (hcut : (Lit.int .i64 cut).wf = true) (A : Option Addr) (c : Nat) (bs : List Int) (hl : bs.length ≤ 9223372036854775807) (hI : Ints .u8 w A bs) (hbw : ∀ n ∈ bs, (Lit.int .u8 n).wf = true) :
    Calls Try.prog 5 #[.agg #[.slice P s.p.length c1, .slice V s.v.length c2, .slice M s.m.length c3], .int .i64 cut, .slice A bs.length c] w fun e w' => e = .returned (.bool true) ∧ Below w.heap.size w w' := by
  have hk0 := Blk.new w 27 #[.slice P s.p.length c1, .slice V s.v.length c2, .slice M s.m.length c3]
  have hb0 : Below w.heap.size w (w.alloc (.cells #[.slice P s.p.length c1, .slice V s.v.length c2, .slice M s.m.length c3] 27)) := (Below.refl _ _).alloc (Nat.le_refl _) _
  have ⟨hcl, hch⟩ := wf_bd hcut
  have Hk0 := Lib.hid hk0
  have HS := Lib.hid hS
  have Hw := Lib.hid hw
  have HI := Lib.hid hI
  have Hbw := Lib.hid hbw
  clear hk0 hS hw hI hbw
  clear hcut
  go_enter Try.func5, Try.ntmps5
  go_wp2_with fail
  refine (law_small P V M c1 c2 c3 s _ (by omega) (by omega) (HS.out.below hb0 (Nat.le_refl _))).mono ?_
  rintro e w1 ⟨rfl, h1⟩
  have hk1 := Hk0.out.below h1 Hk0.out.lt
  have hb1 := hb0.trans (h1.mono hb0.size)
  clear h1 hb0 Hk0
  cases hsm : Lw.small s
  · clear hk1
    go_wp2_with fail
    refine (awake27 _).mono ?_
    rintro e w2 ⟨rfl, h2⟩
    have hb2 := hb1.trans (h2.mono hb1.size)
    go_wp2_with fail
    go_ret
    exact ⟨rfl, hb2⟩
  have e0 := hk1.cell 0
  have e1 := hk1.cell 1
  simp at e0 e1
  have Hk1 := Lib.hid hk1
  clear hk1
  go_wp2_with fail
  refine (state_right P V c1 c2 s.p s.v _ (by omega) (by omega) (HS.out.1.below hb1 (Nat.le_refl _)) (HS.out.2.1.below hb1 (Nat.le_refl _))).mono ?_
  rintro e w2 ⟨rfl, h2⟩
  have hk2 := Hk1.out.below h2 Hk1.out.lt
  have hb2 := hb1.trans (h2.mono hb1.size)
  clear h2 hb1 Hk1 e0 e1
  cases ha : Tn.alike s.p s.v
  · clear hk2
    go_wp2_with fail
    refine (awake27 _).mono ?_
    rintro e w3 ⟨rfl, h3⟩
    have hb3 := hb2.trans (h3.mono hb2.size)
    go_wp2_with fail
    go_ret
    exact ⟨rfl, hb3⟩
  by_cases hm5 : 50 < bs.length
  · clear hk2
    go_wp2_with fail
    refine (awake27 _).mono ?_
    rintro e w3 ⟨rfl, h3⟩
    have hb3 := hb2.trans (h3.mono hb2.size)
    go_wp2_with fail
    go_ret
    exact ⟨rfl, hb3⟩
  have q5 : decide (50 < (bs.length : Int)) = false := by simp; omega
  have htn := Lw.small_tiny hsm ha (by omega)
  have herr : Kp.err s = 0 := small_err hsm ha (by omega)
  have hen := enc_len_tiny htn
  have HO := Lib.hid (Kq.err_okS herr Hw.out)
  have HT := Lib.hid htn
  have e0 := hk2.cell 0
  have e1 := hk2.cell 1
  have e2 := hk2.cell 2
  simp at e0 e1 e2
  clear hk2 ha hsm herr htn
  go_wp2_with fail
  refine (law_bytes P V M c1 c2 c3 s _ HT.out (HS.out.below hb2 (Nat.le_refl _))).mono ?_
  rintro e w3 ⟨rfl, h3⟩
  have hb3 := hb2.trans (h3.mono hb2.size)
  have hel : (Kp.enc s).length = (Kp.body s).length + 4 := by rw [Kp.enc, List.length_append, Fp.big_length]
  have hb4 := Kq.body_len4 s
  have hsx : (strOfNums (Kp.enc s)).size = (Kp.body s).length + 4 := by rw [strOfNums_size, hel]
  have HX := Lib.hid (show (strOfNums (Kp.enc s)).extract 0 (Kp.body s).length = strOfNums (Kp.body s) from str_extract _ _)
  have HB := Lib.hid (Kp.body_byte s)
  have hbl : (Kp.body s).length ≤ 20000000 := by omega
  clear h3 hb2 e0 e1 e2
  generalize strOfNums (Kp.enc s) = al at *
  go_wp2_with fail
  rw [HX.out]
  obtain ⟨n, hn, hn4, hnL⟩ : ∃ n : Nat, min (max cut 4) ((Kp.body s).length : Int) = n ∧ 4 ≤ n ∧ n ≤ (Kp.body s).length := ⟨(min (max cut 4) ((Kp.body s).length : Int)).toNat, by omega, by omega, by omega⟩
  rw [hn]
  have hbb := byte_of' Hbw.out
  have HL := Lib.hid (Kq.decode_long HO.out bs)
  have HQ := Lib.hid (cut_code HO.out hn4 hnL)
  have HR := Lib.hid (other_code (Kp.body s))
  have HE1 := Lib.hid (str_take (Kp.body s) n hnL)
  have HE2 := Lib.hid (strOfNums_append (Kp.body s) bs)
  have HE3 := Lib.hid (str_other (Kp.body s))
  have HB1 := Lib.hid (show ∀ x ∈ (Kp.body s).take n, 0 ≤ x ∧ x ≤ 255 from fun x hx => HB.out x (List.mem_of_mem_take hx))
  have HB2 := Lib.hid (show ∀ x ∈ Kp.body s ++ bs, 0 ≤ x ∧ x ≤ 255 from fun x hx => by rcases List.mem_append.1 hx with h | h; exact HB.out x h; exact hbb x h)
  have HB3 := Lib.hid (show ∀ x ∈ [65, 84, 72, 84] ++ (Kp.body s).drop 4, 0 ≤ x ∧ x ≤ 255 from fun x hx => by rcases List.mem_append.1 hx with h | h; (simp at h; omega); exact HB.out x (List.mem_of_mem_drop h))
  have hcv : ∀ W, Below w.heap.size w W → (convert 30 9 (.slice A bs.length c)).run Try.prog W = .ok (.string (strOfNums bs)) W := fun W hW =>
    run_string_of c 30 5 9 Try.underlying30 Try.underlying5 Try.underlying9 (HI.out.below hW (Nat.le_refl _))
  have l1 : ((Kp.body s).take n).length ≤ 100000000 := by rw [List.length_take]; omega
  have l2 : (Kp.body s ++ bs).length ≤ 100000000 := by rw [List.length_append]; omega
  have l3 : ([65, 84, 72, 84] ++ (Kp.body s).drop 4).length ≤ 100000000 := by rw [List.length_append, List.length_drop]; simp; omega
  have hsz : (strOfNums (Kp.body s)).size = (Kp.body s).length := strOfNums_size _
  have hmz : (strOfNums bs).size ≤ 50 := by rw [strOfNums_size]; omega
  generalize (Kp.body s).take n = X1 at *
  generalize Kp.body s ++ bs = X2 at *
  generalize [65, 84, 72, 84] ++ (Kp.body s).drop 4 = X3 at *
  generalize strOfNums (Kp.body s) = sb at *
  generalize strOfNums bs = mb at *
  generalize (Kp.body s).length = L at *
  clear hel HX hn hsx hen hbb HB HO HT Hbw
  have hx3 : (sb.extract 4 L).size = L - 4 := by simp [hsz]
  have c1' : ¬ 9223372036854775807 < L + mb.size := by omega
  have c2' : ¬ 9223372036854775807 < 4 + (L - 4) := by omega
  have c3' : (4 : Int) ≤ L := by omega
  have c4' : ¬ 9223372036854775807 < L := by omega
  have v1 : IntKind.i64.wrap (n : Int) = n := IntWalk.i64_in _ (by omega)
  have v2 : ((n : Int)).toNat = n := by omega
  have hbd := hb3.drew
  have a0 := hcv _ hbd
  have Hcv := Lib.hid hcv
  clear hcv
  go_region_held3 (fun W => (convert 30 9 (.slice A bs.length c)).run Try.prog W = .ok (.string mb) W) (exact Hcv.out _ hbd) (fail)
  rw [HE1.out, ← HE2.out, HE3.out]
  clear a0 c1' c2' c3' c4' HE1 HE2 HE3 hx3 hb3
  generalize w3.drew = w3' at *
  go_wp2_with fail
  refine (law_sealed X1 _ l1 HB1.out).mono ?_
  rintro e w4 ⟨A4, k4, rfl, hI4, hc4, h4⟩
  have hb4' := hbd.trans (h4.mono hbd.size)
  have HI4 := Lib.hid hI4
  clear hI4
  clear h4 hbd
  go_wp2_with fail
  refine (decode_any A4 k4 _ _ _ (seal_len X1) HI4.out hc4 (by omega) (seal_byte HB1.out)).mono ?_
  rintro e w5 ⟨P5, V5, M5, n51, n52, n53, c51, c52, c53, rfl, h5⟩
  have HF1 := HQ
  generalize (Kr.decode (X1 ++ Fp.big (Fp.sum X1) 4)).1 = f1 at *
  have hb5 := hb4'.trans (h5.mono hb4'.size)
  have hb5a := hb5.alloc hb5.size (.cells #[.slice P5 n51 c51, .slice V5 n52 c52, .slice M5 n53 c53] 27)
  clear HI4 h5 hb4' hc4 hb5
  go_wp2_with fail
  refine (law_sealed X2 _ l2 HB2.out).mono ?_
  rintro e w6 ⟨A6, k6, rfl, hI6, hc6, h6⟩
  have hb6 := hb5a.trans (h6.mono hb5a.size)
  have HI6 := Lib.hid hI6
  clear hI6
  clear h6 hb5a
  go_wp2_with fail
  refine (decode_any A6 k6 _ _ _ (seal_len X2) HI6.out hc6 (by omega) (seal_byte HB2.out)).mono ?_
  rintro e w7 ⟨P7, V7, M7, n71, n72, n73, c71, c72, c73, rfl, h7⟩
  have HF2 := Lib.hid (congrArg Prod.fst HL.out)
  generalize (Kr.decode (X2 ++ Fp.big (Fp.sum X2) 4)).1 = f2 at *
  have hb7 := hb6.trans (h7.mono hb6.size)
  have hb7a := hb7.alloc hb7.size (.cells #[.slice P7 n71 c71, .slice V7 n72 c72, .slice M7 n73 c73] 27)
  clear HI6 h7 hb6 hc6 hb7
  go_wp2_with fail
  refine (law_sealed X3 _ l3 HB3.out).mono ?_
  rintro e w8 ⟨A8, k8, rfl, hI8, hc8, h8⟩
  have hb8 := hb7a.trans (h8.mono hb7a.size)
  have HI8 := Lib.hid hI8
  clear hI8
  clear h8 hb7a
  go_wp2_with fail
  refine (decode_any A8 k8 _ _ _ (seal_len X3) HI8.out hc8 (by omega) (seal_byte HB3.out)).mono ?_
  rintro e w9 ⟨P9, V9, M9, n91, n92, n93, c91, c92, c93, rfl, h9⟩
  rw [HR.out]
  have hb9 := hb8.trans (h9.mono hb8.size)
  have hb9a := hb9.alloc hb9.size (.cells #[.slice P9 n91 c91, .slice V9 n92 c92, .slice M9 n93 c93] 27)
  clear HI8 h9 hb8 hc8 hb9
  have hf1 := HF1.out
  have hf2 := HF2.out
  by_cases hq : n = L
  · subst hq
    by_cases hz : bs.length = 0
    all_goals
      simp only [hz, if_true, if_false] at hf1 hf2
      subst hf1 hf2
      go_wp2_with fail
      refine (awake27 _).mono ?_
      rintro e w10 ⟨rfl, h10⟩
      have hb10 := hb9a.trans (h10.mono hb9a.size)
      go_wp2_with fail
      go_ret
      first
        | exact ⟨rfl, hb10⟩
        | (have hz0 : ((bs.length : Int) == 0) = false := by rw [beq_eq_false_iff_ne]; omega
           exact ⟨by show Ending.returned (.bool !((bs.length : Int) == 0)) = _; rw [hz0]; rfl, hb10⟩)
  · have hq' : ((n : Int) == L) = false := by simp; omega
    by_cases hz : bs.length = 0
    all_goals
      simp only [hz, hq, if_true, if_false] at hf1 hf2
      subst hf1 hf2
      go_wp2_with fail
      refine (awake27 _).mono ?_
      rintro e w10 ⟨rfl, h10⟩
      have hb10 := hb9a.trans (h10.mono hb9a.size)
      go_wp2_with fail
      go_ret
      first
        | exact ⟨rfl, hb10⟩
        | (have hz0 : ((bs.length : Int) == 0) = false := by rw [beq_eq_false_iff_ne]; omega
           exact ⟨by show Ending.returned (.bool !((bs.length : Int) == 0)) = _; rw [hz0]; rfl, hb10⟩)
end Go.Proofs.Ytjgagbhbgehmpaa

/- Lemmas for the statements of this seat: contracts of functions and the plain laws. -/
import Derived.Deep.RegionHeld3
import Derived.OrdersIn
import Derived.Test.YtbnnpkcfifejmaaZ08
set_option linter.unusedVariables false
/- Layer 7 (conv): plain facts of a frame that fits. -/
namespace Go.Proofs.Ytbnnpkcfifejmaa
open Go.RowKit
namespace Ly
structure Frame.Fit (f : Frame) : Prop where
  outs : 1 ≤ f.outs
  ins : 1 ≤ f.ins
  k0 : 1 ≤ f.k0
  k1 : 1 ≤ f.k1
  o0 : 1 ≤ f.o0
  o1 : 1 ≤ f.o1
  step : 1 ≤ f.step
  fit0 : (f.o0 - 1) * f.step + f.k0 ≤ f.i0
  fit1 : (f.o1 - 1) * f.step + f.k1 ≤ f.i1
  out : f.outs * f.o0 * f.o1 ≤ 65536
  wgt : f.outs * f.ins * (f.k0 * f.k1) ≤ 65536
  inp : f.ins * (f.i0 * f.i1) ≤ 65536
theorem le_mul_r {a b : Nat} (h : 1 ≤ b) : a ≤ a * b := by have := Nat.mul_le_mul_left a h; omega
theorem le_mul_l {a b : Nat} (h : 1 ≤ a) : b ≤ a * b := by have := Nat.mul_le_mul_right b h; omega
theorem Frame.Fit.small {f : Frame} (h : f.Fit) : f.Small := by
  obtain ⟨a1, a2, a3, a4, a5, a6, a7, b0, b1, c1, c2, c3⟩ := h
  have d1 : f.outs ≤ f.outs * f.o0 := le_mul_r a5
  have d2 : f.outs * f.o0 ≤ f.outs * f.o0 * f.o1 := le_mul_r a6
  have d3 : f.o0 ≤ f.outs * f.o0 := le_mul_l a1
  have d4 : 1 ≤ f.outs * f.o0 := by omega
  have d5 : f.o1 ≤ f.outs * f.o0 * f.o1 := le_mul_l d4
  have e1 : f.ins ≤ f.outs * f.ins := le_mul_l a1
  have e2 : 0 < f.k0 * f.k1 := Nat.mul_pos a3 a4
  have e3 : f.outs * f.ins ≤ f.outs * f.ins * (f.k0 * f.k1) := le_mul_r e2
  have e4 : f.k0 ≤ f.k0 * f.k1 := le_mul_r a4
  have e5 : f.k1 ≤ f.k0 * f.k1 := le_mul_l a3
  have e6 : f.k0 * f.k1 ≤ f.outs * f.ins * (f.k0 * f.k1) := le_mul_l (by omega)
  have g1 : f.i0 * f.i1 ≤ f.ins * (f.i0 * f.i1) := le_mul_l a2
  have g2 : (f.o0 - 1) * f.step * f.i1 ≤ f.i0 * f.i1 := Nat.mul_le_mul_right _ (by omega)
  have g3 : f.k0 * f.i1 ≤ f.i0 * f.i1 := Nat.mul_le_mul_right _ (by omega)
  have g4 : f.i1 ≤ f.i0 * f.i1 := le_mul_l (by omega)
  have g5 : f.i0 ≤ f.i0 * f.i1 := le_mul_r (by omega)
  exact ⟨by omega, by omega, by omega, by omega, by omega, by omega, by omega, by omega, e2, a6, by omega, by omega, by omega, by omega, by omega⟩
theorem Frame.Fit.pos {f : Frame} (h : f.Fit) : 0 < f.outs * f.ins := Nat.mul_pos h.outs h.ins
/-- Where the products lie. -/
theorem Frame.Fit.places {f : Frame} (h : f.Fit) : ∀ t ∈ f.all, t.o < f.outs * f.o0 * f.o1 ∧ t.w < f.outs * f.ins * (f.k0 * f.k1) ∧ t.x < f.ins * (f.i0 * f.i1) := by
  intro z hz
  simp only [Frame.all, Frame.cellT, Frame.rowT, List.mem_flatMap, List.mem_map, List.mem_range] at hz
  obtain ⟨p, hp, i, hi, j, hj, q, hq, t, ht, u, hu, rfl⟩ := hz
  refine ⟨?_, ?_, ?_⟩
  · show (p * f.o0 + i) * f.o1 + j < _
    have h1 : (p + 1) * f.o0 ≤ f.outs * f.o0 := Nat.mul_le_mul_right _ hp
    rw [Nat.succ_mul] at h1
    have h2 : (p * f.o0 + i + 1) * f.o1 ≤ f.outs * f.o0 * f.o1 := Nat.mul_le_mul_right _ (by omega)
    rw [Nat.succ_mul] at h2
    omega
  · show (p * f.ins + q) * (f.k0 * f.k1) + t * f.k1 + u < _
    have h1 : (p + 1) * f.ins ≤ f.outs * f.ins := Nat.mul_le_mul_right _ hp
    rw [Nat.succ_mul] at h1
    have h2 : (p * f.ins + q + 1) * (f.k0 * f.k1) ≤ f.outs * f.ins * (f.k0 * f.k1) := Nat.mul_le_mul_right _ (by omega)
    rw [Nat.succ_mul] at h2
    have h3 : (t + 1) * f.k1 ≤ f.k0 * f.k1 := Nat.mul_le_mul_right _ ht
    rw [Nat.succ_mul] at h3
    omega
  · show q * (f.i0 * f.i1) + (i * f.step * f.i1 + j * f.step) + t * f.i1 + u < _
    have h1 : (q + 1) * (f.i0 * f.i1) ≤ f.ins * (f.i0 * f.i1) := Nat.mul_le_mul_right _ hq
    rw [Nat.succ_mul] at h1
    have h2 : i * f.step ≤ (f.o0 - 1) * f.step := Nat.mul_le_mul_right _ (by omega)
    have h3 : j * f.step ≤ (f.o1 - 1) * f.step := Nat.mul_le_mul_right _ (by omega)
    have b0 := h.fit0
    have b1 := h.fit1
    have h4 : (i * f.step + t + 1) * f.i1 ≤ f.i0 * f.i1 := Nat.mul_le_mul_right _ (by omega)
    rw [Nat.succ_mul, Nat.add_mul] at h4
    omega
end Ly
end Go.Proofs.Ytbnnpkcfifejmaa
/- Layer 7 (conv): a good shape gives a frame that fits. -/
namespace Go.Proofs.Ytbnnpkcfifejmaa
open Go.RowKit
namespace Ly
theorem window_fit {s w st : Int} (h : (Od.window s w st).2 = 0) : ∃ n : Nat, (Od.window s w st).1 = (n : Int) ∧ 1 ≤ n ∧ (n - 1) * st.toNat + w.toNat ≤ s.toNat ∧ 1 ≤ st := by
  have hw := Od.window_ok h
  unfold Od.window at h hw ⊢
  split at h
  · rename_i hc
    rw [if_pos hc] at hw ⊢
    simp only [Sh.side_iff] at hc
    simp only at hw ⊢
    have h1 : 0 ≤ (s - w).tdiv st := Int.tdiv_nonneg (by omega) (by omega)
    obtain ⟨d, hd⟩ := Int.eq_ofNat_of_zero_le h1
    refine ⟨1 + d, by rw [hd]; simp, by omega, ?_, by omega⟩
    have h4 := Int.ediv_mul_le (s - w) (show st ≠ 0 by omega)
    rw [Int.tdiv_eq_ediv_of_nonneg (by omega)] at hd
    rw [hd] at h4
    obtain ⟨st', rfl⟩ := Int.eq_ofNat_of_zero_le (show 0 ≤ st by omega)
    have h5 : ((d * st' : Nat) : Int) = (d : Int) * (st' : Int) := by simp
    have h6 : (1 + d - 1) * (st' : Int).toNat = d * st' := by rw [Nat.add_sub_cancel_left, Int.toNat_natCast]
    rw [h6]
    omega
  · simp at h
theorem conv_fit {ws xs : List Int} {step : Int} (h : (Od.conv ws xs step).2 = 0) :
    1 ≤ step ∧ (frame ws xs (Od.conv ws xs step).1 step).Fit ∧
    ((∃ a b k i o : Nat, ws = [(a : Int), b, k] ∧ xs = [(b : Int), i] ∧ (Od.conv ws xs step).1 = [(a : Int), o]) ∨
     (∃ a b k kk i ii o oo : Nat, ws = [(a : Int), b, k, kk] ∧ xs = [(b : Int), i, ii] ∧ (Od.conv ws xs step).1 = [(a : Int), o, oo])) := by
  have hset : Od.conv ws xs step = Od.conv ws xs step := rfl
  unfold Od.conv at h
  split at h
  · rename_i hc
    simp only [Bool.and_eq_true, decide_eq_true_eq] at hc
    split at h
    · rename_i hall
      split at h
      · rename_i hr
        have hout : (Od.conv ws xs step).1 = Od.outs ws xs step (xs.length - 1) := by
          unfold Od.conv
          rw [if_pos (by simpa using hc), if_pos hall, if_pos hr]
        rw [hout]
        obtain ⟨⟨hw, hx⟩, l2, l3, lw, heq⟩ := hc
        obtain ⟨_, _, _, aw, _, pw⟩ := Sh.right_mul hw
        obtain ⟨_, _, _, ax, _, px⟩ := Sh.right_mul hx
        obtain ⟨_, _, _, ao, _, po⟩ := Sh.right_mul hr
        simp only [List.all_eq_true, List.mem_range, decide_eq_true_eq] at hall
        clear h hset
        match xs, l2, l3 with
        | [b, i], _, _ =>
          match ws, lw with
          | [a, b', k], _ =>
            simp at heq
            subst heq
            obtain ⟨n, hn, n1, n2, n3⟩ := window_fit (hall 0 (by simp))
            have hE : Od.outs [a, b', k] [b', i] step ([b', i].length - 1) = [a, (n : Int)] := by
              simp [Od.outs, Od.wn, List.range_succ] at hn ⊢; exact hn
            rw [hE] at ao po ⊢
            simp [Safe.prod] at ao po pw px aw ax n2
            clear hn hE hall hout hr hw hx lw
            obtain ⟨a, rfl⟩ := Int.eq_ofNat_of_zero_le (show 0 ≤ a by omega)
            obtain ⟨b, rfl⟩ := Int.eq_ofNat_of_zero_le (show 0 ≤ b' by omega)
            obtain ⟨k, rfl⟩ := Int.eq_ofNat_of_zero_le (show 0 ≤ k by omega)
            obtain ⟨i, rfl⟩ := Int.eq_ofNat_of_zero_le (show 0 ≤ i by omega)
            refine ⟨n3, ?_, .inl ⟨a, b, k, i, n, rfl, rfl, rfl⟩⟩
            have hf : frame [(a : Int), b, k] [(b : Int), i] [(a : Int), n] step = ⟨a, b, 1, k, 1, i, 1, n, step.toNat⟩ := by simp [frame, last2, side, at_]
            rw [hf]
            rw [← Int.natCast_mul] at po px
            rw [← Int.natCast_mul, ← Int.natCast_mul, ← Nat.mul_assoc] at pw
            refine ⟨by simp; omega, by simp; omega, by simp, by simp; omega, by simp, by simp; omega, by simp; omega, by simp, by simp at n2 ⊢; omega, by simp; omega, by simp; omega, by simp; omega⟩
        | [b, i, ii], _, _ =>
          match ws, lw with
          | [a, b', k, kk], _ =>
            simp at heq
            subst heq
            obtain ⟨n, hn, n1, n2, n3⟩ := window_fit (hall 0 (by simp))
            obtain ⟨m, hm, m1, m2, m3⟩ := window_fit (hall 1 (by simp))
            have hE : Od.outs [a, b', k, kk] [b', i, ii] step ([b', i, ii].length - 1) = [a, (n : Int), (m : Int)] := by
              simp [Od.outs, Od.wn, List.range_succ] at hn hm ⊢; exact ⟨hn, hm⟩
            rw [hE] at ao po ⊢
            simp [Safe.prod] at ao po pw px aw ax n2 m2
            clear hn hm hE hall hout hr hw hx lw
            obtain ⟨a, rfl⟩ := Int.eq_ofNat_of_zero_le (show 0 ≤ a by omega)
            obtain ⟨b, rfl⟩ := Int.eq_ofNat_of_zero_le (show 0 ≤ b' by omega)
            obtain ⟨k, rfl⟩ := Int.eq_ofNat_of_zero_le (show 0 ≤ k by omega)
            obtain ⟨kk, rfl⟩ := Int.eq_ofNat_of_zero_le (show 0 ≤ kk by omega)
            obtain ⟨i, rfl⟩ := Int.eq_ofNat_of_zero_le (show 0 ≤ i by omega)
            obtain ⟨ii, rfl⟩ := Int.eq_ofNat_of_zero_le (show 0 ≤ ii by omega)
            refine ⟨n3, ?_, .inr ⟨a, b, k, kk, i, ii, n, m, rfl, rfl, rfl⟩⟩
            have hf : frame [(a : Int), b, k, kk] [(b : Int), i, ii] [(a : Int), n, m] step = ⟨a, b, k, kk, i, ii, n, m, step.toNat⟩ := by simp [frame, last2, side, at_]
            rw [hf]
            rw [← Int.natCast_mul, ← Int.natCast_mul] at px
            rw [← Int.natCast_mul, ← Int.natCast_mul, ← Nat.mul_assoc] at po
            rw [← Int.natCast_mul, ← Int.natCast_mul, ← Int.natCast_mul, ← Nat.mul_assoc] at pw
            refine ⟨by simp; omega, by simp; omega, by simp; omega, by simp; omega, by simp; omega, by simp; omega, by simp; omega, by simp at n2 ⊢; omega, by simp at m2 ⊢; omega, by simp; omega, by simp; omega, by simp; omega⟩
      · simp at h
    · simp at h
  · simp at h
end Ly
end Go.Proofs.Ytbnnpkcfifejmaa
/- Layer 7 (conv): Touch: contract. -/
namespace Go.Proofs.Ytbnnpkcfifejmaa
open Go.RowKit
theorem Ints.spot {w : World} {a : Addr} {l : List Int} (h : Ints .i64 w (some a) l) (hl : 0 < l.length) : a.spot = none := by
  obtain ⟨b', o', e, -, -⟩ := h 0 hl
  injection e with e; rw [e]
theorem Ints.some_ {w : World} {A : Option Addr} {l : List Int} (h : Ints .i64 w A l) (hl : 0 < l.length) : ∃ a, A = some a := by
  obtain ⟨b', o', e, -, -⟩ := h 0 hl
  exact ⟨_, e⟩
theorem conv_sides {ws xs : List Int} {step : Int} (h : (Od.conv ws xs step).2 = 0) : (∀ z ∈ ws, 1 ≤ z ∧ z ≤ 1024) ∧ ∀ z ∈ xs, 1 ≤ z ∧ z ≤ 1024 := by
  unfold Od.conv at h
  split at h
  · rename_i hc
    simp only [Bool.and_eq_true, decide_eq_true_eq] at hc
    exact ⟨(Sh.right_mul hc.1.1).2.2.2.1, (Sh.right_mul hc.1.2).2.2.2.1⟩
  · simp at h
set_option maxHeartbeats 1000000 in
theorem conv_touch (A B : Option Addr) (c d : Nat) (ws xs : List Int) (step : Int) (w : World) (hc : ws.length ≤ c) (hd : xs.length ≤ d) (hd' : d ≤ 9223372036854775807) (hI : Ints .i64 w A ws) (hJ : Ints .i64 w B xs) (h : (Od.conv ws xs step).2 = 0) :
    Calls Try.prog 51 #[.slice A ws.length c, .slice B xs.length d, .int .i64 step] w fun e w' =>
      e = .returned (.func (.func 81) #[(Ly.frame ws xs (Od.conv ws xs step).1 step).V] #[]) ∧ Below w.heap.size w w' := by
  obtain ⟨hst, hfit, hcase⟩ := Ly.conv_fit h
  have hsd := conv_sides h
  have hl : ws.length ≤ 4 ∧ xs.length ≤ 4 := by
    rcases hcase with ⟨_, _, _, _, _, rfl, rfl, _⟩ | ⟨_, _, _, _, _, _, _, _, rfl, rfl, _⟩ <;> simp
  have hcall := conv_shape A B c d ws xs step w (by omega) (by omega) hd hd' hI hJ
  obtain ⟨st, rfl⟩ := Int.eq_ofNat_of_zero_le (show 0 ≤ step by omega)
  rcases hcase with ⟨a, b, k, i, o, rfl, rfl, ho⟩ | ⟨a, b, k, kk, i, ii, o, oo, rfl, rfl, ho⟩
  · obtain ⟨W, rfl⟩ := hI.some_ (by simp)
    obtain ⟨X, rfl⟩ := hJ.some_ (by simp)
    have hf : Ly.frame [(a : Int), b, k] [(b : Int), i] (Od.conv [(a : Int), b, k] [(b : Int), i] st).1 st = ⟨a, b, 1, k, 1, i, 1, o, st⟩ := by rw [ho]; simp [Ly.frame, Ly.last2, Ly.side, Ly.at_]
    rw [hf] at hfit ⊢
    obtain ⟨r, hr⟩ : ∃ r, Od.conv [(a : Int), b, k] [(b : Int), i] st = r := ⟨_, rfl⟩
    rw [hr] at hcall h ho
    obtain ⟨r1, r2⟩ := r
    simp only at h ho
    subst h ho
    have hki : 1 ≤ (k : Int) ∧ (k : Int) ≤ 1024 := hsd.1 _ (by simp)
    have hii : 1 ≤ (i : Int) ∧ (i : Int) ≤ 1024 := hsd.2 _ (by simp)
    have HF := Lib.hid hf
    clear hf hr
    have HI := Lib.hid hI
    have HJ := Lib.hid hJ
    have Hcall := Lib.hid hcall
    have Hfit := Lib.hid hfit
    clear hI hJ hcall hfit
    go_enter Try.func51, Try.ntmps51
    go_wp2_with fail
    refine (Hcall.out).mono ?_
    rintro e w1 ⟨S, sc, rfl, hS, hS1, hS2, hS3, hb⟩
    obtain ⟨O, rfl⟩ := hS.some_ (by simp)
    have hcall2 := frame_one W X O c d sc a b k i o st w1 (HI.out.spot (by simp)) (HJ.out.spot (by simp)) (hS.spot (by simp)) (HI.out.below hb (Nat.le_refl _)) (HJ.out.below hb (Nat.le_refl _)) hS hc hd hS1 (by omega) (by omega)
    go_wp2_with fail
    refine (hcall2).mono ?_
    rintro e w2 ⟨rfl, hb2⟩
    go_wp2_with fail
    go_ret
    exact ⟨by simp [Ly.Frame.V], hb.trans (hb2.mono hb.size)⟩
  · obtain ⟨W, rfl⟩ := hI.some_ (by simp)
    obtain ⟨X, rfl⟩ := hJ.some_ (by simp)
    have hf : Ly.frame [(a : Int), b, k, kk] [(b : Int), i, ii] (Od.conv [(a : Int), b, k, kk] [(b : Int), i, ii] st).1 st = ⟨a, b, k, kk, i, ii, o, oo, st⟩ := by rw [ho]; simp [Ly.frame, Ly.last2, Ly.side, Ly.at_]
    rw [hf] at hfit ⊢
    obtain ⟨r, hr⟩ : ∃ r, Od.conv [(a : Int), b, k, kk] [(b : Int), i, ii] st = r := ⟨_, rfl⟩
    rw [hr] at hcall h ho
    obtain ⟨r1, r2⟩ := r
    simp only at h ho
    subst h ho
    have hkk : 0 ≤ (k : Int) * kk ∧ (k : Int) * kk ≤ 1048576 := by
      have h1 := hfit.wgt
      have h2 : k * kk ≤ a * b * (k * kk) := Ly.le_mul_l hfit.pos
      simp at h1
      rw [← Int.natCast_mul]; omega
    have hii : 0 ≤ (i : Int) * ii ∧ (i : Int) * ii ≤ 1048576 := by
      have h1 := hfit.inp
      have h2 : i * ii ≤ b * (i * ii) := Ly.le_mul_l hfit.ins
      simp at h1
      rw [← Int.natCast_mul]; omega
    clear hf hr
    have HI := Lib.hid hI
    have HJ := Lib.hid hJ
    have Hcall := Lib.hid hcall
    have Hfit := Lib.hid hfit
    clear hI hJ hcall hfit
    go_enter Try.func51, Try.ntmps51
    go_wp2_with fail
    refine (Hcall.out).mono ?_
    rintro e w1 ⟨S, sc, rfl, hS, hS1, hS2, hS3, hb⟩
    obtain ⟨O, rfl⟩ := hS.some_ (by simp)
    have hcall2 := frame_two W X O c d sc a b k kk i ii o oo st w1 (HI.out.spot (by simp)) (HJ.out.spot (by simp)) (hS.spot (by simp)) (HI.out.below hb (Nat.le_refl _)) (HJ.out.below hb (Nat.le_refl _)) hS hc hd hS1 hkk hii
    go_wp2_with fail
    refine (hcall2).mono ?_
    rintro e w2 ⟨rfl, hb2⟩
    go_wp2_with fail
    go_ret
    exact ⟨by simp [Ly.Frame.V], hb.trans (hb2.mono hb.size)⟩
end Go.Proofs.Ytbnnpkcfifejmaa
/- A region in the frame of a round: its walk outside of a round serves. -/
namespace Go.Proofs.Ytbnnpkcfifejmaa
open Go.RowKit
/-- Q at the normal end, nothing elsewhere. -/
def OnlyNormal (Q : Exit → Act → World → Prop) : Exit → Act → World → Prop
  | .normal, a, w => Q .normal a w
  | _, _, _ => False
theorem OnlyNormal.mk {Q : Exit → Act → World → Prop} {a : Act} {w : World} (h : Q .normal a w) : OnlyNormal Q .normal a w := h
theorem OnlyNormal.imp {Q : Exit → Act → World → Prop} : ∀ (e : Exit) (a : Act) (w : World), OnlyNormal Q e a w → Q e a w := fun e a w h => by
  cases e <;> first | exact h | exact (h : False).elim
theorem OnlyNormal.noOut {Q : Exit → Act → World → Prop} : ¬ LetsOut (NoPanic (OnlyNormal Q)) := fun ⟨_, _, h⟩ => h
/-- No operation of the region defers a call. -/
def noDefers (ops : Array Oper) : Bool := ops.toList.all fun o => match o.op with | .defer _ => false | _ => true
theorem noDefers_at {ops : Array Oper} (h : noDefers ops = true) {i : Nat} {o : Oper} (ho : ops[i]? = some o) : ∀ c, o.op ≠ .defer c := by
  intro c hc
  unfold noDefers at h
  rw [List.all_eq_true] at h
  have := h o (by rw [← Array.getElem?_toList] at ho; exact List.mem_of_getElem? ho)
  rw [hc] at this
  simp at this
section
variable {P : Program} {ops : Array Oper} {n l : Nat}
theorem opIn_of_op {o : Oper} (hd : ∀ c, o.op ≠ .defer c) {Q : Exit → Act → World → Prop} {K : Act → World → Prop} {a : Act} {w : World} (h : o.wp P a w K Q) : o.wpIn (Fence.wide.inRound l) n P a w K Q := by
  refine ⟨fun _ _ => trivial, ?_⟩
  unfold Oper.wp at h
  rw [Oper.semAt_eq _ _ _ hd]
  generalize (execOp a.eval o).run P w = r at *
  cases r with
  | ok x w' =>
    cases x <;> simp only [Oper.upon, Oper.uponIn] at h ⊢ <;> first
      | exact h
      | exact ⟨(fun hh => by cases hh), callsIn_wide.2 (Calls.mono h fun e w'' he => by cases e <;> exact he)⟩
      | exact ⟨(fun hh => by cases hh), fun c cs _ => let ⟨v, w', r, s⟩ := h c cs; ⟨v, w', r, stepsIn_wide.2 s⟩⟩
  | halt x w' => cases x <;> simp only [Oper.upon, Oper.uponIn] at h ⊢ <;> exact h
theorem opsIn_of_ops (hd : noDefers ops = true) {Q : Exit → Act → World → Prop} (hQ : ¬ LetsOut Q) : ∀ (is : List Nat) (a : Act) (w : World), wpOps P ops Q is a w → wpOpsIn (Fence.wide.inRound l) n P ops Q is a w
  | [], _, _, h => h
  | i :: rest, a, w, h => by
    simp only [wpOps, wpOpsIn] at h ⊢
    cases ho : ops[i]? with
    | none => simp only [ho] at h; exact opsIn_of_ops hd hQ rest a w h
    | some o =>
      simp only [ho] at h ⊢
      split
      · rename_i hw
        rw [if_pos hw] at h
        rcases h with h | h
        · exact opIn_of_op (noDefers_at hd ho) (Oper.wp_mono (fun a w => opsIn_of_ops hd hQ rest a w) h)
        · exact absurd h.2 hQ
      · rename_i hw
        rw [if_neg hw] at h
        exact ⟨fun _ _ => trivial, opsIn_of_ops hd hQ rest _ w h⟩
/-- A region that draws its order, in a round. -/
theorem wpIn_round_held_drew {S : World → Prop} {Q : Exit → Act → World → Prop} {id : Nat} {a : Act} {w : World} (hm : P.follows .mixedOrders = true) (hd : noDefers ops = true) (hS : S w.drew)
    (h : S w.drew → wpAnyH P .any ops (NoPanic (OnlyNormal Q)) S ops.size (Array.replicate ops.size false) a w.drew) : (Code.region id ops true).wpIn (Fence.wide.inRound l) n P Q a w := by
  refine wpIn_mono (wpIn_region_draw fun t => ?_) (fun e a w hq => OnlyNormal.imp e a w (NoPanic.imp e a w hq))
  simp only [Region.schedule, hm, Bool.true_or, if_true]
  exact opsIn_of_ops hd OnlyNormal.noOut _ _ _ (wpAny_sound ops.size t _ a _ (wpAny_of_held _ _ _ _ (h hS)))
/-- A region in the order of its text, in a round. -/
theorem wpIn_round_list {Q : Exit → Act → World → Prop} {id : Nat} {a : Act} {w : World} (hd : noDefers ops = true)
    (h : wpOps P ops (NoPanic (OnlyNormal Q)) (List.range ops.size) a w) : (Code.region id ops false).wpIn (Fence.wide.inRound l) n P Q a w :=
  wpIn_mono (wpIn_region (opsIn_of_ops hd OnlyNormal.noOut _ _ _ h)) (fun e a w hq => OnlyNormal.imp e a w (NoPanic.imp e a w hq))
end
end Go.Proofs.Ytbnnpkcfifejmaa
/- Layer 7 (conv): Go: contract. -/
namespace Go.Proofs.Ytbnnpkcfifejmaa
open Go.RowKit
theorem bodyPostM_ret {F : Fence} {n : Nat} {P : Program} {fn : Func} {R : Ending → World → Prop} {a : Act} {w : World} {v : Value} (hr : (results fn a.tmps).run P w = .ok v w) (hd : a.defers = []) (hR : R (.returned v) w) : bodyPostM F n P fn R .ret a w := by
  show LeavesInM F n P fn a.tmps R a.defers .returning w
  rw [hd]
  exact ⟨v, hr, hR⟩
theorem conv_right {ws xs : List Int} {step : Int} (h : (Od.conv ws xs step).2 = 0) : Sh.right (Od.conv ws xs step).1 = true := by
  unfold Od.conv at h ⊢
  split at h
  · rename_i hc
    rw [if_pos hc]
    split at h
    · rename_i ha
      rw [if_pos ha]
      split at h
      · rename_i hr
        rw [if_pos hr]; exact hr
      · simp at h
    · simp at h
  · simp at h
namespace Ly
/-- How many cells a weight, an in and an answer have. -/
theorem conv_lens {t x : Ten} {step : Int} (hr : Tn.right t = true) (hq : Tn.right x = true) (h : (Od.conv t.s x.s step).2 = 0) :
    t.c.length = (frame t.s x.s (Od.conv t.s x.s step).1 step).outs * (frame t.s x.s (Od.conv t.s x.s step).1 step).ins * ((frame t.s x.s (Od.conv t.s x.s step).1 step).k0 * (frame t.s x.s (Od.conv t.s x.s step).1 step).k1) ∧
    x.c.length = (frame t.s x.s (Od.conv t.s x.s step).1 step).ins * ((frame t.s x.s (Od.conv t.s x.s step).1 step).i0 * (frame t.s x.s (Od.conv t.s x.s step).1 step).i1) ∧
    (Safe.prod (Od.conv t.s x.s step).1).toNat = (frame t.s x.s (Od.conv t.s x.s step).1 step).outs * (frame t.s x.s (Od.conv t.s x.s step).1 step).o0 * (frame t.s x.s (Od.conv t.s x.s step).1 step).o1 := by
  obtain ⟨-, -, hcase⟩ := conv_fit h
  have h1 : (t.c.length : Int) = Safe.prod t.s := by simp [Tn.right] at hr; exact hr.2
  have h2 : (x.c.length : Int) = Safe.prod x.s := by simp [Tn.right] at hq; exact hq.2
  generalize (Od.conv t.s x.s step).1 = out at *
  rcases hcase with ⟨a, b, k, i, o, e1, e2, e3⟩ | ⟨a, b, k, kk, i, ii, o, oo, e1, e2, e3⟩
  · rw [e1] at h1
    rw [e2] at h2
    rw [e1, e2, e3]
    have h3 : Safe.prod [(a : Int), o] = ((a * o : Nat) : Int) := by simp [Safe.prod]
    have h1' : (t.c.length : Int) = ((a * b * k : Nat) : Int) := by rw [h1]; simp [Safe.prod, Int.mul_assoc]
    have h2' : (x.c.length : Int) = ((b * i : Nat) : Int) := by rw [h2]; simp [Safe.prod]
    refine ⟨?_, ?_, ?_⟩
    · simp [frame, last2, side, at_]; exact Int.ofNat.inj h1'
    · simp [frame, last2, side, at_]; exact Int.ofNat.inj h2'
    · rw [h3]; simp only [frame, last2, side, at_, Int.toNat_natCast, List.drop_succ_cons, List.drop_zero, List.length_singleton, if_true, List.getD_cons_zero, Nat.mul_one]
  · rw [e1] at h1
    rw [e2] at h2
    rw [e1, e2, e3]
    have h3 : Safe.prod [(a : Int), o, oo] = ((a * o * oo : Nat) : Int) := by simp [Safe.prod, Int.mul_assoc]
    have h1' : (t.c.length : Int) = ((a * b * (k * kk) : Nat) : Int) := by rw [h1]; simp [Safe.prod, Int.mul_assoc]
    have h2' : (x.c.length : Int) = ((b * (i * ii) : Nat) : Int) := by rw [h2]; simp [Safe.prod]
    refine ⟨?_, ?_, ?_⟩
    · simp [frame, last2, side, at_]; exact Int.ofNat.inj h1'
    · simp [frame, last2, side, at_]; exact Int.ofNat.inj h2'
    · rw [h3]; simp [frame, last2, side, at_]; rfl
theorem addAt_len (l : List Int) (i : Nat) (v : Int) : (addAt l i v).length = l.length := by simp [addAt]
theorem addAt_in {l : List Int} {i : Nat} {v : Int} (hl : ∀ z ∈ l, Fx.In z) (hv : Fx.In v) : ∀ z ∈ addAt l i v, Fx.In z := fun z hz => by
  unfold addAt at hz
  rcases List.mem_or_eq_of_mem_set hz with h | rfl
  · exact hl z h
  · exact Fx.add_in _ _
theorem convC_push (w x : List Int) (ts : List Touch) (t : Touch) (n : Nat) : convC w x (ts ++ [t]) n = addAt (convC w x ts n) t.o (Fx.mul (at_ w t.w) (at_ x t.x)) := by unfold convC; rw [List.foldl_append]; rfl
theorem convC_facts {w x : List Int} (hw : ∀ z ∈ w, Fx.In z) (hx : ∀ z ∈ x, Fx.In z) (n : Nat) : ∀ ts : List Touch, (convC w x ts.reverse n).length = n ∧ ∀ z ∈ convC w x ts.reverse n, Fx.In z
  | [] => ⟨by simp [convC, zeros], fun z hz => by simp [convC, zeros] at hz; rw [hz.2]; exact Fx.in_zero⟩
  | t :: r => by
    obtain ⟨h1, h2⟩ := convC_facts hw hx n r
    rw [List.reverse_cons, convC_push]
    exact ⟨by rw [addAt_len, h1], addAt_in h2 (Fx.mul_in _ _)⟩
theorem convC_len {w x : List Int} (hw : ∀ z ∈ w, Fx.In z) (hx : ∀ z ∈ x, Fx.In z) (n : Nat) (ts : List Touch) : (convC w x ts n).length = n := by have := (convC_facts hw hx n ts.reverse).1; rwa [List.reverse_reverse] at this
theorem convC_in {w x : List Int} (hw : ∀ z ∈ w, Fx.In z) (hx : ∀ z ∈ x, Fx.In z) (n : Nat) (ts : List Touch) : ∀ z ∈ convC w x ts n, Fx.In z := by have := (convC_facts hw hx n ts.reverse).2; rwa [List.reverse_reverse] at this
end Ly
set_option maxHeartbeats 1000000 in
theorem conv_go (S C S' C' : Option Addr) (c d c' d' : Nat) (t x : Ten) (step : Int) (w : World) (ht : TenIn w S C c d t) (hx : TenIn w S' C' c' d' x) :
    Calls Try.prog 19 #[.agg #[.slice S t.s.length c, .slice C t.c.length d], .agg #[.slice S' x.s.length c', .slice C' x.c.length d'], .int .i64 step] w (GoP (Ly.conv t x step) w) := by
  obtain ⟨hk0, hk1, hz, h01⟩ := three_boxes w 30 30 30 #[.slice S t.s.length c, .slice C t.c.length d] #[.slice S' x.s.length c', .slice C' x.c.length d'] #[.slice none 0 0, .slice none 0 0]
  have l1 := ht.l1
  have l5 := hx.s1
  have l6 := hx.s2
  have l2 := ht.l2
  have l3 := hx.l1
  have l4 := hx.l2
  have Hk0 := Lib.hid hk0
  have Hk1 := Lib.hid hk1
  have Hz := Lib.hid hz
  have H01 := Lib.hid h01
  have Ht := Lib.hid ht
  have Hx := Lib.hid hx
  clear hk0 hk1 hz h01 ht hx
  refine callsIn_wide.1 (callsIn_of_wp_marks (n := 9) Try.func19 rfl trivial (wpIn_wide.2 ?_))
  simp only [Try.ntmps19, List.size_toArray, List.length_cons, List.length_nil, Nat.reduceAdd, Nat.reduceSub, Array.replicate_succ, Array.replicate_zero, List.push_toArray, List.append_toArray, List.nil_append, List.cons_append]
  go_upto_region 1 with fail
  generalize (((w.alloc (.cells #[.slice S t.s.length c, .slice C t.c.length d] 30)).alloc (.cells #[.slice S' x.s.length c', .slice C' x.c.length d'] 30)).alloc (.cells #[.slice none 0 0, .slice none 0 0] 30)) = w1 at *
  have a0 := Hk0.out.cell 0
  have a1 := Hk0.out.cell 1
  simp at a0 a1
  have b0 := Hk1.out.cell 0
  have b1 := Hk1.out.cell 1
  simp at b0 b1
  go_wp2_with fail
  refine (tensor_right S C c d t w1 (by omega) (by omega) (Ht.out.later H01.out).r.1).mono ?_
  rintro e w2 ⟨rfl, hb2⟩
  have h12 : Later w1 w2 := hb2
  have h02 := H01.out.trans h12
  have hz2 := h12.blk Hz.out
  have hka := h12.blk Hk0.out
  have hkb := h12.blk Hk1.out
  clear hb2 Hz H01 Hk0 Hk1 h12 a0 a1 b0 b1
  have a0 := hka.cell 0
  have a1 := hka.cell 1
  have b0 := hkb.cell 0
  have b1 := hkb.cell 1
  have c0 := hz2.cell 0
  have c1 := hz2.cell 1
  have f0 := hz2.frozen 0
  have f1 := hz2.frozen 1
  simp at a0 a1 b0 b1 c0 c1
  cases hr : Tn.right t
  · have HE := Lib.hid (show Ly.conv t x step = (Ly.none_, 20) by simp [Ly.conv, Ly.convErr, hr])
    clear hr
    have H02 := Lib.hid h02
    have Hz2 := Lib.hid hz2
    have Hka := Lib.hid hka
    have Hkb := Lib.hid hkb
    clear h02 hz2 hka hkb
    go_wp2_with fail
    refine bodyPostM_ret (v := .tuple #[.agg #[.slice none 0 0, .slice none 0 0], .int .i64 20]) (by simp [results, Try.results19, go_sem, c0, c1]) rfl ?_
    exact GoP.fail HE.out (by decide) ((H02.out.set (p := ⟨w.heap.size + 2, 0, none⟩) (by simp) _).set (p := ⟨w.heap.size + 2, 1, none⟩) (by simp) _)
  have H02 := Lib.hid h02
  have Hz2 := Lib.hid hz2
  have Hka := Lib.hid hka
  have Hkb := Lib.hid hkb
  clear h02 hz2 hka hkb
  go_wp2_with fail
  refine (tensor_right S' C' c' d' x w2 (by omega) (by omega) (Hx.out.later H02.out).r.1).mono ?_
  rintro e w3 ⟨rfl, hb3⟩
  have h23 : Later w2 w3 := hb3
  have h03 := H02.out.trans h23
  have hz3 := h23.blk Hz2.out
  have hka3 := h23.blk Hka.out
  have hkb3 := h23.blk Hkb.out
  clear hb3 Hz2 H02 Hka Hkb h23 a0 a1 b0 b1 c0 c1 f0 f1
  have a0 := hka3.cell 0
  have a1 := hka3.cell 1
  have b0 := hkb3.cell 0
  have b1 := hkb3.cell 1
  have c0 := hz3.cell 0
  have c1 := hz3.cell 1
  have f0 := hz3.frozen 0
  have f1 := hz3.frozen 1
  simp at a0 a1 b0 b1 c0 c1
  cases hq : Tn.right x
  · have HE := Lib.hid (show Ly.conv t x step = (Ly.none_, 20) by simp [Ly.conv, Ly.convErr, hr, hq])
    clear hr hq
    have H03 := Lib.hid h03
    have Hz3 := Lib.hid hz3
    have Hka3 := Lib.hid hka3
    have Hkb3 := Lib.hid hkb3
    clear h03 hz3 hka3 hkb3
    go_wp2_with fail
    refine bodyPostM_ret (v := .tuple #[.agg #[.slice none 0 0, .slice none 0 0], .int .i64 20]) (by simp [results, Try.results19, go_sem, c0, c1]) rfl ?_
    exact GoP.fail HE.out (by decide) ((H03.out.set (p := ⟨w.heap.size + 2, 0, none⟩) (by simp) _).set (p := ⟨w.heap.size + 2, 1, none⟩) (by simp) _)
  have H03 := Lib.hid h03
  have Hz3 := Lib.hid hz3
  have Hka3 := Lib.hid hka3
  have Hkb3 := Lib.hid hkb3
  clear h03 hz3 hka3 hkb3
  go_wp2_with fail
  refine (conv_shape S S' c c' t.s x.s step w3 (by omega) (by omega) (by omega) (by omega) (Ht.out.later H03.out).r.1 (Hx.out.later H03.out).r.1).mono ?_
  rintro e w4 ⟨A, ac, rfl, hI, hc1, hc2, hf, hb⟩
  have h34 : Later w3 w4 := hb
  have h04 := H03.out.trans h34
  have hz4 := h34.blk Hz3.out
  have hka4 := h34.blk Hka3.out
  have hkb4 := h34.blk Hkb3.out
  clear hb Hz3 H03 Hka3 Hkb3 h34 a0 a1 b0 b1 c0 c1 f0 f1
  have a0 := hka4.cell 0
  have a1 := hka4.cell 1
  have b0 := hkb4.cell 0
  have b1 := hkb4.cell 1
  have c0 := hz4.cell 0
  have c1 := hz4.cell 1
  have f0 := hz4.frozen 0
  have f1 := hz4.frozen 1
  simp at a0 a1 b0 b1 c0 c1
  have hce : Ly.convErr t x step = (Od.conv t.s x.s step).2 := by simp [Ly.convErr, hr, hq]
  by_cases hne : (Od.conv t.s x.s step).2 ≠ 0
  · have HE := Lib.hid (show Ly.conv t x step = (Ly.none_, (Od.conv t.s x.s step).2) by simp [Ly.conv, hce, hne])
    have hne' : ¬ (Od.conv t.s x.s step).2 = 0 := hne
    clear hr hq hce
    have H04 := Lib.hid h04
    have Hz4 := Lib.hid hz4
    have Hka4 := Lib.hid hka4
    have Hkb4 := Lib.hid hkb4
    have HI := Lib.hid hI
    clear h04 hz4 hka4 hkb4 hI
    go_wp2_with fail
    refine bodyPostM_ret (v := .tuple #[.agg #[.slice none 0 0, .slice none 0 0], .int .i64 (Od.conv t.s x.s step).2]) (by simp [results, Try.results19, go_sem, c0, c1]) rfl ?_
    exact GoP.fail HE.out hne ((H04.out.set (p := ⟨w.heap.size + 2, 0, none⟩) (by simp) _).set (p := ⟨w.heap.size + 2, 1, none⟩) (by simp) _)
  have hok : (Od.conv t.s x.s step).2 = 0 := by omega
  have HE := Lib.hid (show Ly.conv t x step = (⟨(Od.conv t.s x.s step).1, Ly.convC t.c x.c (Ly.convT t x step) (Ly.span (Od.conv t.s x.s step).1)⟩, 0) by simp [Ly.conv, hce, hok])
  clear hne hce
  obtain ⟨hst, hfit, hcase⟩ := Ly.conv_fit hok
  rw [hok]
  have hol : (Od.conv t.s x.s step).1.length ≤ 4 := by
    rcases hcase with ⟨_, _, _, _, _, _, _, e⟩ | ⟨_, _, _, _, _, _, _, _, _, _, e⟩ <;> rw [e] <;> simp
  have hor := conv_right hok
  have hcallT := conv_touch S S' c c' t.s x.s step
  have HF := Lib.hid hfit
  have HK := Lib.hid hok
  have HC := Lib.hid hcase
  obtain ⟨out, hout⟩ : ∃ out, (Od.conv t.s x.s step).1 = out := ⟨_, rfl⟩
  rw [hout] at hI hc1 hol hor ⊢
  clear hfit hok hcase
  have HT := Lib.hid hcallT
  clear hcallT
  have H04 := Lib.hid h04
  have Hz4 := Lib.hid hz4
  have Hka4 := Lib.hid hka4
  have Hkb4 := Lib.hid hkb4
  have HI := Lib.hid hI
  clear h04 hz4 hka4 hkb4 hI
  go_wp2_with fail
  refine (tensor_make A ac out 0 w4 (by omega) HI.out).mono ?_
  rintro e w5 ⟨hmk, hb5⟩
  obtain ⟨⟨hbad, -⟩ | ⟨-, v, rfl, g, hh, rfl, hg, hh', hG, hH⟩, hb5⟩ := And.intro hmk hb5
  · rw [hor] at hbad; cases hbad
  have h45 : Later w4 w5 := hb5
  have h5a : Later w5 (w5.alloc (.cells #[.slice (some ⟨g, 0, none⟩) out.length out.length, .slice (some ⟨hh, 0, none⟩) (Safe.prod out).toNat (Safe.prod out).toNat] 30)) := (Later.refl w5).alloc _
  have ho := Blk.new w5 30 #[.slice (some ⟨g, 0, none⟩) out.length out.length, .slice (some ⟨hh, 0, none⟩) (Safe.prod out).toNat (Safe.prod out).toNat]
  have h46 := h45.trans h5a
  have h06 := H04.out.trans h46
  have hz6 := h46.blk Hz4.out
  have hka6 := h46.blk Hka4.out
  have hkb6 := h46.blk Hkb4.out
  have hG6 := h5a.blk hG
  have hH6 := h5a.blk hH
  have hz4lt := Hz4.out.lt
  have hHlt5 := hH.lt
  have hgh : g ≠ hh := fun e => by
    subst e
    have := hG.symm.trans hH
    simp at this
  clear Hz4 Hka4 Hkb4 hG hH a0 a1 b0 b1 c0 c1 f0 f1
  have H45 := Lib.hid h45
  have H5a := Lib.hid h5a
  have Ho := Lib.hid ho
  have H46 := Lib.hid h46
  have H06 := Lib.hid h06
  have Hz6 := Lib.hid hz6
  have Hka6 := Lib.hid hka6
  have Hkb6 := Lib.hid hkb6
  have HG6 := Lib.hid hG6
  have HH6 := Lib.hid hH6
  clear h45 h5a ho h46 h06 hz6 hka6 hkb6 hG6 hH6
  go_upto_region 7 with fail
  generalize w5.alloc (.cells #[.slice (some ⟨g, 0, none⟩) out.length out.length, .slice (some ⟨hh, 0, none⟩) (Safe.prod out).toNat (Safe.prod out).toNat] 30) = w6 at *
  generalize hpe : w5.heap.size = q at *
  have a0 := Hka6.out.cell 0
  have b0 := Hkb6.out.cell 0
  simp at a0 b0
  go_wp2_with fail
  refine (HT.out w6 Ht.out.s1 l5 l6 (Ht.out.later H06.out).r.1 (Hx.out.later H06.out).r.1 HK.out).mono ?_
  rintro e w7 ⟨rfl, hb7⟩
  have h67 : Later w6 w7 := hb7
  have h07 := H06.out.trans h67
  have hz7 := h67.blk Hz6.out
  have hka7 := h67.blk Hka6.out
  have hkb7 := h67.blk Hkb6.out
  have hG7 := h67.blk HG6.out
  have hH7 := h67.blk HH6.out
  have ho7 := h67.blk Ho.out
  clear Hz6 Hka6 Hkb6 HG6 HH6 Ho a0 b0 hb7 H06
  have H67 := Lib.hid h67
  have H07 := Lib.hid h07
  have Hz7 := Lib.hid hz7
  have Hka7 := Lib.hid hka7
  have Hkb7 := Lib.hid hkb7
  have HG7 := Lib.hid hG7
  have HH7 := Lib.hid hH7
  have Ho7 := Lib.hid ho7
  clear h67 h07 hz7 hka7 hkb7 hG7 hH7 ho7
  go_wp2_with fail
  have hs := HF.out.small
  have hps := HF.out.pos
  have hpl := HF.out.places
  have hT : Ly.convT t x step = (Ly.frame t.s x.s out step).all := by unfold Ly.convT; rw [hout]
  rw [hout] at hs hps hpl
  generalize hfr : Ly.frame t.s x.s out step = fr at *
  refine wpIn_wide.1 (wpIn_range_first (n := 9) (9 - 1 - 1 - 1) rfl (by omega) (gf := 81) (lf := #[fr.V]) rfl trivial (enters_of Try.func81 (by kernel_rfl) rfl) Ly.Touch.V rfl fr.all
    (fun pre W => Blk W hh 22 ((Ly.convC t.c x.c pre (Safe.prod out).toNat).map (Value.int .i64)).toArray ∧ Blk W q 30 #[.slice (some ⟨g, 0, none⟩) out.length out.length, .slice (some ⟨hh, 0, none⟩) (Safe.prod out).toNat (Safe.prod out).toNat] ∧ (Blk W w.heap.size 30 #[.slice S t.s.length c, .slice C t.c.length d] ∧ Blk W (w.heap.size + 1) 30 #[.slice S' x.s.length c', .slice C' x.c.length d'] ∧ Blk W (w.heap.size + 2) 30 #[.slice none 0 0, .slice none 0 0] ∧ Blk W g 3 (out.map (Value.int .i64)).toArray) ∧ Later w W) ?hI ?h0 ?hseq ?hbody ?hdone)
  case hI =>
    rintro pre A B hb ⟨h1, h2, ⟨h4, h5, h6, h7⟩, h3⟩
    exact ⟨(hb.block _ HH7.out.lt).trans h1, (hb.block _ Ho7.out.lt).trans h2, ⟨(hb.block _ Hka7.out.lt).trans h4, (hb.block _ Hkb7.out.lt).trans h5, (hb.block _ Hz7.out.lt).trans h6, (hb.block _ HG7.out.lt).trans h7⟩, Below.trans h3 (hb.mono H07.out.size)⟩
  case h0 => exact ⟨by simpa [Ly.convC, Ly.zeros] using HH7.out, Ho7.out, ⟨Hka7.out, Hkb7.out, Hz7.out, HG7.out⟩, H07.out⟩
  case hseq =>
    intro l J W hsz hbw hJ hY h0
    exact frame_each Fence.wide (9 - 1) l trivial trivial rfl (by omega) fr hs hps W.heap.size J hJ hY W (Nat.le_refl _) h0
  case hbody =>
    rintro pre z rest A hx ⟨h1, h2, ⟨h4, h5, h6, h7⟩, h3⟩ hA
    obtain ⟨po, pw, px⟩ := hpl z (by rw [hx]; simp)
    obtain ⟨l7, l8, l9⟩ := Ly.conv_lens hr hq HK.out
    rw [hout, hfr] at l7 l8
    rw [hout, hfr] at l9
    rw [← l9] at po
    rw [← l7] at pw
    rw [← l8] at px
    have hcl := Ly.convC_len Ht.out.num Hx.out.num (Safe.prod out).toNat pre
    have hci := Ly.convC_in Ht.out.num Hx.out.num (Safe.prod out).toNat pre
    have hpush := Ly.convC_push t.c x.c pre z (Safe.prod out).toNat
    have hin := Ly.convC_in Ht.out.num Hx.out.num (Safe.prod out).toNat (pre ++ [z])
    clear l7 l8 l9 hmk hx
    generalize Ly.convC t.c x.c pre (Safe.prod out).toNat = acc at *
    rw [hpush]
    clear hpush hin
    generalize (Safe.prod out).toNat = N at *
    have hs7 := H07.out.size
    have hHlt := HH7.out.lt
    have hGlt := HG7.out.lt
    have hqlt := Ho7.out.lt
    have hzlt := Hz7.out.lt
    obtain ⟨bt, ot, rfl, lbt, w0⟩ := Ht.out.cell pw
    obtain ⟨bx, ox, rfl, lbx, x0⟩ := Hx.out.cell px
    have hwI := Ly.at_in Ht.out.num z.w
    have hxI := Ly.at_in Hx.out.num z.x
    have haI := Ly.at_in hci z.o
    have hmulI := Fx.mul_in (Ly.at_ t.c z.w) (Ly.at_ x.c z.x)
    have hso : acc.set z.o (Fx.add (Ly.at_ acc z.o) (Fx.mul (Ly.at_ t.c z.w) (Ly.at_ x.c z.x))) = Ly.addAt acc z.o (Fx.mul (Ly.at_ t.c z.w) (Ly.at_ x.c z.x)) := rfl
    have ho1 : Ly.at_ acc z.o = acc[z.o]'(by omega) := Ly.at_get (by omega)
    generalize Ly.at_ t.c z.w = tv at *
    generalize Ly.at_ x.c z.x = xv at *
    have HSO := Lib.hid hso
    clear hso
    rw [← HSO.out]
    rw [show Ly.Touch.V z = Value.agg #[.int .i64 z.o, .int .i64 z.w, .int .i64 z.x] from rfl]
    have h1c := h1.cell z.o
    simp [show z.o < acc.length by omega, ← ho1] at h1c
    generalize Ly.at_ acc z.o = ov at *
    clear ho1
    obtain ⟨zo, zw, zx⟩ := z
    simp only at *
    have hat := Blk.new A 87 #[.int .i64 zo, .int .i64 zw, .int .i64 zx]
    have hlA := (Later.refl A).alloc (.cells #[.int .i64 zo, .int .i64 zw, .int .i64 zx] 87)
    have hwA := w0
    have H1 := Lib.hid h1
    have H2 := Lib.hid h2
    have H4 := Lib.hid h4
    have H5 := Lib.hid h5
    have H6 := Lib.hid h6
    have H7 := Lib.hid h7
    have H3 := Lib.hid h3
    have Hat := Lib.hid hat
    have HlA := Lib.hid hlA
    have Hci := Lib.hid hci
    clear h1 h2 h4 h5 h6 h7 h3 hat hlA hci
    gi_wp2_with (rw [Oper.semAt_eq _ _ _ (fun c h => by cases h)]; go_simp; try go_bits)
    have Hpl := Lib.hid hpl
    have HT2 := Lib.hid hT
    clear hpl hT hs hps hor hout
    refine ⟨Above.alloc _ _ _, fun A2 hs2 hk2 hb2 => ?_⟩
    rw [World.size_alloc] at hs2
    have hlt2 := H1.out.lt
    have hfar := fun (k : Nat) (h : k < w7.heap.size) => hk2 k (by omega)
    have g1 : Blk A2 hh 22 (acc.map (Value.int .i64)).toArray := (hfar hh hHlt).trans (HlA.out.blk H1.out)
    have g2 : Blk A2 q 30 #[.slice (some ⟨g, 0, none⟩) out.length out.length, .slice (some ⟨hh, 0, none⟩) N N] := (hfar q hqlt).trans (HlA.out.blk H2.out)
    have g4 : Blk A2 w.heap.size 30 #[.slice S t.s.length c, .slice (some ⟨bt, ot, none⟩) t.c.length d] := (hfar w.heap.size (by omega)).trans (HlA.out.blk H4.out)
    have g5 : Blk A2 (w.heap.size + 1) 30 #[.slice S' x.s.length c', .slice (some ⟨bx, ox, none⟩) x.c.length d'] := (hfar (w.heap.size + 1) (by omega)).trans (HlA.out.blk H5.out)
    have g6 : Blk A2 (w.heap.size + 2) 30 #[.slice none 0 0, .slice none 0 0] := (hfar (w.heap.size + 2) (by omega)).trans (HlA.out.blk H6.out)
    have g7 : Blk A2 g 3 (out.map (Value.int .i64)).toArray := (hfar _ hGlt).trans (HlA.out.blk H7.out)
    have g8 : Blk A2 A.heap.size 87 #[.int .i64 zo, .int .i64 zw, .int .i64 zx] := (hk2 A.heap.size (by omega)).trans Hat.out
    have g3 : Later w A2 := Below.trans (show Below w.heap.size w _ from H3.out.trans HlA.out) (hb2.mono (by omega))
    have u0 := g8.cell 0
    have u1 := g8.cell 1
    have u2 := g8.cell 2
    have u3 := g4.cell 1
    have u4 := g5.cell 1
    have u5 := g2.cell 1
    simp at u0 u1 u2 u3 u4 u5
    have u6 := g3.cell w0
    have u7 := g3.cell x0
    have u8 : A2.cell? ⟨hh, zo, none⟩ = some (.int .i64 ov) := (World.cell?_of_block (hfar hh hHlt)).trans (HlA.out.cell h1c)
    have u9 := g1.frozen zo
    clear w0 x0 hwA h1c hfar hk2 hb2 H1 H2 H3 H4 H5 H6 H7 Hat HlA
    have Hg1 := Lib.hid g1
    have Hg2 := Lib.hid g2
    have Hg3 := Lib.hid g3
    have Hg4 := Lib.hid g4
    have Hg5 := Lib.hid g5
    have Hg6 := Lib.hid g6
    have Hg7 := Lib.hid g7
    have Hg8 := Lib.hid g8
    clear g1 g2 g3 g4 g5 g6 g7 g8
    have v1 : (zw : Int) < (t.c.length : Int) := by omega
    have v2 : (zx : Int) < (x.c.length : Int) := by omega
    have v3 : (zo : Int) < (N : Int) := by omega
    gi_wp2_with fail
    refine wpIn_round_held_drew (S := fun Xw => Xw.cell? ⟨A.heap.size, 0, none⟩ = some (.int .i64 zo) ∧ Xw.cell? ⟨A.heap.size, 1, none⟩ = some (.int .i64 zw) ∧ Xw.cell? ⟨A.heap.size, 2, none⟩ = some (.int .i64 zx) ∧ Xw.cell? ⟨w.heap.size, 1, none⟩ = some (.slice (some ⟨bt, ot, none⟩) t.c.length d) ∧ Xw.cell? ⟨w.heap.size + 1, 1, none⟩ = some (.slice (some ⟨bx, ox, none⟩) x.c.length d') ∧ Xw.cell? ⟨bt, ot + zw, none⟩ = some (.int .i64 tv) ∧ Xw.cell? ⟨bx, ox + zx, none⟩ = some (.int .i64 xv)) (by kernel_rfl) (by kernel_rfl) ?_ (fun hHeld => ?_)
    · (try dsimp only); (first | (with_reducible exact ⟨u0, u1, u2, u3, u4, u6, u7⟩) | exact ⟨Later.cell (show Later A2 _ by repeat (first | (with_reducible exact Later.refl _) | (with_reducible apply Later.drew) | (with_reducible apply Later.drewN) | (with_reducible apply Later.alloc) | (with_reducible refine Later.call ?_ (by assumption)))) u0, Later.cell (show Later A2 _ by repeat (first | (with_reducible exact Later.refl _) | (with_reducible apply Later.drew) | (with_reducible apply Later.drewN) | (with_reducible apply Later.alloc) | (with_reducible refine Later.call ?_ (by assumption)))) u1, Later.cell (show Later A2 _ by repeat (first | (with_reducible exact Later.refl _) | (with_reducible apply Later.drew) | (with_reducible apply Later.drewN) | (with_reducible apply Later.alloc) | (with_reducible refine Later.call ?_ (by assumption)))) u2, Later.cell (show Later A2 _ by repeat (first | (with_reducible exact Later.refl _) | (with_reducible apply Later.drew) | (with_reducible apply Later.drewN) | (with_reducible apply Later.alloc) | (with_reducible refine Later.call ?_ (by assumption)))) u3, Later.cell (show Later A2 _ by repeat (first | (with_reducible exact Later.refl _) | (with_reducible apply Later.drew) | (with_reducible apply Later.drewN) | (with_reducible apply Later.alloc) | (with_reducible refine Later.call ?_ (by assumption)))) u4, Later.cell (show Later A2 _ by repeat (first | (with_reducible exact Later.refl _) | (with_reducible apply Later.drew) | (with_reducible apply Later.drewN) | (with_reducible apply Later.alloc) | (with_reducible refine Later.call ?_ (by assumption)))) u6, Later.cell (show Later A2 _ by repeat (first | (with_reducible exact Later.refl _) | (with_reducible apply Later.drew) | (with_reducible apply Later.drewN) | (with_reducible apply Later.alloc) | (with_reducible refine Later.call ?_ (by assumption)))) u7⟩)
    refine wpAnyH_take (i := 0) (oi := _) (v := ?mv1) rfl (by kernel_rfl) (by kernel_rfl) (by kernel_rfl) (fun _ _ _ h => h) (Or.inl ⟨by rfl, ?my1⟩) (by assumption) ?mr1
    case my1 => (simp only [List.getElem_toArray, List.getElem_cons_zero]; intro w hSw; (try dsimp only at hSw); go_simp; first | done | with_reducible rfl)
    try simp only [List.getElem_toArray, List.getElem_cons_zero, Act.put, List.setIfInBounds_toArray, List.set_cons_zero, List.set_cons_succ]
    refine wpAnyH_take (i := 1) (oi := _) (v := ?mv2) rfl (by kernel_rfl) (by kernel_rfl) (by kernel_rfl) (fun _ _ _ h => h) (Or.inl ⟨by rfl, ?my2⟩) (by assumption) ?mr2
    case my2 => (simp only [List.getElem_toArray, List.getElem_cons_succ, List.getElem_cons_zero]; intro w hSw; (try dsimp only at hSw); go_simp; first | done | with_reducible rfl)
    try simp only [List.getElem_toArray, List.getElem_cons_succ, List.getElem_cons_zero, Act.put, List.setIfInBounds_toArray, List.set_cons_zero, List.set_cons_succ]
    refine wpAnyH_take (i := 2) (oi := _) (v := ?mv3) rfl (by kernel_rfl) (by kernel_rfl) (by kernel_rfl) (fun _ _ _ h => h) (Or.inl ⟨by rfl, ?my3⟩) (by assumption) ?mr3
    case my3 => (simp only [List.getElem_toArray, List.getElem_cons_succ, List.getElem_cons_zero]; intro w hSw; (try dsimp only at hSw); go_simp; first | done | with_reducible rfl)
    try simp only [List.getElem_toArray, List.getElem_cons_succ, List.getElem_cons_zero, Act.put, List.setIfInBounds_toArray, List.set_cons_zero, List.set_cons_succ]
    refine wpAnyH_take (i := 3) (oi := _) (v := ?mv4) rfl (by kernel_rfl) (by kernel_rfl) (by kernel_rfl) (fun _ _ _ h => h) (Or.inl ⟨by rfl, ?my4⟩) (by assumption) ?mr4
    case my4 => (simp only [List.getElem_toArray, List.getElem_cons_succ, List.getElem_cons_zero]; intro w hSw; (try dsimp only at hSw); go_simp; first | done | with_reducible rfl)
    try simp only [List.getElem_toArray, List.getElem_cons_succ, List.getElem_cons_zero, Act.put, List.setIfInBounds_toArray, List.set_cons_zero, List.set_cons_succ]
    refine wpAnyH_take (i := 4) (oi := _) (v := ?mv5) rfl (by kernel_rfl) (by kernel_rfl) (by kernel_rfl) (fun _ _ _ h => h) (Or.inl ⟨by rfl, ?my5⟩) (by assumption) ?mr5
    case my5 => (simp only [List.getElem_toArray, List.getElem_cons_succ, List.getElem_cons_zero]; intro w hSw; (try dsimp only at hSw); go_simp; first | done | with_reducible rfl)
    try simp only [List.getElem_toArray, List.getElem_cons_succ, List.getElem_cons_zero, Act.put, List.setIfInBounds_toArray, List.set_cons_zero, List.set_cons_succ]
    refine wpAnyH_take (i := 5) (oi := _) (v := ?mv6) rfl (by kernel_rfl) (by kernel_rfl) (by kernel_rfl) (fun _ _ _ h => h) (Or.inl ⟨by rfl, ?my6⟩) (by assumption) ?mr6
    case my6 => (simp only [List.getElem_toArray, List.getElem_cons_succ, List.getElem_cons_zero]; intro w hSw; (try dsimp only at hSw); go_simp; first | done | with_reducible rfl)
    try simp only [List.getElem_toArray, List.getElem_cons_succ, List.getElem_cons_zero, Act.put, List.setIfInBounds_toArray, List.set_cons_zero, List.set_cons_succ]
    refine wpAnyH_take (i := 6) (oi := _) (v := ?mv7) rfl (by kernel_rfl) (by kernel_rfl) (by kernel_rfl) (fun _ _ _ h => h) (Or.inl ⟨by rfl, ?my7⟩) (by assumption) ?mr7
    case my7 => (simp only [List.getElem_toArray, List.getElem_cons_succ, List.getElem_cons_zero]; intro w hSw; (try dsimp only at hSw); go_simp; first | done | with_reducible rfl)
    try simp only [List.getElem_toArray, List.getElem_cons_succ, List.getElem_cons_zero, Act.put, List.setIfInBounds_toArray, List.set_cons_zero, List.set_cons_succ]
    refine wpAnyH_take (i := 7) (oi := _) (v := ?mv8) rfl (by kernel_rfl) (by kernel_rfl) (by kernel_rfl) (fun _ _ _ h => h) (Or.inl ⟨by rfl, ?my8⟩) (by assumption) ?mr8
    case my8 => (simp only [List.getElem_toArray, List.getElem_cons_succ, List.getElem_cons_zero]; intro w hSw; (try dsimp only at hSw); go_simp; first | done | with_reducible rfl)
    try simp only [List.getElem_toArray, List.getElem_cons_succ, List.getElem_cons_zero, Act.put, List.setIfInBounds_toArray, List.set_cons_zero, List.set_cons_succ]
    refine wpAnyH_take (i := 8) (oi := _) (v := ?mv9) rfl (by kernel_rfl) (by kernel_rfl) (by kernel_rfl) (fun _ _ _ h => h) (Or.inl ⟨by rfl, ?my9⟩) (by assumption) ?mr9
    case my9 => (simp only [List.getElem_toArray, List.getElem_cons_succ, List.getElem_cons_zero]; intro w hSw; (try dsimp only at hSw); go_simp; first | done | with_reducible rfl)
    try simp only [List.getElem_toArray, List.getElem_cons_succ, List.getElem_cons_zero, Act.put, List.setIfInBounds_toArray, List.set_cons_zero, List.set_cons_succ]
    refine wpAnyH_take (i := 9) (oi := _) (v := ?mv10) rfl (by kernel_rfl) (by kernel_rfl) (by kernel_rfl) (fun _ _ _ h => h) (Or.inl ⟨by rfl, ?my10⟩) (by assumption) ?mr10
    case my10 => (simp only [List.getElem_toArray, List.getElem_cons_succ, List.getElem_cons_zero]; intro w hSw; (try dsimp only at hSw); go_simp; first | done | with_reducible rfl)
    try simp only [List.getElem_toArray, List.getElem_cons_succ, List.getElem_cons_zero, Act.put, List.setIfInBounds_toArray, List.set_cons_zero, List.set_cons_succ]
    refine wpAnyH_take (i := 10) (oi := _) (v := ?mv11) rfl (by kernel_rfl) (by kernel_rfl) (by kernel_rfl) (fun _ _ _ h => h) (Or.inl ⟨by rfl, ?my11⟩) (by assumption) ?mr11
    case my11 => (simp only [List.getElem_toArray, List.getElem_cons_succ, List.getElem_cons_zero]; intro w hSw; (try dsimp only at hSw); go_simp; first | done | with_reducible rfl)
    try simp only [List.getElem_toArray, List.getElem_cons_succ, List.getElem_cons_zero, Act.put, List.setIfInBounds_toArray, List.set_cons_zero, List.set_cons_succ]
    refine wpAnyH_take (i := 11) (oi := _) (v := ?mv12) rfl (by kernel_rfl) (by kernel_rfl) (by kernel_rfl) (fun _ _ _ h => h) (Or.inl ⟨by rfl, ?my12⟩) (by assumption) ?mr12
    case my12 => (simp only [List.getElem_toArray, List.getElem_cons_succ, List.getElem_cons_zero]; intro w hSw; (try dsimp only at hSw); go_simp; first | done | with_reducible rfl)
    try simp only [List.getElem_toArray, List.getElem_cons_succ, List.getElem_cons_zero, Act.put, List.setIfInBounds_toArray, List.set_cons_zero, List.set_cons_succ]
    refine wpAnyH_ready (rs := [12]) (by kernel_rfl) (by simp) ?_
    refine AllReadyH.cons (o := _) rfl (fun K hK => ?_) AllReadyH.nil
    simp only [List.getElem_toArray, List.getElem_cons_succ, List.getElem_cons_zero]
    go_simp
    go_at_call 52; (with_reducible refine (fix_mul tv xv _ hwI hxI).mono ?_); rintro e wb ⟨rfl, rfl⟩
    try go_wp2_with fail
    refine hK.out _ _ ?_ (fun hHeld => ?_)
    · (try dsimp only); (first | (with_reducible exact ⟨u0, u1, u2, u3, u4, u6, u7⟩) | exact ⟨Later.cell (show Later A2 _ by repeat (first | (with_reducible exact Later.refl _) | (with_reducible apply Later.drew) | (with_reducible apply Later.drewN) | (with_reducible apply Later.alloc) | (with_reducible refine Later.call ?_ (by assumption)))) u0, Later.cell (show Later A2 _ by repeat (first | (with_reducible exact Later.refl _) | (with_reducible apply Later.drew) | (with_reducible apply Later.drewN) | (with_reducible apply Later.alloc) | (with_reducible refine Later.call ?_ (by assumption)))) u1, Later.cell (show Later A2 _ by repeat (first | (with_reducible exact Later.refl _) | (with_reducible apply Later.drew) | (with_reducible apply Later.drewN) | (with_reducible apply Later.alloc) | (with_reducible refine Later.call ?_ (by assumption)))) u2, Later.cell (show Later A2 _ by repeat (first | (with_reducible exact Later.refl _) | (with_reducible apply Later.drew) | (with_reducible apply Later.drewN) | (with_reducible apply Later.alloc) | (with_reducible refine Later.call ?_ (by assumption)))) u3, Later.cell (show Later A2 _ by repeat (first | (with_reducible exact Later.refl _) | (with_reducible apply Later.drew) | (with_reducible apply Later.drewN) | (with_reducible apply Later.alloc) | (with_reducible refine Later.call ?_ (by assumption)))) u4, Later.cell (show Later A2 _ by repeat (first | (with_reducible exact Later.refl _) | (with_reducible apply Later.drew) | (with_reducible apply Later.drewN) | (with_reducible apply Later.alloc) | (with_reducible refine Later.call ?_ (by assumption)))) u6, Later.cell (show Later A2 _ by repeat (first | (with_reducible exact Later.refl _) | (with_reducible apply Later.drew) | (with_reducible apply Later.drewN) | (with_reducible apply Later.alloc) | (with_reducible refine Later.call ?_ (by assumption)))) u7⟩)
    clear hK K
    try simp only [List.getElem_toArray, List.getElem_cons_succ, List.getElem_cons_zero, Act.put, List.setIfInBounds_toArray, List.set_cons_zero, List.set_cons_succ]
    refine wpAnyH_take (i := 13) (oi := _) (v := ?mv14) rfl (by kernel_rfl) (by kernel_rfl) (by kernel_rfl) (fun _ _ _ h => h) (Or.inl ⟨by rfl, ?my14⟩) (by assumption) ?mr14
    case my14 => (simp only [List.getElem_toArray, List.getElem_cons_succ, List.getElem_cons_zero]; intro w hSw; (try dsimp only at hSw); go_simp; first | done | with_reducible rfl)
    try simp only [List.getElem_toArray, List.getElem_cons_succ, List.getElem_cons_zero, Act.put, List.setIfInBounds_toArray, List.set_cons_zero, List.set_cons_succ]
    refine wpAnyH_done (by kernel_rfl) ?_ _
    refine NoPanic.normal ?_
    refine OnlyNormal.mk ?_
    gi_wp2_with fail
    refine wpIn_round_held_drew (S := fun Xw => Xw.cell? ⟨A.heap.size, 0, none⟩ = some (.int .i64 zo) ∧ Xw.cell? ⟨q, 1, none⟩ = some (.slice (some ⟨hh, 0, none⟩) N N)) (by kernel_rfl) (by kernel_rfl) ?_ (fun hHeld => ?_)
    · (try dsimp only); (first | (with_reducible exact ⟨u0, u5⟩) | exact ⟨Later.cell (show Later A2 _ by repeat (first | (with_reducible exact Later.refl _) | (with_reducible apply Later.drew) | (with_reducible apply Later.drewN) | (with_reducible apply Later.alloc) | (with_reducible refine Later.call ?_ (by assumption)))) u0, Later.cell (show Later A2 _ by repeat (first | (with_reducible exact Later.refl _) | (with_reducible apply Later.drew) | (with_reducible apply Later.drewN) | (with_reducible apply Later.alloc) | (with_reducible refine Later.call ?_ (by assumption)))) u5⟩)
    refine wpAnyH_take (i := 0) (oi := _) (v := ?mv15) rfl (by kernel_rfl) (by kernel_rfl) (by kernel_rfl) (fun _ _ _ h => h) (Or.inl ⟨by rfl, ?my15⟩) (by assumption) ?mr15
    case my15 => (simp only [List.getElem_toArray, List.getElem_cons_zero]; intro w hSw; (try dsimp only at hSw); go_simp; first | done | with_reducible rfl)
    try simp only [List.getElem_toArray, List.getElem_cons_zero, Act.put, List.setIfInBounds_toArray, List.set_cons_zero, List.set_cons_succ]
    refine wpAnyH_take (i := 1) (oi := _) (v := ?mv16) rfl (by kernel_rfl) (by kernel_rfl) (by kernel_rfl) (fun _ _ _ h => h) (Or.inl ⟨by rfl, ?my16⟩) (by assumption) ?mr16
    case my16 => (simp only [List.getElem_toArray, List.getElem_cons_succ, List.getElem_cons_zero]; intro w hSw; (try dsimp only at hSw); go_simp; first | done | with_reducible rfl)
    try simp only [List.getElem_toArray, List.getElem_cons_succ, List.getElem_cons_zero, Act.put, List.setIfInBounds_toArray, List.set_cons_zero, List.set_cons_succ]
    refine wpAnyH_take (i := 2) (oi := _) (v := ?mv17) rfl (by kernel_rfl) (by kernel_rfl) (by kernel_rfl) (fun _ _ _ h => h) (Or.inl ⟨by rfl, ?my17⟩) (by assumption) ?mr17
    case my17 => (simp only [List.getElem_toArray, List.getElem_cons_succ, List.getElem_cons_zero]; intro w hSw; (try dsimp only at hSw); go_simp; first | done | with_reducible rfl)
    try simp only [List.getElem_toArray, List.getElem_cons_succ, List.getElem_cons_zero, Act.put, List.setIfInBounds_toArray, List.set_cons_zero, List.set_cons_succ]
    refine wpAnyH_take (i := 3) (oi := _) (v := ?mv18) rfl (by kernel_rfl) (by kernel_rfl) (by kernel_rfl) (fun _ _ _ h => h) (Or.inl ⟨by rfl, ?my18⟩) (by assumption) ?mr18
    case my18 => (simp only [List.getElem_toArray, List.getElem_cons_succ, List.getElem_cons_zero]; intro w hSw; (try dsimp only at hSw); go_simp; first | done | with_reducible rfl)
    try simp only [List.getElem_toArray, List.getElem_cons_succ, List.getElem_cons_zero, Act.put, List.setIfInBounds_toArray, List.set_cons_zero, List.set_cons_succ]
    refine wpAnyH_take (i := 4) (oi := _) (v := ?mv19) rfl (by kernel_rfl) (by kernel_rfl) (by kernel_rfl) (fun _ _ _ h => h) (Or.inl ⟨by rfl, ?my19⟩) (by assumption) ?mr19
    case my19 => (simp only [List.getElem_toArray, List.getElem_cons_succ, List.getElem_cons_zero]; intro w hSw; (try dsimp only at hSw); go_simp; first | done | with_reducible rfl)
    try simp only [List.getElem_toArray, List.getElem_cons_succ, List.getElem_cons_zero, Act.put, List.setIfInBounds_toArray, List.set_cons_zero, List.set_cons_succ]
    refine wpAnyH_take (i := 5) (oi := _) (v := ?mv20) rfl (by kernel_rfl) (by kernel_rfl) (by kernel_rfl) (fun _ _ _ h => h) (Or.inl ⟨by rfl, ?my20⟩) (by assumption) ?mr20
    case my20 => (simp only [List.getElem_toArray, List.getElem_cons_succ, List.getElem_cons_zero]; intro w hSw; (try dsimp only at hSw); go_simp; first | done | with_reducible rfl)
    try simp only [List.getElem_toArray, List.getElem_cons_succ, List.getElem_cons_zero, Act.put, List.setIfInBounds_toArray, List.set_cons_zero, List.set_cons_succ]
    refine wpAnyH_take (i := 6) (oi := _) (v := ?mv21) rfl (by kernel_rfl) (by kernel_rfl) (by kernel_rfl) (fun _ _ _ h => h) (Or.inl ⟨by rfl, ?my21⟩) (by assumption) ?mr21
    case my21 => (simp only [List.getElem_toArray, List.getElem_cons_succ, List.getElem_cons_zero]; intro w hSw; (try dsimp only at hSw); go_simp; first | done | with_reducible rfl)
    try simp only [List.getElem_toArray, List.getElem_cons_succ, List.getElem_cons_zero, Act.put, List.setIfInBounds_toArray, List.set_cons_zero, List.set_cons_succ]
    refine wpAnyH_take (i := 7) (oi := _) (v := ?mv22) rfl (by kernel_rfl) (by kernel_rfl) (by kernel_rfl) (fun _ _ _ h => h) (Or.inl ⟨by rfl, ?my22⟩) (by assumption) ?mr22
    case my22 => (simp only [List.getElem_toArray, List.getElem_cons_succ, List.getElem_cons_zero]; intro w hSw; (try dsimp only at hSw); go_simp; first | done | with_reducible rfl)
    try simp only [List.getElem_toArray, List.getElem_cons_succ, List.getElem_cons_zero, Act.put, List.setIfInBounds_toArray, List.set_cons_zero, List.set_cons_succ]
    refine wpAnyH_take (i := 8) (oi := _) (v := ?mv23) rfl (by kernel_rfl) (by kernel_rfl) (by kernel_rfl) (fun _ _ _ h => h) (Or.inl ⟨by rfl, ?my23⟩) (by assumption) ?mr23
    case my23 => (simp only [List.getElem_toArray, List.getElem_cons_succ, List.getElem_cons_zero]; intro w hSw; (try dsimp only at hSw); go_simp; first | done | with_reducible rfl)
    try simp only [List.getElem_toArray, List.getElem_cons_succ, List.getElem_cons_zero, Act.put, List.setIfInBounds_toArray, List.set_cons_zero, List.set_cons_succ]
    refine wpAnyH_take (i := 10) (oi := _) (v := ?mv24) rfl (by kernel_rfl) (by kernel_rfl) (by kernel_rfl) (fun _ _ _ h => h) (Or.inl ⟨by rfl, ?my24⟩) (by assumption) ?mr24
    case my24 => (simp only [List.getElem_toArray, List.getElem_cons_succ, List.getElem_cons_zero]; intro w hSw; (try dsimp only at hSw); go_simp; first | done | with_reducible rfl)
    try simp only [List.getElem_toArray, List.getElem_cons_succ, List.getElem_cons_zero, Act.put, List.setIfInBounds_toArray, List.set_cons_zero, List.set_cons_succ]
    refine wpAnyH_ready (rs := [9]) (by kernel_rfl) (by simp) ?_
    refine AllReadyH.cons (o := _) rfl (fun K hK => ?_) AllReadyH.nil
    simp only [List.getElem_toArray, List.getElem_cons_succ, List.getElem_cons_zero]
    go_simp
    refine hK.out _ _ ?_ (fun hHeld => ?_)
    · (try dsimp only); (first | (with_reducible exact ⟨u0, u5⟩) | exact ⟨Later.cell (show Later A2 _ by repeat (first | (with_reducible exact Later.refl _) | (with_reducible apply Later.drew) | (with_reducible apply Later.drewN) | (with_reducible apply Later.alloc) | (with_reducible refine Later.call ?_ (by assumption)))) u0, Later.cell (show Later A2 _ by repeat (first | (with_reducible exact Later.refl _) | (with_reducible apply Later.drew) | (with_reducible apply Later.drewN) | (with_reducible apply Later.alloc) | (with_reducible refine Later.call ?_ (by assumption)))) u5⟩)
    clear hK K
    try simp only [List.getElem_toArray, List.getElem_cons_succ, List.getElem_cons_zero, Act.put, List.setIfInBounds_toArray, List.set_cons_zero, List.set_cons_succ]
    refine wpAnyH_ready (rs := [11]) (by kernel_rfl) (by simp) ?_
    refine AllReadyH.cons (o := _) rfl (fun K hK => ?_) AllReadyH.nil
    simp only [List.getElem_toArray, List.getElem_cons_succ, List.getElem_cons_zero]
    go_simp
    go_at_call 48; (with_reducible refine (fix_add ov (Fx.mul tv xv) _ haI hmulI).mono ?_); rintro e wb ⟨rfl, rfl⟩
    try go_wp2_with fail
    refine hK.out _ _ ?_ (fun hHeld => ?_)
    · (try dsimp only); (first | (with_reducible exact ⟨u0, u5⟩) | exact ⟨Later.cell (show Later A2 _ by repeat (first | (with_reducible exact Later.refl _) | (with_reducible apply Later.drew) | (with_reducible apply Later.drewN) | (with_reducible apply Later.alloc) | (with_reducible refine Later.call ?_ (by assumption)))) u0, Later.cell (show Later A2 _ by repeat (first | (with_reducible exact Later.refl _) | (with_reducible apply Later.drew) | (with_reducible apply Later.drewN) | (with_reducible apply Later.alloc) | (with_reducible refine Later.call ?_ (by assumption)))) u5⟩)
    clear hK K
    try simp only [List.getElem_toArray, List.getElem_cons_succ, List.getElem_cons_zero, Act.put, List.setIfInBounds_toArray, List.set_cons_zero, List.set_cons_succ]
    refine wpAnyH_take (i := 12) (oi := _) (v := ?mv27) rfl (by kernel_rfl) (by kernel_rfl) (by kernel_rfl) (fun _ _ _ h => h) (Or.inl ⟨by rfl, ?my27⟩) (by assumption) ?mr27
    case my27 => (simp only [List.getElem_toArray, List.getElem_cons_succ, List.getElem_cons_zero]; intro w hSw; (try dsimp only at hSw); go_simp; first | done | with_reducible rfl)
    try simp only [List.getElem_toArray, List.getElem_cons_succ, List.getElem_cons_zero, Act.put, List.setIfInBounds_toArray, List.set_cons_zero, List.set_cons_succ]
    refine wpAnyH_ready (rs := [13]) (by kernel_rfl) (by simp) ?_
    refine AllReadyH.cons (o := _) rfl (fun K hK => ?_) AllReadyH.nil
    simp only [List.getElem_toArray, List.getElem_cons_succ, List.getElem_cons_zero]
    go_simp
    refine hK.out _ _ ?_ (fun hHeld => ?_)
    · (try dsimp only); (refine ⟨?_, ?_⟩ <;> (repeat (refine cell_setfar ?_ (by first | omega | (simp; done) | (simp; omega)))) <;> (refine Later.cell (show Later A2 _ by repeat (first | (with_reducible exact Later.refl _) | (with_reducible apply Later.drew) | (with_reducible apply Later.drewN) | (with_reducible apply Later.alloc) | (with_reducible refine Later.call ?_ (by assumption)))) ?_) <;> assumption)
    clear hK K
    try simp only [List.getElem_toArray, List.getElem_cons_succ, List.getElem_cons_zero, Act.put, List.setIfInBounds_toArray, List.set_cons_zero, List.set_cons_succ]
    refine wpAnyH_done (by kernel_rfl) ?_ _
    refine NoPanic.normal ?_
    refine OnlyNormal.mk ?_
    gi_wp2_with fail
    have n1 : w.heap.size ≠ hh := by omega
    have n2 : w.heap.size + 1 ≠ hh := by omega
    have n3 : w.heap.size + 2 ≠ hh := by omega
    have n4 : q ≠ hh := by omega
    have k1 := Hg1.out.set_ zo (.int .i64 (Fx.add ov (Fx.mul tv xv)))
    refine ⟨Above.setCell (p := ⟨hh, zo, none⟩) hHlt _, ?_, Hg2.out.far (p := ⟨hh, zo, none⟩) n4 _, ⟨Hg4.out.far (p := ⟨hh, zo, none⟩) n1 _, Hg5.out.far (p := ⟨hh, zo, none⟩) n2 _, Hg6.out.far (p := ⟨hh, zo, none⟩) n3 _, Hg7.out.far (p := ⟨hh, zo, none⟩) hgh _⟩, ((Hg3.out.set (p := ⟨hh, zo, none⟩) (by simp; omega) _).drew).drew⟩
    simpa using k1.drew.drew
  case hdone =>
    rintro D W ⟨h1, h2, ⟨h4, h5, h6, h7⟩, h3⟩ hD hK
    have hzlt := Hz7.out.lt
    have o0 := h2.cell 0
    have o1 := h2.cell 1
    have c0 := h6.cell 0
    have c1 := h6.cell 1
    have f0 := h6.frozen 0
    have f1 := h6.frozen 1
    simp at o0 o1 c0 c1
    have hN : Ly.span out = (Safe.prod out).toNat := rfl
    have hzz := (h6.set_ 0 (.slice (some ⟨g, 0, none⟩) out.length out.length)).set_ 1 (.slice (some ⟨hh, 0, none⟩) (Safe.prod out).toNat (Safe.prod out).toNat)
    have d0 := hzz.cell 0
    have d1 := hzz.cell 1
    simp at d0 d1
    have hcl := Ly.convC_len Ht.out.num Hx.out.num (Safe.prod out).toNat fr.all
    have hci := Ly.convC_in Ht.out.num Hx.out.num (Safe.prod out).toNat fr.all
    have hHE := HE.out
    rw [hT, hout, hN] at hHE
    have hsz : out.length ≤ 1048576 := by omega
    obtain ⟨l7, l8, l9⟩ := Ly.conv_lens hr hq HK.out
    rw [hout, hfr] at l9
    have hsn : (Safe.prod out).toNat ≤ 1048576 := by rw [l9]; have := HF.out.out; rw [hout, hfr] at this; omega
    clear l7 l8 l9 hmk hpl hs hps hN hzz
    have HHE := Lib.hid hHE
    clear hHE hT
    generalize Ly.convC t.c x.c fr.all (Safe.prod out).toNat = acc at *
    generalize (Safe.prod out).toNat = N at *
    have hK2 := (Below.heap_setCell (W.setCell ⟨w.heap.size + 2, 0, none⟩ (.slice (some ⟨g, 0, none⟩) out.length out.length)) ⟨w.heap.size + 2, 1, none⟩ (.slice (some ⟨hh, 0, none⟩) N N) D (by simp; omega)).trans ((Below.heap_setCell W ⟨w.heap.size + 2, 0, none⟩ (.slice (some ⟨g, 0, none⟩) out.length out.length) D (by simp; omega)).trans hK)
    have H1 := Lib.hid h1
    have H2 := Lib.hid h2
    have H4 := Lib.hid h4
    have H5 := Lib.hid h5
    have H6 := Lib.hid h6
    have H7 := Lib.hid h7
    have H3 := Lib.hid h3
    have HK := Lib.hid hK
    have HK2 := Lib.hid hK2
    have Hci := Lib.hid hci
    clear h1 h2 h4 h5 h6 h7 h3 hK hK2 hci
    go_wp2_with fail
    refine ⟨by simp, .inl ⟨_, _, rfl, run_takeDeferred HK2.out, ?_⟩⟩
    have m1 : w.heap.size + 2 ≠ D := by omega
    have m2 : g ≠ w.heap.size + 2 := by omega
    have m3 : hh ≠ w.heap.size + 2 := by omega
    have hD1 : g ≠ D := by have := HG7.out.lt; omega
    have hD2 : hh ≠ D := by have := HH7.out.lt; omega
    have e0 := (World.cell?_of_block (World.putObj_heap_other (o := .deferred none) (w := (W.setCell ⟨w.heap.size + 2, 0, none⟩ (.slice (some ⟨g, 0, none⟩) out.length out.length)).setCell ⟨w.heap.size + 2, 1, none⟩ (.slice (some ⟨hh, 0, none⟩) N N)) m1)).trans d0
    have e1 := (World.cell?_of_block (World.putObj_heap_other (o := .deferred none) (w := (W.setCell ⟨w.heap.size + 2, 0, none⟩ (.slice (some ⟨g, 0, none⟩) out.length out.length)).setCell ⟨w.heap.size + 2, 1, none⟩ (.slice (some ⟨hh, 0, none⟩) N N)) m1)).trans d1
    have b1 : Blk (((W.setCell ⟨w.heap.size + 2, 0, none⟩ (.slice (some ⟨g, 0, none⟩) out.length out.length)).setCell ⟨w.heap.size + 2, 1, none⟩ (.slice (some ⟨hh, 0, none⟩) N N)).putObj D (.deferred none)) g 3 (out.map (Value.int .i64)).toArray := (World.putObj_heap_other hD1).trans ((H7.out.far (p := ⟨w.heap.size + 2, 0, none⟩) m2 _).far (p := ⟨w.heap.size + 2, 1, none⟩) m2 _)
    have b2 : Blk (((W.setCell ⟨w.heap.size + 2, 0, none⟩ (.slice (some ⟨g, 0, none⟩) out.length out.length)).setCell ⟨w.heap.size + 2, 1, none⟩ (.slice (some ⟨hh, 0, none⟩) N N)).putObj D (.deferred none)) hh 22 (acc.map (Value.int .i64)).toArray := (World.putObj_heap_other hD2).trans ((H1.out.far (p := ⟨w.heap.size + 2, 0, none⟩) m3 _).far (p := ⟨w.heap.size + 2, 1, none⟩) m3 _)
    have b3 : Later w (((W.setCell ⟨w.heap.size + 2, 0, none⟩ (.slice (some ⟨g, 0, none⟩) out.length out.length)).setCell ⟨w.heap.size + 2, 1, none⟩ (.slice (some ⟨hh, 0, none⟩) N N)).putObj D (.deferred none)) := Below.trans ((H3.out.set (p := ⟨w.heap.size + 2, 0, none⟩) (by simp) _).set (p := ⟨w.heap.size + 2, 1, none⟩) (by simp) _) (below_put _ _ (by omega))
    simp only [Nat.add_assoc, Nat.reduceAdd]
    generalize ((W.setCell ⟨w.heap.size + 2, 0, none⟩ (.slice (some ⟨g, 0, none⟩) out.length out.length)).setCell ⟨w.heap.size + 2, 1, none⟩ (.slice (some ⟨hh, 0, none⟩) N N)).putObj D (.deferred none) = W4 at *
    refine ⟨.tuple #[.agg #[.slice (some ⟨g, 0, none⟩) out.length out.length, .slice (some ⟨hh, 0, none⟩) N N], .int .i64 0], by simp [results, Try.results19, go_sem, e0, e1], ?_⟩
    refine GoP.ok HHE.out ?_ b3
    refine ⟨some ⟨g, 0, none⟩, out.length, some ⟨hh, 0, none⟩, N, by simp [hcl], ⟨⟨b1.intsL, b2.intsL⟩, Nat.le_refl _, by omega, by simp [hcl], by omega, hsz, by simp [hcl]; omega, Hci.out⟩, ?_, ?_⟩
    · intro a e
      injection e with e
      rw [← e]
      show w.heap.size ≤ g
      omega
    · intro a e
      injection e with e
      rw [← e]
      exact ⟨show w.heap.size ≤ hh by omega, b2.lt, fun j => b2.frozen j⟩
end Go.Proofs.Ytbnnpkcfifejmaa

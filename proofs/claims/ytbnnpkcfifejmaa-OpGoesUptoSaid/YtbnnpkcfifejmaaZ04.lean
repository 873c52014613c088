/- Lemmas for the statements of this seat: contracts of functions and the plain laws. -/
import Derived.BigQuiet
import Derived.ChangeSame
import Derived.Deep.AppendLies
import Derived.Deep.CutBlock
import Derived.Deep.DeepCutAuto
import Derived.Deep.Fields
import Derived.Deep.RegionHeld3
import Derived.Deep.RegionLaw
import Derived.Deep.Slices
import Derived.Maps.AppendAt
import Derived.OpenShut
import Derived.ProofKit
import Derived.Test.YtbnnpkcfifejmaaZ03
set_option linter.unusedVariables false
/- math/bits.Div64, and layer 1's quotient: contracts. -/
namespace Go.Proofs.Ytbnnpkcfifejmaa
open Go.RowKit
/-- What is known of the shifted words. -/
structure Norm (hi lo y : Int) (s : Nat) (Y A B U V1 V0 : Int) : Prop where
  y0 : 0 ≤ Y
  y1 : Y ≤ 18446744073709551615
  a0 : 2147483648 ≤ A
  a1 : A ≤ 4294967295
  b0 : 0 ≤ B
  b1 : B ≤ 4294967295
  yab : Y = A * 4294967296 + B
  u0 : 0 ≤ U
  u1 : U < Y
  v0 : 0 ≤ V1
  v1 : V1 ≤ 4294967295
  w0 : 0 ≤ V0
  w1 : V0 ≤ 4294967295
  num : (hi.toNat * 18446744073709551616 + lo.toNat) * 2 ^ s = U.toNat * 18446744073709551616 + V1.toNat * 4294967296 + V0.toNat
  den : Y.toNat = y.toNat * 2 ^ s
theorem lenAux_spec : ∀ (f x : Nat), x < 2 ^ f → x < 2 ^ Lib.bitLenAux f x ∧ (x ≠ 0 → 1 ≤ Lib.bitLenAux f x ∧ 2 ^ (Lib.bitLenAux f x - 1) ≤ x)
  | 0, x, h => by simp at h; subst h; simp [Lib.bitLenAux]
  | f + 1, x, h => by
    unfold Lib.bitLenAux
    by_cases h0 : x = 0
    · subst h0; simp
    · rw [if_neg h0]
      have h2 : x / 2 < 2 ^ f := by rw [Nat.pow_succ] at h; omega
      obtain ⟨a, b⟩ := lenAux_spec f (x / 2) h2
      rw [Nat.add_comm, Nat.add_sub_cancel]
      refine ⟨by rw [Nat.pow_succ]; omega, fun _ => ⟨by omega, ?_⟩⟩
      by_cases h1 : x / 2 = 0
      · rw [h1] at a
        have : Lib.bitLenAux f 0 = 0 := by cases f <;> simp [Lib.bitLenAux]
        rw [h1, this]; simp; omega
      · obtain ⟨b1, b2⟩ := b h1
        obtain ⟨m, hm⟩ : ∃ m, Lib.bitLenAux f (x / 2) = m + 1 := ⟨_, (Nat.sub_add_cancel b1).symm⟩
        rw [hm, Nat.add_sub_cancel] at b2
        rw [hm, Nat.pow_succ]; omega
theorem bitLen_shift_bounds {y : Nat} (h0 : 1 ≤ y) (h1 : y ≤ 18446744073709551615) : Lib.bitLen y ≤ 64 ∧ 1 ≤ Lib.bitLen y ∧ 9223372036854775808 ≤ y * 2 ^ (64 - Lib.bitLen y) ∧ y * 2 ^ (64 - Lib.bitLen y) ≤ 18446744073709551615 := by
  obtain ⟨a, b⟩ := lenAux_spec 64 y (by omega)
  have b := (b (by omega)).2
  change y < 2 ^ Lib.bitLen y at a
  change 2 ^ (Lib.bitLen y - 1) ≤ y at b
  have h2 : Lib.bitLen y ≤ 64 := by
    rcases Nat.lt_or_ge 64 (Lib.bitLen y) with h | h
    · have : 2 ^ 64 ≤ 2 ^ (Lib.bitLen y - 1) := Nat.pow_le_pow_right (by omega) (by omega)
      omega
    · exact h
  have h3 : 1 ≤ Lib.bitLen y := by
    rcases Nat.eq_zero_or_pos (Lib.bitLen y) with h | h
    · rw [h] at a; simp at a; omega
    · exact h
  generalize Lib.bitLen y = m at *
  have e1 : 2 ^ (m - 1) * 2 ^ (64 - m) = 9223372036854775808 := by rw [← Nat.pow_add, show m - 1 + (64 - m) = 63 by omega]
  have e2 : 2 ^ m * 2 ^ (64 - m) = 18446744073709551616 := by rw [← Nat.pow_add, show m + (64 - m) = 64 by omega]
  have c1 : 2 ^ (m - 1) * 2 ^ (64 - m) ≤ y * 2 ^ (64 - m) := Nat.mul_le_mul_right _ b
  have c2 : y * 2 ^ (64 - m) < 2 ^ m * 2 ^ (64 - m) := Nat.mul_lt_mul_of_pos_right a (Nat.two_pow_pos _)
  rw [e1] at c1
  rw [e2] at c2
  exact ⟨h2, h3, c1, by omega⟩
theorem u64_wrapN (a : Nat) : IntKind.u64.wrap (a : Int) = ((a % 18446744073709551616 : Nat) : Int) := by rw [IntKind.wrap_u64]; omega
theorem u64_maskN (a : Nat) (ha : a < 18446744073709551616) : bits .and .u64 (a : Int) 4294967295 = ((a % 4294967296 : Nat) : Int) := by
  have h := u64_mask a
  rw [Nat.mod_eq_of_lt ha] at h
  exact h
theorem pow_cast (n : Nat) : (2 : Int) ^ n = ((2 ^ n : Nat) : Int) := by simp
theorem norm_end {h l d k : Nat} {A B U V1 V0 : Int} {yy uu ll : Nat} (w2 : uu < yy) (w3 : (h * 18446744073709551616 + l) * 2 ^ k = uu * 18446744073709551616 + ll) (hl : ll < 18446744073709551616) (m2 : 9223372036854775808 ≤ yy) (m3 : yy ≤ 18446744073709551615)
    (hA : (yy : Int) / 4294967296 = A) (hB : ((yy % 4294967296 : Nat) : Int) = B) (hU : ((uu : Nat) : Int) = U) (hV1 : (ll : Int) / 4294967296 = V1) (hV0 : ((ll % 4294967296 : Nat) : Int) = V0) (hd : yy = d * 2 ^ k) :
    Norm h l d k yy A B U V1 V0 := by
  subst hA hB hU hV1 hV0
  refine ⟨by omega, by omega, by omega, by omega, by omega, by omega, by omega, by omega, by omega, by omega, by omega, by omega, by omega, ?_, ?_⟩
  · simp only [Int.toNat_natCast]
    rw [w3]
    omega
  · simpa using hd
theorem norm (hi lo y s : Int) (Y A B U L V1 V0 : Int) (h0 : 0 ≤ hi) (h1 : hi < y) (h2 : y ≤ 18446744073709551615) (l0 : 0 ≤ lo) (l1 : lo ≤ 18446744073709551615) (hs : s = 64 - (Lib.bitLen y.toNat : Int))
    (hY : IntKind.u64.wrap (y * 2 ^ s.toNat) = Y) (hA : Y / 4294967296 = A) (hB : bits .and .u64 Y 4294967295 = B)
    (hU : bits .or .u64 (IntKind.u64.wrap (hi * 2 ^ s.toNat)) (lo / 2 ^ (64 - s).toNat) = U) (hL : IntKind.u64.wrap (lo * 2 ^ s.toNat) = L) (hV1 : L / 4294967296 = V1) (hV0 : bits .and .u64 L 4294967295 = V0) :
    Norm hi lo y s.toNat Y A B U V1 V0 := by
  obtain ⟨h, rfl⟩ := Int.eq_ofNat_of_zero_le h0
  obtain ⟨l, rfl⟩ := Int.eq_ofNat_of_zero_le l0
  obtain ⟨d, rfl⟩ := Int.eq_ofNat_of_zero_le (show 0 ≤ y by omega)
  obtain ⟨m0, m1, m2, m3⟩ := bitLen_shift_bounds (y := d) (by omega) (by omega)
  rw [Int.toNat_natCast] at hs
  obtain ⟨k, hk⟩ : ∃ k, k = 64 - Lib.bitLen d := ⟨_, rfl⟩
  have hk1 : s.toNat = k := by omega
  have hk2 : (64 - s).toNat = 64 - k := by omega
  have hk3 : k < 64 := by omega
  rw [← hk] at m2 m3
  rw [hk1] at hY hU hL
  rw [hk2] at hU
  rw [hk1]
  clear hs hk hk1 hk2 m0 m1
  have hlt : l < 18446744073709551616 := by omega
  have hhd : h < d := by omega
  have w1 := Kd.low_lt (lo := l) hk3 hlt
  have w2 := Kd.high_lt (hi := h) (lo := l) (y := d) hk3 hlt hhd
  have w3 := Kd.words (hi := h) hk3 hlt
  simp only [pow_cast, ← Int.natCast_mul, ← Int.natCast_ediv] at hY hU hL
  rw [u64_wrapN] at hY hU hL
  have hh : h * 2 ^ k < 18446744073709551616 := by
    generalize l / 2 ^ (64 - k) = z at w2
    generalize h * 2 ^ k = z2 at *
    generalize d * 2 ^ k = z3 at *
    omega
  rw [Nat.mod_eq_of_lt (by omega)] at hY
  rw [Nat.mod_eq_of_lt hh, bits_or_u64_nat _ _ hh (by omega), or_mul _ _ k (2 ^ k) rfl w1] at hU
  subst hY hL
  rw [u64_maskN _ (by omega)] at hB hV0
  exact norm_end w2 w3 (Nat.mod_lt _ (by decide)) m2 m3 hA hB hU hV1 hV0 rfl
/-- A digit's guess. -/
def DRel (U V Y A B : Int) (q r : Int) : Prop := 0 ≤ q ∧ q ≤ 4294967297 ∧ 0 ≤ r ∧ r ≤ 4294967295 ∧ Kd.Inv U.toNat V.toNat Y.toNat A.toNat B.toNat q.toNat r.toNat
/-- What a digit asks of its numbers. -/
structure DOk (U V Y A B : Int) : Prop where
  y0 : 0 ≤ Y
  a0 : 2147483648 ≤ A
  a1 : A ≤ 4294967295
  b0 : 0 ≤ B
  b1 : B ≤ 4294967295
  yab : Y.toNat = A.toNat * 4294967296 + B.toNat
  u0 : 0 ≤ U
  u1 : U < Y
  v0 : 0 ≤ V
  v1 : V ≤ 4294967295
/-- The digit. -/
def digit (U V Y : Int) : Int := (((U.toNat * 4294967296 + V.toNat) / Y.toNat : Nat) : Int)
def drest (U V Y : Int) : Int := (((U.toNat * 4294967296 + V.toNat) % Y.toNat : Nat) : Int)
section
variable {U V Y A B q r : Int}
theorem digit_start (h : DOk U V Y A B) : 0 ≤ U / A * A ∧ U / A * A ≤ U ∧ 0 ≤ U / A ∧ U / A ≤ 4294967297 ∧ DRel U V Y A B (U / A) (U - U / A * A) := by
  obtain ⟨y0, a0, a1, b0, b1, yab, u0, u1, v0, v1⟩ := h
  obtain ⟨u, rfl⟩ := Int.eq_ofNat_of_zero_le u0
  obtain ⟨a, rfl⟩ := Int.eq_ofNat_of_zero_le (show 0 ≤ A by omega)
  have e : (u : Int) / (a : Int) = ((u / a : Nat) : Int) := by simp
  have e2 : ((u / a : Nat) : Int) * (a : Int) = ((u / a * a : Nat) : Int) := by simp
  have h0 := Nat.div_mul_le_self u a
  have hi := Kd.Inv.start (u := u) (v := V.toNat) (y := Y.toNat) (a := a) (b := B.toNat) (by omega) (by simpa using yab) (by omega) (by omega) (by omega)
  have h1 := hi.le
  have h2 := Nat.mod_lt u (show 0 < a by omega)
  have h3 := Nat.div_add_mod u a
  rw [Nat.mul_comm] at h3
  rw [e, e2]
  unfold DRel
  have e3 : ((u : Int) - ((u / a * a : Nat) : Int)).toNat = u - u / a * a := by omega
  rw [e3]
  simp only [Int.toNat_natCast]
  generalize u / a * a = x at *
  generalize u / a = z at *
  exact ⟨by omega, by omega, by omega, by omega, by omega, by omega, by omega, by omega, hi⟩
theorem digit_prod (hq : 0 ≤ q) (hq1 : q ≤ 4294967295) (hB : 0 ≤ B) (hB1 : B ≤ 4294967295) : 0 ≤ q * B ∧ q * B ≤ 18446744065119617025 := by
  refine ⟨Int.mul_nonneg hq hB, ?_⟩
  have := Int.mul_le_mul hq1 hB1 hB (by omega)
  omega
theorem more_of (hr0 : 0 ≤ r) (hq0 : 0 ≤ q) (hv0 : 0 ≤ V) (hB : 0 ≤ B) : Kd.more q.toNat r.toNat B.toNat V.toNat = (decide (4294967296 ≤ q) || decide (4294967296 * r + V < q * B)) := by
  obtain ⟨q, rfl⟩ := Int.eq_ofNat_of_zero_le hq0
  obtain ⟨r, rfl⟩ := Int.eq_ofNat_of_zero_le hr0
  obtain ⟨V, rfl⟩ := Int.eq_ofNat_of_zero_le hv0
  obtain ⟨B, rfl⟩ := Int.eq_ofNat_of_zero_le hB
  have e2 : (q : Int) * (B : Int) = ((q * B : Nat) : Int) := by simp
  unfold Kd.more
  rw [e2]
  simp only [Int.toNat_natCast]
  rw [Bool.eq_iff_iff]
  simp only [Bool.or_eq_true, decide_eq_true_eq]
  omega
theorem digit_next (h : DOk U V Y A B) (hd : DRel U V Y A B q r) (hm : (decide (4294967296 ≤ q) || decide (4294967296 * r + V < q * B)) = true) :
    1 ≤ q ∧ (r + A < 4294967296 → DRel U V Y A B (q - 1) (r + A)) ∧ (4294967296 ≤ r + A → q - 1 = digit U V Y) := by
  obtain ⟨y0, a0, a1, b0, b1, yab, u0, u1, v0, v1⟩ := h
  obtain ⟨d0, d1, d2, d3, d4⟩ := hd
  rw [← more_of d2 d0 v0 b0] at hm
  obtain ⟨k1, k2, k3⟩ := d4.next yab (by omega) (by omega) hm
  have e1 : (q - 1).toNat = q.toNat - 1 := by omega
  have e2 : (r + A).toNat = r.toNat + A.toNat := by omega
  refine ⟨by omega, fun hr => ⟨by omega, by omega, by omega, by omega, by rw [e1, e2]; exact k3⟩, fun hr => ?_⟩
  have := k3.brk yab (by omega) (by omega) (by omega) (by omega)
  unfold digit
  omega
theorem digit_done (h : DOk U V Y A B) (hd : DRel U V Y A B q r) (hm : (decide (4294967296 ≤ q) || decide (4294967296 * r + V < q * B)) = false) : q = digit U V Y := by
  obtain ⟨y0, a0, a1, b0, b1, yab, u0, u1, v0, v1⟩ := h
  obtain ⟨d0, d1, d2, d3, d4⟩ := hd
  rw [← more_of d2 d0 v0 b0] at hm
  have := d4.done yab (by omega) hm
  unfold digit
  omega
theorem digit_bd (h : DOk U V Y A B) : 0 ≤ digit U V Y ∧ digit U V Y ≤ 4294967295 ∧ 0 ≤ drest U V Y ∧ drest U V Y < Y := by
  obtain ⟨y0, a0, a1, b0, b1, yab, u0, u1, v0, v1⟩ := h
  have h1 := Kd.digit_lt (u := U.toNat) (v := V.toNat) (y := Y.toNat) (by omega) (by omega)
  have h2 := Nat.mod_lt (U.toNat * 4294967296 + V.toNat) (show 0 < Y.toNat by omega)
  unfold digit drest
  generalize (U.toNat * 4294967296 + V.toNat) / Y.toNat = x at *
  generalize (U.toNat * 4294967296 + V.toNat) % Y.toNat = z at *
  omega
/-- What is left behind a digit, as the words reckon it. -/
theorem digit_rest (h : DOk U V Y A B) : IntKind.u64.wrap (IntKind.u64.wrap (IntKind.u64.wrap (U * 4294967296) + V) - IntKind.u64.wrap (digit U V Y * Y)) = drest U V Y := by
  have hb := digit_bd h
  obtain ⟨y0, a0, a1, b0, b1, yab, u0, u1, v0, v1⟩ := h
  have h1 := Nat.div_add_mod (U.toNat * 4294967296 + V.toNat) Y.toNat
  have e : digit U V Y * Y = ((Y.toNat * ((U.toNat * 4294967296 + V.toNat) / Y.toNat) : Nat) : Int) := by
    unfold digit
    rw [Int.natCast_mul, Int.mul_comm, Int.toNat_of_nonneg y0]
  rw [e]
  unfold drest at *
  generalize (U.toNat * 4294967296 + V.toNat) % Y.toNat = z at *
  generalize Y.toNat * ((U.toNat * 4294967296 + V.toNat) / Y.toNat) = x at *
  simp only [IntKind.wrap_u64]
  omega
end
theorem nat_two {m q1 q0 : Nat} (h : m = q1 * 4294967296 + q0) : (q1 : Int) * 4294967296 + (q0 : Int) = (m : Int) := by omega
theorem nat_shr {m r s : Nat} (h : r / 2 ^ s = m) : (r : Int) / 2 ^ s = (m : Int) := by rw [← h, pow_cast]; exact (Int.natCast_ediv _ _).symm
theorem div_nat {n y s Y u v1 v0 : Nat} (h1 : n * 2 ^ s = u * 18446744073709551616 + v1 * 4294967296 + v0) (h2 : Y = y * 2 ^ s) (hY : 0 < Y) :
    n / y = (u * 4294967296 + v1) / Y * 4294967296 + ((u * 4294967296 + v1) % Y * 4294967296 + v0) / Y ∧ ((u * 4294967296 + v1) % Y * 4294967296 + v0) % Y / 2 ^ s = n % y := by
  obtain ⟨a, b⟩ := Kd.shifted n y s
  obtain ⟨c, d⟩ := Kd.two (u := u) (v1 := v1) (v0 := v0) hY
  rw [← h1] at c d
  rw [← h2] at a b
  exact ⟨a.symm.trans c, by rw [← d]; exact b⟩
theorem div_end {hi lo y : Int} {s : Nat} {Y A B U V1 V0 : Int} (n : Norm hi lo y s Y A B U V1 V0) :
    digit U V1 Y * 4294967296 + digit (drest U V1 Y) V0 Y = (((hi.toNat * 18446744073709551616 + lo.toNat) / y.toNat : Nat) : Int) ∧ drest (drest U V1 Y) V0 Y / 2 ^ s = (((hi.toNat * 18446744073709551616 + lo.toNat) % y.toNat : Nat) : Int) := by
  have hY : 0 < Y.toNat := by have := n.u0; have := n.u1; omega
  obtain ⟨a, b⟩ := div_nat n.num n.den hY
  have e : (drest U V1 Y).toNat = (U.toNat * 4294967296 + V1.toNat) % Y.toNat := Int.toNat_natCast _
  rw [← e] at a b
  exact ⟨nat_two a, nat_shr b⟩
theorem ret_two {a b a' b' : Int} (h1 : a = a') (h2 : b = b') : Ending.returned (.tuple #[.int .u64 a, .int .u64 b]) = .returned (.tuple #[.int .u64 a', .int .u64 b']) := by rw [h1, h2]
set_option maxRecDepth 20000 in
set_option maxHeartbeats 4000000 in
theorem div64_zero (lo y : Int) (w : World) (y1 : 1 ≤ y) (h2 : y ≤ 18446744073709551615) (l0 : 0 ≤ lo) (l1 : lo ≤ 18446744073709551615) :
    Calls Try.prog 85 #[.int .u64 0, .int .u64 lo, .int .u64 y] w fun e w' => e = .returned (.tuple #[.int .u64 (lo / y), .int .u64 (lo % y)]) ∧ ∃ n, w' = w.drewN n := by
  have h1 : 0 < y := by omega
  go_enter Try.func85, Try.ntmps85
  go_wp2_with fail
  go_quiet (fail)
  go_wp2_with fail
  go_ret2
  exact ⟨ret_two rfl rfl, nq, rfl⟩
set_option maxRecDepth 20000 in
set_option maxHeartbeats 4000000 in
theorem div64_big (hi lo y q z : Int) (w : World) (h0 : 0 ≤ hi) (hp : 1 ≤ hi) (h1 : hi < y) (h2 : y ≤ 18446744073709551615) (l0 : 0 ≤ lo) (l1 : lo ≤ 18446744073709551615)
    (hq : (((hi.toNat * 18446744073709551616 + lo.toNat) / y.toNat : Nat) : Int) = q) (hz : (((hi.toNat * 18446744073709551616 + lo.toNat) % y.toNat : Nat) : Int) = z) :
    Calls Try.prog 85 #[.int .u64 hi, .int .u64 lo, .int .u64 y] w fun e w' => e = .returned (.tuple #[.int .u64 q, .int .u64 z]) ∧ w = w' := by
  have y1 : 1 ≤ y := by omega
  have HQ := Lib.hid hq
  have HZ := Lib.hid hz
  clear hq hz
  have d1 : (hi == 0) = false := by simp; omega
  go_enter Try.func85, Try.ntmps85
  go_wp2_with fail
  refine (Try.bits_LeadingZeros64 y _ (by omega) (by omega)).mono ?_
  rintro e w1 ⟨rfl, hw1⟩
  subst hw1
  obtain ⟨s, hs⟩ : ∃ s : Int, s = 64 - (Lib.bitLen y.toNat : Int) := ⟨_, rfl⟩
  rw [← hs]
  obtain ⟨m0, m1, _, _⟩ := bitLen_shift_bounds (y := y.toNat) (by omega) (by omega)
  have s0 : 0 ≤ s := by omega
  have s1 : s ≤ 63 := by omega
  have HS := Lib.hid hs
  clear hs m0 m1
  go_upto_region 15 with fail
  generalize hY : IntKind.u64.wrap (y * 2 ^ s.toNat) = Y
  generalize hA : Y / 4294967296 = A
  generalize hB : bits .and .u64 Y 4294967295 = B
  generalize hU : bits .or .u64 (IntKind.u64.wrap (hi * 2 ^ s.toNat)) (lo / 2 ^ (64 - s).toNat) = U
  generalize hL : IntKind.u64.wrap (lo * 2 ^ s.toNat) = L
  generalize hV1 : L / 4294967296 = V1
  generalize hV0 : bits .and .u64 L 4294967295 = V0
  have N := Lib.hid (norm hi lo y s Y A B U L V1 V0 h0 h1 h2 l0 l1 HS.out hY hA hB hU hL hV1 hV0)
  generalize IntKind.u64.wrap (hi * 2 ^ s.toNat) = junk1
  generalize lo / 2 ^ (64 - s).toNat = junk2
  clear hY hA hB hU hL hV1 hV0
  obtain ⟨n1, n2, n3, n4, n5, n6, n14, n7, n8, n9, n10, n11, n12, n15, n16⟩ := N.out
  have hok : DOk U V1 Y A B := ⟨n1, n3, n4, n5, n6, by omega, n7, n8, n9, n10⟩
  have n13 : U ≤ 18446744073709551614 := by omega
  have Hok := Lib.hid hok
  obtain ⟨g1, g2, g3, g4, g5⟩ := digit_start hok
  obtain ⟨g6, g7, g8, g9⟩ := digit_bd hok
  have HDS := Lib.hid g5
  have H0 := Lib.hid h0
  clear n14 n15 n16 hok g5
  have t1 : 0 ≤ U - U / A * A := by omega
  go_upto_block 0 with fail
  go_cut [15] (fun q wx => w1 = wx ∧ q = .int .u64 (digit U V1 Y))
  case first =>
    go_wp2_with fail
    go_loop [15, 16] (fun qv rv => ∃ q r : Int, qv = .int .u64 q ∧ rv = .int .u64 r ∧ DRel U V1 Y A B q r) (fun qv _ => (intOf qv).toNat)
    case atStart => exact ⟨_, _, rfl, rfl, HDS.out⟩
    case round =>
      obtain ⟨q, r, rfl, rfl, hd⟩ := hrel
      obtain ⟨d0, d1, d2, d3, _⟩ := id hd
      have HD := Lib.hid hd
      clear hd g1 g2 g3 g4 g6 g7 g8 g9
      by_cases hq : 4294967296 ≤ q
      · have hm : (decide (4294967296 ≤ q) || decide (4294967296 * r + V1 < q * B)) = true := by simp [hq]
        obtain ⟨k1, k2, k3⟩ := digit_next Hok.out HD.out hm
        have K2 := Lib.hid k2
        have K3 := Lib.hid k3
        clear hm k2 k3
        by_cases hr : r + A < 4294967296
        · go_wp2_with fail
          go_round
          case rel => exact ⟨q - 1, r + A, rfl, rfl, K2.out hr⟩
          case measure => simp [intOf]; omega
        · have hr2 : 4294967296 ≤ r + A := by omega
          go_wp2_with fail
          go_meet
          exact ⟨rfl, by rw [K3.out hr2]⟩
      · have hq2 : q ≤ 4294967295 := by omega
        obtain ⟨p0, p1⟩ := digit_prod d0 hq2 n5 n6
        by_cases hc : 4294967296 * r + V1 < q * B
        · have hm : (decide (4294967296 ≤ q) || decide (4294967296 * r + V1 < q * B)) = true := by simp [hc]
          obtain ⟨k1, k2, k3⟩ := digit_next Hok.out HD.out hm
          have K2 := Lib.hid k2
          have K3 := Lib.hid k3
          clear hm k2 k3
          by_cases hr : r + A < 4294967296
          · go_wp2_with fail
            go_round
            case rel => exact ⟨q - 1, r + A, rfl, rfl, K2.out hr⟩
            case measure => simp [intOf]; omega
          · have hr2 : 4294967296 ≤ r + A := by omega
            go_wp2_with fail
            go_meet
            exact ⟨rfl, by rw [K3.out hr2]⟩
        · have hm : (decide (4294967296 ≤ q) || decide (4294967296 * r + V1 < q * B)) = false := by simp [hc]; omega
          have K3 := Lib.hid (digit_done Hok.out HD.out hm)
          clear hm
          go_wp2_with fail
          go_meet
          exact ⟨rfl, by rw [← K3.out]⟩
  case rest =>
    obtain ⟨rfl, rfl⟩ := hcut
    clear g1 g2 g3 g4 t1 HDS
    have HR := Lib.hid (digit_rest Hok.out)
    obtain ⟨e1, e2⟩ := div_end N.out
    rw [HQ.out] at e1
    rw [HZ.out] at e2
    have E1 := Lib.hid e1
    have E2 := Lib.hid e2
    have hok2 : DOk (drest U V1 Y) V0 Y A B := by
      obtain ⟨a0, a1, a2, a3, a4, a5, a6, a7, a8, a9⟩ := Hok.out
      exact ⟨a0, a1, a2, a3, a4, a5, g8, g9, n11, n12⟩
    have HR2 := Lib.hid (digit_rest hok2)
    obtain ⟨p1, p2, p3, p4, p5⟩ := digit_start hok2
    obtain ⟨p6, p7, p8, p9⟩ := digit_bd hok2
    have HDS := Lib.hid p5
    have Hok2 := Lib.hid hok2
    clear e1 e2 hok2 p5 N Hok n7 n8 n13 H0
    generalize digit U V1 Y = Q1 at *
    go_upto_region 22 with fail
    rw [HR.out]
    generalize drest U V1 Y = R at *
    generalize IntKind.u64.wrap (Q1 * Y) = junk3
    generalize IntKind.u64.wrap (U * 4294967296) = junk4
    generalize IntKind.u64.wrap (junk4 + V1) = junk5
    have t1 : 0 ≤ R - R / A * A := by omega
    have t2 : R ≤ 18446744073709551614 := by omega
    go_upto_block 2 with fail
    go_cut [18] (fun q wx => w1 = wx ∧ q = .int .u64 (digit R V0 Y))
    case first =>
      go_wp2_with fail
      go_loop [18, 16] (fun qv rv => ∃ q r : Int, qv = .int .u64 q ∧ rv = .int .u64 r ∧ DRel R V0 Y A B q r) (fun qv _ => (intOf qv).toNat)
      case atStart => exact ⟨_, _, rfl, rfl, HDS.out⟩
      case round =>
        obtain ⟨q, r, rfl, rfl, hd⟩ := hrel
        obtain ⟨d0, d1, d2, d3, _⟩ := id hd
        have HD := Lib.hid hd
        clear hd p1 p2 p3 p4 p6 p7 p8 p9
        by_cases hq : 4294967296 ≤ q
        · have hm : (decide (4294967296 ≤ q) || decide (4294967296 * r + V0 < q * B)) = true := by simp [hq]
          obtain ⟨k1, k2, k3⟩ := digit_next Hok2.out HD.out hm
          have K2 := Lib.hid k2
          have K3 := Lib.hid k3
          clear hm k2 k3
          by_cases hr : r + A < 4294967296
          · go_wp2_with fail
            go_round
            case rel => exact ⟨q - 1, r + A, rfl, rfl, K2.out hr⟩
            case measure => simp [intOf]; omega
          · have hr2 : 4294967296 ≤ r + A := by omega
            go_wp2_with fail
            go_meet
            exact ⟨rfl, by rw [K3.out hr2]⟩
        · have hq2 : q ≤ 4294967295 := by omega
          obtain ⟨z0, z1⟩ := digit_prod d0 hq2 n5 n6
          by_cases hc : 4294967296 * r + V0 < q * B
          · have hm : (decide (4294967296 ≤ q) || decide (4294967296 * r + V0 < q * B)) = true := by simp [hc]
            obtain ⟨k1, k2, k3⟩ := digit_next Hok2.out HD.out hm
            have K2 := Lib.hid k2
            have K3 := Lib.hid k3
            clear hm k2 k3
            by_cases hr : r + A < 4294967296
            · go_wp2_with fail
              go_round
              case rel => exact ⟨q - 1, r + A, rfl, rfl, K2.out hr⟩
              case measure => simp [intOf]; omega
            · have hr2 : 4294967296 ≤ r + A := by omega
              go_wp2_with fail
              go_meet
              exact ⟨rfl, by rw [K3.out hr2]⟩
          · have hm : (decide (4294967296 ≤ q) || decide (4294967296 * r + V0 < q * B)) = false := by simp [hc]; omega
            have K3 := Lib.hid (digit_done Hok2.out HD.out hm)
            clear hm
            go_wp2_with fail
            go_meet
            exact ⟨rfl, by rw [← K3.out]⟩
    case rest =>
      obtain ⟨rfl, rfl⟩ := hcut
      clear p1 p2 p3 p4 t1 HDS
      generalize digit R V0 Y = Q0 at *
      go_wp2_with fail
      rw [HR2.out]
      go_ret2
      exact ⟨ret_two E1.out E2.out, rfl⟩
theorem div64 (hi lo y q z : Int) (w : World) (h0 : 0 ≤ hi) (h1 : hi < y) (h2 : y ≤ 18446744073709551615) (l0 : 0 ≤ lo) (l1 : lo ≤ 18446744073709551615)
    (hq : (((hi.toNat * 18446744073709551616 + lo.toNat) / y.toNat : Nat) : Int) = q) (hz : (((hi.toNat * 18446744073709551616 + lo.toNat) % y.toNat : Nat) : Int) = z) :
    Calls Try.prog 85 #[.int .u64 hi, .int .u64 lo, .int .u64 y] w fun e w' => e = .returned (.tuple #[.int .u64 q, .int .u64 z]) ∧ ∃ n, w' = w.drewN n := by
  by_cases hp : hi = 0
  · subst hp
    rw [Int.toNat_zero, Nat.zero_mul, Nat.zero_add] at hq hz
    rw [Int.natCast_ediv, Int.toNat_of_nonneg l0, Int.toNat_of_nonneg (show 0 ≤ y by omega)] at hq
    rw [Int.natCast_emod, Int.toNat_of_nonneg l0, Int.toNat_of_nonneg (show 0 ≤ y by omega)] at hz
    refine (div64_zero lo y w (by omega) h2 l0 l1).mono ?_
    rintro e w' ⟨rfl, h⟩
    exact ⟨ret_two hq hz, h⟩
  · refine (div64_big hi lo y q z w h0 (by omega) h1 h2 l0 l1 hq hz).mono ?_
    rintro e w' ⟨rfl, rfl⟩
    exact ⟨rfl, 0, rfl⟩
end Go.Proofs.Ytbnnpkcfifejmaa
/- Layer 1 (fix): the quotient, sums and bounds: contracts. -/
namespace Go.Proofs.Ytbnnpkcfifejmaa
open Go.RowKit
theorem quo_words {p : Nat} : p / 4294967296 * 18446744073709551616 + p * 4294967296 % 18446744073709551616 = p * 4294967296 := by omega
theorem div_over {a b : Nat} (hb : 1 ≤ b) (h : b ≤ a / 4294967296) : 9223372036854775808 ≤ Fx.rnd (a * 4294967296) b := by
  have h1 : 9223372036854775808 ≤ a * 4294967296 / b := by
    rw [Nat.le_div_iff_mul_le (by omega)]
    omega
  unfold Fx.rnd
  split <;> omega
theorem rnd_ge {p b : Nat} (h : 9223372036854775808 ≤ p / b) : 9223372036854775808 ≤ Fx.rnd p b := by
  unfold Fx.rnd
  split <;> omega
set_option maxRecDepth 20000 in
set_option maxHeartbeats 4000000 in
theorem fix_div (x y : Int) (w : World) (hx : Fx.In x) (hy : Fx.In y) : Calls Try.prog 57 #[.int .i64 x, .int .i64 y] w fun e w' => e = .returned (.int .i64 (Fx.div x y)) ∧ ∃ n, w' = w.drewN n := by
  by_cases hy0 : y = 0
  · subst hy0
    by_cases hx0 : x = 0
    · subst hx0
      go_enter Try.func57, Try.ntmps57
      go_wp2_with fail
      go_ret
      exact ⟨rfl, 0, rfl⟩
    · have d : (x == 0) = false := by simpa using hx0
      have HE := Lib.hid (show Fx.edge (decide (x < 0)) = Fx.div x 0 by unfold Fx.div; rw [if_pos rfl, if_neg hx0])
      clear hx0 hx hy
      go_enter Try.func57, Try.ntmps57
      go_wp2_with fail
      refine (fix_edge _ _).mono ?_
      rintro e w1 ⟨rfl, rfl⟩
      go_wp2_with fail
      go_ret
      exact ⟨ret_int HE.out, 0, rfl⟩
  · have d : (y == 0) = false := by simpa using hy0
    have HD := Lib.hid (show Fx.clamp (Fx.sgn (Fx.neg2 x y) (Fx.rnd (x.natAbs * 4294967296) y.natAbs)) = Fx.div x y by unfold Fx.div; rw [if_neg hy0])
    have hb1 : 1 ≤ y.natAbs := by omega
    have hb2 := natAbs_le hy
    have ha2 := natAbs_le hx
    have HX := Lib.hid hx
    have HY := Lib.hid hy
    have Hb1 := Lib.hid hb1
    have Hb2 := Lib.hid hb2
    have Ha2 := Lib.hid ha2
    clear hx hy hy0 hb1 hb2 ha2
    go_enter Try.func57, Try.ntmps57
    go_wp2_with fail
    generalize hN : (!(decide (x < 0) == decide (y < 0))) = nb
    rw [show Fx.neg2 x y = nb from hN] at HD
    clear hN
    refine (fix_size x _ HX.out).mono ?_
    rintro e w1 ⟨rfl, rfl⟩
    go_wp2_with fail
    refine (fix_size y _ HY.out).mono ?_
    rintro e w1 ⟨rfl, rfl⟩
    obtain ⟨a, ha⟩ : ∃ a : Int, a = (x.natAbs : Int) := ⟨_, rfl⟩
    obtain ⟨b, hb⟩ : ∃ b : Int, b = (y.natAbs : Int) := ⟨_, rfl⟩
    have a0 : 0 ≤ a := by omega
    have b1 : 1 ≤ b := by have := Hb1.out; omega
    have a2 : a ≤ 9223372036854775808 := by have := Ha2.out; omega
    have b2 : b ≤ 9223372036854775808 := by have := Hb2.out; omega
    have ea : x.natAbs = a.toNat := by omega
    have eb : y.natAbs = b.toNat := by omega
    rw [ea, eb] at HD
    rw [← ha, ← hb]
    clear ha hb ea eb Hb1 Hb2 Ha2
    go_upto_region 8 with fail
    generalize hhi : a / 4294967296 = hi
    generalize hlo : IntKind.u64.wrap (a * 4294967296) = lo
    have h0 : 0 ≤ hi := by omega
    have h1 : hi ≤ 2147483648 := by omega
    have l0 : 0 ≤ lo := by rw [IntKind.wrap_u64] at hlo; omega
    have l1 : lo ≤ 18446744073709551615 := by rw [IntKind.wrap_u64] at hlo; omega
    have HH := Lib.hid hhi
    have HL := Lib.hid hlo
    clear hhi hlo
    by_cases hge : b ≤ hi
    · have HE : RowKit.Hid (Fx.edge nb = Fx.div x y) := by
        rw [← HD.out]
        have := HH.out
        exact (Fx.clamp_sgn_big (div_over (by omega) (by omega))).symm
      go_wp2_with fail
      refine (fix_edge _ _).mono ?_
      rintro e w1 ⟨rfl, rfl⟩
      go_wp2_with fail
      go_ret
      exact ⟨ret_int HE.out, 0, rfl⟩
    · have hlt : hi < b := by omega
      have hp : hi.toNat * 18446744073709551616 + lo.toNat = a.toNat * 4294967296 := by
        have h5 := HH.out
        have h6 := HL.out
        rw [IntKind.wrap_u64] at h6
        omega
      have HP := Lib.hid hp
      clear hp
      obtain ⟨q, hq⟩ : ∃ q : Int, q = ((a.toNat * 4294967296 / b.toNat : Nat) : Int) := ⟨_, rfl⟩
      obtain ⟨z, hz⟩ : ∃ z : Int, z = ((a.toNat * 4294967296 % b.toNat : Nat) : Int) := ⟨_, rfl⟩
      have q0 : 0 ≤ q := by rw [hq]; exact Int.natCast_nonneg _
      have q1 : q ≤ 18446744073709551615 := by
        have h3 : a.toNat * 4294967296 / b.toNat < 18446744073709551616 := by
          rw [Nat.div_lt_iff_lt_mul (by omega)]
          have := HH.out
          omega
        rw [hq]
        generalize a.toNat * 4294967296 / b.toNat = m at *
        omega
      have z0 : 0 ≤ z := by rw [hz]; exact Int.natCast_nonneg _
      have z1 : z < b := by
        have h3 := Nat.mod_lt (a.toNat * 4294967296) (show 0 < b.toNat by omega)
        rw [hz]
        generalize a.toNat * 4294967296 % b.toNat = m at *
        omega
      have HQ := Lib.hid hq
      have HZ := Lib.hid hz
      clear hq hz
      have HA : RowKit.Hid (∀ n : Int, n.toNat = Fx.rnd (a.toNat * 4294967296) b.toNat → Fx.clamp (Fx.sgn nb n.toNat) = Fx.div x y) := fun n hn => by rw [hn]; exact HD.out
      have odd : bits .and .u64 q 1 = q % 2 := by
        obtain ⟨n, rfl⟩ := Int.eq_ofNat_of_zero_le q0
        rw [u64_odd n (by omega)]
        omega
      go_wp2_with fail
      refine (div64 hi lo b q z _ h0 hlt (by omega) l0 l1 (by rw [HP.out]; exact HQ.out.symm) (by rw [HP.out]; exact HZ.out.symm)).mono ?_
      rintro e w1 ⟨rfl, n, rfl⟩
      by_cases hbig : 9223372036854775808 ≤ q
      · have HE : RowKit.Hid (Fx.edge nb = Fx.div x y) := by
          rw [← HD.out]
          have := HQ.out
          refine (Fx.clamp_sgn_big (rnd_ge ?_)).symm
          generalize a.toNat * 4294967296 / b.toNat = m at *
          omega
        go_wp2_with fail
        refine (fix_edge _ _).mono ?_
        rintro e w1 ⟨rfl, rfl⟩
        go_wp2_with fail
        go_ret
        exact ⟨ret_int HE.out, n, rfl⟩
      · have hsm : q ≤ 9223372036854775807 := by omega
        clear hbig q1
        have hr : Fx.rnd (a.toNat * 4294967296) b.toNat = if b.toNat < 2 * z.toNat ∨ (2 * z.toNat = b.toNat ∧ q.toNat % 2 = 1) then q.toNat + 1 else q.toNat := by
          unfold Fx.rnd
          rw [HQ.out, HZ.out, Int.toNat_natCast, Int.toNat_natCast]
        have HR := Lib.hid hr
        clear hr
        by_cases c1 : b - z < z
        · have hz : (q + 1).toNat = Fx.rnd (a.toNat * 4294967296) b.toNat := by rw [HR.out, if_pos (by omega)]; omega
          have Hz := Lib.hid hz
          clear hz
          go_wp2_with fail
          refine (fix_signed_int (q + 1) nb _ (by omega) (by omega)).mono ?_
          rintro e w1 ⟨rfl, rfl⟩
          go_wp2_with fail
          go_ret
          exact ⟨ret_int (HA.out _ Hz.out), n, rfl⟩
        · by_cases c2 : z = b - z
          · have d2 : (z == b - z) = true := by simpa using c2
            have c3 : 2 * z = b := by omega
            by_cases c4 : q % 2 = 1
            · have d3 : (q % 2 == 1) = true := by simpa using c4
              have hz : (q + 1).toNat = Fx.rnd (a.toNat * 4294967296) b.toNat := by rw [HR.out, if_pos (by omega)]; omega
              have Hz := Lib.hid hz
              clear hz c2 c3 c4
              go_wp2_with fail
              refine (fix_signed_int (q + 1) nb _ (by omega) (by omega)).mono ?_
              rintro e w1 ⟨rfl, rfl⟩
              go_wp2_with fail
              go_ret
              exact ⟨ret_int (HA.out _ Hz.out), n, rfl⟩
            · have d3 : (q % 2 == 1) = false := by simpa using c4
              have hz : q.toNat = Fx.rnd (a.toNat * 4294967296) b.toNat := by rw [HR.out, if_neg (by omega)]
              have Hz := Lib.hid hz
              clear hz c2 c3 c4
              go_wp2_with fail
              refine (fix_signed_int q nb _ (by omega) (by omega)).mono ?_
              rintro e w1 ⟨rfl, rfl⟩
              go_wp2_with fail
              go_ret
              exact ⟨ret_int (HA.out _ Hz.out), n, rfl⟩
          · have d2 : (z == b - z) = false := by simpa using c2
            have hz : q.toNat = Fx.rnd (a.toNat * 4294967296) b.toNat := by rw [HR.out, if_neg (by omega)]
            have Hz := Lib.hid hz
            clear hz c2
            go_wp2_with fail
            refine (fix_signed_int q nb _ (by omega) (by omega)).mono ?_
            rintro e w1 ⟨rfl, rfl⟩
            go_wp2_with fail
            go_ret
            exact ⟨ret_int (HA.out _ Hz.out), n, rfl⟩
end Go.Proofs.Ytbnnpkcfifejmaa
/- Arguments that came in, opened: slices of structs. After the guide's own lemma on slices of structs. No program is named here. -/
namespace Go.Proofs.Ytbnnpkcfifejmaa
open Go.ChangeShapes Go.WideShapes Go.Deep Go.RowKit
section
variable {H : Type} {enc : TypeId × Value → H} {P : Program} {w : World} {base : Nat} {spare : Nat → Bool} {held : Bool}
theorem open_slice_fields {t e : TypeId} {fs : Array Field} {fuel : Nat} {cs : List Value} {x : DataW H × List MemPlace} (ht : P.underlying t = some (.slice e)) (he : P.underlying e = some (.struct fs))
    (hone : oneCellFields P fs = true) (hC : P.cellsOf e = fs.size) (h : DataW.trod enc P w base spare held fuel t cs = some x) :
    (cs = [.slice none 0 0] ∧ x = (.nil, [])) ∨
    ∃ (a : Addr) (len cap m : Nat) (D : Nat → DataW H) (Pl : Nat → List MemPlace), cs = [.slice (some a) len cap] ∧ base ≤ a.block ∧ len ≤ cap ∧ cap ≤ maxLen ∧ m = (if spare a.block then cap else len) ∧
      x = (.slice ((List.range len).map D) ((List.range (m - len)).map fun j => D (len + j)), MemPlace.row a (m * fs.size) ++ (List.range m).flatMap Pl) ∧
      ∀ i, i < m → ∃ (ys : List (DataW H × List MemPlace)) (n : Nat), D i = .agg (ys.map (·.1)) ∧ Pl i = ys.flatMap (·.2) ∧ ys.length = fs.size ∧
        ∀ (j : Nat) (f : Field), fs[j]? = some f → ∃ (v : Value) (y : DataW H × List MemPlace), w.cell? (a.add (i * fs.size + j)) = some v ∧ ys[j]? = some y ∧ DataW.trod enc P w base spare held n f.type [v] = some y := by
  rcases open_slice ht h with h0 | ⟨a, len, cap, m, n, D, Pl, hcs, hb, hl, hm, hmm, hx, hi⟩
  · exact .inl h0
  · refine .inr ⟨a, len, cap, m, D, Pl, hcs, hb, hl, hm, hmm, by rw [hC] at hx; exact hx, fun i him => ?_⟩
    obtain ⟨cs', hc, ht'⟩ := hi i him
    rw [hC] at hc
    obtain ⟨ys, n', hn', hy, hlen, hyl, hf⟩ := DataW.trod_struct he ht'
    obtain ⟨_, hcl, hat⟩ := World.cells?_some hc
    simp only [Prod.mk.injEq] at hy
    refine ⟨ys, n', hy.1, hy.2, hyl, fun j f hj => ?_⟩
    obtain ⟨ho, hk⟩ := hone_of hone j f hj
    have hjl : j < fs.size := (Array.getElem?_eq_some_iff.1 hj).1
    have hcell := hat j hjl
    have hv : cs'[j]? = some (cs'[j]'(by omega)) := List.getElem?_eq_getElem (by omega)
    have h1 := hf j f hj
    rw [ho, hk] at h1
    have hone' : (cs'.drop j).take 1 = [cs'[j]'(by omega)] := by
      rw [List.drop_eq_getElem_cons (by omega)]
      rfl
    rw [hone'] at h1
    have hys : ys[j]? = some (ys[j]'(by omega)) := List.getElem?_eq_getElem (by omega)
    refine ⟨_, _, ?_, hys, h1.trans hys⟩
    rw [← Go.Deep.add_add, hcell, hv]
end

/-- The address of a row whose first cell is there is a plain one. -/
theorem plain_row {w : World} {a : Addr} {v : Value} (h : w.cell? (a.add 0) = some v) : ∃ b off, a = ⟨b, off, none⟩ := by
  obtain ⟨b, off, spot⟩ := a
  have hs : spot = none := by simpa [Addr.add] using World.cell?_spot h
  subst hs
  exact ⟨b, off, rfl⟩
theorem add_plain' (b off j : Nat) : (⟨b, off, none⟩ : Addr).add j = ⟨b, off + j, none⟩ := by
  unfold Addr.add; split <;> simp_all
section
variable {H : Type} {enc : TypeId × Value → H} {P : Program} {w : World} {base : Nat} {spare : Nat → Bool} {held : Bool}
/-- A slice of integers. -/
theorem ints_open {t e : TypeId} {k : IntKind} {fuel : Nat} {v : Value} {x : DataW H × List MemPlace} (ht : P.underlying t = some (.slice e)) (he : P.underlying e = some (.int k)) (hc : P.cellsOf e = 1) (h : DataW.trod enc P w base spare held fuel t [v] = some x) :
    ∃ A cap zs, v = .slice A zs.length cap ∧ zs.length ≤ 9223372036854775807 ∧ zs.length ≤ cap ∧ Ints k w A zs ∧ ∀ n ∈ zs, (Lit.int k n).wf = true := by
  rcases open_ints ht he hc h with ⟨hcs, _⟩ | ⟨a, len, cap, zs, hcs, _, hl, hm, hz, _, hcell, hwz⟩
  · simp at hcs; subst hcs
    exact ⟨none, 0, [], rfl, by simp, by simp, Ints.nil, by simp⟩
  · simp at hcs; subst hcs
    have hlz : len ≤ zs.length := by rw [hz]; split <;> omega
    have hll : (zs.take len).length = len := by rw [List.length_take]; omega
    refine ⟨some a, cap, zs.take len, by rw [hll], by rw [hll]; unfold maxLen at hm; omega, by omega, fun j hj => ?_, fun n hn => hwz n (List.mem_of_mem_take hn)⟩
    have hj' : j < len := by omega
    obtain ⟨b, off, rfl⟩ := plain_row (w := w) (a := a) (v := .int k (zs.getD 0 0)) (hcell 0 (by omega))
    have hc2 := hcell j (by omega)
    rw [add_plain'] at hc2
    refine ⟨b, off, rfl, World.block_lt_of_cell? _ _ hc2, ?_⟩
    rw [hc2]
    have e : (zs.take len).getD j 0 = zs.getD j 0 := by simp [List.getD_eq_getElem?_getD, hj']
    rw [e]
end
end Go.Proofs.Ytbnnpkcfifejmaa
/- Layer 1 (fix): sums, products of rows, bounds: contracts. -/
namespace Go.Proofs.Ytbnnpkcfifejmaa
open Go.RowKit
theorem In_at {l : List Int} (h : ∀ z ∈ l, Fx.In z) {k : Nat} (hk : k < l.length) : Fx.In l[k] := h _ (List.getElem_mem hk)
theorem sum_succ {l : List Int} {k : Nat} (hk : k < l.length) : Fx.sum (l.take (k + 1)) = Fx.add (Fx.sum (l.take k)) l[k] := by
  unfold Fx.sum
  rw [List.take_succ_eq_append_getElem hk, List.foldl_append]
  rfl
theorem dot_succ {a b : List Int} {k : Nat} (hk : k < a.length) (hk2 : k < b.length) : Fx.dot (a.take (k + 1)) (b.take (k + 1)) = Fx.add (Fx.dot (a.take k) (b.take k)) (Fx.mul a[k] b[k]) := by
  unfold Fx.dot
  rw [List.take_succ_eq_append_getElem hk, List.take_succ_eq_append_getElem hk2, List.zip_append (by simp; omega), List.foldl_append]
  rfl
theorem get_at {l : List Int} {k : Nat} (hk : k < l.length) : l.getD k 0 = l[k] := by rw [List.getD_eq_getElem?_getD, List.getElem?_eq_getElem hk]; rfl
theorem fix_sum (A : Option Addr) (c : Nat) (xs : List Int) (w : World) (hl : xs.length ≤ 9223372036854775807) (hI : Ints .i64 w A xs) (hin : ∀ z ∈ xs, Fx.In z) :
    Calls Try.prog 56 #[.slice A xs.length c] w fun e w' => e = .returned (.int .i64 (Fx.sum xs)) ∧ w = w' := by
  have Hin := Lib.hid hin
  have HI := Lib.hid hI
  clear hI
  clear hin
  go_enter Try.func56, Try.ntmps56
  go_wp2_with fail
  go_loop [3, 8] (fun s i => ∃ k : Nat, k ≤ xs.length ∧ i = .int .i64 k ∧ s = .int .i64 (Fx.sum (xs.take k))) (fun _ i => xs.length - (intOf i).toNat)
  case atStart => exact ⟨0, Nat.zero_le _, rfl, rfl⟩
  case round =>
    obtain ⟨k, hk, rfl, rfl⟩ := hrel
    by_cases hlt : k < xs.length
    · obtain ⟨b, off, rfl, -, hc⟩ := HI.out k hlt
      rw [get_at hlt] at hc
      have hx := In_at Hin.out hlt
      have hs := sum_succ hlt
      have h0 := Fx.sum_in (xs.take k)
      generalize Fx.sum (xs.take k) = s at *
      generalize xs[k] = x at *
      have HS := Lib.hid hs
      have HX := Lib.hid hx
      have H0 := Lib.hid h0
      clear hs hx h0
      go_wp2_with fail
      refine (fix_add s x _ H0.out HX.out).mono ?_
      rintro e w1 ⟨rfl, rfl⟩
      go_wp2_with fail
      go_round
      case rel => exact ⟨k + 1, by omega, by go_num, by rw [HS.out]⟩
      case measure => simp [intOf]; omega
    · obtain rfl : k = xs.length := by omega
      rw [List.take_length]
      go_wp2_with fail
      go_ret
      exact ⟨rfl, rfl⟩
set_option maxHeartbeats 1000000 in
theorem fix_dot (A B : Option Addr) (c d : Nat) (a b : List Int) (w : World) (hl : a.length ≤ 1000000) (hn : b.length = a.length) (hI : Ints .i64 w A a) (hJ : Ints .i64 w B b) (ha : ∀ z ∈ a, Fx.In z) (hb : ∀ z ∈ b, Fx.In z) :
    Calls Try.prog 46 #[.slice A a.length c, .slice B a.length d] w fun e w' => e = .returned (.int .i64 (Fx.dot a b)) ∧ ∃ n, w' = w.drewN n := by
  have HN := Lib.hid hn
  have HI := Lib.hid hI
  have HJ := Lib.hid hJ
  have Ha := Lib.hid ha
  have Hb := Lib.hid hb
  clear hI hJ ha hb
  clear hn
  go_enter Try.func46, Try.ntmps46
  go_wp2_with fail
  go_loopw [5, 12] (fun s i wr => ∃ k n : Nat, k ≤ a.length ∧ i = .int .i64 k ∧ s = .int .i64 (Fx.dot (a.take k) (b.take k)) ∧ wr = w.drewN n) (fun _ i _ => a.length - (intOf i).toNat)
  case atStart => exact ⟨0, 0, Nat.zero_le _, rfl, rfl, rfl⟩
  case round =>
    obtain ⟨k, n, hk, rfl, rfl, hw⟩ := hrel
    have hIr : Ints .i64 wr A a := by rw [hw]; exact HI.out.drewN n
    have hJr : Ints .i64 wr B b := by rw [hw]; exact HJ.out.drewN n
    have Hw := Lib.hid hw
    have HIr := Lib.hid hIr
    have HJr := Lib.hid hJr
    clear hw hIr hJr
    by_cases hlt : k < a.length
    · have hlt' : k < b.length := by have := HN.out; omega
      obtain ⟨ba, oa, rfl, -, hc⟩ := HIr.out k hlt
      obtain ⟨bb, ob, rfl, -, hc'⟩ := HJr.out k hlt'
      rw [get_at hlt] at hc
      rw [get_at hlt'] at hc'
      have hx := In_at Ha.out hlt
      have hy := In_at Hb.out hlt'
      have hs := dot_succ hlt hlt'
      have h0 := Fx.dot_in (a.take k) (b.take k)
      generalize Fx.dot (a.take k) (b.take k) = s at *
      generalize a[k] = x at *
      generalize b[k] = y at *
      have hc1 := fun n => fix_mul x y (wr.drewN n) hx hy
      have hc2 := fun n => fix_add s (Fx.mul x y) (wr.drewN n) h0 (Fx.mul_in x y)
      have HS := Lib.hid hs
      clear hs hx hy h0 hlt'
      have Hc1 := Lib.hid hc1
      have Hc2 := Lib.hid hc2
      clear hc1 hc2
      have k1 : (k : Int) < (a.length : Int) := by omega
      have k2 : (0 : Int) ≤ (k : Int) := by omega
      go_wp2_with fail
      go_quiet (first | (go_at_call 52; exact quiet_same (Hc1.out _)) | (go_at_call 48; exact quiet_same (Hc2.out _)))
      go_wp2_with fail
      go_roundw
      case rel => exact ⟨k + 1, n + nq, by omega, by go_num, by rw [HS.out], by rw [Hw.out, World.drewN_drewN]⟩
      case measure => simp [intOf]; omega
    · obtain rfl : k = a.length := by omega
      have e : a.length = b.length := HN.out.symm
      rw [List.take_length, show b.take a.length = b by rw [e, List.take_length]]
      clear e
      go_wp2_with fail
      go_ret
      exact ⟨rfl, n, Hw.out⟩
theorem fix_clamp (x l h : Int) (w : World) : Calls Try.prog 87 #[.int .i64 x, .int .i64 l, .int .i64 h] w fun e w' => e = .returned (.int .i64 (Fx.held x l h)) ∧ w = w' := by
  by_cases h1 : h < x
  · have E := Lib.hid (show h = Fx.held x l h by unfold Fx.held; rw [if_pos h1])
    go_enter Try.func87, Try.ntmps87
    go_wp2_with fail
    go_ret
    exact ⟨ret_int E.out, rfl⟩
  · by_cases h2 : x < l
    · have E := Lib.hid (show l = Fx.held x l h by unfold Fx.held; rw [if_neg h1, if_pos h2])
      go_enter Try.func87, Try.ntmps87
      go_wp2_with fail
      go_ret
      exact ⟨ret_int E.out, rfl⟩
    · have E := Lib.hid (show x = Fx.held x l h by unfold Fx.held; rw [if_neg h1, if_neg h2])
      go_enter Try.func87, Try.ntmps87
      go_wp2_with fail
      go_ret
      exact ⟨ret_int E.out, rfl⟩
theorem fix_neg_one (w : World) : Calls Try.prog 88 #[.int .i64 4294967296] w fun e w' => e = .returned (.int .i64 (-4294967296)) ∧ w = w' := by
  go_enter Try.func88, Try.ntmps88
  go_wp2_with fail
  go_ret
  exact ⟨rfl, rfl⟩
theorem fix_int (n : Int) (w : World) (h0 : 0 ≤ n) (h1 : n < 2147483648) : Calls Try.prog 58 #[.int .i64 n] w fun e w' => e = .returned (.int .i64 (n * 4294967296)) ∧ w = w' := by
  go_enter Try.func58, Try.ntmps58
  go_wp2_with fail
  go_ret
  exact ⟨rfl, rfl⟩
end Go.Proofs.Ytbnnpkcfifejmaa
/- The answers of layers 4 to_ 10 as plain functions of tensors. No walk here. -/
namespace Go.Proofs.Ytbnnpkcfifejmaa
open Go.RowKit
namespace Ly
def In (t : Ten) : Prop := ∀ z ∈ t.c, Fx.In z
def none_ : Ten := ⟨[], []⟩
def got (l : List Ten) (i : Nat) : Ten := l.getD i none_
def tab (n : Nat) (f : Nat → Int) : List Int := (List.range n).map f
def at_ (l : List Int) (i : Nat) : Int := l.getD i 0
def zeros (n : Nat) : List Int := List.replicate n 0
/-- Nat's part of an entry. -/
def side (s : List Int) (i : Nat) : Nat := (at_ s i).toNat
def span (l : List Int) : Nat := (Safe.prod l).toNat

-- layer 4
def alike (a b : Ten) : Bool := Tn.right a && Tn.right b && decide (a.s = b.s)
def add (a b : Ten) : Ten × Int := if alike a b then (⟨a.s, tab a.c.length fun i => Fx.add (at_ a.c i) (at_ b.c i)⟩, 0) else (none_, 20)
/-- The cells of a part: of each row those from a on, n of them. -/
def cutRows (c : List Int) (row a n : Nat) (k : Nat) : List Int := (List.range k).flatMap fun i => (c.drop (i * row + a)).take n
def cut (x : Ten) (sd frm til : Int) : Ten × Int :=
  if Tn.right x then
    if (Od.cut x.s sd frm til).2 = 0 then
      let inner := span ((Od.cut x.s sd frm til).1.drop (sd.toNat + 1))
      let row := side x.s sd.toNat * inner
      (⟨(Od.cut x.s sd frm til).1, cutRows x.c row (frm.toNat * inner) ((til.toNat - frm.toNat) * inner) (x.c.length / row)⟩, 0)
    else (none_, (Od.cut x.s sd frm til).2)
  else (none_, 20)
def of_ (s c : List Int) : Ten × Int := if Tn.right ⟨s, c⟩ then (⟨s, c⟩, 0) else (none_, 20)

-- layer 5
def one : Int := 4294967296
def line (x : Int) : Int := Fx.add (Fx.mul x 1073741824) 2147483648
def cell (kind k x y : Int) : Int :=
  if kind = 1 then (if x < 0 then 0 else x)
  else if kind = 2 then (if 0 < x then x else Fx.mul x k)
  else if kind = 3 then Fx.held x (-4294967296) 4294967296
  else if kind = 4 then Fx.held (line x) 0 4294967296
  else if kind = 5 then Fx.mul x k
  else if kind = 6 then Fx.add x y
  else if kind = 7 then Fx.mul x y
  else 0
def slope (kind k x y g : Int) : Int × Int :=
  if kind = 1 then (if 0 < x then (g, 0) else (0, 0))
  else if kind = 2 then (if 0 < x then (g, 0) else (Fx.mul g k, 0))
  else if kind = 3 then (if -4294967296 < x ∧ x < 4294967296 then (g, 0) else (0, 0))
  else if kind = 4 then (if 0 < line x ∧ line x < 4294967296 then (Fx.mul g 1073741824, 0) else (0, 0))
  else if kind = 5 then (Fx.mul g k, 0)
  else if kind = 6 then (g, g)
  else if kind = 7 then (Fx.mul g y, Fx.mul g x)
  else (0, 0)
def second (x : List Ten) (i : Nat) : Int := if x.length < 2 then 0 else at_ (got x 1).c i
def ptAgree (kind : Int) (x : List Ten) : Int :=
  if Od.ptIns kind = 0 then 21 else if (x.length : Int) ≠ Od.ptIns kind then 20 else if x.all (fun t => Tn.right t && decide (t.s = (got x 0).s)) then 0 else 20
def point (kind k : Int) (x : List Ten) : Ten × Int :=
  if ptAgree kind x = 0 then (⟨(got x 0).s, tab (got x 0).c.length fun i => cell kind k (at_ (got x 0).c i) (second x i)⟩, 0) else (none_, ptAgree kind x)
def slopes (kind k : Int) (x : List Ten) (g : Ten) (i : Nat) : Int × Int := slope kind k (at_ (got x 0).c i) (second x i) (at_ g.c i)
def pointBack (kind k : Int) (g : Ten) (x : List Ten) : List Ten × Int :=
  if ptAgree kind x = 0 then
    if Tn.right g && decide (g.s = (got x 0).s) then
      (if x.length < 2 then [⟨(got x 0).s, tab (got x 0).c.length fun i => (slopes kind k x g i).1⟩]
        else [⟨(got x 0).s, tab (got x 0).c.length fun i => (slopes kind k x g i).1⟩, ⟨(got x 1).s, tab (got x 0).c.length fun i => (slopes kind k x g i).2⟩], 0)
    else ([], 20)
  else ([], ptAgree kind x)

-- layer 6
def denseOk (w b x : Ten) : Bool := Tn.right w && decide (w.s.length = 2) && Tn.right b && Tn.right x && decide (b.s = [at_ w.s 0]) && decide ((x.c.length : Int) = at_ w.s 1)
def rowOf (w : List Int) (n i : Nat) : List Int := (w.drop (i * n)).take n
def dense (w b x : Ten) : Ten × Int :=
  if denseOk w b x then (⟨b.s, tab b.c.length fun i => Fx.add (Fx.dot (rowOf w.c x.c.length i) x.c) (at_ b.c i)⟩, 0) else (none_, 20)
/-- What goes back to_ the in, of the first i rows. -/
def denseX (w g x : List Int) : Nat → List Int
  | 0 => zeros x.length
  | i + 1 => tab x.length fun j => Fx.add (at_ (denseX w g x i) j) (Fx.mul (at_ w (i * x.length + j)) (at_ g i))
def denseW (g x : List Int) : List Int := tab (g.length * x.length) fun k => Fx.mul (at_ g (k / x.length)) (at_ x (k % x.length))
def denseBack (w b x g : Ten) : (Ten × Ten × Ten) × Int :=
  if denseOk w b x && Tn.right g && decide (g.s = b.s) then ((⟨w.s, denseW g.c x.c⟩, g, ⟨x.s, denseX w.c g.c x.c g.c.length⟩), 0) else ((none_, none_, none_), 20)

-- layer 7
structure Frame where
  outs : Nat
  ins : Nat
  k0 : Nat
  k1 : Nat
  i0 : Nat
  i1 : Nat
  o0 : Nat
  o1 : Nat
  step : Nat
def last2 (l : List Int) : Nat × Nat := if l.length = 1 then (1, side l 0) else (side l 0, side l 1)
def frame (w x out : List Int) (step : Int) : Frame :=
  ⟨side w 0, side w 1, (last2 (w.drop 2)).1, (last2 (w.drop 2)).2, (last2 (x.drop 1)).1, (last2 (x.drop 1)).2, (last2 (out.drop 1)).1, (last2 (out.drop 1)).2, step.toNat⟩
/-- A product: the places of the answer, the weight and the in. -/
structure Touch where
  o : Nat
  w : Nat
  x : Nat
def Frame.rowT (f : Frame) (p i j q t : Nat) : List Touch :=
  (List.range f.k1).map fun u => ⟨(p * f.o0 + i) * f.o1 + j, (p * f.ins + q) * (f.k0 * f.k1) + t * f.k1 + u, q * (f.i0 * f.i1) + (i * f.step * f.i1 + j * f.step) + t * f.i1 + u⟩
def Frame.cellT (f : Frame) (p i j : Nat) : List Touch := (List.range f.ins).flatMap fun q => (List.range f.k0).flatMap fun t => f.rowT p i j q t
def Frame.all (f : Frame) : List Touch := (List.range f.outs).flatMap fun p => (List.range f.o0).flatMap fun i => (List.range f.o1).flatMap fun j => f.cellT p i j
def addAt (l : List Int) (i : Nat) (v : Int) : List Int := l.set i (Fx.add (at_ l i) v)
def convC (w x : List Int) (ts : List Touch) (n : Nat) : List Int := ts.foldl (fun o t => addAt o t.o (Fx.mul (at_ w t.w) (at_ x t.x))) (zeros n)
def convW (g x : List Int) (ts : List Touch) (n : Nat) : List Int := ts.foldl (fun o t => addAt o t.w (Fx.mul (at_ g t.o) (at_ x t.x))) (zeros n)
def convX (g w : List Int) (ts : List Touch) (n : Nat) : List Int := ts.foldl (fun o t => addAt o t.x (Fx.mul (at_ g t.o) (at_ w t.w))) (zeros n)
def convErr (w x : Ten) (step : Int) : Int := if Tn.right w && Tn.right x then (Od.conv w.s x.s step).2 else 20
def convT (w x : Ten) (step : Int) : List Touch := (frame w.s x.s (Od.conv w.s x.s step).1 step).all
def conv (w x : Ten) (step : Int) : Ten × Int :=
  if convErr w x step = 0 then (⟨(Od.conv w.s x.s step).1, convC w.c x.c (convT w x step) (span (Od.conv w.s x.s step).1)⟩, 0) else (none_, convErr w x step)
def convBack (w x g : Ten) (step : Int) : (Ten × Ten) × Int :=
  if convErr w x step = 0 then
    if Tn.right g && decide (g.s = (Od.conv w.s x.s step).1) then
      ((⟨w.s, convW g.c x.c (convT w x step) w.c.length⟩, ⟨x.s, convX g.c w.c (convT w x step) x.c.length⟩), 0)
    else ((none_, none_), 20)
  else ((none_, none_), convErr w x step)

-- layer 8
/-- The place of the first one of the greatest of the first k. -/
def best (l : List Int) : Nat → Int
  | 0 => -1
  | k + 1 => if best l k < 0 ∨ at_ l (best l k).toNat < at_ l k then k else best l k
def poolErr (x : Ten) (width step : Int) : Int := if Tn.right x then (Od.pool x.s width step).2 else 20
def from_ (sd n step i : Nat) : Nat := i / n * sd + i % n * step
def win (c : List Int) (sd n width step i : Nat) : List Int := (c.drop (from_ sd n step i)).take width
def poolCell (top : Bool) (l : List Int) (width : Int) : Int := if top then at_ l (best l l.length).toNat else Fx.div (Fx.sum l) (width * 4294967296)
def lastOf (s : List Int) : Nat := side s (s.length - 1)
def poolS (x : Ten) (width step : Int) : List Int := (Od.pool x.s width step).1
def pool (top : Bool) (x : Ten) (width step : Int) : Ten × Int :=
  if poolErr x width step = 0 then
    (⟨poolS x width step, tab (span (poolS x width step)) fun i => poolCell top (win x.c (lastOf x.s) (lastOf (poolS x width step)) width.toNat step.toNat i) width⟩, 0)
  else (none_, poolErr x width step)
/-- A number is added to_ n cells from a on. -/
def addRow (l : List Int) (a : Nat) (v : Int) : Nat → List Int
  | 0 => l
  | j + 1 => addAt (addRow l a v j) (a + j) v
def poolStep (top : Bool) (x : List Int) (sd n : Nat) (width : Int) (step : Nat) (acc : List Int) (i : Nat) (v : Int) : List Int :=
  if top then addAt acc (from_ sd n step i + (best (win x sd n width.toNat step i) width.toNat).toNat) v
  else addRow acc (from_ sd n step i) (Fx.div v (width * 4294967296)) width.toNat
def poolX (top : Bool) (x g : List Int) (sd n : Nat) (width : Int) (step : Nat) : Nat → List Int
  | 0 => zeros x.length
  | i + 1 => poolStep top x sd n width step (poolX top x g sd n width step i) i (at_ g i)
def poolBack (top : Bool) (x g : Ten) (width step : Int) : Ten × Int :=
  if poolErr x width step = 0 then
    if Tn.right g && decide (g.s = poolS x width step) then
      (⟨x.s, poolX top x.c g.c (lastOf x.s) (lastOf (poolS x width step)) width step.toNat g.c.length⟩, 0)
    else (none_, 20)
  else (none_, poolErr x width step)

-- layer 9
def joinedS (sd : Int) (s : List Int) : List Ten → List Int × Int
  | [] => (s, 0)
  | t :: r => if Tn.right t then (if (Od.join s t.s sd).2 = 0 then joinedS sd (Od.join s t.s sd).1 r else ([], (Od.join s t.s sd).2)) else ([], 20)
def joined (sd : Int) (x : List Ten) : List Int × Int :=
  match x with
  | [] => ([], 20)
  | t :: r => if Tn.right t then (if r.length = 0 ∧ (sd < 0 ∨ (t.s.length : Int) ≤ sd) then ([], 11) else joinedS sd t.s r) else ([], 20)
def joinRow (rows : Nat) (i : Nat) (t : Ten) : List Int := (t.c.drop (i * (t.c.length / rows))).take (t.c.length / rows)
def joinC (rows : Nat) (x : List Ten) (k : Nat) : List Int := (List.range k).flatMap fun i => x.flatMap (joinRow rows i)
def join (sd : Int) (x : List Ten) : Ten × Int :=
  if (joined sd x).2 = 0 then
    let rows := span ((joined sd x).1.take sd.toNat)
    (⟨(joined sd x).1, joinC rows x rows⟩, 0)
  else (none_, (joined sd x).2)
def joinBackL (sd : Int) (g : Ten) (frm : Int) : List Ten → List Ten × Int
  | [] => ([], 0)
  | t :: r =>
    if (cut g sd frm (frm + at_ t.s sd.toNat)).2 = 0 then
      (if (joinBackL sd g (frm + at_ t.s sd.toNat) r).2 = 0 then ((cut g sd frm (frm + at_ t.s sd.toNat)).1 :: (joinBackL sd g (frm + at_ t.s sd.toNat) r).1, 0) else ([], (joinBackL sd g (frm + at_ t.s sd.toNat) r).2))
    else ([], (cut g sd frm (frm + at_ t.s sd.toNat)).2)
def joinBack (sd : Int) (g : Ten) (x : List Ten) : List Ten × Int :=
  if (joined sd x).2 = 0 then (if Tn.right g && decide (g.s = (joined sd x).1) then joinBackL sd g 0 x else ([], 20)) else ([], (joined sd x).2)
/-- The first k rows of g laid into noughts. -/
def cutX (n row a part : Nat) (g : List Int) : Nat → List Int
  | 0 => zeros n
  | i + 1 => splice (cutX n row a part g i) (i * row + a) ((g.drop (i * part)).take part)
def cutBack (x g : Ten) (sd frm til : Int) : Ten × Int :=
  if Tn.right x then
    if (Od.cut x.s sd frm til).2 = 0 then
      if Tn.right g && decide (g.s = (Od.cut x.s sd frm til).1) then
        let inner := span ((Od.cut x.s sd frm til).1.drop (sd.toNat + 1))
        let row := side x.s sd.toNat * inner
        (⟨x.s, cutX x.c.length row (frm.toNat * inner) ((til.toNat - frm.toNat) * inner) g.c (x.c.length / row)⟩, 0)
      else (none_, 20)
    else (none_, (Od.cut x.s sd frm til).2)
  else (none_, 20)
def turn (x : Ten) (s : List Int) : Ten × Int := if Tn.right x then of_ s x.c else (none_, 20)
def turnBack (x g : Ten) : Ten × Int := if Tn.right x && Tn.right g then of_ x.s g.c else (none_, 20)

-- layer 10
/-- What the op's layer answers. -/
def lay (o : OpD) (p x : List Ten) : Ten × Int :=
  if o.kind = 8 then dense (got p 0) (got p 1) (got x 0)
  else if o.kind = 9 then add (got x 0) (got p 0)
  else if o.kind = 10 then conv (got p 0) (got x 0) o.step
  else if o.kind = 11 then pool true (got x 0) o.width o.step
  else if o.kind = 12 then pool false (got x 0) o.width o.step
  else if o.kind = 13 then join o.side x
  else if o.kind = 14 then cut (got x 0) o.side o.frm o.to
  else if o.kind = 15 then turn (got x 0) o.s
  else point o.kind o.k x
def go (o : OpD) (p x : List Ten) : Ten × Int := if Od.counts o p.length x.length = 0 then lay o p x else (none_, Od.counts o p.length x.length)
/-- What goes back: to_ the parameters, to_ the ins. -/
structure Bk where
  p : List Ten
  x : List Ten
def bnone : Bk := ⟨[], []⟩
def bsingle (r : Ten × Int) : Bk × Int := if r.2 = 0 then (⟨[], [r.1]⟩, 0) else (bnone, r.2)
def bseveral (r : List Ten × Int) : Bk × Int := if r.2 = 0 then (⟨[], r.1⟩, 0) else (bnone, r.2)
def bbias (b x g : Ten) : Bk × Int :=
  if (add x b).2 = 0 then (if Tn.right g && decide (g.s = (add x b).1.s) then (⟨[g], [g]⟩, 0) else (bnone, 20)) else (bnone, (add x b).2)
def bturn (x g : Ten) (s : List Int) : Bk × Int :=
  if (turn x s).2 = 0 then (if Tn.right g && decide (g.s = s) then bsingle (turnBack x g) else (bnone, 20)) else (bnone, (turn x s).2)
def layBack (o : OpD) (p x : List Ten) (g : Ten) : Bk × Int :=
  if o.kind = 8 then (if (denseBack (got p 0) (got p 1) (got x 0) g).2 = 0 then (⟨[(denseBack (got p 0) (got p 1) (got x 0) g).1.1, (denseBack (got p 0) (got p 1) (got x 0) g).1.2.1], [(denseBack (got p 0) (got p 1) (got x 0) g).1.2.2]⟩, 0) else (bnone, (denseBack (got p 0) (got p 1) (got x 0) g).2))
  else if o.kind = 9 then bbias (got p 0) (got x 0) g
  else if o.kind = 10 then (if (convBack (got p 0) (got x 0) g o.step).2 = 0 then (⟨[(convBack (got p 0) (got x 0) g o.step).1.1], [(convBack (got p 0) (got x 0) g o.step).1.2]⟩, 0) else (bnone, (convBack (got p 0) (got x 0) g o.step).2))
  else if o.kind = 11 then bsingle (poolBack true (got x 0) g o.width o.step)
  else if o.kind = 12 then bsingle (poolBack false (got x 0) g o.width o.step)
  else if o.kind = 13 then bseveral (joinBack o.side g x)
  else if o.kind = 14 then bsingle (cutBack (got x 0) g o.side o.frm o.to)
  else if o.kind = 15 then bturn (got x 0) g o.s
  else bseveral (pointBack o.kind o.k g x)
def back (o : OpD) (p x : List Ten) (g : Ten) : Bk × Int := if Od.counts o p.length x.length = 0 then layBack o p x g else (bnone, Od.counts o p.length x.length)
end Ly
end Go.Proofs.Ytbnnpkcfifejmaa
/- Layer 5 (point): cells and slopes of all kinds; a row of tensors: contracts. -/
namespace Go.Proofs.Ytbnnpkcfifejmaa
open Go.RowKit
theorem kinds7 {k : Int} (h1 : 1 ≤ k) (h7 : k ≤ 7) : k = 1 ∨ k = 2 ∨ k = 3 ∨ k = 4 ∨ k = 5 ∨ k = 6 ∨ k = 7 := by omega
theorem point_line (x : Int) (w : World) (hx : Fx.In x) : Calls Try.prog 89 #[.int .i64 x] w fun e w' => e = .returned (.int .i64 (Ly.line x)) ∧ w = w' := by
  have Hx := Lib.hid hx
  clear hx
  go_enter Try.func89, Try.ntmps89
  go_wp2_with fail
  refine (fix_mul x 1073741824 _ Hx.out (by unfold Fx.In; omega)).mono ?_
  rintro e w1 ⟨rfl, rfl⟩
  go_wp2_with fail
  refine (fix_add (Fx.mul x 1073741824) 2147483648 _ (Fx.mul_in _ _) (by unfold Fx.In; omega)).mono ?_
  rintro e w1 ⟨rfl, rfl⟩
  go_wp2_with fail
  go_ret
  exact ⟨rfl, rfl⟩
namespace Ly
theorem cell_in {kind k x y : Int} (hx : Fx.In x) : Fx.In (cell kind k x y) := by
  unfold cell
  have o1 : Fx.In 4294967296 := by unfold Fx.In; omega
  have o2 : Fx.In (-4294967296) := by unfold Fx.In; omega
  repeat' split
  all_goals first | exact hx | exact Fx.in_zero | exact Fx.mul_in _ _ | exact Fx.add_in _ _ | exact Fx.held_in hx o2 o1 | exact Fx.held_in (Fx.add_in _ _) Fx.in_zero o1
theorem slope_in {kind k x y g : Int} (hg : Fx.In g) : Fx.In (slope kind k x y g).1 ∧ Fx.In (slope kind k x y g).2 := by
  unfold slope
  repeat' split
  all_goals refine ⟨?_, ?_⟩
  all_goals first | exact hg | exact Fx.in_zero | exact Fx.mul_in _ _
theorem cell1 (k x y : Int) : cell 1 k x y = if x < 0 then 0 else x := by unfold cell; rw [if_pos (by decide)]
theorem cell2 (k x y : Int) : cell 2 k x y = if 0 < x then x else Fx.mul x k := by unfold cell; rw [if_neg (by decide)]; rw [if_pos (by decide)]
theorem cell3 (k x y : Int) : cell 3 k x y = Fx.held x (-4294967296) 4294967296 := by unfold cell; rw [if_neg (by decide)]; rw [if_neg (by decide)]; rw [if_pos (by decide)]
theorem cell4 (k x y : Int) : cell 4 k x y = Fx.held (line x) 0 4294967296 := by unfold cell; rw [if_neg (by decide)]; rw [if_neg (by decide)]; rw [if_neg (by decide)]; rw [if_pos (by decide)]
theorem cell5 (k x y : Int) : cell 5 k x y = Fx.mul x k := by unfold cell; rw [if_neg (by decide)]; rw [if_neg (by decide)]; rw [if_neg (by decide)]; rw [if_neg (by decide)]; rw [if_pos (by decide)]
theorem cell6 (k x y : Int) : cell 6 k x y = Fx.add x y := by unfold cell; rw [if_neg (by decide)]; rw [if_neg (by decide)]; rw [if_neg (by decide)]; rw [if_neg (by decide)]; rw [if_neg (by decide)]; rw [if_pos (by decide)]
theorem cell7 (k x y : Int) : cell 7 k x y = Fx.mul x y := by unfold cell; rw [if_neg (by decide)]; rw [if_neg (by decide)]; rw [if_neg (by decide)]; rw [if_neg (by decide)]; rw [if_neg (by decide)]; rw [if_neg (by decide)]; rw [if_pos (by decide)]
theorem slope1 (k x y g : Int) : slope 1 k x y g = if 0 < x then (g, 0) else (0, 0) := by unfold slope; rw [if_pos (by decide)]
theorem slope2 (k x y g : Int) : slope 2 k x y g = if 0 < x then (g, 0) else (Fx.mul g k, 0) := by unfold slope; rw [if_neg (by decide)]; rw [if_pos (by decide)]
theorem slope3 (k x y g : Int) : slope 3 k x y g = if -4294967296 < x ∧ x < 4294967296 then (g, 0) else (0, 0) := by unfold slope; rw [if_neg (by decide)]; rw [if_neg (by decide)]; rw [if_pos (by decide)]
theorem slope4 (k x y g : Int) : slope 4 k x y g = if 0 < line x ∧ line x < 4294967296 then (Fx.mul g 1073741824, 0) else (0, 0) := by unfold slope; rw [if_neg (by decide)]; rw [if_neg (by decide)]; rw [if_neg (by decide)]; rw [if_pos (by decide)]
theorem slope5 (k x y g : Int) : slope 5 k x y g = (Fx.mul g k, 0) := by unfold slope; rw [if_neg (by decide)]; rw [if_neg (by decide)]; rw [if_neg (by decide)]; rw [if_neg (by decide)]; rw [if_pos (by decide)]
theorem slope6 (k x y g : Int) : slope 6 k x y g = (g, g) := by unfold slope; rw [if_neg (by decide)]; rw [if_neg (by decide)]; rw [if_neg (by decide)]; rw [if_neg (by decide)]; rw [if_neg (by decide)]; rw [if_pos (by decide)]
theorem slope7 (k x y g : Int) : slope 7 k x y g = (Fx.mul g y, Fx.mul g x) := by unfold slope; rw [if_neg (by decide)]; rw [if_neg (by decide)]; rw [if_neg (by decide)]; rw [if_neg (by decide)]; rw [if_neg (by decide)]; rw [if_neg (by decide)]; rw [if_pos (by decide)]
end Ly
theorem point_cell (kind k x y : Int) (w : World) (h1 : 1 ≤ kind) (h7 : kind ≤ 7) (hk : Fx.In k) (hx : Fx.In x) (hy : Fx.In y) :
    Calls Try.prog 62 #[.int .i64 kind, .int .i64 k, .int .i64 x, .int .i64 y] w fun e w' => e = .returned (.int .i64 (Ly.cell kind k x y)) ∧ w = w' := by
  have Hk := Lib.hid hk
  have Hx := Lib.hid hx
  have Hy := Lib.hid hy
  clear hk hx hy
  rcases kinds7 h1 h7 with rfl | rfl | rfl | rfl | rfl | rfl | rfl
  all_goals clear h1 h7
  · by_cases h : x < 0
    · have hm := Lib.hid (show Ly.cell 1 k x y = 0 by rw [Ly.cell1, if_pos h])
      have d1 : decide (x < 0) = true := by simpa using h
      have d2 : decide (0 < x) = false := by simp; omega
      have d3 : decide (x ≤ 0) = true := by simp; omega
      have d4 : decide (0 ≤ x) = false := by simp; omega
      go_enter Try.func62, Try.ntmps62
      go_wp2_with fail
      go_ret
      exact ⟨by (rw [hm.out] <;> simp <;> omega), rfl⟩
    · have hm := Lib.hid (show Ly.cell 1 k x y = x by rw [Ly.cell1, if_neg h])
      have d1 : decide (x < 0) = false := by simpa using h
      have d4 : decide (0 ≤ x) = true := by simp; omega
      go_enter Try.func62, Try.ntmps62
      go_wp2_with fail
      go_ret
      exact ⟨by (rw [hm.out] <;> simp <;> omega), rfl⟩
  · by_cases h : 0 < x
    · have hm := Lib.hid (show x = Ly.cell 2 k x y by rw [Ly.cell2, if_pos h])
      go_enter Try.func62, Try.ntmps62
      go_wp2_with fail
      go_ret
      exact ⟨ret_int hm.out, rfl⟩
    · have hm := Lib.hid (show Fx.mul x k = Ly.cell 2 k x y by rw [Ly.cell2, if_neg h])
      go_enter Try.func62, Try.ntmps62
      go_wp2_with fail
      refine (fix_mul x k _ Hx.out Hk.out).mono ?_
      rintro e w1 ⟨rfl, rfl⟩
      go_wp2_with fail
      go_ret
      exact ⟨ret_int hm.out, rfl⟩
  · go_enter Try.func62, Try.ntmps62
    go_wp2_with fail
    refine (fix_neg_one _).mono ?_
    rintro e w1 ⟨rfl, rfl⟩
    go_wp2_with fail
    refine (fix_clamp _ _ _ _).mono ?_
    rintro e w1 ⟨rfl, rfl⟩
    go_wp2_with fail
    go_ret
    exact ⟨ret_int (Ly.cell3 k x y).symm, rfl⟩
  · go_enter Try.func62, Try.ntmps62
    go_wp2_with fail
    refine (point_line x _ Hx.out).mono ?_
    rintro e w1 ⟨rfl, rfl⟩
    go_wp2_with fail
    refine (fix_clamp _ _ _ _).mono ?_
    rintro e w1 ⟨rfl, rfl⟩
    go_wp2_with fail
    go_ret
    exact ⟨ret_int (Ly.cell4 k x y).symm, rfl⟩
  · go_enter Try.func62, Try.ntmps62
    go_wp2_with fail
    refine (fix_mul x k _ Hx.out Hk.out).mono ?_
    rintro e w1 ⟨rfl, rfl⟩
    go_wp2_with fail
    go_ret
    exact ⟨ret_int (Ly.cell5 k x y).symm, rfl⟩
  · go_enter Try.func62, Try.ntmps62
    go_wp2_with fail
    refine (fix_add x y _ Hx.out Hy.out).mono ?_
    rintro e w1 ⟨rfl, rfl⟩
    go_wp2_with fail
    go_ret
    exact ⟨ret_int (Ly.cell6 k x y).symm, rfl⟩
  · go_enter Try.func62, Try.ntmps62
    go_wp2_with fail
    refine (fix_mul x y _ Hx.out Hy.out).mono ?_
    rintro e w1 ⟨rfl, rfl⟩
    go_wp2_with fail
    go_ret
    exact ⟨ret_int (Ly.cell7 k x y).symm, rfl⟩
end Go.Proofs.Ytbnnpkcfifejmaa
/- Tensors in memory: one, a row of them, one made by the call. -/
namespace Go.Proofs.Ytbnnpkcfifejmaa
open Go.RowKit
/-- A tensor's rows, with the room that its slices tell. -/
structure TenIn (w : World) (S C : Option Addr) (c d : Nat) (t : Ten) : Prop where
  r : TenR w S C t
  s1 : t.s.length ≤ c
  s2 : c ≤ 9223372036854775807
  c1 : t.c.length ≤ d
  c2 : d ≤ 9223372036854775807
  l1 : t.s.length ≤ 1048576
  l2 : t.c.length ≤ 1048576
  num : Ly.In t
theorem TenIn.below {B : Nat} {w w' : World} {S C : Option Addr} {c d : Nat} {t : Ten} (h : TenIn w S C c d t) (hb : Below B w w') (hB : w.heap.size ≤ B) : TenIn w' S C c d t := { h with r := h.r.below hb hB }
theorem TenIn.later {w w' : World} {S C : Option Addr} {c d : Nat} {t : Ten} (h : TenIn w S C c d t) (hb : Later w w') : TenIn w' S C c d t := h.below hb (Nat.le_refl _)
theorem TenIn.cell {w : World} {S C : Option Addr} {c d : Nat} {t : Ten} (h : TenIn w S C c d t) {k : Nat} (hk : k < t.c.length) : ∃ b off, C = some ⟨b, off, none⟩ ∧ b < w.heap.size ∧ w.cell? ⟨b, off + k, none⟩ = some (.int .i64 (Ly.at_ t.c k)) := h.r.2 k hk
/-- A row of tensors. -/
def Tns (w : World) (A : Option Addr) (ts : List Ten) : Prop :=
  ∀ j (hj : j < ts.length), ∃ b off S c C d, A = some ⟨b, off, none⟩ ∧ b < w.heap.size ∧ w.cell? ⟨b, off + j * 2, none⟩ = some (.slice S ts[j].s.length c) ∧ w.cell? ⟨b, off + j * 2 + 1, none⟩ = some (.slice C ts[j].c.length d) ∧ TenIn w S C c d ts[j]
theorem Tns.below {B : Nat} {w w' : World} {A : Option Addr} {ts : List Ten} (h : Tns w A ts) (hb : Below B w w') (hB : w.heap.size ≤ B) : Tns w' A ts := fun j hj => by
  obtain ⟨b, off, S, c, C, d, e, hl, c0, c1, hT⟩ := h j hj
  exact ⟨b, off, S, c, C, d, e, Nat.lt_of_lt_of_le hl hb.size, (hb.cell (p := ⟨b, off + j * 2, none⟩) (Nat.lt_of_lt_of_le hl hB)).trans c0, (hb.cell (p := ⟨b, off + j * 2 + 1, none⟩) (Nat.lt_of_lt_of_le hl hB)).trans c1, hT.below hb hB⟩
theorem Tns.later {w w' : World} {A : Option Addr} {ts : List Ten} (h : Tns w A ts) (hb : Later w w') : Tns w' A ts := h.below hb (Nat.le_refl _)
theorem got_at {l : List Ten} {k : Nat} (h : k < l.length) : Ly.got l k = l[k] := by unfold Ly.got; rw [List.getD_eq_getElem?_getD, List.getElem?_eq_getElem h]; rfl
/-- The tensor at a place. -/
theorem Tns.at_ {w : World} {A : Option Addr} {ts : List Ten} (h : Tns w A ts) {j : Nat} (hj : j < ts.length) :
    ∃ b off S c C d, A = some ⟨b, off, none⟩ ∧ b < w.heap.size ∧ w.cell? ⟨b, off + j * 2, none⟩ = some (.slice S (Ly.got ts j).s.length c) ∧ w.cell? ⟨b, off + j * 2 + 1, none⟩ = some (.slice C (Ly.got ts j).c.length d) ∧ TenIn w S C c d (Ly.got ts j) := by
  rw [got_at hj]
  exact h j hj
theorem Tns.first {w : World} {A : Option Addr} {ts : List Ten} (h : Tns w A ts) (hj : 0 < ts.length) :
    ∃ b off S c C d, A = some ⟨b, off, none⟩ ∧ b < w.heap.size ∧ w.cell? ⟨b, off, none⟩ = some (.slice S (Ly.got ts 0).s.length c) ∧ w.cell? ⟨b, off + 1, none⟩ = some (.slice C (Ly.got ts 0).c.length d) ∧ TenIn w S C c d (Ly.got ts 0) := by
  obtain ⟨b, off, S, c, C, d, h1, h2, h3, h4, h5⟩ := h.at_ hj
  exact ⟨b, off, S, c, C, d, h1, h2, by simpa using h3, by simpa using h4, h5⟩
/-- A tensor whose rows lie in blocks from B on and may be written. -/
def TenO (B : Nat) (w : World) (v : Value) (t : Ten) : Prop :=
  ∃ S c C d, v = .agg #[.slice S t.s.length c, .slice C t.c.length d] ∧ TenIn w S C c d t ∧ (∀ a, S = some a → B ≤ a.block) ∧ (∀ a, C = some a → B ≤ a.block ∧ a.block < w.heap.size ∧ ∀ j, w.frozen? ⟨a.block, j, none⟩ = false)
theorem TenO.later {B : Nat} {w w' : World} {v : Value} {t : Ten} (h : TenO B w v t) (hb : Later w w') : TenO B w' v t := by
  obtain ⟨S, c, C, d, h1, h2, h3, h4⟩ := h
  refine ⟨S, c, C, d, h1, h2.later hb, h3, fun a e => ?_⟩
  obtain ⟨k1, k2, k3⟩ := h4 a e
  exact ⟨k1, Nat.lt_of_lt_of_le k2 hb.size, fun j => (Below.frozen hb (p := ⟨a.block, j, none⟩) k2).trans (k3 j)⟩
theorem TenO.base {B B' : Nat} {w : World} {v : Value} {t : Ten} (h : TenO B w v t) (hB : B' ≤ B) : TenO B' w v t := by
  obtain ⟨S, c, C, d, h1, h2, h3, h4⟩ := h
  exact ⟨S, c, C, d, h1, h2, fun a e => Nat.le_trans hB (h3 a e), fun a e => ⟨Nat.le_trans hB (h4 a e).1, (h4 a e).2⟩⟩
theorem TenN.o {B : Nat} {w : World} {v : Value} {t : Ten} (h : TenN B w v t) (h1 : t.s.length ≤ 1048576) (h2 : t.c.length ≤ 1048576) (hn : Ly.In t) : TenO B w v t := by
  obtain ⟨g, i, rfl, hg, hi, kg, ki⟩ := h
  refine ⟨_, _, _, _, rfl, ⟨⟨kg.ints, ki.ints⟩, Nat.le_refl _, by omega, Nat.le_refl _, by omega, h1, h2, hn⟩, fun a e => ?_, fun a e => ?_⟩
  · injection e with e; subst e; exact hg
  · injection e with e; subst e; exact ⟨hi, ki.lt, fun j => ki.frozen j⟩
theorem Blk.intsL {w : World} {g : Nat} {t : TypeId} (l : List Int) (h : Blk w g t (l.map (Value.int .i64)).toArray) : Ints .i64 w (some ⟨g, 0, none⟩) l := Ints.of_row fun j hj => by
  rw [Nat.zero_add, h.cell]
  simp [hj]
theorem cell_setfar {w : World} {p q : Addr} {u v : Value} (h : w.cell? q = some v) (hne : q.block ≠ p.block) : (w.setCell p u).cell? q = some v := (World.cell?_of_block (Below.heap_setCell w p u q.block hne)).trans h
theorem far_block {w : World} {p b : Nat} (hne : b ≠ p) (u u2 : Value) : ((w.setCell ⟨p, 0, none⟩ u).setCell ⟨p, 1, none⟩ u2).heap[b]? = w.heap[b]? :=
  (Below.heap_setCell _ ⟨p, 1, none⟩ u2 b hne).trans (Below.heap_setCell w ⟨p, 0, none⟩ u b hne)
theorem Ints.box {w : World} {A : Option Addr} {zs : List Int} {p : Nat} {T : TypeId} (h : Ints .i64 w A zs) (hz : Blk w p T #[.slice none 0 0, .slice none 0 0]) (u u2 : Value) : Ints .i64 ((w.setCell ⟨p, 0, none⟩ u).setCell ⟨p, 1, none⟩ u2) A zs := fun j hj => by
  obtain ⟨b, off, e, hl, hc⟩ := h j hj
  have hne : b ≠ p := by
    rintro rfl
    rw [hz.cell] at hc
    match h : off + j with
    | 0 => rw [h] at hc; simp at hc
    | 1 => rw [h] at hc; simp at hc
    | n + 2 => rw [h] at hc; simp at hc
  exact ⟨b, off, e, by simpa using hl, (World.cell?_of_block (far_block hne u u2)).trans hc⟩
/-- A tensor's rows behind stores into a box of two slices. -/
theorem TenO.box {B : Nat} {w : World} {v u u2 : Value} {t : Ten} {p : Nat} {T : TypeId} (h : TenO B w v t) (hz : Blk w p T #[.slice none 0 0, .slice none 0 0]) : TenO B ((w.setCell ⟨p, 0, none⟩ u).setCell ⟨p, 1, none⟩ u2) v t := by
  obtain ⟨S, c, C, d, h1, h2, h3, h4⟩ := h
  refine ⟨S, c, C, d, h1, { h2 with r := ⟨h2.r.1.box hz u u2, h2.r.2.box hz u u2⟩ }, h3, fun a e => ?_⟩
  obtain ⟨k1, k2, k3⟩ := h4 a e
  exact ⟨k1, by simpa using k2, fun j => by rw [World.frozen?_setCell, World.frozen?_setCell]; exact k3 j⟩
/-- What a layer's function hands back. -/
def GoP (r : Ten × Int) (w : World) (e : Ending) (w' : World) : Prop :=
  (r.2 ≠ 0 ∧ e = .returned (.tuple #[.agg #[.slice none 0 0, .slice none 0 0], .int .i64 r.2]) ∨ r.2 = 0 ∧ ∃ v, e = .returned (.tuple #[v, .int .i64 0]) ∧ TenO w.heap.size w' v r.1) ∧ Below w.heap.size w w'
theorem GoP.fail {n : Int} {r : Ten × Int} {w w' : World} (hr : r = (Ly.none_, n)) (hn : n ≠ 0) (hb : Below w.heap.size w w') : GoP r w (.returned (.tuple #[.agg #[.slice none 0 0, .slice none 0 0], .int .i64 n])) w' := by
  subst hr; exact ⟨.inl ⟨hn, rfl⟩, hb⟩
theorem GoP.fail2 {n : Int} {r : Ten × Int} {w w' : World} (hr : r.2 = n) (hn : n ≠ 0) (hb : Below w.heap.size w w') : GoP r w (.returned (.tuple #[.agg #[.slice none 0 0, .slice none 0 0], .int .i64 n])) w' := by
  subst hr; exact ⟨.inl ⟨hn, rfl⟩, hb⟩
theorem GoP.ok {t : Ten} {r : Ten × Int} {v : Value} {w w' : World} (hr : r = (t, 0)) (hv : TenO w.heap.size w' v t) (hb : Below w.heap.size w w') : GoP r w (.returned (.tuple #[v, .int .i64 0])) w' := by
  subst hr; exact ⟨.inr ⟨rfl, v, rfl, hv⟩, hb⟩
theorem GoP.from_ {r : Ten × Int} {w w1 w' : World} {e : Ending} (h : GoP r w1 e w') (hb : Below w.heap.size w w1) : GoP r w e w' := by
  refine ⟨?_, hb.trans (h.2.mono hb.size)⟩
  rcases h.1 with h1 | ⟨h1, v, h2, h3⟩
  · exact .inl h1
  · exact .inr ⟨h1, v, h2, h3.base hb.size⟩
namespace Ly
theorem tab_len (n : Nat) (f : Nat → Int) : (tab n f).length = n := by simp [tab]
theorem tab_get {n : Nat} {f : Nat → Int} {k : Nat} (hk : k < (tab n f).length) : (tab n f)[k] = f k := by simp [tab]
theorem tab_in {n : Nat} {f : Nat → Int} (h : ∀ i, i < n → Fx.In (f i)) : ∀ z ∈ tab n f, Fx.In z := fun z hz => by
  unfold tab at hz
  obtain ⟨i, hi, rfl⟩ := List.mem_map.1 hz
  exact h i (List.mem_range.1 hi)
theorem at_in {l : List Int} (h : ∀ z ∈ l, Fx.In z) (i : Nat) : Fx.In (at_ l i) := by
  unfold at_
  rw [List.getD_eq_getElem?_getD]
  rcases Nat.lt_or_ge i l.length with hi | hi
  · rw [List.getElem?_eq_getElem hi]; exact h _ (List.getElem_mem hi)
  · rw [List.getElem?_eq_none hi]; exact Fx.in_zero
theorem at_get {l : List Int} {i : Nat} (hi : i < l.length) : at_ l i = l[i] := by unfold at_; rw [List.getD_eq_getElem?_getD, List.getElem?_eq_getElem hi]; rfl
theorem got_in {l : List Ten} (h : ∀ t ∈ l, In t) (i : Nat) : In (got l i) := by
  unfold got
  rw [List.getD_eq_getElem?_getD]
  rcases Nat.lt_or_ge i l.length with hi | hi
  · rw [List.getElem?_eq_getElem hi]; exact h _ (List.getElem_mem hi)
  · rw [List.getElem?_eq_none hi]; intro z hz; simp [none_] at hz
/-- A row filled from the left: one step. -/
theorem mid_step (C L : List Int) {k : Nat} (hk : k < C.length) (hn : C.length = L.length) : (C.take k ++ L.drop k).set k C[k] = C.take (k + 1) ++ L.drop (k + 1) := by
  have h1 : (C.take k).length = k := by simp; omega
  rw [List.set_append_right _ _ (by omega), h1, Nat.sub_self, List.drop_eq_getElem_cons (by omega), List.set_cons_zero, List.take_succ_eq_append_getElem hk, List.append_assoc]
  rfl
theorem mid_len (C L : List Int) (k : Nat) (hk : k ≤ C.length) (hn : C.length = L.length) : (C.take k ++ L.drop k).length = C.length := by simp; omega
theorem mid_end (C L : List Int) (k : Nat) (hk : k = C.length) (hn : C.length = L.length) : C.take k ++ L.drop k = C := by subst hk; rw [List.take_length, hn, List.drop_length, List.append_nil]
end Ly
theorem Tns.in_ {w : World} {A : Option Addr} {ts : List Ten} (h : Tns w A ts) : ∀ t ∈ ts, Ly.In t := fun t ht => by
  obtain ⟨j, hj, rfl⟩ := List.getElem_of_mem ht
  obtain ⟨b, off, S, c, C, d, h1, h2, h3, h4, h5⟩ := h j hj
  exact h5.num
end Go.Proofs.Ytbnnpkcfifejmaa
/- append of a row of tensors. No program is named here. -/
namespace Go.Proofs.Ytbnnpkcfifejmaa
open Go.RowKit
theorem append_nil_run {P : Program} (w : World) (t ty e : TypeId) (i : TypeInfo) (ht : P.underlying t = some (.slice e)) (hi : P.info? e = some i) (g n cap c : Nat) (hn : n ≤ cap) :
    (Builtin.append_ #[t, t] ty #[.slice (some ⟨g, 0, none⟩) n cap, .slice none 0 c]).run P w = .ok (.slice (some ⟨g, 0, none⟩) n cap) w := by
  simp [Builtin.append_, run_underlying ht, sizeOf, typeInfo, hi, Builtin.lenOf, Builtin.firstCells, loadCells, storeCells, hn]
/-- Values that read as tensors, two of them each. -/
def RowT (w : World) (vs : List Value) (ts : List Ten) : Prop :=
  vs.length = ts.length * 2 ∧ ∀ j (hj : j < ts.length), ∃ S c C d, vs[j * 2]? = some (.slice S ts[j].s.length c) ∧ vs[j * 2 + 1]? = some (.slice C ts[j].c.length d) ∧ TenIn w S C c d ts[j]
theorem RowT.nil (w : World) : RowT w [] [] := ⟨rfl, fun j hj => absurd hj (by simp)⟩
theorem RowT.one {w : World} {S C : Option Addr} {c d : Nat} {t : Ten} (h : TenIn w S C c d t) : RowT w [.slice S t.s.length c, .slice C t.c.length d] [t] := by
  refine ⟨rfl, fun j hj => ?_⟩
  obtain rfl : j = 0 := by simp at hj; omega
  exact ⟨S, c, C, d, rfl, rfl, h⟩
theorem RowT.below {w w' : World} {vs : List Value} {ts : List Ten} {B : Nat} (h : RowT w vs ts) (hb : Below B w w') (hB : w.heap.size ≤ B) : RowT w' vs ts :=
  ⟨h.1, fun j hj => by obtain ⟨S, c, C, d, e1, e2, e3⟩ := h.2 j hj; exact ⟨S, c, C, d, e1, e2, e3.below hb hB⟩⟩
theorem RowT.append {w : World} {vs us : List Value} {p x : List Ten} (h : RowT w vs p) (k : RowT w us x) : RowT w (vs ++ us) (p ++ x) := by
  have hl := h.1
  refine ⟨by simp [h.1, k.1, Nat.add_mul], fun j hj => ?_⟩
  by_cases e : j < p.length
  · obtain ⟨S, c, C, d, e1, e2, e3⟩ := h.2 j e
    refine ⟨S, c, C, d, ?_, ?_, ?_⟩
    · rw [List.getElem?_append_left (by omega), e1]; simp [e]
    · rw [List.getElem?_append_left (by omega), e2]; simp [e]
    · simpa [e] using e3
  · have hj2 : j - p.length < x.length := by simp at hj; omega
    obtain ⟨S, c, C, d, e1, e2, e3⟩ := k.2 (j - p.length) hj2
    refine ⟨S, c, C, d, ?_, ?_, ?_⟩
    · rw [List.getElem?_append_right (by omega), show j * 2 - vs.length = (j - p.length) * 2 by omega, e1, List.getElem_append_right (by omega)]
    · rw [List.getElem?_append_right (by omega), show j * 2 + 1 - vs.length = (j - p.length) * 2 + 1 by omega, e2, List.getElem_append_right (by omega)]
    · rw [List.getElem_append_right (by omega)]; exact e3
theorem RowT.cell {w : World} {vs : List Value} {ts : List Ten} (h : RowT w vs ts) : ∀ u ∈ vs, ∃ A n c, u = .slice A n c := fun u hu => by
  obtain ⟨k, hk, rfl⟩ := List.getElem_of_mem hu
  have hl := h.1
  obtain ⟨S, c, C, d, e1, e2, -⟩ := h.2 (k / 2) (by omega)
  rcases Nat.mod_two_eq_zero_or_one k with e | e
  · have hk2 : k / 2 * 2 = k := by omega
    rw [hk2, List.getElem?_eq_getElem hk] at e1
    injection e1 with e1
    exact ⟨_, _, _, e1⟩
  · have hk2 : k / 2 * 2 + 1 = k := by omega
    rw [hk2, List.getElem?_eq_getElem hk] at e2
    injection e2 with e2
    exact ⟨_, _, _, e2⟩
theorem RowT.slices {w : World} {vs : List Value} {ts : List Ten} (h : RowT w vs ts) : ∀ u ∈ vs, u.oneCell' = true := fun u hu => by
  obtain ⟨A, n, c, rfl⟩ := h.cell u hu
  rfl
/-- What lies in a row. -/
def rowCells (w : World) (ad : Addr) (n : Nat) : List Value := (List.range n).map fun j => (w.cell? (ad.add j)).getD undef
theorem rowCells_at {w : World} {ad : Addr} {n j : Nat} (hj : j < n) : (rowCells w ad n)[j]? = some ((w.cell? (ad.add j)).getD undef) := by simp [rowCells, hj]
theorem addr_add (b off k : Nat) : (⟨b, off, none⟩ : Addr).add k = ⟨b, off + k, none⟩ := by simp [Addr.add]
theorem Tns.rowT {w : World} {ad : Addr} {ts : List Ten} (h : Tns w (some ad) ts) : RowT w (rowCells w ad (ts.length * 2)) ts ∧ ∀ j u, (rowCells w ad (ts.length * 2))[j]? = some u → w.cell? (ad.add j) = some u := by
  refine ⟨⟨by simp [rowCells], fun j hj => ?_⟩, fun j u hu => ?_⟩
  · obtain ⟨b, off, S, c, C, d, e, hl, c0, c1, hT⟩ := h j hj
    injection e with e
    subst e
    refine ⟨S, c, C, d, ?_, ?_, hT⟩
    · rw [rowCells_at (by omega), addr_add, c0]; rfl
    · rw [rowCells_at (by omega), addr_add, ← Nat.add_assoc, c1]; rfl
  · have hj : j < ts.length * 2 := by
      rcases Nat.lt_or_ge j (ts.length * 2) with hk | hk
      · exact hk
      · rw [List.getElem?_eq_none (by simpa [rowCells] using hk)] at hu; cases hu
    rw [rowCells_at hj] at hu
    obtain ⟨b, off, S, c, C, d, e, hl, c0, c1, hT⟩ := h (j / 2) (by omega)
    injection e with e
    subst e
    rw [addr_add] at hu ⊢
    rcases Nat.mod_two_eq_zero_or_one j with e | e
    · rw [show j / 2 * 2 = j by omega] at c0
      rw [c0] at hu ⊢
      exact hu
    · rw [Nat.add_assoc, show j / 2 * 2 + 1 = j by omega] at c1
      rw [c1] at hu ⊢
      exact hu
theorem Tns.nil_of {w : World} {ts : List Ten} (h : Tns w none ts) : ts = [] := by
  rcases ts with _ | ⟨t, r⟩
  · rfl
  · obtain ⟨_, _, _, _, _, _, e, _⟩ := h 0 (by simp)
    cases e
theorem Tns.nil (w : World) (A : Option Addr) : Tns w A [] := fun j hj => absurd hj (by simp)
/-- A row of the call's own, of tensors that were there, is a slice of tensors. -/
theorem RowT.tns {w w' : World} {vs : List Value} {ts : List Ten} {B n : Nat} {t : TypeId} {v : Value} (h : RowT w vs ts) (hown : w'.ownsRow B t 2 v n vs) (hb : Below w.heap.size w w') :
    ∃ A c, v = .slice A ts.length c ∧ n = ts.length ∧ Tns w' A ts ∧ ts.length ≤ c ∧ c ≤ 9223372036854775807 := by
  have hn : n = ts.length := by have := hown.1; have := h.1; omega
  subst hn
  rcases hown.2 with ⟨rfl, h0⟩ | ⟨g, cap, cur, rfl, hB, hh, r1, r2, r3, r4⟩
  · have : ts = [] := List.eq_nil_of_length_eq_zero h0
    subst this
    exact ⟨none, 0, rfl, rfl, Tns.nil _ _, by simp, by omega⟩
  · refine ⟨_, cap, rfl, rfl, fun j hj => ?_, r1, by unfold maxLen at r2; omega⟩
    obtain ⟨S, c, C, d, e1, e2, e3⟩ := h.2 j hj
    refine ⟨g, 0, S, c, C, d, rfl, lt_of_block hh, ?_, ?_, e3.below hb (Nat.le_refl _)⟩
    · rw [Nat.zero_add, hown.cellAt (j * 2) (by omega)]
      exact e1
    · rw [Nat.zero_add, hown.cellAt (j * 2 + 1) (by omega)]
      exact e2
theorem wp_append_tens {P : Program} {o : Oper} {a : Act} {K : Act → World → Prop} {Q : Exit → Act → World → Prop} {w : World} (s x : Operand) (t : TypeId)
    (ho : o.op = .call { callee := .builtin .append, args := #[s, x], argTypes := #[t, t] })
    (base : Nat) (e : TypeId) (i : TypeInfo) (ht : P.underlying t = some (.slice e)) (hi : P.info? e = some i) (hz : i.zero = some (.agg #[.slice none 0 0, .slice none 0 0])) (hsize : i.size = 2) (hby : i.bytes = 48)
    (g n cap : Nat) (xs : List Value) (ys : List Ten) (hs : a.eval s = .slice (some ⟨g, 0, none⟩) n cap) (hown : w.ownsRow base e 2 (.slice (some ⟨g, 0, none⟩) n cap) n xs)
    (w0 : World) (hrow : RowT w0 xs ys) (X : Option Addr) (f : Nat) (l : List Ten) (hx : a.eval x = .slice X l.length f) (hX : Tns w0 X l) (hb : Below w0.heap.size w0 w) (hB : w0.heap.size ≤ base) (hbase : base ≤ w.heap.size) (hn : n + l.length ≤ 1000000000)
    (h : ∀ g' cap' w' xs', w'.ownsRow base e 2 (.slice (some ⟨g', 0, none⟩) (n + l.length) cap') (n + l.length) xs' → RowT w0 xs' (ys ++ l) → Below w0.heap.size w0 w' → Below base w w' → K (a.put o.dst (.slice (some ⟨g', 0, none⟩) (n + l.length) cap')) w') :
    Oper.wp P o a w K Q := by
  rcases X with _ | ad
  · obtain rfl := hX.nil_of
    have hcap : n ≤ cap := by
      rcases hown.2 with ⟨e1, h0⟩ | ⟨_, _, _, e1, _, _, h3, _⟩
      · cases e1
      · injection e1 with _ _ e1; omega
    unfold Oper.wp execOp
    simp only [ho, resolve, invoke, builtin, Sem.run_bind, Sem.run_pure, Result.andThen_ok, List.map_toArray, List.map_cons, List.map_nil, hs, hx, List.length_nil, append_nil_run w t o.type e i ht hi g n cap f hcap]
    exact h g cap w xs hown (by simpa using hrow) hb (Below.refl _ _)
  · obtain ⟨hr, hc⟩ := hX.rowT
    obtain ⟨v', w', hrun, hown', hgrow, hnil, hat⟩ := run_append_own_at (P := P) w base t o.type e i (.agg #[.slice none 0 0, .slice none 0 0]) 2 48 ht hi hz hsize hby rfl (by decide) (.slice (some ⟨g, 0, none⟩) n cap) n xs hown ad l.length f (rowCells w0 ad (l.length * 2)) hr.1
      (fun j u hu => by
        have := hc j u hu
        exact (hb.cell (World.block_lt_of_cell? _ _ this)).trans this) hr.slices (by unfold maxLen; omega) (by omega) hbase
    rcases hown'.2 with ⟨e1, _⟩ | ⟨g', cap', cur, rfl, _⟩
    · have := hnil.1 e1
      cases this.1
    · unfold Oper.wp execOp
      simp only [ho, resolve, invoke, builtin, Sem.run_bind, Sem.run_pure, Result.andThen_ok, List.map_toArray, List.map_cons, List.map_nil, hs, hx, hrun]
      refine h g' cap' w' _ hown' (hrow.append hr) (hb.grown hgrow hb.size fun b hb2 => ?_) ((Below.refl base w).grown hgrow hbase fun b hb2 => (hown.lt b hb2).1)
      have := (hown.lt b hb2).1
      omega
theorem step_append_tens {P : Program} {ops : Array Oper} {o : Oper} {a : Act} {K : Act → World → Prop} {Q : Exit → Act → World → Prop} {E : Prop} {w : World} (hgd : o.guard = none) (s x : Operand) (t : TypeId)
    (ho : o.op = .call { callee := .builtin .append, args := #[s, x], argTypes := #[t, t] })
    (base : Nat) (e : TypeId) (i : TypeInfo) (ht : P.underlying t = some (.slice e)) (hi : P.info? e = some i) (hz : i.zero = some (.agg #[.slice none 0 0, .slice none 0 0])) (hsize : i.size = 2) (hby : i.bytes = 48)
    (g n cap : Nat) (xs : List Value) (ys : List Ten) (hs : a.eval s = .slice (some ⟨g, 0, none⟩) n cap) (hown : w.ownsRow base e 2 (.slice (some ⟨g, 0, none⟩) n cap) n xs)
    (w0 : World) (hrow : RowT w0 xs ys) (X : Option Addr) (f : Nat) (l : List Ten) (hx : a.eval x = .slice X l.length f) (hX : Tns w0 X l) (hb : Below w0.heap.size w0 w) (hB : w0.heap.size ≤ base) (hbase : base ≤ w.heap.size) (hn : n + l.length ≤ 1000000000)
    (h : ∀ g' cap' w' xs', w'.ownsRow base e 2 (.slice (some ⟨g', 0, none⟩) (n + l.length) cap') (n + l.length) xs' → RowT w0 xs' (ys ++ l) → Below w0.heap.size w0 w' → Below base w w' → K (a.put o.dst (.slice (some ⟨g', 0, none⟩) (n + l.length) cap')) w') :
    if Region.wanted o (yielded ops a.tmps) = true then Oper.wp P o a w K Q else E := by
  have hw : Region.wanted o (yielded ops a.tmps) = true := by simp [Region.wanted, hgd]
  rw [if_pos hw]
  exact wp_append_tens s x t ho base e i ht hi hz hsize hby g n cap xs ys hs hown w0 hrow X f l hx hX hb hB hbase hn h
end Go.Proofs.Ytbnnpkcfifejmaa
/- The plain law of layer 10: a layer's answer has the shape that the op tells. -/
namespace Go.Proofs.Ytbnnpkcfifejmaa
open Go.RowKit
namespace Ly
theorem counts_ok {o : OpD} {p x : Int} (h : Od.counts o p x = 0) : Od.right o = true ∧ Od.least o ≤ x ∧ x ≤ Od.most o ∧ p = Od.params o := by
  unfold Od.counts at h
  cases hr : Od.right o
  · simp [hr] at h
  · rw [hr] at h
    simp only [if_true] at h
    split at h
    · simp at h
    · rename_i hc; simp only [not_or] at hc; exact ⟨rfl, by omega, by omega, by omega⟩
theorem right_s {t : Ten} (h : Tn.right t = true) : Sh.right t.s = true ∧ (t.c.length : Int) = Safe.prod t.s := by simpa [Tn.right] using h
theorem shape_of {o : OpD} {p x : List Ten} (hc : Od.counts o p.length x.length = 0) (hp : ∀ t ∈ p, Sh.right t.s = true) (hx : ∀ t ∈ x, Sh.right t.s = true) :
    Od.shape o (p.map Ten.s) (x.map Ten.s) = Od.byKind o (p.map Ten.s) (x.map Ten.s) := by
  unfold Od.shape
  rw [List.length_map, List.length_map, if_neg (by simp [hc]), if_pos]
  simp only [Bool.and_eq_true, List.all_eq_true, List.mem_map]
  exact ⟨by rintro s ⟨t, ht, rfl⟩; exact hp t ht, by rintro s ⟨t, ht, rfl⟩; exact hx t ht⟩
theorem joined_map {sd : Int} : ∀ {r : List Ten} {s : List Int}, (joinedS sd s r).2 = 0 → Od.joinAll sd s (r.map Ten.s) = joinedS sd s r ∧ ∀ t ∈ r, Sh.right t.s = true
  | [], _, _ => ⟨rfl, by simp⟩
  | t :: r, s, h => by
    simp only [joinedS, List.map_cons, Od.joinAll] at h ⊢
    split at h
    · rename_i ht
      rw [if_pos ht]
      split at h
      · rename_i hj
        rw [if_pos hj, if_pos hj]
        obtain ⟨h1, h2⟩ := joined_map h
        refine ⟨h1, fun u hu => ?_⟩
        rcases List.mem_cons.1 hu with rfl | hu
        · exact (right_s ht).1
        · exact h2 u hu
      · rename_i hj; exact absurd h hj
    · simp at h
theorem joined_shape {sd : Int} {x : List Ten} (h : (joined sd x).2 = 0) : Od.joined sd (x.map Ten.s) = joined sd x ∧ ∀ t ∈ x, Sh.right t.s = true := by
  cases x with
  | nil => simp [joined] at h
  | cons t r =>
    simp only [joined] at h ⊢
    split at h
    · rename_i ht
      rw [if_pos ht]
      split at h
      · simp at h
      · rename_i hc
        rw [if_neg hc]
        obtain ⟨h1, h2⟩ := joined_map h
        refine ⟨?_, fun u hu => ?_⟩
        · unfold Od.joined
          rw [if_neg]
          · exact h1
          · rintro ⟨hl, hi⟩
            refine hc ⟨by simpa using hl, ?_⟩
            simp [Od.inR] at hi
            omega
        · rcases List.mem_cons.1 hu with rfl | hu
          · exact (right_s ht).1
          · exact h2 u hu
    · simp at h
theorem one_of {l : List Ten} (h : l.length = 1) : ∃ a, l = [a] := List.length_eq_one_iff.1 h
theorem two_of {l : List Ten} (h : l.length = 2) : ∃ a b, l = [a, b] := by
  match l, h with
  | [a, b], _ => exact ⟨a, b, rfl⟩
theorem none_of {l : List Ten} (h : l.length = 0) : l = [] := List.length_eq_zero_iff.1 h
set_option maxHeartbeats 4000000 in
/-- What a layer answers has the shape that the op tells. -/
theorem lay_shape {o : OpD} {p x : List Ten} (hc : Od.counts o p.length x.length = 0) (h : (lay o p x).2 = 0) : Od.shape o (p.map Ten.s) (x.map Ten.s) = ((lay o p x).1.s, 0) := by
  obtain ⟨hr, h1, h2, h3⟩ := counts_ok hc
  have hk := Od.right_kind hr
  unfold Od.least Od.most at *
  unfold Od.params at h3
  rw [if_pos hr] at h1 h2 h3
  have hcases : o.kind ≤ 7 ∨ o.kind = 8 ∨ o.kind = 9 ∨ o.kind = 10 ∨ o.kind = 11 ∨ o.kind = 12 ∨ o.kind = 13 ∨ o.kind = 14 ∨ o.kind = 15 := by omega
  rcases hcases with hk1 | hk1 | hk1 | hk1 | hk1 | hk1 | hk1 | hk1 | hk1
  · have e : lay o p x = point o.kind o.k x := by unfold lay; rw [if_neg (by omega), if_neg (by omega), if_neg (by omega), if_neg (by omega), if_neg (by omega), if_neg (by omega), if_neg (by omega), if_neg (by omega)]
    have hp0 : p = [] := none_of (by rw [if_neg (by omega), if_neg (by omega)] at h3; omega)
    rw [e] at h ⊢
    unfold point at h ⊢
    split at h
    · rename_i ha
      rw [if_pos ha]
      unfold ptAgree at ha
      split at ha
      · simp at ha
      · split at ha
        · simp at ha
        · split at ha
          · rename_i hall
            simp only [List.all_eq_true, Bool.and_eq_true, decide_eq_true_eq] at hall
            rw [shape_of hc (by rw [hp0]; simp) (fun t ht => (right_s (hall t ht).1).1)]
            unfold Od.byKind
            rw [if_neg (by omega), if_neg (by omega), if_neg (by omega), if_neg (by omega), if_neg (by omega), if_neg (by omega), if_neg (by omega)]
            have hx1 : 0 < x.length := by
              rcases Nat.eq_zero_or_pos x.length with h0 | h0
              · rename_i hn0 hn1; simp [h0] at hn1; omega
              · exact h0
            have e0 : (x.map Ten.s).getD 0 [] = (got x 0).s := by
              cases x with
              | nil => simp at hx1
              | cons a r => rfl
            unfold Od.same
            rw [e0, if_pos]
            simp only [List.all_eq_true, List.mem_map, decide_eq_true_eq]
            rintro s ⟨t, ht, rfl⟩
            exact (hall t ht).2
          · simp at ha
    · rename_i ha; exact absurd h ha
  · obtain ⟨a, b, rfl⟩ := two_of (l := p) (by simp [hk1] at h3; omega)
    obtain ⟨t, rfl⟩ := one_of (l := x) (by simp [hk1] at h1 h2; omega)
    have e : lay o [a, b] [t] = dense a b t := by unfold lay; rw [if_pos hk1]; rfl
    rw [e] at h ⊢
    unfold dense at h ⊢
    split at h
    · rename_i ha
      rw [if_pos ha]
      simp only [denseOk, Bool.and_eq_true, decide_eq_true_eq] at ha
      obtain ⟨⟨⟨⟨⟨a1, a2⟩, a3⟩, a4⟩, a5⟩, a6⟩ := ha
      rw [shape_of hc (by simp [(right_s a1).1, (right_s a3).1]) (by simp [(right_s a4).1])]
      have h6 := (right_s a4).2
      have h7 := (right_s a4).1
      unfold Od.byKind Od.dense
      rw [if_pos hk1]
      simp only [List.map_cons, List.map_nil, List.getD_cons_zero, List.getD_cons_succ]
      rw [if_pos ⟨a2, by rw [a5]; rfl, by rw [a5]; rfl, h7, by rw [← h6, a6]; rfl⟩, a5]
      rfl
    · simp at h
  · obtain ⟨b, rfl⟩ := one_of (l := p) (by simp [hk1] at h3; omega)
    obtain ⟨t, rfl⟩ := one_of (l := x) (by simp [hk1] at h1 h2; omega)
    have e : lay o [b] [t] = add t b := by unfold lay; rw [if_neg (by omega), if_pos hk1]; rfl
    rw [e] at h ⊢
    unfold add at h ⊢
    split at h
    · rename_i ha
      rw [if_pos ha]
      simp only [alike, Bool.and_eq_true, decide_eq_true_eq] at ha
      obtain ⟨⟨a1, a2⟩, a3⟩ := ha
      rw [shape_of hc (by simp [(right_s a2).1]) (by simp [(right_s a1).1])]
      unfold Od.byKind Od.same
      rw [if_neg (by omega), if_pos hk1]
      simp [a3]
    · simp at h
  · obtain ⟨b, rfl⟩ := one_of (l := p) (by simp [hk1] at h3; omega)
    obtain ⟨t, rfl⟩ := one_of (l := x) (by simp [hk1] at h1 h2; omega)
    have e : lay o [b] [t] = conv b t o.step := by unfold lay; rw [if_neg (by omega), if_neg (by omega), if_pos hk1]; rfl
    rw [e] at h ⊢
    unfold conv at h ⊢
    split at h
    · rename_i ha
      rw [if_pos ha]
      unfold convErr at ha
      split at ha
      · rename_i hrr
        simp only [Bool.and_eq_true] at hrr
        rw [shape_of hc (by simp [(right_s hrr.1).1]) (by simp [(right_s hrr.2).1])]
        unfold Od.byKind
        rw [if_neg (by omega), if_neg (by omega), if_pos hk1]
        simp only [List.map_cons, List.map_nil, List.getD_cons_zero]
        exact Prod.ext rfl ha
      · simp at ha
    · rename_i ha; exact absurd h ha
  · obtain rfl := none_of (l := p) (by rw [if_neg (by omega), if_neg (by omega)] at h3; omega)
    obtain ⟨t, rfl⟩ := one_of (l := x) (by simp [hk1] at h1 h2; omega)
    have e : lay o [] [t] = pool true t o.width o.step := by unfold lay; rw [if_neg (by omega), if_neg (by omega), if_neg (by omega), if_pos hk1]; rfl
    rw [e] at h ⊢
    unfold pool at h ⊢
    split at h
    · rename_i ha
      rw [if_pos ha]
      unfold poolErr at ha
      split at ha
      · rename_i hrr
        rw [shape_of hc (by simp) (by simp [(right_s hrr).1])]
        unfold Od.byKind
        rw [if_neg (by omega), if_neg (by omega), if_neg (by omega), if_pos (by omega)]
        simp only [List.map_cons, List.map_nil, List.getD_cons_zero]
        exact Prod.ext rfl ha
      · simp at ha
    · rename_i ha; exact absurd h ha
  · obtain rfl := none_of (l := p) (by rw [if_neg (by omega), if_neg (by omega)] at h3; omega)
    obtain ⟨t, rfl⟩ := one_of (l := x) (by simp [hk1] at h1 h2; omega)
    have e : lay o [] [t] = pool false t o.width o.step := by unfold lay; rw [if_neg (by omega), if_neg (by omega), if_neg (by omega), if_neg (by omega), if_pos hk1]; rfl
    rw [e] at h ⊢
    unfold pool at h ⊢
    split at h
    · rename_i ha
      rw [if_pos ha]
      unfold poolErr at ha
      split at ha
      · rename_i hrr
        rw [shape_of hc (by simp) (by simp [(right_s hrr).1])]
        unfold Od.byKind
        rw [if_neg (by omega), if_neg (by omega), if_neg (by omega), if_pos (by omega)]
        simp only [List.map_cons, List.map_nil, List.getD_cons_zero]
        exact Prod.ext rfl ha
      · simp at ha
    · rename_i ha; exact absurd h ha
  · obtain rfl := none_of (l := p) (by rw [if_neg (by omega), if_neg (by omega)] at h3; omega)
    have e : lay o [] x = join o.side x := by unfold lay; rw [if_neg (by omega), if_neg (by omega), if_neg (by omega), if_neg (by omega), if_neg (by omega), if_pos hk1]
    rw [e] at h ⊢
    unfold join at h ⊢
    split at h
    · rename_i ha
      rw [if_pos ha]
      obtain ⟨j1, j2⟩ := joined_shape ha
      rw [shape_of hc (by simp) j2]
      unfold Od.byKind
      rw [if_neg (by omega), if_neg (by omega), if_neg (by omega), if_neg (by omega), if_pos (by omega), j1]
      exact Prod.ext rfl ha
    · rename_i ha; exact absurd h ha
  · obtain rfl := none_of (l := p) (by rw [if_neg (by omega), if_neg (by omega)] at h3; omega)
    obtain ⟨t, rfl⟩ := one_of (l := x) (by simp [hk1] at h1 h2; omega)
    have e : lay o [] [t] = cut t o.side o.frm o.to := by unfold lay; rw [if_neg (by omega), if_neg (by omega), if_neg (by omega), if_neg (by omega), if_neg (by omega), if_neg (by omega), if_pos hk1]; rfl
    rw [e] at h ⊢
    unfold cut at h ⊢
    split at h
    · rename_i hrr
      rw [if_pos hrr]
      split at h
      · rename_i ha
        rw [if_pos ha]
        rw [shape_of hc (by simp) (by simp [(right_s hrr).1])]
        unfold Od.byKind
        rw [if_neg (by omega), if_neg (by omega), if_neg (by omega), if_neg (by omega), if_neg (by omega), if_pos (by omega)]
        simp only [List.map_cons, List.map_nil, List.getD_cons_zero]
        exact Prod.ext rfl ha
      · rename_i ha; exact absurd h ha
    · simp at h
  · obtain rfl := none_of (l := p) (by rw [if_neg (by omega), if_neg (by omega)] at h3; omega)
    obtain ⟨t, rfl⟩ := one_of (l := x) (by simp [hk1] at h1 h2; omega)
    have e : lay o [] [t] = turn t o.s := by unfold lay; rw [if_neg (by omega), if_neg (by omega), if_neg (by omega), if_neg (by omega), if_neg (by omega), if_neg (by omega), if_neg (by omega), if_pos hk1]; rfl
    rw [e] at h ⊢
    unfold turn of_ at h ⊢
    split at h
    · rename_i hrr
      rw [if_pos hrr]
      split at h
      · rename_i ha
        rw [if_pos ha]
        rw [shape_of hc (by simp) (by simp [(right_s hrr).1])]
        unfold Od.byKind Od.turned
        rw [if_neg (by omega), if_neg (by omega), if_neg (by omega), if_neg (by omega), if_neg (by omega), if_neg (by omega), if_pos (by omega)]
        have a1 := right_s hrr
        have a2 := right_s ha
        simp only [List.map_cons, List.map_nil, List.getD_cons_zero]
        rw [if_pos (by simp [a1.1, a2.1, ← a2.2, ← a1.2])]
      · simp at h
    · simp at h
/-- The answer of an op. -/
theorem go_err {o : OpD} {p x : List Ten} (h : Od.counts o p.length x.length ≠ 0) : go o p x = (none_, Od.counts o p.length x.length) := by unfold go; rw [if_neg h]
theorem go_lay {o : OpD} {p x : List Ten} (h : Od.counts o p.length x.length = 0) : go o p x = lay o p x := by unfold go; rw [if_pos h]
end Ly
end Go.Proofs.Ytbnnpkcfifejmaa
/- What a layer's function hands back, in one form for both outcomes. -/
namespace Go.Proofs.Ytbnnpkcfifejmaa
open Go.RowKit
namespace Ly
theorem dense_none {w b x : Ten} (h : (dense w b x).2 ≠ 0) : (dense w b x).1 = none_ := by
  unfold dense at h ⊢; split at h
  · simp at h
  · rename_i hc; rw [if_neg hc]
theorem add_none {a b : Ten} (h : (add a b).2 ≠ 0) : (add a b).1 = none_ := by
  unfold add at h ⊢; split at h
  · simp at h
  · rename_i hc; rw [if_neg hc]
theorem conv_none {w x : Ten} {st : Int} (h : (conv w x st).2 ≠ 0) : (conv w x st).1 = none_ := by
  unfold conv at h ⊢; split at h
  · simp at h
  · rename_i hc; rw [if_neg hc]
theorem pool_none {t : Bool} {x : Ten} {wd st : Int} (h : (pool t x wd st).2 ≠ 0) : (pool t x wd st).1 = none_ := by
  unfold pool at h ⊢; split at h
  · simp at h
  · rename_i hc; rw [if_neg hc]
theorem join_none {sd : Int} {x : List Ten} (h : (join sd x).2 ≠ 0) : (join sd x).1 = none_ := by
  unfold join at h ⊢; split at h
  · simp at h
  · rename_i hc; rw [if_neg hc]
theorem cut_none {x : Ten} {sd f t : Int} (h : (cut x sd f t).2 ≠ 0) : (cut x sd f t).1 = none_ := by
  unfold cut at h ⊢
  split at h
  · rename_i h1
    rw [if_pos h1]
    split at h
    · simp at h
    · rename_i hc; rw [if_neg hc]
  · rename_i hc; rw [if_neg hc]
theorem turn_none {x : Ten} {s : List Int} (h : (turn x s).2 ≠ 0) : (turn x s).1 = none_ := by
  unfold turn of_ at h ⊢
  split at h
  · rename_i h1
    rw [if_pos h1]
    split at h
    · simp at h
    · rename_i hc; rw [if_neg hc]
  · rename_i hc; rw [if_neg hc]
theorem point_none {k k0 : Int} {x : List Ten} (h : (point k k0 x).2 ≠ 0) : (point k k0 x).1 = none_ := by
  unfold point at h ⊢; split at h
  · simp at h
  · rename_i hc; rw [if_neg hc]
theorem lay8 {o : OpD} {p x : List Ten} (h : o.kind = 8) : lay o p x = dense (got p 0) (got p 1) (got x 0) := by unfold lay; rw [if_pos h]
theorem lay9 {o : OpD} {p x : List Ten} (h : o.kind = 9) : lay o p x = add (got x 0) (got p 0) := by unfold lay; rw [if_neg (by omega), if_pos h]
theorem lay10 {o : OpD} {p x : List Ten} (h : o.kind = 10) : lay o p x = conv (got p 0) (got x 0) o.step := by unfold lay; rw [if_neg (by omega), if_neg (by omega), if_pos h]
theorem lay11 {o : OpD} {p x : List Ten} (h : o.kind = 11) : lay o p x = pool true (got x 0) o.width o.step := by unfold lay; rw [if_neg (by omega), if_neg (by omega), if_neg (by omega), if_pos h]
theorem lay12 {o : OpD} {p x : List Ten} (h : o.kind = 12) : lay o p x = pool false (got x 0) o.width o.step := by unfold lay; rw [if_neg (by omega), if_neg (by omega), if_neg (by omega), if_neg (by omega), if_pos h]
theorem lay13 {o : OpD} {p x : List Ten} (h : o.kind = 13) : lay o p x = join o.side x := by unfold lay; rw [if_neg (by omega), if_neg (by omega), if_neg (by omega), if_neg (by omega), if_neg (by omega), if_pos h]
theorem lay14 {o : OpD} {p x : List Ten} (h : o.kind = 14) : lay o p x = cut (got x 0) o.side o.frm o.to := by unfold lay; rw [if_neg (by omega), if_neg (by omega), if_neg (by omega), if_neg (by omega), if_neg (by omega), if_neg (by omega), if_pos h]
theorem lay15 {o : OpD} {p x : List Ten} (h : o.kind = 15) : lay o p x = turn (got x 0) o.s := by unfold lay; rw [if_neg (by omega), if_neg (by omega), if_neg (by omega), if_neg (by omega), if_neg (by omega), if_neg (by omega), if_neg (by omega), if_pos h]
theorem lay7 {o : OpD} {p x : List Ten} (h : o.kind ≤ 7) : lay o p x = point o.kind o.k x := by unfold lay; rw [if_neg (by omega), if_neg (by omega), if_neg (by omega), if_neg (by omega), if_neg (by omega), if_neg (by omega), if_neg (by omega), if_neg (by omega)]
theorem lay_none {o : OpD} {p x : List Ten} (hk : o.kind ≤ 15) (h : (lay o p x).2 ≠ 0) : (lay o p x).1 = none_ := by
  have hcases : o.kind ≤ 7 ∨ o.kind = 8 ∨ o.kind = 9 ∨ o.kind = 10 ∨ o.kind = 11 ∨ o.kind = 12 ∨ o.kind = 13 ∨ o.kind = 14 ∨ o.kind = 15 := by omega
  rcases hcases with hk1 | hk1 | hk1 | hk1 | hk1 | hk1 | hk1 | hk1 | hk1
  · rw [lay7 hk1] at h ⊢; exact point_none h
  · rw [lay8 hk1] at h ⊢; exact dense_none h
  · rw [lay9 hk1] at h ⊢; exact add_none h
  · rw [lay10 hk1] at h ⊢; exact conv_none h
  · rw [lay11 hk1] at h ⊢; exact pool_none h
  · rw [lay12 hk1] at h ⊢; exact pool_none h
  · rw [lay13 hk1] at h ⊢; exact join_none h
  · rw [lay14 hk1] at h ⊢; exact cut_none h
  · rw [lay15 hk1] at h ⊢; exact turn_none h
end Ly
/-- Both outcomes in one form. -/
def GoU (r : Ten × Int) (w : World) (e : Ending) (w' : World) : Prop :=
  ∃ S c C d, e = .returned (.tuple #[.agg #[.slice S r.1.s.length c, .slice C r.1.c.length d], .int .i64 r.2]) ∧
    (r.2 ≠ 0 → .agg #[.slice S r.1.s.length c, .slice C r.1.c.length d] = Value.agg #[.slice none 0 0, .slice none 0 0]) ∧ (r.2 = 0 → TenO w.heap.size w' (.agg #[.slice S r.1.s.length c, .slice C r.1.c.length d]) r.1) ∧ Below w.heap.size w w'
theorem GoP.u {r : Ten × Int} {w w' : World} {e : Ending} (h : GoP r w e w') (hn : r.2 ≠ 0 → r.1 = Ly.none_) : GoU r w e w' := by
  obtain ⟨h1 | ⟨h1, v, rfl, h3⟩, h2⟩ := h
  · obtain ⟨h1, rfl⟩ := h1
    have e1 := hn h1
    refine ⟨none, 0, none, 0, by rw [e1]; rfl, fun _ => by rw [e1]; rfl, fun h => absurd h h1, h2⟩
  · have h3' := h3
    obtain ⟨S, c, C, d, rfl, _, _, _⟩ := h3
    exact ⟨S, c, C, d, by rw [h1], fun h => absurd h1 h, fun _ => h3', h2⟩
theorem calls_goU {P : Program} {f : FuncId} {args : Array Value} {r : Ten × Int} {w : World} (h : Calls P f args w (GoP r w)) (hn : r.2 ≠ 0 → r.1 = Ly.none_) : Calls P f args w (GoU r w) := h.mono fun _ _ hq => hq.u hn
end Go.Proofs.Ytbnnpkcfifejmaa
/- Layer 5 (point): which ins agree, Go: contracts. -/
namespace Go.Proofs.Ytbnnpkcfifejmaa
open Go.RowKit
theorem second_lt {x : List Ten} (h : ¬ x.length < 2) (i : Nat) : Ly.second x i = Ly.at_ (Ly.got x 1).c i := by unfold Ly.second; rw [if_neg h]
theorem point_second (A : Option Addr) (c : Nat) (x : List Ten) (i : Nat) (w : World) (hl : x.length ≤ 1048576) (hT : Tns w A x) (hi : 2 ≤ x.length → i < (Ly.got x 1).c.length) :
    Calls Try.prog 63 #[.slice A x.length c, .int .i64 i] w fun e w' => e = .returned (.int .i64 (Ly.second x i)) ∧ w = w' := by
  by_cases h : x.length < 2
  · have E := Lib.hid (show (0 : Int) = Ly.second x i by unfold Ly.second; rw [if_pos h])
    go_enter Try.func63, Try.ntmps63
    go_wp2_with fail
    go_ret
    exact ⟨ret_int E.out, rfl⟩
  · obtain ⟨b, off, S, sc, C, d, rfl, hb, c0, c1, hten⟩ := hT.at_ (j := 1) (by omega)
    have hi := hi (by omega)
    have hl2 := hten.l2
    have hcd := hten.c1
    obtain ⟨b2, off2, rfl, -, hc⟩ := hten.cell hi
    have E := Lib.hid (second_lt h i).symm
    have k1 : (i : Int) < ((Ly.got x 1).c.length : Int) := by omega
    have k2 : (0 : Int) ≤ (i : Int) := by omega
    simp only [Nat.one_mul] at c0 c1
    generalize (Ly.got x 1).c.length = m at *
    generalize Ly.at_ (Ly.got x 1).c i = z at *
    clear hT hten
    go_enter Try.func63, Try.ntmps63
    go_wp2_with fail
    go_ret
    exact ⟨ret_int E.out, rfl⟩
namespace Ly
def okTo (x : List Ten) (t : Ten) : Bool := Tn.right t && decide (t.s = (got x 0).s)
theorem agree_op {kind : Int} {x : List Ten} (h : Od.ptIns kind = 0) : ptAgree kind x = 21 := by unfold ptAgree; rw [if_pos h]
theorem agree_len {kind : Int} {x : List Ten} (h : Od.ptIns kind ≠ 0) (h2 : (x.length : Int) ≠ Od.ptIns kind) : ptAgree kind x = 20 := by unfold ptAgree; rw [if_neg h, if_pos h2]
theorem agree_all {kind : Int} {x : List Ten} (h : Od.ptIns kind ≠ 0) (h2 : (x.length : Int) = Od.ptIns kind) : ptAgree kind x = if x.all (okTo x) then 0 else 20 := by unfold ptAgree okTo; rw [if_neg h, if_neg (fun k => k h2)]
theorem ptIns_cases (k : Int) : (Od.ptIns k = 0) ∨ (Od.ptIns k = 1 ∧ 1 ≤ k ∧ k ≤ 5) ∨ (Od.ptIns k = 2 ∧ 6 ≤ k ∧ k ≤ 7) := by
  unfold Od.ptIns
  split
  · right; left; omega
  · split
    · right; right; omega
    · left; rfl
theorem agree_yes {kind : Int} {x : List Ten} (h : ptAgree kind x = 0) : 1 ≤ kind ∧ kind ≤ 7 ∧ (x.length : Int) = Od.ptIns kind ∧ 1 ≤ x.length ∧ x.length ≤ 2 ∧ ∀ t ∈ x, okTo x t = true := by
  by_cases h1 : Od.ptIns kind = 0
  · rw [agree_op h1] at h; omega
  by_cases h2 : (x.length : Int) = Od.ptIns kind
  · rw [agree_all h1 h2] at h
    by_cases h3 : x.all (okTo x) = true
    · have h4 := ptIns_cases kind
      exact ⟨by omega, by omega, h2, by omega, by omega, List.all_eq_true.1 h3⟩
    · rw [if_neg h3] at h; omega
  · rw [agree_len h1 h2] at h; omega
theorem ok_right {x : List Ten} {t : Ten} (h : okTo x t = true) : Tn.right t = true ∧ t.s = (got x 0).s := by simpa [okTo] using h
end Ly
set_option maxHeartbeats 4000000 in
theorem point_agree (kind : Int) (A : Option Addr) (f : Nat) (x : List Ten) (w : World) (hl : x.length ≤ 1048576) (hT : Tns w A x) :
    Calls Try.prog 61 #[.int .i64 kind, .slice A x.length f] w fun e w' => e = .returned (.int .i64 (Ly.ptAgree kind x)) ∧ Below w.heap.size w w' := by
  by_cases h1 : Od.ptIns kind = 0
  · have E := Lib.hid (Ly.agree_op (x := x) h1).symm
    clear hT
    go_enter Try.func61, Try.ntmps61
    go_wp2_with fail
    refine (point_ins kind _).mono ?_
    rintro e w1 ⟨rfl, rfl⟩
    rw [h1]
    clear h1
    go_wp2_with fail
    go_ret
    exact ⟨ret_int E.out, Below.refl _ _⟩
  by_cases h2 : (x.length : Int) = Od.ptIns kind
  case neg =>
    have E := Lib.hid (Ly.agree_len h1 h2).symm
    have d1 : (Od.ptIns kind == 0) = false := by simpa using h1
    have d2 : ((x.length : Int) == Od.ptIns kind) = false := by simpa using h2
    have d3 : ((x.length : Int) != Od.ptIns kind) = true := by simpa using h2
    clear h1 h2 hT
    go_enter Try.func61, Try.ntmps61
    go_wp2_with fail
    refine (point_ins kind _).mono ?_
    rintro e w1 ⟨rfl, rfl⟩
    generalize Od.ptIns kind = n at *
    go_wp2_with fail
    go_ret
    exact ⟨ret_int E.out, Below.refl _ _⟩
  have HA := Lib.hid (Ly.agree_all h1 h2)
  have hpos : 1 ≤ x.length := by
    have := Ly.ptIns_cases kind
    omega
  obtain ⟨b, off, S0, sc0, C0, cd0, rfl, hb0, z0, z1, ht0⟩ := hT.first hpos
  have hT0 := ht0.r.1
  have hl0 := ht0.l1
  have H2 := Lib.hid h2
  have HT := Lib.hid hT
  have HT0 := Lib.hid hT0
  have Ht0 := Lib.hid ht0
  clear hT hT0 ht0
  clear h1 h2 z1
  have d1 : ((x.length : Int) == 0) = false := by have h3 : (x.length : Int) ≠ 0 := by omega
                                                  simpa using h3
  have k1 : (0 : Int) < (x.length : Int) := by omega
  have k2 : 0 < x.length := hpos
  go_enter Try.func61, Try.ntmps61
  go_wp2_with fail
  refine (point_ins kind _).mono ?_
  rintro e w1 ⟨rfl, rfl⟩
  rw [← H2.out]
  go_wp2_with fail
  generalize hs0 : (Ly.got x 0).s = s0 at *
  go_loopw [18] (fun i wx => ∃ k : Nat, k ≤ x.length ∧ i = .int .i64 (k : Int) ∧ (x.take k).all (Ly.okTo x) = true ∧ Later w wx) (fun i _ => x.length - (intOf i).toNat)
  case atStart => exact ⟨0, by omega, rfl, rfl, Later.refl _⟩
  case round =>
    obtain ⟨k, hk, rfl, hall, hlw⟩ := hrel
    by_cases hlt : k < x.length
    · obtain ⟨b', off', S, sc, C, cd, e, -, y0, y1, ht⟩ := (HT.out.later hlw).at_ hlt
      injection e with e; injection e with e1 e2; subst e1 e2
      have y2 : wr.cell? ⟨b, off, none⟩ = some (.slice S0 s0.length sc0) := hlw.cell z0
      have hx : Ly.got x k = x[k] := got_at hlt
      have hgo := take_all_succ (p := Ly.okTo x) hlt hall
      have hno := all_false_at (p := Ly.okTo x) hlt
      have hok : Ly.okTo x x[k] = (Tn.right (Ly.got x k) && ((Ly.got x k).s == s0)) := by rw [← hx]; unfold Ly.okTo; rw [hs0]; congr 1; rw [Bool.eq_iff_iff]; simp
      rw [hok] at hgo hno
      have hsk := ht.l1
      have hck := ht.l2
      have hTk := ht.r.1
      have h2 : Later wr (wr.alloc (.cells #[.slice S (Ly.got x k).s.length sc, .slice C (Ly.got x k).c.length cd] 30)) := (Later.refl wr).alloc _
      have hkx := Blk.new wr 30 #[.slice S (Ly.got x k).s.length sc, .slice C (Ly.got x k).c.length cd]
      have hl2 := hlw.trans h2
      have HS0 := Lib.hid hs0
      clear hx hs0 hok hall
      generalize Ly.got x k = t at *
      have H2' := Lib.hid h2
      clear h2
      have Hlw := Lib.hid hlw
      have Ht := Lib.hid ht
      have HTk := Lib.hid hTk
      have Hkx := Lib.hid hkx
      have Hl2 := Lib.hid hl2
      have Hgo := Lib.hid hgo
      have Hno := Lib.hid hno
      clear hlw ht hTk hkx hl2 hgo hno
      go_wp2_with fail
      clear y0 y1
      generalize wr.alloc (.cells #[.slice S t.s.length sc, .slice C t.c.length cd] 30) = w2 at *
      have x0 : w2.cell? ⟨wr.heap.size, 0, none⟩ = some (.slice S t.s.length sc) := by rw [Hkx.out.cell]; rfl
      have x1 : w2.cell? ⟨wr.heap.size, 1, none⟩ = some (.slice C t.c.length cd) := by rw [Hkx.out.cell]; rfl
      have x2 : w2.cell? ⟨b, off, none⟩ = some (.slice S0 s0.length sc0) := H2'.out.cell y2
      clear y2
      have hc1 := fun (V : World) (h : Later w2 V) => tensor_right S C sc cd t V (by omega) (by omega) (HTk.out.below (H2'.out.trans h) (Nat.le_refl _))
      cases hr : Tn.right t
      · rw [hr] at hc1
        have HN := Lib.hid (Hno.out (by rw [hr]; rfl))
        clear hr
        have Hc1 := Lib.hid hc1
        clear hc1
        first
          | (go_region_with ((go_at_call 41; (with_reducible refine (Hc1.out _ (show Later w2 _ by repeat (first | (with_reducible exact Later.refl _) | (with_reducible apply Later.drew) | (with_reducible apply Later.drewN) | (with_reducible apply Later.alloc) | (with_reducible refine Later.call ?_ (by assumption))))).mono ?_); rintro e wa ⟨rfl, hba⟩)))
          | skip
        all_goals
          have hle := Hl2.out.trans (show Later w2 wa by repeat (first | (with_reducible exact Later.refl _) | (with_reducible apply Later.drew) | (with_reducible apply Later.drewN) | (with_reducible apply Later.alloc) | (with_reducible refine Later.call ?_ (by assumption))))
          have Hle := Lib.hid hle
          clear hle
          go_wp2_with fail
          go_ret
          exact ⟨ret_int (by rw [HA.out, HN.out]; rfl), Hle.out⟩
      · have hc2 := fun (V : World) (h : Later w2 V) => shape_equal S S0 sc sc0 t.s s0 V (by omega) (by omega) (HTk.out.below (H2'.out.trans h) (Nat.le_refl _)) (HT0.out.below (Hl2.out.trans h) (Nat.le_refl _))
        rw [hr] at hc1
        cases he : (t.s == s0)
        · have HN := Lib.hid (Hno.out (by rw [hr, he]; rfl))
          rw [he] at hc2
          clear hr he
          have Hc1 := Lib.hid hc1
          have Hc2 := Lib.hid hc2
          clear hc1 hc2
          go_region_held3 (fun W => W.cell? ⟨wr.heap.size, 0, none⟩ = some (.slice S t.s.length sc) ∧ W.cell? ⟨wr.heap.size, 1, none⟩ = some (.slice C t.c.length cd) ∧ W.cell? ⟨b, off, none⟩ = some (.slice S0 s0.length sc0)) (first | (with_reducible exact ⟨x0, x1, x2⟩) | exact ⟨Later.cell (show Later w2 _ by repeat (first | (with_reducible exact Later.refl _) | (with_reducible apply Later.drew) | (with_reducible apply Later.drewN) | (with_reducible apply Later.alloc) | (with_reducible refine Later.call ?_ (by assumption)))) x0, Later.cell (show Later w2 _ by repeat (first | (with_reducible exact Later.refl _) | (with_reducible apply Later.drew) | (with_reducible apply Later.drewN) | (with_reducible apply Later.alloc) | (with_reducible refine Later.call ?_ (by assumption)))) x1, Later.cell (show Later w2 _ by repeat (first | (with_reducible exact Later.refl _) | (with_reducible apply Later.drew) | (with_reducible apply Later.drewN) | (with_reducible apply Later.alloc) | (with_reducible refine Later.call ?_ (by assumption)))) x2⟩)
            (first
              | (go_at_call 41; (with_reducible refine (Hc1.out _ (show Later w2 _ by repeat (first | (with_reducible exact Later.refl _) | (with_reducible apply Later.drew) | (with_reducible apply Later.drewN) | (with_reducible apply Later.alloc) | (with_reducible refine Later.call ?_ (by assumption))))).mono ?_); rintro e wa ⟨rfl, hba⟩)
              | (go_at_call 12; (with_reducible refine (Hc2.out _ (show Later w2 _ by repeat (first | (with_reducible exact Later.refl _) | (with_reducible apply Later.drew) | (with_reducible apply Later.drewN) | (with_reducible apply Later.alloc) | (with_reducible refine Later.call ?_ (by assumption))))).mono ?_); rintro e wd ⟨rfl, qd, rfl⟩))
          all_goals
            have hle := Hl2.out.trans (show Later w2 (wa.drewN qd) by repeat (first | (with_reducible exact Later.refl _) | (with_reducible apply Later.drew) | (with_reducible apply Later.drewN) | (with_reducible apply Later.alloc) | (with_reducible refine Later.call ?_ (by assumption))))
            have Hle := Lib.hid hle
            clear hle
            go_wp2_with fail
            go_ret
            exact ⟨ret_int (by rw [HA.out, HN.out]; rfl), Hle.out⟩
        · have HN := Lib.hid (Hgo.out (by rw [hr, he]; rfl))
          rw [he] at hc2
          clear hr he
          have Hc1 := Lib.hid hc1
          have Hc2 := Lib.hid hc2
          clear hc1 hc2
          go_region_held3 (fun W => W.cell? ⟨wr.heap.size, 0, none⟩ = some (.slice S t.s.length sc) ∧ W.cell? ⟨wr.heap.size, 1, none⟩ = some (.slice C t.c.length cd) ∧ W.cell? ⟨b, off, none⟩ = some (.slice S0 s0.length sc0)) (first | (with_reducible exact ⟨x0, x1, x2⟩) | exact ⟨Later.cell (show Later w2 _ by repeat (first | (with_reducible exact Later.refl _) | (with_reducible apply Later.drew) | (with_reducible apply Later.drewN) | (with_reducible apply Later.alloc) | (with_reducible refine Later.call ?_ (by assumption)))) x0, Later.cell (show Later w2 _ by repeat (first | (with_reducible exact Later.refl _) | (with_reducible apply Later.drew) | (with_reducible apply Later.drewN) | (with_reducible apply Later.alloc) | (with_reducible refine Later.call ?_ (by assumption)))) x1, Later.cell (show Later w2 _ by repeat (first | (with_reducible exact Later.refl _) | (with_reducible apply Later.drew) | (with_reducible apply Later.drewN) | (with_reducible apply Later.alloc) | (with_reducible refine Later.call ?_ (by assumption)))) x2⟩)
            (first
              | (go_at_call 41; (with_reducible refine (Hc1.out _ (show Later w2 _ by repeat (first | (with_reducible exact Later.refl _) | (with_reducible apply Later.drew) | (with_reducible apply Later.drewN) | (with_reducible apply Later.alloc) | (with_reducible refine Later.call ?_ (by assumption))))).mono ?_); rintro e wa ⟨rfl, hba⟩)
              | (go_at_call 12; (with_reducible refine (Hc2.out _ (show Later w2 _ by repeat (first | (with_reducible exact Later.refl _) | (with_reducible apply Later.drew) | (with_reducible apply Later.drewN) | (with_reducible apply Later.alloc) | (with_reducible refine Later.call ?_ (by assumption))))).mono ?_); rintro e wd ⟨rfl, qd, rfl⟩))
          all_goals
            have hle := Hl2.out.trans (show Later w2 (wa.drewN qd) by repeat (first | (with_reducible exact Later.refl _) | (with_reducible apply Later.drew) | (with_reducible apply Later.drewN) | (with_reducible apply Later.alloc) | (with_reducible refine Later.call ?_ (by assumption))))
            have Hle := Lib.hid hle
            clear hle
            go_wp2_with fail
            go_roundw
            case rel => exact ⟨k + 1, by omega, by go_num, HN.out, Hle.out⟩
            case measure => simp [intOf]; omega
    · obtain rfl : k = x.length := by omega
      rw [List.take_length] at hall
      have Hall := Lib.hid hall
      have Hlw := Lib.hid hlw
      clear hall hlw
      go_wp2_with fail
      go_ret
      exact ⟨ret_int (by rw [HA.out, if_pos Hall.out]), Hlw.out⟩
end Go.Proofs.Ytbnnpkcfifejmaa

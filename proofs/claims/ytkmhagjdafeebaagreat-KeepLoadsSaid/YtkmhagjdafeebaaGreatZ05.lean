/- Lemmas for the statements of this seat: contracts of functions and the plain laws. -/
import Derived.BigQuiet
import Derived.ChangeKeysEq
import Derived.ChangeSame
import Derived.Deep.CutBlock
import Derived.Deep.DeepCutAuto
import Derived.Deep.Fields
import Derived.Deep.RegionHeld3
import Derived.Deep.Slices
import Derived.Lib.BitFns
import Derived.OpenShut
import Derived.ProofKit
import Derived.WalkKit
import Derived.Test.YtkmhagjdafeebaaGreatZ04
set_option linter.unusedVariables false
/- Layer 1 (fix): the product: contract. -/
namespace Go.Proofs.YtkmhagjdafeebaaGreat
open Go.RowKit
theorem natAbs_le {x : Int} (h : Fx.In x) : x.natAbs ≤ 9223372036854775808 := by unfold Fx.In at h; omega
theorem natAbs_lt {x : Int} (h : Fx.In x) : x.natAbs < 18446744073709551616 := Nat.lt_of_le_of_lt (natAbs_le h) (by decide)
theorem prod_le126 {x y : Int} (hx : Fx.In x) (hy : Fx.In y) : x.natAbs * y.natAbs ≤ 85070591730234615865843651857942052864 := Nat.mul_le_mul (natAbs_le hx) (natAbs_le hy)
theorem u64_join (p : Nat) (hp : p < 39614081257132168796771975168) : bits .or .u64 (((p / 18446744073709551616 : Nat) : Int) * 4294967296) (((p % 18446744073709551616 : Nat) : Int) / 4294967296) = ((p / 4294967296 : Nat) : Int) := by
  have e1 : (((p / 18446744073709551616 : Nat) : Int) * 4294967296) = ((p / 18446744073709551616 * 4294967296 : Nat) : Int) := by omega
  have e2 : (((p % 18446744073709551616 : Nat) : Int) / 4294967296) = ((p % 18446744073709551616 / 4294967296 : Nat) : Int) := by omega
  rw [e1, e2, bits_or_u64_nat _ _ (by omega) (by omega), or_mul _ _ 32 4294967296 (by decide) (by omega)]
  omega
theorem u64_mask (p : Nat) : bits .and .u64 ((p % 18446744073709551616 : Nat) : Int) 4294967295 = ((p % 4294967296 : Nat) : Int) := by
  have h := bits_and_u64_nat (p % 18446744073709551616) 4294967295 (by omega) (by omega)
  have e : p % 18446744073709551616 &&& 4294967295 = p % 18446744073709551616 % 4294967296 := Nat.and_two_pow_sub_one_eq_mod _ 32
  rw [e] at h
  refine h.trans ?_
  omega
theorem u64_odd (q : Nat) (hq : q < 18446744073709551616) : bits .and .u64 (q : Int) 1 = ((q % 2 : Nat) : Int) := by
  have h := bits_and_u64_nat q 1 hq (by omega)
  rw [Nat.and_one_is_mod] at h
  exact h
end Go.Proofs.YtkmhagjdafeebaaGreat
/- A long division by digits of 32 bits (math/bits.Div64), as plain arithmetic. No program is named here. -/
namespace Go.Proofs.YtkmhagjdafeebaaGreat
namespace Kd
/-- May a digit's guess go down? -/
def more (q r b v : Nat) : Bool := decide (4294967296 ≤ q) || decide (4294967296 * r + v < q * b)
section
variable {u v y a b q r : Nat}
theorem digit_lt (hv : v < 4294967296) (hu : u < y) : (u * 4294967296 + v) / y < 4294967296 := by
  rw [Nat.div_lt_iff_lt_mul (by omega)]
  have : (u + 1) * 4294967296 ≤ y * 4294967296 := Nat.mul_le_mul_right _ hu
  rw [Nat.mul_comm 4294967296 y]
  omega
theorem prod_eq (hy : y = a * 4294967296 + b) : q * y = q * a * 4294967296 + q * b := by rw [hy, Nat.mul_add, Nat.mul_assoc]
theorem step (hy : y = a * 4294967296 + b) (hv : v < 4294967296) (hu : u < y) (hq : u = q * a + r) (h : more q r b v = true) : (u * 4294967296 + v) / y < q := by
  simp only [more, Bool.or_eq_true, decide_eq_true_eq] at h
  by_cases h1 : 4294967296 ≤ q
  · exact Nat.lt_of_lt_of_le (digit_lt hv hu) h1
  · rw [Nat.div_lt_iff_lt_mul (by omega), prod_eq hy]
    omega
theorem stop (hy : y = a * 4294967296 + b) (hq : u = q * a + r) (hy0 : 0 < y) (h : more q r b v = false) : q ≤ (u * 4294967296 + v) / y := by
  simp only [more, Bool.or_eq_false_iff, decide_eq_false_iff_not] at h
  rw [Nat.le_div_iff_mul_le hy0, prod_eq hy]
  omega
theorem stop_brk (hy : y = a * 4294967296 + b) (hq : u = q * a + r) (hy0 : 0 < y) (hb : b < 4294967296) (hq1 : q ≤ 4294967296) (hr : 4294967296 ≤ r) : q ≤ (u * 4294967296 + v) / y := by
  rw [Nat.le_div_iff_mul_le hy0, prod_eq hy]
  have h1 : q * b ≤ 4294967296 * b := Nat.mul_le_mul_right _ hq1
  omega
theorem first (ha : 2147483648 ≤ a) (hy : y = a * 4294967296 + b) (hb : b < 4294967296) (hu : u < y) : u / a ≤ 4294967297 := by
  have : u / a < 4294967298 := by
    rw [Nat.div_lt_iff_lt_mul (by omega)]
    omega
  omega
/-- One round keeps this. -/
structure Inv (u v y a b q r : Nat) : Prop where
  eq : u = q * a + r
  ge : (u * 4294967296 + v) / y ≤ q
  le : q ≤ 4294967297
theorem Inv.start (ha : 2147483648 ≤ a) (hy : y = a * 4294967296 + b) (hb : b < 4294967296) (hv : v < 4294967296) (hu : u < y) : Inv u v y a b (u / a) (u - u / a * a) := by
  have h0 := Nat.div_mul_le_self u a
  refine ⟨by omega, ?_, first ha hy hb hu⟩
  rw [← Nat.lt_add_one_iff, Nat.div_lt_iff_lt_mul (by omega)]
  have h2 : u < (u / a + 1) * a := by rw [← Nat.div_lt_iff_lt_mul (by omega)]; omega
  have h3 : (u / a + 1) * y = (u / a + 1) * a * 4294967296 + (u / a + 1) * b := prod_eq hy
  rw [h3]
  generalize (u / a + 1) * a = t at *
  generalize (u / a + 1) * b = t2 at *
  omega
theorem Inv.next (h : Inv u v y a b q r) (hy : y = a * 4294967296 + b) (hv : v < 4294967296) (hu : u < y) (hm : more q r b v = true) : 1 ≤ q ∧ q - 1 ≤ 4294967296 ∧ Inv u v y a b (q - 1) (r + a) := by
  have h1 := step hy hv hu h.eq hm
  have h2 := h.le
  have h5 : (u * 4294967296 + v) / y ≤ q - 1 := by
    generalize (u * 4294967296 + v) / y = d at h1
    omega
  have h6 : 1 ≤ q := Nat.lt_of_le_of_lt (Nat.zero_le _) h1
  clear h1
  have h3 : q * a = (q - 1) * a + a := by
    obtain ⟨n, rfl⟩ : ∃ n, q = n + 1 := ⟨q - 1, by omega⟩
    rw [Nat.add_sub_cancel, Nat.succ_mul]
  have h4 := h.eq
  exact ⟨h6, by omega, ⟨by omega, h5, by omega⟩⟩
theorem Inv.done (h : Inv u v y a b q r) (hy : y = a * 4294967296 + b) (hy0 : 0 < y) (hm : more q r b v = false) : q = (u * 4294967296 + v) / y :=
  Nat.le_antisymm (stop hy h.eq hy0 hm) h.ge
theorem Inv.brk (h : Inv u v y a b q r) (hy : y = a * 4294967296 + b) (hy0 : 0 < y) (hb : b < 4294967296) (hq : q ≤ 4294967296) (hr : 4294967296 ≤ r) : q = (u * 4294967296 + v) / y :=
  Nat.le_antisymm (stop_brk hy h.eq hy0 hb hq hr) h.ge
end
theorem two0 {u v1 v0 y q1 r1 : Nat} (hy : 0 < y) (h1 : y * q1 + r1 = u * 4294967296 + v1) :
    (u * 18446744073709551616 + v1 * 4294967296 + v0) / y = q1 * 4294967296 + (r1 * 4294967296 + v0) / y ∧ (u * 18446744073709551616 + v1 * 4294967296 + v0) % y = (r1 * 4294967296 + v0) % y := by
  have e : u * 18446744073709551616 + v1 * 4294967296 + v0 = y * (q1 * 4294967296) + (r1 * 4294967296 + v0) := by
    rw [← Nat.mul_assoc]
    omega
  rw [e, Nat.mul_add_div hy, Nat.mul_add_mod]
  exact And.intro rfl rfl
/-- Two digits are the quotient. -/
theorem two {u v1 v0 y : Nat} (hy : 0 < y) :
    (u * 18446744073709551616 + v1 * 4294967296 + v0) / y = (u * 4294967296 + v1) / y * 4294967296 + ((u * 4294967296 + v1) % y * 4294967296 + v0) / y ∧
    (u * 18446744073709551616 + v1 * 4294967296 + v0) % y = ((u * 4294967296 + v1) % y * 4294967296 + v0) % y :=
  two0 hy (Nat.div_add_mod (u * 4294967296 + v1) y)
/-- Both shifted. -/
theorem shifted (n y s : Nat) : n * 2 ^ s / (y * 2 ^ s) = n / y ∧ n * 2 ^ s % (y * 2 ^ s) / 2 ^ s = n % y := by
  have hp : 0 < 2 ^ s := Nat.two_pow_pos s
  refine ⟨Nat.mul_div_mul_right _ _ hp, ?_⟩
  rw [Nat.mul_mod_mul_right, Nat.mul_div_cancel _ hp]
/-- What the shift leaves of two words. -/
theorem words {hi lo s : Nat} (hs : s < 64) (hlo : lo < 18446744073709551616) :
    (hi * 18446744073709551616 + lo) * 2 ^ s = (hi * 2 ^ s + lo / 2 ^ (64 - s)) * 18446744073709551616 + lo * 2 ^ s % 18446744073709551616 := by
  have e : (18446744073709551616 : Nat) = 2 ^ (64 - s) * 2 ^ s := by rw [← Nat.pow_add, show 64 - s + s = 64 by omega]
  have hp : 0 < 2 ^ s := Nat.two_pow_pos s
  have h1 : lo * 2 ^ s / 18446744073709551616 = lo / 2 ^ (64 - s) := by rw [e, Nat.mul_div_mul_right _ _ hp]
  have h2 := Nat.div_add_mod (lo * 2 ^ s) 18446744073709551616
  rw [h1] at h2
  rw [Nat.add_mul, Nat.mul_right_comm]
  generalize hi * 2 ^ s = x at *
  generalize lo / 2 ^ (64 - s) = z at *
  omega
theorem low_lt {lo s : Nat} (hs : s < 64) (hlo : lo < 18446744073709551616) : lo / 2 ^ (64 - s) < 2 ^ s := by
  rw [Nat.div_lt_iff_lt_mul (Nat.two_pow_pos _), ← Nat.pow_add, show s + (64 - s) = 64 by omega]
  exact hlo
theorem high_lt {hi lo y s : Nat} (hs : s < 64) (hlo : lo < 18446744073709551616) (h : hi < y) : hi * 2 ^ s + lo / 2 ^ (64 - s) < y * 2 ^ s := by
  have h1 := low_lt hs hlo
  have h2 : (hi + 1) * 2 ^ s ≤ y * 2 ^ s := Nat.mul_le_mul_right _ h
  rw [Nat.succ_mul] at h2
  omega
end Kd
end Go.Proofs.YtkmhagjdafeebaaGreat
/- math/bits.Div64, and layer 1's quotient: contracts. -/
namespace Go.Proofs.YtkmhagjdafeebaaGreat
open Go.RowKit
/-- What is known of the shifted words. -/
structure Norm (hi lo y : Int) (s : Nat) (Y A B U V1 V0 : Int) : Prop where
  y0 : 0 ≤ Y
  y1 : Y ≤ 18446744073709551615
  a0 : 2147483648 ≤ A
  a1 : A ≤ 4294967295
  b0 : 0 ≤ B
  b1 : B ≤ 4294967295
  yab : Y = A * 4294967296 + B
  u0 : 0 ≤ U
  u1 : U < Y
  v0 : 0 ≤ V1
  v1 : V1 ≤ 4294967295
  w0 : 0 ≤ V0
  w1 : V0 ≤ 4294967295
  num : (hi.toNat * 18446744073709551616 + lo.toNat) * 2 ^ s = U.toNat * 18446744073709551616 + V1.toNat * 4294967296 + V0.toNat
  den : Y.toNat = y.toNat * 2 ^ s
theorem lenAux_spec : ∀ (f x : Nat), x < 2 ^ f → x < 2 ^ Lib.bitLenAux f x ∧ (x ≠ 0 → 1 ≤ Lib.bitLenAux f x ∧ 2 ^ (Lib.bitLenAux f x - 1) ≤ x)
  | 0, x, h => by simp at h; subst h; simp [Lib.bitLenAux]
  | f + 1, x, h => by
    unfold Lib.bitLenAux
    by_cases h0 : x = 0
    · subst h0; simp
    · rw [if_neg h0]
      have h2 : x / 2 < 2 ^ f := by rw [Nat.pow_succ] at h; omega
      obtain ⟨a, b⟩ := lenAux_spec f (x / 2) h2
      rw [Nat.add_comm, Nat.add_sub_cancel]
      refine ⟨by rw [Nat.pow_succ]; omega, fun _ => ⟨by omega, ?_⟩⟩
      by_cases h1 : x / 2 = 0
      · rw [h1] at a
        have : Lib.bitLenAux f 0 = 0 := by cases f <;> simp [Lib.bitLenAux]
        rw [h1, this]; simp; omega
      · obtain ⟨b1, b2⟩ := b h1
        obtain ⟨m, hm⟩ : ∃ m, Lib.bitLenAux f (x / 2) = m + 1 := ⟨_, (Nat.sub_add_cancel b1).symm⟩
        rw [hm, Nat.add_sub_cancel] at b2
        rw [hm, Nat.pow_succ]; omega
theorem bitLen_shift_bounds {y : Nat} (h0 : 1 ≤ y) (h1 : y ≤ 18446744073709551615) : Lib.bitLen y ≤ 64 ∧ 1 ≤ Lib.bitLen y ∧ 9223372036854775808 ≤ y * 2 ^ (64 - Lib.bitLen y) ∧ y * 2 ^ (64 - Lib.bitLen y) ≤ 18446744073709551615 := by
  obtain ⟨a, b⟩ := lenAux_spec 64 y (by omega)
  have b := (b (by omega)).2
  change y < 2 ^ Lib.bitLen y at a
  change 2 ^ (Lib.bitLen y - 1) ≤ y at b
  have h2 : Lib.bitLen y ≤ 64 := by
    rcases Nat.lt_or_ge 64 (Lib.bitLen y) with h | h
    · have : 2 ^ 64 ≤ 2 ^ (Lib.bitLen y - 1) := Nat.pow_le_pow_right (by omega) (by omega)
      omega
    · exact h
  have h3 : 1 ≤ Lib.bitLen y := by
    rcases Nat.eq_zero_or_pos (Lib.bitLen y) with h | h
    · rw [h] at a; simp at a; omega
    · exact h
  generalize Lib.bitLen y = m at *
  have e1 : 2 ^ (m - 1) * 2 ^ (64 - m) = 9223372036854775808 := by rw [← Nat.pow_add, show m - 1 + (64 - m) = 63 by omega]
  have e2 : 2 ^ m * 2 ^ (64 - m) = 18446744073709551616 := by rw [← Nat.pow_add, show m + (64 - m) = 64 by omega]
  have c1 : 2 ^ (m - 1) * 2 ^ (64 - m) ≤ y * 2 ^ (64 - m) := Nat.mul_le_mul_right _ b
  have c2 : y * 2 ^ (64 - m) < 2 ^ m * 2 ^ (64 - m) := Nat.mul_lt_mul_of_pos_right a (Nat.two_pow_pos _)
  rw [e1] at c1
  rw [e2] at c2
  exact ⟨h2, h3, c1, by omega⟩
theorem u64_wrapN (a : Nat) : IntKind.u64.wrap (a : Int) = ((a % 18446744073709551616 : Nat) : Int) := by rw [IntKind.wrap_u64]; omega
theorem u64_maskN (a : Nat) (ha : a < 18446744073709551616) : bits .and .u64 (a : Int) 4294967295 = ((a % 4294967296 : Nat) : Int) := by
  have h := u64_mask a
  rw [Nat.mod_eq_of_lt ha] at h
  exact h
theorem pow_cast (n : Nat) : (2 : Int) ^ n = ((2 ^ n : Nat) : Int) := by simp
theorem norm_end {h l d k : Nat} {A B U V1 V0 : Int} {yy uu ll : Nat} (w2 : uu < yy) (w3 : (h * 18446744073709551616 + l) * 2 ^ k = uu * 18446744073709551616 + ll) (hl : ll < 18446744073709551616) (m2 : 9223372036854775808 ≤ yy) (m3 : yy ≤ 18446744073709551615)
    (hA : (yy : Int) / 4294967296 = A) (hB : ((yy % 4294967296 : Nat) : Int) = B) (hU : ((uu : Nat) : Int) = U) (hV1 : (ll : Int) / 4294967296 = V1) (hV0 : ((ll % 4294967296 : Nat) : Int) = V0) (hd : yy = d * 2 ^ k) :
    Norm h l d k yy A B U V1 V0 := by
  subst hA hB hU hV1 hV0
  refine ⟨by omega, by omega, by omega, by omega, by omega, by omega, by omega, by omega, by omega, by omega, by omega, by omega, by omega, ?_, ?_⟩
  · simp only [Int.toNat_natCast]
    rw [w3]
    omega
  · simpa using hd
theorem norm (hi lo y s : Int) (Y A B U L V1 V0 : Int) (h0 : 0 ≤ hi) (h1 : hi < y) (h2 : y ≤ 18446744073709551615) (l0 : 0 ≤ lo) (l1 : lo ≤ 18446744073709551615) (hs : s = 64 - (Lib.bitLen y.toNat : Int))
    (hY : IntKind.u64.wrap (y * 2 ^ s.toNat) = Y) (hA : Y / 4294967296 = A) (hB : bits .and .u64 Y 4294967295 = B)
    (hU : bits .or .u64 (IntKind.u64.wrap (hi * 2 ^ s.toNat)) (lo / 2 ^ (64 - s).toNat) = U) (hL : IntKind.u64.wrap (lo * 2 ^ s.toNat) = L) (hV1 : L / 4294967296 = V1) (hV0 : bits .and .u64 L 4294967295 = V0) :
    Norm hi lo y s.toNat Y A B U V1 V0 := by
  obtain ⟨h, rfl⟩ := Int.eq_ofNat_of_zero_le h0
  obtain ⟨l, rfl⟩ := Int.eq_ofNat_of_zero_le l0
  obtain ⟨d, rfl⟩ := Int.eq_ofNat_of_zero_le (show 0 ≤ y by omega)
  obtain ⟨m0, m1, m2, m3⟩ := bitLen_shift_bounds (y := d) (by omega) (by omega)
  rw [Int.toNat_natCast] at hs
  obtain ⟨k, hk⟩ : ∃ k, k = 64 - Lib.bitLen d := ⟨_, rfl⟩
  have hk1 : s.toNat = k := by omega
  have hk2 : (64 - s).toNat = 64 - k := by omega
  have hk3 : k < 64 := by omega
  rw [← hk] at m2 m3
  rw [hk1] at hY hU hL
  rw [hk2] at hU
  rw [hk1]
  clear hs hk hk1 hk2 m0 m1
  have hlt : l < 18446744073709551616 := by omega
  have hhd : h < d := by omega
  have w1 := Kd.low_lt (lo := l) hk3 hlt
  have w2 := Kd.high_lt (hi := h) (lo := l) (y := d) hk3 hlt hhd
  have w3 := Kd.words (hi := h) hk3 hlt
  simp only [pow_cast, ← Int.natCast_mul, ← Int.natCast_ediv] at hY hU hL
  rw [u64_wrapN] at hY hU hL
  have hh : h * 2 ^ k < 18446744073709551616 := by
    generalize l / 2 ^ (64 - k) = z at w2
    generalize h * 2 ^ k = z2 at *
    generalize d * 2 ^ k = z3 at *
    omega
  rw [Nat.mod_eq_of_lt (by omega)] at hY
  rw [Nat.mod_eq_of_lt hh, bits_or_u64_nat _ _ hh (by omega), or_mul _ _ k (2 ^ k) rfl w1] at hU
  subst hY hL
  rw [u64_maskN _ (by omega)] at hB hV0
  exact norm_end w2 w3 (Nat.mod_lt _ (by decide)) m2 m3 hA hB hU hV1 hV0 rfl
/-- A digit's guess. -/
def DRel (U V Y A B : Int) (q r : Int) : Prop := 0 ≤ q ∧ q ≤ 4294967297 ∧ 0 ≤ r ∧ r ≤ 4294967295 ∧ Kd.Inv U.toNat V.toNat Y.toNat A.toNat B.toNat q.toNat r.toNat
/-- What a digit asks of its numbers. -/
structure DOk (U V Y A B : Int) : Prop where
  y0 : 0 ≤ Y
  a0 : 2147483648 ≤ A
  a1 : A ≤ 4294967295
  b0 : 0 ≤ B
  b1 : B ≤ 4294967295
  yab : Y.toNat = A.toNat * 4294967296 + B.toNat
  u0 : 0 ≤ U
  u1 : U < Y
  v0 : 0 ≤ V
  v1 : V ≤ 4294967295
/-- The digit. -/
def digit (U V Y : Int) : Int := (((U.toNat * 4294967296 + V.toNat) / Y.toNat : Nat) : Int)
def drest (U V Y : Int) : Int := (((U.toNat * 4294967296 + V.toNat) % Y.toNat : Nat) : Int)
section
variable {U V Y A B q r : Int}
theorem digit_start (h : DOk U V Y A B) : 0 ≤ U / A * A ∧ U / A * A ≤ U ∧ 0 ≤ U / A ∧ U / A ≤ 4294967297 ∧ DRel U V Y A B (U / A) (U - U / A * A) := by
  obtain ⟨y0, a0, a1, b0, b1, yab, u0, u1, v0, v1⟩ := h
  obtain ⟨u, rfl⟩ := Int.eq_ofNat_of_zero_le u0
  obtain ⟨a, rfl⟩ := Int.eq_ofNat_of_zero_le (show 0 ≤ A by omega)
  have e : (u : Int) / (a : Int) = ((u / a : Nat) : Int) := by simp
  have e2 : ((u / a : Nat) : Int) * (a : Int) = ((u / a * a : Nat) : Int) := by simp
  have h0 := Nat.div_mul_le_self u a
  have hi := Kd.Inv.start (u := u) (v := V.toNat) (y := Y.toNat) (a := a) (b := B.toNat) (by omega) (by simpa using yab) (by omega) (by omega) (by omega)
  have h1 := hi.le
  have h2 := Nat.mod_lt u (show 0 < a by omega)
  have h3 := Nat.div_add_mod u a
  rw [Nat.mul_comm] at h3
  rw [e, e2]
  unfold DRel
  have e3 : ((u : Int) - ((u / a * a : Nat) : Int)).toNat = u - u / a * a := by omega
  rw [e3]
  simp only [Int.toNat_natCast]
  generalize u / a * a = x at *
  generalize u / a = z at *
  exact ⟨by omega, by omega, by omega, by omega, by omega, by omega, by omega, by omega, hi⟩
theorem digit_prod (hq : 0 ≤ q) (hq1 : q ≤ 4294967295) (hB : 0 ≤ B) (hB1 : B ≤ 4294967295) : 0 ≤ q * B ∧ q * B ≤ 18446744065119617025 := by
  refine ⟨Int.mul_nonneg hq hB, ?_⟩
  have := Int.mul_le_mul hq1 hB1 hB (by omega)
  omega
theorem more_of (hr0 : 0 ≤ r) (hq0 : 0 ≤ q) (hv0 : 0 ≤ V) (hB : 0 ≤ B) : Kd.more q.toNat r.toNat B.toNat V.toNat = (decide (4294967296 ≤ q) || decide (4294967296 * r + V < q * B)) := by
  obtain ⟨q, rfl⟩ := Int.eq_ofNat_of_zero_le hq0
  obtain ⟨r, rfl⟩ := Int.eq_ofNat_of_zero_le hr0
  obtain ⟨V, rfl⟩ := Int.eq_ofNat_of_zero_le hv0
  obtain ⟨B, rfl⟩ := Int.eq_ofNat_of_zero_le hB
  have e2 : (q : Int) * (B : Int) = ((q * B : Nat) : Int) := by simp
  unfold Kd.more
  rw [e2]
  simp only [Int.toNat_natCast]
  rw [Bool.eq_iff_iff]
  simp only [Bool.or_eq_true, decide_eq_true_eq]
  omega
theorem digit_next (h : DOk U V Y A B) (hd : DRel U V Y A B q r) (hm : (decide (4294967296 ≤ q) || decide (4294967296 * r + V < q * B)) = true) :
    1 ≤ q ∧ (r + A < 4294967296 → DRel U V Y A B (q - 1) (r + A)) ∧ (4294967296 ≤ r + A → q - 1 = digit U V Y) := by
  obtain ⟨y0, a0, a1, b0, b1, yab, u0, u1, v0, v1⟩ := h
  obtain ⟨d0, d1, d2, d3, d4⟩ := hd
  rw [← more_of d2 d0 v0 b0] at hm
  obtain ⟨k1, k2, k3⟩ := d4.next yab (by omega) (by omega) hm
  have e1 : (q - 1).toNat = q.toNat - 1 := by omega
  have e2 : (r + A).toNat = r.toNat + A.toNat := by omega
  refine ⟨by omega, fun hr => ⟨by omega, by omega, by omega, by omega, by rw [e1, e2]; exact k3⟩, fun hr => ?_⟩
  have := k3.brk yab (by omega) (by omega) (by omega) (by omega)
  unfold digit
  omega
theorem digit_done (h : DOk U V Y A B) (hd : DRel U V Y A B q r) (hm : (decide (4294967296 ≤ q) || decide (4294967296 * r + V < q * B)) = false) : q = digit U V Y := by
  obtain ⟨y0, a0, a1, b0, b1, yab, u0, u1, v0, v1⟩ := h
  obtain ⟨d0, d1, d2, d3, d4⟩ := hd
  rw [← more_of d2 d0 v0 b0] at hm
  have := d4.done yab (by omega) hm
  unfold digit
  omega
theorem digit_bd (h : DOk U V Y A B) : 0 ≤ digit U V Y ∧ digit U V Y ≤ 4294967295 ∧ 0 ≤ drest U V Y ∧ drest U V Y < Y := by
  obtain ⟨y0, a0, a1, b0, b1, yab, u0, u1, v0, v1⟩ := h
  have h1 := Kd.digit_lt (u := U.toNat) (v := V.toNat) (y := Y.toNat) (by omega) (by omega)
  have h2 := Nat.mod_lt (U.toNat * 4294967296 + V.toNat) (show 0 < Y.toNat by omega)
  unfold digit drest
  generalize (U.toNat * 4294967296 + V.toNat) / Y.toNat = x at *
  generalize (U.toNat * 4294967296 + V.toNat) % Y.toNat = z at *
  omega
/-- What is left behind a digit, as the words reckon it. -/
theorem digit_rest (h : DOk U V Y A B) : IntKind.u64.wrap (IntKind.u64.wrap (IntKind.u64.wrap (U * 4294967296) + V) - IntKind.u64.wrap (digit U V Y * Y)) = drest U V Y := by
  have hb := digit_bd h
  obtain ⟨y0, a0, a1, b0, b1, yab, u0, u1, v0, v1⟩ := h
  have h1 := Nat.div_add_mod (U.toNat * 4294967296 + V.toNat) Y.toNat
  have e : digit U V Y * Y = ((Y.toNat * ((U.toNat * 4294967296 + V.toNat) / Y.toNat) : Nat) : Int) := by
    unfold digit
    rw [Int.natCast_mul, Int.mul_comm, Int.toNat_of_nonneg y0]
  rw [e]
  unfold drest at *
  generalize (U.toNat * 4294967296 + V.toNat) % Y.toNat = z at *
  generalize Y.toNat * ((U.toNat * 4294967296 + V.toNat) / Y.toNat) = x at *
  simp only [IntKind.wrap_u64]
  omega
end
theorem nat_two {m q1 q0 : Nat} (h : m = q1 * 4294967296 + q0) : (q1 : Int) * 4294967296 + (q0 : Int) = (m : Int) := by omega
theorem nat_shr {m r s : Nat} (h : r / 2 ^ s = m) : (r : Int) / 2 ^ s = (m : Int) := by rw [← h, pow_cast]; exact (Int.natCast_ediv _ _).symm
theorem div_nat {n y s Y u v1 v0 : Nat} (h1 : n * 2 ^ s = u * 18446744073709551616 + v1 * 4294967296 + v0) (h2 : Y = y * 2 ^ s) (hY : 0 < Y) :
    n / y = (u * 4294967296 + v1) / Y * 4294967296 + ((u * 4294967296 + v1) % Y * 4294967296 + v0) / Y ∧ ((u * 4294967296 + v1) % Y * 4294967296 + v0) % Y / 2 ^ s = n % y := by
  obtain ⟨a, b⟩ := Kd.shifted n y s
  obtain ⟨c, d⟩ := Kd.two (u := u) (v1 := v1) (v0 := v0) hY
  rw [← h1] at c d
  rw [← h2] at a b
  exact ⟨a.symm.trans c, by rw [← d]; exact b⟩
theorem div_end {hi lo y : Int} {s : Nat} {Y A B U V1 V0 : Int} (n : Norm hi lo y s Y A B U V1 V0) :
    digit U V1 Y * 4294967296 + digit (drest U V1 Y) V0 Y = (((hi.toNat * 18446744073709551616 + lo.toNat) / y.toNat : Nat) : Int) ∧ drest (drest U V1 Y) V0 Y / 2 ^ s = (((hi.toNat * 18446744073709551616 + lo.toNat) % y.toNat : Nat) : Int) := by
  have hY : 0 < Y.toNat := by have := n.u0; have := n.u1; omega
  obtain ⟨a, b⟩ := div_nat n.num n.den hY
  have e : (drest U V1 Y).toNat = (U.toNat * 4294967296 + V1.toNat) % Y.toNat := Int.toNat_natCast _
  rw [← e] at a b
  exact ⟨nat_two a, nat_shr b⟩
end Go.Proofs.YtkmhagjdafeebaaGreat
/- Layer 1 (fix): the quotient, sums and bounds: contracts. -/
namespace Go.Proofs.YtkmhagjdafeebaaGreat
open Go.RowKit
theorem quo_words {p : Nat} : p / 4294967296 * 18446744073709551616 + p * 4294967296 % 18446744073709551616 = p * 4294967296 := by omega
theorem div_over {a b : Nat} (hb : 1 ≤ b) (h : b ≤ a / 4294967296) : 9223372036854775808 ≤ Fx.rnd (a * 4294967296) b := by
  have h1 : 9223372036854775808 ≤ a * 4294967296 / b := by
    rw [Nat.le_div_iff_mul_le (by omega)]
    omega
  unfold Fx.rnd
  split <;> omega
theorem rnd_ge {p b : Nat} (h : 9223372036854775808 ≤ p / b) : 9223372036854775808 ≤ Fx.rnd p b := by
  unfold Fx.rnd
  split <;> omega
end Go.Proofs.YtkmhagjdafeebaaGreat
/- Arguments that came in, opened: slices of structs. After the guide's own lemma on slices of structs. No program is named here. -/
namespace Go.Proofs.YtkmhagjdafeebaaGreat
open Go.ChangeShapes Go.WideShapes Go.Deep Go.RowKit
section
variable {H : Type} {enc : TypeId × Value → H} {P : Program} {w : World} {base : Nat} {spare : Nat → Bool} {held : Bool}
theorem open_slice_fields {t e : TypeId} {fs : Array Field} {fuel : Nat} {cs : List Value} {x : DataW H × List MemPlace} (ht : P.underlying t = some (.slice e)) (he : P.underlying e = some (.struct fs))
    (hone : oneCellFields P fs = true) (hC : P.cellsOf e = fs.size) (h : DataW.trod enc P w base spare held fuel t cs = some x) :
    (cs = [.slice none 0 0] ∧ x = (.nil, [])) ∨
    ∃ (a : Addr) (len cap m : Nat) (D : Nat → DataW H) (Pl : Nat → List MemPlace), cs = [.slice (some a) len cap] ∧ base ≤ a.block ∧ len ≤ cap ∧ cap ≤ maxLen ∧ m = (if spare a.block then cap else len) ∧
      x = (.slice ((List.range len).map D) ((List.range (m - len)).map fun j => D (len + j)), MemPlace.row a (m * fs.size) ++ (List.range m).flatMap Pl) ∧
      ∀ i, i < m → ∃ (ys : List (DataW H × List MemPlace)) (n : Nat), D i = .agg (ys.map (·.1)) ∧ Pl i = ys.flatMap (·.2) ∧ ys.length = fs.size ∧
        ∀ (j : Nat) (f : Field), fs[j]? = some f → ∃ (v : Value) (y : DataW H × List MemPlace), w.cell? (a.add (i * fs.size + j)) = some v ∧ ys[j]? = some y ∧ DataW.trod enc P w base spare held n f.type [v] = some y := by
  rcases open_slice ht h with h0 | ⟨a, len, cap, m, n, D, Pl, hcs, hb, hl, hm, hmm, hx, hi⟩
  · exact .inl h0
  · refine .inr ⟨a, len, cap, m, D, Pl, hcs, hb, hl, hm, hmm, by rw [hC] at hx; exact hx, fun i him => ?_⟩
    obtain ⟨cs', hc, ht'⟩ := hi i him
    rw [hC] at hc
    obtain ⟨ys, n', hn', hy, hlen, hyl, hf⟩ := DataW.trod_struct he ht'
    obtain ⟨_, hcl, hat⟩ := World.cells?_some hc
    simp only [Prod.mk.injEq] at hy
    refine ⟨ys, n', hy.1, hy.2, hyl, fun j f hj => ?_⟩
    obtain ⟨ho, hk⟩ := hone_of hone j f hj
    have hjl : j < fs.size := (Array.getElem?_eq_some_iff.1 hj).1
    have hcell := hat j hjl
    have hv : cs'[j]? = some (cs'[j]'(by omega)) := List.getElem?_eq_getElem (by omega)
    have h1 := hf j f hj
    rw [ho, hk] at h1
    have hone' : (cs'.drop j).take 1 = [cs'[j]'(by omega)] := by
      rw [List.drop_eq_getElem_cons (by omega)]
      rfl
    rw [hone'] at h1
    have hys : ys[j]? = some (ys[j]'(by omega)) := List.getElem?_eq_getElem (by omega)
    refine ⟨_, _, ?_, hys, h1.trans hys⟩
    rw [← Go.Deep.add_add, hcell, hv]
end

/-- The address of a row whose first cell is there is a plain one. -/
theorem plain_row {w : World} {a : Addr} {v : Value} (h : w.cell? (a.add 0) = some v) : ∃ b off, a = ⟨b, off, none⟩ := by
  obtain ⟨b, off, spot⟩ := a
  have hs : spot = none := by simpa [Addr.add] using World.cell?_spot h
  subst hs
  exact ⟨b, off, rfl⟩
theorem add_plain' (b off j : Nat) : (⟨b, off, none⟩ : Addr).add j = ⟨b, off + j, none⟩ := by
  unfold Addr.add; split <;> simp_all
section
variable {H : Type} {enc : TypeId × Value → H} {P : Program} {w : World} {base : Nat} {spare : Nat → Bool} {held : Bool}
/-- A slice of integers. -/
theorem ints_open {t e : TypeId} {k : IntKind} {fuel : Nat} {v : Value} {x : DataW H × List MemPlace} (ht : P.underlying t = some (.slice e)) (he : P.underlying e = some (.int k)) (hc : P.cellsOf e = 1) (h : DataW.trod enc P w base spare held fuel t [v] = some x) :
    ∃ A cap zs, v = .slice A zs.length cap ∧ zs.length ≤ 9223372036854775807 ∧ zs.length ≤ cap ∧ Ints k w A zs ∧ ∀ n ∈ zs, (Lit.int k n).wf = true := by
  rcases open_ints ht he hc h with ⟨hcs, _⟩ | ⟨a, len, cap, zs, hcs, _, hl, hm, hz, _, hcell, hwz⟩
  · simp at hcs; subst hcs
    exact ⟨none, 0, [], rfl, by simp, by simp, Ints.nil, by simp⟩
  · simp at hcs; subst hcs
    have hlz : len ≤ zs.length := by rw [hz]; split <;> omega
    have hll : (zs.take len).length = len := by rw [List.length_take]; omega
    refine ⟨some a, cap, zs.take len, by rw [hll], by rw [hll]; unfold maxLen at hm; omega, by omega, fun j hj => ?_, fun n hn => hwz n (List.mem_of_mem_take hn)⟩
    have hj' : j < len := by omega
    obtain ⟨b, off, rfl⟩ := plain_row (w := w) (a := a) (v := .int k (zs.getD 0 0)) (hcell 0 (by omega))
    have hc2 := hcell j (by omega)
    rw [add_plain'] at hc2
    refine ⟨b, off, rfl, World.block_lt_of_cell? _ _ hc2, ?_⟩
    rw [hc2]
    have e : (zs.take len).getD j 0 = zs.getD j 0 := by simp [List.getD_eq_getElem?_getD, hj']
    rw [e]
end
end Go.Proofs.YtkmhagjdafeebaaGreat
/- Layer 1 (fix): sums, products of rows, bounds: contracts. -/
namespace Go.Proofs.YtkmhagjdafeebaaGreat
open Go.RowKit
theorem In_at {l : List Int} (h : ∀ z ∈ l, Fx.In z) {k : Nat} (hk : k < l.length) : Fx.In l[k] := h _ (List.getElem_mem hk)
theorem sum_succ {l : List Int} {k : Nat} (hk : k < l.length) : Fx.sum (l.take (k + 1)) = Fx.add (Fx.sum (l.take k)) l[k] := by
  unfold Fx.sum
  rw [List.take_succ_eq_append_getElem hk, List.foldl_append]
  rfl
theorem dot_succ {a b : List Int} {k : Nat} (hk : k < a.length) (hk2 : k < b.length) : Fx.dot (a.take (k + 1)) (b.take (k + 1)) = Fx.add (Fx.dot (a.take k) (b.take k)) (Fx.mul a[k] b[k]) := by
  unfold Fx.dot
  rw [List.take_succ_eq_append_getElem hk, List.take_succ_eq_append_getElem hk2, List.zip_append (by simp; omega), List.foldl_append]
  rfl
theorem get_at {l : List Int} {k : Nat} (hk : k < l.length) : l.getD k 0 = l[k] := by rw [List.getD_eq_getElem?_getD, List.getElem?_eq_getElem hk]; rfl
end Go.Proofs.YtkmhagjdafeebaaGreat
/- The plain law of layer 10: which ops are right, and what shape they answer with. -/
namespace Go.Proofs.YtkmhagjdafeebaaGreat
/-- What a node does. -/
structure OpD where
  kind : Int
  k : Int
  width : Int
  step : Int
  side : Int
  frm : Int
  «to» : Int
  s : List Int
deriving DecidableEq
namespace Od
def used (o : OpD) : OpD :=
  if o.kind = 2 ∨ o.kind = 5 then ⟨o.kind, o.k, 0, 0, 0, 0, 0, []⟩
  else if o.kind = 10 then ⟨o.kind, 0, 0, o.step, 0, 0, 0, []⟩
  else if o.kind = 11 ∨ o.kind = 12 then ⟨o.kind, 0, o.width, o.step, 0, 0, 0, []⟩
  else if o.kind = 13 then ⟨o.kind, 0, 0, 0, o.side, 0, 0, []⟩
  else if o.kind = 14 then ⟨o.kind, 0, 0, 0, o.side, o.frm, o.to, []⟩
  else if o.kind = 15 then ⟨o.kind, 0, 0, 0, 0, 0, 0, o.s⟩
  else ⟨o.kind, 0, 0, 0, 0, 0, 0, []⟩
def right (o : OpD) : Bool := decide (1 ≤ o.kind ∧ o.kind ≤ 15) && decide (o = used o)
/-- As the document has it. -/
def refRight (o : OpD) : Bool :=
  if o.kind < 1 ∨ 15 < o.kind then false
  else if o.k ≠ 0 ∧ o.kind ≠ 2 ∧ o.kind ≠ 5 then false
  else if o.width ≠ 0 ∧ o.kind ≠ 11 ∧ o.kind ≠ 12 then false
  else if o.step ≠ 0 ∧ (o.kind < 10 ∨ 12 < o.kind) then false
  else if o.side ≠ 0 ∧ o.kind ≠ 13 ∧ o.kind ≠ 14 then false
  else if (o.frm ≠ 0 ∨ o.to ≠ 0) ∧ o.kind ≠ 14 then false
  else decide (o.s = [] ∨ o.kind = 15)
theorem ref_right (o : OpD) : refRight o = right o := by
  obtain ⟨kind, k, width, step, side, frm, tz, s⟩ := o
  rw [Bool.eq_iff_iff]
  unfold refRight right used
  simp only [Bool.and_eq_true, decide_eq_true_eq]
  by_cases h1 : 1 ≤ kind ∧ kind ≤ 15
  · have hk : kind = 1 ∨ kind = 2 ∨ kind = 3 ∨ kind = 4 ∨ kind = 5 ∨ kind = 6 ∨ kind = 7 ∨ kind = 8 ∨ kind = 9 ∨ kind = 10 ∨ kind = 11 ∨ kind = 12 ∨ kind = 13 ∨ kind = 14 ∨ kind = 15 := by omega
    rcases hk with rfl | rfl | rfl | rfl | rfl | rfl | rfl | rfl | rfl | rfl | rfl | rfl | rfl | rfl | rfl <;> simp <;> grind
  · have : kind < 1 ∨ 15 < kind := by omega
    simp [this]
    omega
def ptIns (k : Int) : Int := if 1 ≤ k ∧ k ≤ 5 then 1 else if k = 6 ∨ k = 7 then 2 else 0
def least (o : OpD) : Int := if right o then (if o.kind ≤ 7 then ptIns o.kind else 1) else 0
def most (o : OpD) : Int := if right o then (if o.kind ≤ 7 then ptIns o.kind else if o.kind = 13 then 8 else 1) else 0
def params (o : OpD) : Int := if right o then (if o.kind = 8 then 2 else if o.kind = 9 ∨ o.kind = 10 then 1 else 0) else 0
def counts (o : OpD) (p x : Int) : Int := if right o then (if x < least o ∨ most o < x ∨ p ≠ params o then 20 else 0) else 21
theorem right_kind {o : OpD} (h : right o = true) : 1 ≤ o.kind ∧ o.kind ≤ 15 := by simp [right] at h; exact h.1
theorem least_pos {o : OpD} (h : right o = true) : 1 ≤ least o := by
  have := right_kind h
  unfold least ptIns
  rw [if_pos h]
  split
  · split
    · omega
    · split <;> omega
  · omega
theorem most_le {o : OpD} (h : right o = true) : most o ≤ 8 := by
  unfold most ptIns
  rw [if_pos h]
  split
  · split
    · omega
    · split <;> omega
  · split <;> omega

def window (side width step : Int) : Int × Int := if Sh.side side ∧ Sh.side width ∧ Sh.side step ∧ width ≤ side then (1 + (side - width).tdiv step, 0) else (0, 11)
def inR (side : Int) (s : List Int) : Bool := decide (0 ≤ side ∧ side < s.length)
def at_ (s : List Int) (i : Int) : Int := s.getD i.toNat 0
def pool (x : List Int) (width step : Int) : List Int × Int :=
  if Sh.right x then (if (window (x.getD (x.length - 1) 0) width step).2 = 0 then (x.set (x.length - 1) (window (x.getD (x.length - 1) 0) width step).1, 0) else ([], 11)) else ([], 20)
def wn (w x : List Int) (step : Int) (i : Nat) : Int × Int := window (x.getD (i + 1) 0) (w.getD (i + 2) 0) step
def outs (w x : List Int) (step : Int) (k : Nat) : List Int := w.getD 0 0 :: (List.range k).map fun i => (wn w x step i).1
def conv (w x : List Int) (step : Int) : List Int × Int :=
  if Sh.right w && Sh.right x && decide (2 ≤ x.length ∧ x.length ≤ 3 ∧ w.length = x.length + 1 ∧ w.getD 1 0 = x.getD 0 0) then
    (if (List.range (x.length - 1)).all (fun i => decide ((wn w x step i).2 = 0)) then
      (if Sh.right (outs w x step (x.length - 1)) then (outs w x step (x.length - 1), 0) else ([], 20)) else ([], 11)) else ([], 20)
def joinOk (s t : List Int) (side : Int) : Bool := (List.range s.length).all fun i => decide ((i : Int) = side) || decide (s.getD i 0 = t.getD i 0)
def joinL (s t : List Int) (side : Int) : List Int := s.set side.toNat (at_ s side + at_ t side)
def join (s t : List Int) (side : Int) : List Int × Int :=
  if Sh.right s && Sh.right t && decide (s.length = t.length) then
    (if inR side s then (if joinOk s t side && Sh.right (joinL s t side) then (joinL s t side, 0) else ([], 20)) else ([], 11)) else ([], 20)
def joinAll (side : Int) : List Int → List (List Int) → List Int × Int
  | s, [] => (s, 0)
  | s, t :: r => if (join s t side).2 = 0 then joinAll side (join s t side).1 r else ([], (join s t side).2)
def joined (side : Int) (l : List (List Int)) : List Int × Int :=
  if l.length = 1 ∧ inR side (l.getD 0 []) = false then ([], 11) else joinAll side (l.getD 0 []) (l.drop 1)
def cut (s : List Int) (side frm tz : Int) : List Int × Int :=
  if Sh.right s then (if inR side s && decide (0 ≤ frm ∧ tz ≤ at_ s side ∧ frm < tz) then (s.set side.toNat (tz - frm), 0) else ([], 11)) else ([], 20)
def same (l : List (List Int)) : List Int × Int := if l.all (fun s => decide (s = l.getD 0 [])) then (l.getD 0 [], 0) else ([], 20)
def dense (w b x : List Int) : List Int × Int :=
  if w.length = 2 ∧ b.length = 1 ∧ b.getD 0 0 = w.getD 0 0 ∧ Sh.right x = true ∧ Safe.prod x = w.getD 1 0 then ([w.getD 0 0], 0) else ([], 20)
def turned (x s : List Int) : List Int × Int := if Sh.right x && Sh.right s && decide (Safe.prod s = Safe.prod x) then (s, 0) else ([], 20)
/-- By the kind, of right shapes, as many as there should be. -/
def byKind (o : OpD) (p x : List (List Int)) : List Int × Int :=
  if o.kind = 8 then dense (p.getD 0 []) (p.getD 1 []) (x.getD 0 [])
  else if o.kind = 9 then same [p.getD 0 [], x.getD 0 []]
  else if o.kind = 10 then conv (p.getD 0 []) (x.getD 0 []) o.step
  else if o.kind = 11 ∨ o.kind = 12 then pool (x.getD 0 []) o.width o.step
  else if o.kind = 13 then joined o.side x
  else if o.kind = 14 then cut (x.getD 0 []) o.side o.frm o.to
  else if o.kind = 15 then turned (x.getD 0 []) o.s
  else same x
def shape (o : OpD) (p x : List (List Int)) : List Int × Int :=
  if counts o p.length x.length ≠ 0 then ([], counts o p.length x.length)
  else if p.all Sh.right && x.all Sh.right then byKind o p x else ([], 20)

theorem window_ok {side width step : Int} (h : (window side width step).2 = 0) : 1 ≤ (window side width step).1 ∧ (window side width step).1 ≤ side := by
  unfold window at h ⊢
  split at h
  · rename_i hc
    rw [if_pos hc]
    simp only [Sh.side_iff] at hc
    have h1 : 0 ≤ (side - width).tdiv step := Int.tdiv_nonneg (by omega) (by omega)
    have h2 : (side - width).tdiv step ≤ side - width := Int.tdiv_le_self _ (by omega)
    simp only
    omega
  · simp at h
theorem window_err {side width step : Int} (h : (window side width step).2 ≠ 0) : window side width step = (0, 11) := by
  unfold window at h ⊢
  split
  · rename_i hc; rw [if_pos hc] at h; simp at h
  · rfl
theorem prod_set {l : List Int} (h : ∀ x ∈ l, 1 ≤ x) {i : Nat} (hi : i < l.length) {n : Int} (h2 : n ≤ l[i]) : Safe.prod (l.set i n) ≤ Safe.prod l := by
  induction l generalizing i with
  | nil => simp at hi
  | cons a r ih =>
    have ha := h a (by simp)
    have hr : ∀ x ∈ r, 1 ≤ x := fun x hx => h x (by simp [hx])
    have hp := Safe.prod_pos r hr
    cases i with
    | zero =>
      simp only [List.set_cons_zero, Safe.prod]
      simp at h2
      exact Int.mul_le_mul_of_nonneg_right h2 (by omega)
    | succ i =>
      simp only [List.set_cons_succ, Safe.prod]
      simp at h2 hi
      exact Int.mul_le_mul_of_nonneg_left (ih hr hi h2) (by omega)
theorem right_set {l : List Int} (h : Sh.right l = true) {i : Nat} (hi : i < l.length) {n : Int} (h1 : 1 ≤ n) (h2 : n ≤ l[i]) : Sh.right (l.set i n) = true := by
  obtain ⟨_, a1, a2, a3, a4, a5⟩ := Sh.right_mul h
  have hp := prod_set (fun x hx => (a3 x hx).1) hi h2
  have hm := a3 _ (List.getElem_mem hi)
  simp only [Sh.right, Bool.and_eq_true, decide_eq_true_eq, List.length_set, List.all_eq_true, Sh.side_iff]
  refine ⟨⟨⟨a2, a1⟩, fun x hx => ?_⟩, by omega⟩
  rcases List.mem_or_eq_of_mem_set hx with hx | rfl
  · exact a3 x hx
  · omega
theorem joinAll_right {side : Int} : ∀ {l : List (List Int)} {s : List Int}, Sh.right s = true → (joinAll side s l).2 = 0 → Sh.right (joinAll side s l).1 = true
  | [], _, hs, _ => hs
  | t :: r, s, hs, h => by
    rw [joinAll] at h ⊢
    split at h
    · rename_i hj
      rw [if_pos hj]
      refine joinAll_right ?_ h
      unfold join at hj ⊢
      split at hj
      · rename_i h1
        rw [if_pos h1]
        split at hj
        · rename_i h2
          rw [if_pos h2]
          split at hj
          · rename_i h3
            rw [if_pos h3]
            simp at h3
            exact h3.2
          · simp at hj
        · simp at hj
      · simp at hj
    · rename_i hj; exact absurd h hj
theorem all_getD0 {l : List (List Int)} (h : l.all Sh.right = true) (hl : 0 < l.length) : Sh.right (l.getD 0 []) = true := by
  cases l with
  | nil => simp at hl
  | cons a r => simp at h; simpa using h.1
theorem shape_ok {o : OpD} {p x : List (List Int)} (h : (shape o p x).2 = 0) : right o = true ∧ least o ≤ x.length ∧ (x.length : Int) ≤ most o ∧ (p.length : Int) = params o ∧ p.all Sh.right = true ∧ x.all Sh.right = true ∧ shape o p x = byKind o p x := by
  unfold shape counts at h ⊢
  cases hr : right o
  · simp [hr] at h
  · by_cases hc : (x.length : Int) < least o ∨ most o < (x.length : Int) ∨ (p.length : Int) ≠ params o
    · simp [hr, hc] at h
    · simp only [hr, if_true, hc, if_false, ne_eq, not_true_eq_false] at h ⊢
      have hc' := hc
      simp only [not_or] at hc'
      cases hp : p.all Sh.right
      · simp [hp] at h
      · cases hx : x.all Sh.right
        · simp [hp, hx] at h
        · simp
          omega
theorem shape_right {o : OpD} {p x : List (List Int)} (h : (shape o p x).2 = 0) : Sh.right (shape o p x).1 = true := by
  obtain ⟨hr, h1, h2, h3, hp, hx, e⟩ := shape_ok h
  rw [e] at h ⊢
  have hl := least_pos hr
  have hx0 := all_getD0 hx (by omega)
  obtain ⟨_, a1, a2, a3, a4, a5⟩ := Sh.right_mul hx0
  unfold byKind at h ⊢
  split at h
  · rename_i hk
    rw [if_pos hk]
    unfold params at h3
    rw [if_pos hr, if_pos hk] at h3
    have hp0 := all_getD0 hp (by omega)
    obtain ⟨_, b1, b2, b3, b4, b5⟩ := Sh.right_mul hp0
    unfold dense at h ⊢
    split at h
    · rename_i hc
      rw [if_pos hc]
      generalize p.getD 0 [] = w at *
      match w, hc.1 with
      | [a, b], _ =>
        have := b3 a (by simp)
        have h1 : Safe.prod [a] ≤ 65536 := by simp [Safe.prod]; omega
        simp [Sh.right, Sh.side_iff, h1]
        omega
    · simp at h
  · rename_i hk
    rw [if_neg hk]
    split at h
    · rename_i hk
      rw [if_pos hk]
      unfold params at h3
      rw [if_pos hr, if_neg (by omega), if_pos (by omega)] at h3
      have hp0 := all_getD0 hp (by omega)
      unfold same at h ⊢
      split at h
      · rename_i hc; rw [if_pos hc]; simpa using hp0
      · simp at h
    · rename_i hk2
      rw [if_neg hk2]
      split at h
      · rename_i hk
        rw [if_pos hk]
        unfold conv at h ⊢
        split at h
        · rename_i c1
          rw [if_pos c1]
          split at h
          · rename_i c2
            rw [if_pos c2]
            split at h
            · rename_i c3; rw [if_pos c3]; exact c3
            · simp at h
          · simp at h
        · simp at h
      · rename_i hk3
        rw [if_neg hk3]
        split at h
        · rename_i hk
          rw [if_pos hk]
          unfold pool at h ⊢
          rw [if_pos hx0] at h ⊢
          split at h
          · rename_i c1
            rw [if_pos c1]
            have := window_ok c1
            generalize x.getD 0 [] = x0 at *
            have hi : x0.length - 1 < x0.length := by omega
            refine right_set hx0 hi this.1 ?_
            have e2 : x0.getD (x0.length - 1) 0 = x0[x0.length - 1] := by rw [List.getD_eq_getElem?_getD, List.getElem?_eq_getElem hi]; rfl
            have := this.2
            omega
          · simp at h
        · rename_i hk4
          rw [if_neg hk4]
          split at h
          · rename_i hk
            rw [if_pos hk]
            unfold joined at h ⊢
            split at h
            · simp at h
            · rename_i c1; rw [if_neg c1]; exact joinAll_right hx0 h
          · rename_i hk5
            rw [if_neg hk5]
            split at h
            · rename_i hk
              rw [if_pos hk]
              unfold cut at h ⊢
              rw [if_pos hx0] at h ⊢
              split at h
              · rename_i c1
                rw [if_pos c1]
                simp [inR, at_] at c1
                obtain ⟨⟨c2, c3⟩, c4, c5, c6⟩ := c1
                have hi : o.side.toNat < (x.getD 0 []).length := by simp; omega
                refine right_set hx0 hi (by omega) ?_
                have : (x.getD 0 [])[o.side.toNat]?.getD 0 = (x.getD 0 [])[o.side.toNat] := by rw [List.getElem?_eq_getElem hi]; rfl
                simp at this c5
                rw [this] at c5
                simp
                omega
              · simp at h
            · rename_i hk6
              rw [if_neg hk6]
              split at h
              · rename_i hk
                rw [if_pos hk]
                unfold turned at h ⊢
                split at h
                · rename_i c1; rw [if_pos c1]; simp at c1; exact c1.1.2
                · simp at h
              · rename_i hk7
                rw [if_neg hk7]
                unfold same at h ⊢
                split at h
                · rename_i c1; rw [if_pos c1]; exact hx0
                · simp at h
end Od
end Go.Proofs.YtkmhagjdafeebaaGreat
/- The answers of layers 4 to 10 as plain functions of tensors. No walk here. -/
namespace Go.Proofs.YtkmhagjdafeebaaGreat
open Go.RowKit
namespace Ly
def In (t : Ten) : Prop := ∀ z ∈ t.c, Fx.In z
def none_ : Ten := ⟨[], []⟩
def got (l : List Ten) (i : Nat) : Ten := l.getD i none_
def tab (n : Nat) (f : Nat → Int) : List Int := (List.range n).map f
def at_ (l : List Int) (i : Nat) : Int := l.getD i 0
def zeros (n : Nat) : List Int := List.replicate n 0
/-- Nat's part of an entry. -/
def side (s : List Int) (i : Nat) : Nat := (at_ s i).toNat
def span (l : List Int) : Nat := (Safe.prod l).toNat

-- layer 4
def alike (a b : Ten) : Bool := Tn.right a && Tn.right b && decide (a.s = b.s)
def add (a b : Ten) : Ten × Int := if alike a b then (⟨a.s, tab a.c.length fun i => Fx.add (at_ a.c i) (at_ b.c i)⟩, 0) else (none_, 20)
/-- The cells of a part: of each row those from a on, n of them. -/
def cutRows (c : List Int) (row a n : Nat) (k : Nat) : List Int := (List.range k).flatMap fun i => (c.drop (i * row + a)).take n
def cut (x : Ten) (sd frm til : Int) : Ten × Int :=
  if Tn.right x then
    if (Od.cut x.s sd frm til).2 = 0 then
      let inner := span ((Od.cut x.s sd frm til).1.drop (sd.toNat + 1))
      let row := side x.s sd.toNat * inner
      (⟨(Od.cut x.s sd frm til).1, cutRows x.c row (frm.toNat * inner) ((til.toNat - frm.toNat) * inner) (x.c.length / row)⟩, 0)
    else (none_, (Od.cut x.s sd frm til).2)
  else (none_, 20)
def of_ (s c : List Int) : Ten × Int := if Tn.right ⟨s, c⟩ then (⟨s, c⟩, 0) else (none_, 20)

-- layer 5
def one : Int := 4294967296
def line (x : Int) : Int := Fx.add (Fx.mul x 1073741824) 2147483648
def cell (kind k x y : Int) : Int :=
  if kind = 1 then (if x < 0 then 0 else x)
  else if kind = 2 then (if 0 < x then x else Fx.mul x k)
  else if kind = 3 then Fx.held x (-4294967296) 4294967296
  else if kind = 4 then Fx.held (line x) 0 4294967296
  else if kind = 5 then Fx.mul x k
  else if kind = 6 then Fx.add x y
  else if kind = 7 then Fx.mul x y
  else 0
def slope (kind k x y g : Int) : Int × Int :=
  if kind = 1 then (if 0 < x then (g, 0) else (0, 0))
  else if kind = 2 then (if 0 < x then (g, 0) else (Fx.mul g k, 0))
  else if kind = 3 then (if -4294967296 < x ∧ x < 4294967296 then (g, 0) else (0, 0))
  else if kind = 4 then (if 0 < line x ∧ line x < 4294967296 then (Fx.mul g 1073741824, 0) else (0, 0))
  else if kind = 5 then (Fx.mul g k, 0)
  else if kind = 6 then (g, g)
  else if kind = 7 then (Fx.mul g y, Fx.mul g x)
  else (0, 0)
def second (x : List Ten) (i : Nat) : Int := if x.length < 2 then 0 else at_ (got x 1).c i
def ptAgree (kind : Int) (x : List Ten) : Int :=
  if Od.ptIns kind = 0 then 21 else if (x.length : Int) ≠ Od.ptIns kind then 20 else if x.all (fun t => Tn.right t && decide (t.s = (got x 0).s)) then 0 else 20
def point (kind k : Int) (x : List Ten) : Ten × Int :=
  if ptAgree kind x = 0 then (⟨(got x 0).s, tab (got x 0).c.length fun i => cell kind k (at_ (got x 0).c i) (second x i)⟩, 0) else (none_, ptAgree kind x)
def slopes (kind k : Int) (x : List Ten) (g : Ten) (i : Nat) : Int × Int := slope kind k (at_ (got x 0).c i) (second x i) (at_ g.c i)
def pointBack (kind k : Int) (g : Ten) (x : List Ten) : List Ten × Int :=
  if ptAgree kind x = 0 then
    if Tn.right g && decide (g.s = (got x 0).s) then
      (if x.length < 2 then [⟨(got x 0).s, tab (got x 0).c.length fun i => (slopes kind k x g i).1⟩]
        else [⟨(got x 0).s, tab (got x 0).c.length fun i => (slopes kind k x g i).1⟩, ⟨(got x 1).s, tab (got x 0).c.length fun i => (slopes kind k x g i).2⟩], 0)
    else ([], 20)
  else ([], ptAgree kind x)

-- layer 6
def denseOk (w b x : Ten) : Bool := Tn.right w && decide (w.s.length = 2) && Tn.right b && Tn.right x && decide (b.s = [at_ w.s 0]) && decide ((x.c.length : Int) = at_ w.s 1)
def rowOf (w : List Int) (n i : Nat) : List Int := (w.drop (i * n)).take n
def dense (w b x : Ten) : Ten × Int :=
  if denseOk w b x then (⟨b.s, tab b.c.length fun i => Fx.add (Fx.dot (rowOf w.c x.c.length i) x.c) (at_ b.c i)⟩, 0) else (none_, 20)
/-- What goes back to the in, of the first i rows. -/
def denseX (w g x : List Int) : Nat → List Int
  | 0 => zeros x.length
  | i + 1 => tab x.length fun j => Fx.add (at_ (denseX w g x i) j) (Fx.mul (at_ w (i * x.length + j)) (at_ g i))
def denseW (g x : List Int) : List Int := tab (g.length * x.length) fun k => Fx.mul (at_ g (k / x.length)) (at_ x (k % x.length))
def denseBack (w b x g : Ten) : (Ten × Ten × Ten) × Int :=
  if denseOk w b x && Tn.right g && decide (g.s = b.s) then ((⟨w.s, denseW g.c x.c⟩, g, ⟨x.s, denseX w.c g.c x.c g.c.length⟩), 0) else ((none_, none_, none_), 20)

-- layer 7
structure Frame where
  outs : Nat
  ins : Nat
  k0 : Nat
  k1 : Nat
  i0 : Nat
  i1 : Nat
  o0 : Nat
  o1 : Nat
  step : Nat
def last2 (l : List Int) : Nat × Nat := if l.length = 1 then (1, side l 0) else (side l 0, side l 1)
def frame (w x out : List Int) (step : Int) : Frame :=
  ⟨side w 0, side w 1, (last2 (w.drop 2)).1, (last2 (w.drop 2)).2, (last2 (x.drop 1)).1, (last2 (x.drop 1)).2, (last2 (out.drop 1)).1, (last2 (out.drop 1)).2, step.toNat⟩
/-- A product: the places of the answer, the weight and the in. -/
structure Touch where
  o : Nat
  w : Nat
  x : Nat
def Frame.rowT (f : Frame) (p i j q t : Nat) : List Touch :=
  (List.range f.k1).map fun u => ⟨(p * f.o0 + i) * f.o1 + j, (p * f.ins + q) * (f.k0 * f.k1) + t * f.k1 + u, q * (f.i0 * f.i1) + (i * f.step * f.i1 + j * f.step) + t * f.i1 + u⟩
def Frame.cellT (f : Frame) (p i j : Nat) : List Touch := (List.range f.ins).flatMap fun q => (List.range f.k0).flatMap fun t => f.rowT p i j q t
def Frame.all (f : Frame) : List Touch := (List.range f.outs).flatMap fun p => (List.range f.o0).flatMap fun i => (List.range f.o1).flatMap fun j => f.cellT p i j
def addAt (l : List Int) (i : Nat) (v : Int) : List Int := l.set i (Fx.add (at_ l i) v)
def convC (w x : List Int) (ts : List Touch) (n : Nat) : List Int := ts.foldl (fun o t => addAt o t.o (Fx.mul (at_ w t.w) (at_ x t.x))) (zeros n)
def convW (g x : List Int) (ts : List Touch) (n : Nat) : List Int := ts.foldl (fun o t => addAt o t.w (Fx.mul (at_ g t.o) (at_ x t.x))) (zeros n)
def convX (g w : List Int) (ts : List Touch) (n : Nat) : List Int := ts.foldl (fun o t => addAt o t.x (Fx.mul (at_ g t.o) (at_ w t.w))) (zeros n)
def convErr (w x : Ten) (step : Int) : Int := if Tn.right w && Tn.right x then (Od.conv w.s x.s step).2 else 20
def convT (w x : Ten) (step : Int) : List Touch := (frame w.s x.s (Od.conv w.s x.s step).1 step).all
def conv (w x : Ten) (step : Int) : Ten × Int :=
  if convErr w x step = 0 then (⟨(Od.conv w.s x.s step).1, convC w.c x.c (convT w x step) (span (Od.conv w.s x.s step).1)⟩, 0) else (none_, convErr w x step)
def convBack (w x g : Ten) (step : Int) : (Ten × Ten) × Int :=
  if convErr w x step = 0 then
    if Tn.right g && decide (g.s = (Od.conv w.s x.s step).1) then
      ((⟨w.s, convW g.c x.c (convT w x step) w.c.length⟩, ⟨x.s, convX g.c w.c (convT w x step) x.c.length⟩), 0)
    else ((none_, none_), 20)
  else ((none_, none_), convErr w x step)

-- layer 8
/-- The place of the first one of the greatest of the first k. -/
def best (l : List Int) : Nat → Int
  | 0 => -1
  | k + 1 => if best l k < 0 ∨ at_ l (best l k).toNat < at_ l k then k else best l k
def poolErr (x : Ten) (width step : Int) : Int := if Tn.right x then (Od.pool x.s width step).2 else 20
def from_ (sd n step i : Nat) : Nat := i / n * sd + i % n * step
def win (c : List Int) (sd n width step i : Nat) : List Int := (c.drop (from_ sd n step i)).take width
def poolCell (top : Bool) (l : List Int) (width : Int) : Int := if top then at_ l (best l l.length).toNat else Fx.div (Fx.sum l) (width * 4294967296)
def lastOf (s : List Int) : Nat := side s (s.length - 1)
def poolS (x : Ten) (width step : Int) : List Int := (Od.pool x.s width step).1
def pool (top : Bool) (x : Ten) (width step : Int) : Ten × Int :=
  if poolErr x width step = 0 then
    (⟨poolS x width step, tab (span (poolS x width step)) fun i => poolCell top (win x.c (lastOf x.s) (lastOf (poolS x width step)) width.toNat step.toNat i) width⟩, 0)
  else (none_, poolErr x width step)
/-- A number is added to n cells from a on. -/
def addRow (l : List Int) (a : Nat) (v : Int) : Nat → List Int
  | 0 => l
  | j + 1 => addAt (addRow l a v j) (a + j) v
def poolStep (top : Bool) (x : List Int) (sd n : Nat) (width : Int) (step : Nat) (acc : List Int) (i : Nat) (v : Int) : List Int :=
  if top then addAt acc (from_ sd n step i + (best (win x sd n width.toNat step i) width.toNat).toNat) v
  else addRow acc (from_ sd n step i) (Fx.div v (width * 4294967296)) width.toNat
def poolX (top : Bool) (x g : List Int) (sd n : Nat) (width : Int) (step : Nat) : Nat → List Int
  | 0 => zeros x.length
  | i + 1 => poolStep top x sd n width step (poolX top x g sd n width step i) i (at_ g i)
def poolBack (top : Bool) (x g : Ten) (width step : Int) : Ten × Int :=
  if poolErr x width step = 0 then
    if Tn.right g && decide (g.s = poolS x width step) then
      (⟨x.s, poolX top x.c g.c (lastOf x.s) (lastOf (poolS x width step)) width step.toNat g.c.length⟩, 0)
    else (none_, 20)
  else (none_, poolErr x width step)

-- layer 9
def joinedS (sd : Int) (s : List Int) : List Ten → List Int × Int
  | [] => (s, 0)
  | t :: r => if Tn.right t then (if (Od.join s t.s sd).2 = 0 then joinedS sd (Od.join s t.s sd).1 r else ([], (Od.join s t.s sd).2)) else ([], 20)
def joined (sd : Int) (x : List Ten) : List Int × Int :=
  match x with
  | [] => ([], 20)
  | t :: r => if Tn.right t then (if r.length = 0 ∧ (sd < 0 ∨ (t.s.length : Int) ≤ sd) then ([], 11) else joinedS sd t.s r) else ([], 20)
def joinRow (rows : Nat) (i : Nat) (t : Ten) : List Int := (t.c.drop (i * (t.c.length / rows))).take (t.c.length / rows)
def joinC (rows : Nat) (x : List Ten) (k : Nat) : List Int := (List.range k).flatMap fun i => x.flatMap (joinRow rows i)
def join (sd : Int) (x : List Ten) : Ten × Int :=
  if (joined sd x).2 = 0 then
    let rows := span ((joined sd x).1.take sd.toNat)
    (⟨(joined sd x).1, joinC rows x rows⟩, 0)
  else (none_, (joined sd x).2)
def joinBackL (sd : Int) (g : Ten) (frm : Int) : List Ten → List Ten × Int
  | [] => ([], 0)
  | t :: r =>
    if (cut g sd frm (frm + at_ t.s sd.toNat)).2 = 0 then
      (if (joinBackL sd g (frm + at_ t.s sd.toNat) r).2 = 0 then ((cut g sd frm (frm + at_ t.s sd.toNat)).1 :: (joinBackL sd g (frm + at_ t.s sd.toNat) r).1, 0) else ([], (joinBackL sd g (frm + at_ t.s sd.toNat) r).2))
    else ([], (cut g sd frm (frm + at_ t.s sd.toNat)).2)
def joinBack (sd : Int) (g : Ten) (x : List Ten) : List Ten × Int :=
  if (joined sd x).2 = 0 then (if Tn.right g && decide (g.s = (joined sd x).1) then joinBackL sd g 0 x else ([], 20)) else ([], (joined sd x).2)
/-- The first k rows of g laid into noughts. -/
def cutX (n row a part : Nat) (g : List Int) : Nat → List Int
  | 0 => zeros n
  | i + 1 => splice (cutX n row a part g i) (i * row + a) ((g.drop (i * part)).take part)
def cutBack (x g : Ten) (sd frm til : Int) : Ten × Int :=
  if Tn.right x then
    if (Od.cut x.s sd frm til).2 = 0 then
      if Tn.right g && decide (g.s = (Od.cut x.s sd frm til).1) then
        let inner := span ((Od.cut x.s sd frm til).1.drop (sd.toNat + 1))
        let row := side x.s sd.toNat * inner
        (⟨x.s, cutX x.c.length row (frm.toNat * inner) ((til.toNat - frm.toNat) * inner) g.c (x.c.length / row)⟩, 0)
      else (none_, 20)
    else (none_, (Od.cut x.s sd frm til).2)
  else (none_, 20)
def turn (x : Ten) (s : List Int) : Ten × Int := if Tn.right x then of_ s x.c else (none_, 20)
def turnBack (x g : Ten) : Ten × Int := if Tn.right x && Tn.right g then of_ x.s g.c else (none_, 20)

-- layer 10
/-- What the op's layer answers. -/
def lay (o : OpD) (p x : List Ten) : Ten × Int :=
  if o.kind = 8 then dense (got p 0) (got p 1) (got x 0)
  else if o.kind = 9 then add (got x 0) (got p 0)
  else if o.kind = 10 then conv (got p 0) (got x 0) o.step
  else if o.kind = 11 then pool true (got x 0) o.width o.step
  else if o.kind = 12 then pool false (got x 0) o.width o.step
  else if o.kind = 13 then join o.side x
  else if o.kind = 14 then cut (got x 0) o.side o.frm o.to
  else if o.kind = 15 then turn (got x 0) o.s
  else point o.kind o.k x
def go (o : OpD) (p x : List Ten) : Ten × Int := if Od.counts o p.length x.length = 0 then lay o p x else (none_, Od.counts o p.length x.length)
/-- What goes back: to the parameters, to the ins. -/
structure Bk where
  p : List Ten
  x : List Ten
def bnone : Bk := ⟨[], []⟩
def bsingle (r : Ten × Int) : Bk × Int := if r.2 = 0 then (⟨[], [r.1]⟩, 0) else (bnone, r.2)
def bseveral (r : List Ten × Int) : Bk × Int := if r.2 = 0 then (⟨[], r.1⟩, 0) else (bnone, r.2)
def bbias (b x g : Ten) : Bk × Int :=
  if (add x b).2 = 0 then (if Tn.right g && decide (g.s = (add x b).1.s) then (⟨[g], [g]⟩, 0) else (bnone, 20)) else (bnone, (add x b).2)
def bturn (x g : Ten) (s : List Int) : Bk × Int :=
  if (turn x s).2 = 0 then (if Tn.right g && decide (g.s = s) then bsingle (turnBack x g) else (bnone, 20)) else (bnone, (turn x s).2)
def layBack (o : OpD) (p x : List Ten) (g : Ten) : Bk × Int :=
  if o.kind = 8 then (if (denseBack (got p 0) (got p 1) (got x 0) g).2 = 0 then (⟨[(denseBack (got p 0) (got p 1) (got x 0) g).1.1, (denseBack (got p 0) (got p 1) (got x 0) g).1.2.1], [(denseBack (got p 0) (got p 1) (got x 0) g).1.2.2]⟩, 0) else (bnone, (denseBack (got p 0) (got p 1) (got x 0) g).2))
  else if o.kind = 9 then bbias (got p 0) (got x 0) g
  else if o.kind = 10 then (if (convBack (got p 0) (got x 0) g o.step).2 = 0 then (⟨[(convBack (got p 0) (got x 0) g o.step).1.1], [(convBack (got p 0) (got x 0) g o.step).1.2]⟩, 0) else (bnone, (convBack (got p 0) (got x 0) g o.step).2))
  else if o.kind = 11 then bsingle (poolBack true (got x 0) g o.width o.step)
  else if o.kind = 12 then bsingle (poolBack false (got x 0) g o.width o.step)
  else if o.kind = 13 then bseveral (joinBack o.side g x)
  else if o.kind = 14 then bsingle (cutBack (got x 0) g o.side o.frm o.to)
  else if o.kind = 15 then bturn (got x 0) g o.s
  else bseveral (pointBack o.kind o.k g x)
def back (o : OpD) (p x : List Ten) (g : Ten) : Bk × Int := if Od.counts o p.length x.length = 0 then layBack o p x g else (bnone, Od.counts o p.length x.length)
end Ly
end Go.Proofs.YtkmhagjdafeebaaGreat
/- The order of a net's nodes: Kahn's way with a sorted row of ready ones is the document's way. Plain. -/
namespace Go.Proofs.YtkmhagjdafeebaaGreat
namespace Kn
/-- The numbers 1 .. n. -/
def ids (n : Nat) : List Int := (List.range n).map fun i => ((i + 1 : Nat) : Int)
/-- How many ins of a node, of those that are nodes, are not yet out. -/
def wt (I : Int → List Int) (out : List Int) (u : Int) : Nat := ((I u).filter fun i => !(i == 0) && !out.contains i).length
def free (I : Int → List Int) (out : List Int) (u : Int) : Bool := !out.contains u && (I u).all fun i => i == 0 || out.contains i
def ready (I : Int → List Int) (n : Nat) (out : List Int) : List Int := (ids n).filter (free I out)
def step (I : Int → List Int) (n : Nat) (out : List Int) : List Int := match ready I n out with
  | [] => out
  | id :: _ => out ++ [id]
def go (I : Int → List Int) (n : Nat) : Nat → List Int
  | 0 => []
  | k + 1 => step I n (go I n k)
/-- The document's order. -/
def order (I : Int → List Int) (n : Nat) : List Int := go I n n
/-- Who uses a number, as often as it does. -/
def users (I : Int → List Int) (n : Nat) (id : Int) : List Int := (ids n).flatMap fun u => List.replicate ((I u).count id) u

theorem mem_ids {n : Nat} {u : Int} : u ∈ ids n ↔ 1 ≤ u ∧ u ≤ n := by
  simp only [ids, List.mem_map, List.mem_range]
  constructor
  · rintro ⟨a, h, rfl⟩; omega
  · intro h; exact ⟨(u - 1).toNat, by omega, by omega⟩
theorem ids_length (n : Nat) : (ids n).length = n := by simp [ids]
theorem ids_get {n k : Nat} (h : k < n) : (ids n)[k]? = some ((k : Int) + 1) := by simp [ids, h]
theorem ids_pairwise (n : Nat) : (ids n).Pairwise (· < ·) := by
  unfold ids
  rw [List.pairwise_map]
  exact List.pairwise_lt_range.imp (by intro a b h; omega)
theorem ids_nodup (n : Nat) : (ids n).Nodup := (ids_pairwise n).imp (by intro a b h; omega)
theorem free_iff (I : Int → List Int) (out : List Int) (u : Int) : free I out u = (!out.contains u && wt I out u == 0) := by
  unfold free wt
  congr 1
  rw [Bool.eq_iff_iff]
  simp only [List.all_eq_true, beq_iff_eq, List.length_eq_zero_iff, List.filter_eq_nil_iff]
  refine forall_congr' fun i => forall_congr' fun _ => ?_
  simp
  grind
theorem mem_ready {I : Int → List Int} {n : Nat} {out : List Int} {u : Int} : u ∈ ready I n out ↔ (1 ≤ u ∧ u ≤ n) ∧ u ∉ out ∧ wt I out u = 0 := by
  unfold ready
  rw [List.mem_filter, mem_ids, free_iff]
  simp
theorem ready_sorted (I : Int → List Int) (n : Nat) (out : List Int) : (ready I n out).Pairwise (· < ·) := (ids_pairwise n).filter _

/-- What is out is out of 1..n, once, and waits for nothing. -/
structure Ok (I : Int → List Int) (n : Nat) (out : List Int) : Prop where
  nodup : out.Nodup
  rng : ∀ u ∈ out, 1 ≤ u ∧ u ≤ n
  done : ∀ u ∈ out, wt I out u = 0
theorem wt_le (I : Int → List Int) (out more : List Int) (u : Int) : wt I (out ++ more) u ≤ wt I out u := by
  unfold wt
  generalize I u = l
  induction l with
  | nil => simp
  | cons a r ih =>
    rw [List.filter_cons, List.filter_cons]
    by_cases hz : a = 0
    · simp [hz]; simpa using ih
    · by_cases ho : a ∈ out
      · simp [ho]; simpa using ih
      · by_cases hm : a ∈ more
        · simp [hz, ho, hm]; simp at ih; omega
        · simp [hz, ho, hm]; simpa using ih
theorem Ok.nil (I : Int → List Int) (n : Nat) : Ok I n [] := ⟨by simp, by simp, by simp⟩
theorem Ok.push {I : Int → List Int} {n : Nat} {out : List Int} {u : Int} (h : Ok I n out) (hu : u ∈ ready I n out) : Ok I n (out ++ [u]) := by
  obtain ⟨h1, h2, h3⟩ := mem_ready.1 hu
  refine ⟨?_, ?_, ?_⟩
  · rw [List.nodup_append]
    exact ⟨h.nodup, by simp, by intro a ha b hb; simp at hb; subst hb; intro e; subst e; exact h2 ha⟩
  · intro v hv
    rcases List.mem_append.1 hv with hv | hv
    · exact h.rng v hv
    · simp at hv; subst hv; exact h1
  · intro v hv
    rcases List.mem_append.1 hv with hv | hv
    · have := h.done v hv; have := wt_le I out [u] v; omega
    · simp at hv; subst hv; have := wt_le I out [v] v; omega
theorem wt_push {I : Int → List Int} {out : List Int} {u id : Int} (h0 : id ≠ 0) (hid : id ∉ out) : wt I (out ++ [id]) u + (I u).count id = wt I out u := by
  unfold wt
  generalize I u = l
  induction l with
  | nil => simp
  | cons a r ih =>
    rw [List.filter_cons, List.filter_cons, List.count_cons]
    by_cases ha : a = id
    · subst ha
      simp [h0, hid]
      simp at ih
      omega
    · by_cases hz : a = 0
      · subst hz
        have : ¬ (0 = id) := fun e => h0 e.symm
        simp [this]
        simp at ih
        exact ih
      · by_cases ho : a ∈ out
        · simp [ha, ho]; simp at ih; exact ih
        · simp [ha, hz, ho]; simp at ih; omega
theorem count_users (I : Int → List Int) (n : Nat) (id u : Int) (hu : u ∈ ids n) : (users I n id).count u = (I u).count id := by
  unfold users
  have key : ∀ l : List Int, l.Nodup → (l.flatMap fun u => List.replicate ((I u).count id) u).count u = if u ∈ l then (I u).count id else 0 := by
    intro l hl
    induction l with
    | nil => simp
    | cons a r ih =>
      rw [List.nodup_cons] at hl
      rw [List.flatMap_cons, List.count_append, ih hl.2, List.count_replicate]
      by_cases e : a = u
      · subst e; simp [hl.1]
      · have : ¬ (u = a) := fun h => e h.symm
        simp [e, this]
  rw [key _ (ids_nodup n), if_pos hu]
theorem mem_users {I : Int → List Int} {n : Nat} {id u : Int} (h : u ∈ users I n id) : u ∈ ids n ∧ id ∈ I u := by
  unfold users at h
  rw [List.mem_flatMap] at h
  obtain ⟨a, ha, hr⟩ := h
  rw [List.mem_replicate] at hr
  obtain ⟨h1, rfl⟩ := hr
  exact ⟨ha, List.count_pos_iff.1 (by omega)⟩

/-- Amid the users of id: the first k of them are told. -/
def mid (I : Int → List Int) (out us : List Int) (u : Int) : Nat := wt I out u - us.count u
def midReady (I : Int → List Int) (n : Nat) (out : List Int) (id : Int) (us : List Int) : List Int := (ids n).filter fun u => !(out ++ [id]).contains u && mid I out us u == 0
theorem mid_start {I : Int → List Int} {n : Nat} {out r : List Int} {id : Int} (h : ready I n out = id :: r) : midReady I n out id [] = r := by
  have hs := ready_sorted I n out
  rw [h, List.pairwise_cons] at hs
  have e : midReady I n out id [] = (ready I n out).filter (fun u => !(u == id)) := by
    unfold midReady ready
    rw [List.filter_filter]
    apply List.filter_congr
    intro u _
    rw [free_iff]
    simp only [mid, List.count_nil, Nat.sub_zero]
    simp [Bool.and_assoc, Bool.and_comm, List.contains_eq_mem]
    grind
  rw [e, h, List.filter_cons]
  simp
  intro a ha
  have := hs.1 a ha
  omega
theorem mid_end {I : Int → List Int} {n : Nat} {out : List Int} {id : Int} (hid : id ∈ ready I n out) {u : Int} (hu : u ∈ ids n) : mid I out (users I n id) u = wt I (out ++ [id]) u := by
  obtain ⟨h1, h2, h3⟩ := mem_ready.1 hid
  unfold mid
  rw [count_users I n id u hu]
  have := wt_push (I := I) (u := u) (show id ≠ 0 by omega) h2
  omega
theorem mid_end_ready {I : Int → List Int} {n : Nat} {out : List Int} {id : Int} (hid : id ∈ ready I n out) : midReady I n out id (users I n id) = ready I n (out ++ [id]) := by
  unfold midReady ready
  apply List.filter_congr
  intro u hu
  rw [free_iff, mid_end hid hu]
/-- One more user is told. -/
theorem mid_pos {I : Int → List Int} {n : Nat} {out a b : List Int} {id u : Int} (hok : Ok I n out) (hid : id ∈ ready I n out) (hu : users I n id = a ++ u :: b) :
    1 ≤ mid I out a u ∧ u ∉ out ++ [id] ∧ 1 ≤ u ∧ u ≤ n ∧ mid I out (a ++ [u]) u + 1 = mid I out a u := by
  have hm : u ∈ users I n id := by rw [hu]; simp
  obtain ⟨hi, hin⟩ := mem_users hm
  obtain ⟨h1, h2, h3⟩ := mem_ready.1 hid
  have hc := count_users I n id u hi
  have hw := wt_push (I := I) (u := u) (show id ≠ 0 by omega) h2
  have hp : 0 < (I u).count id := List.count_pos_iff.2 hin
  rw [hu, List.count_append, List.count_cons_self] at hc
  have hr := mem_ids.1 hi
  refine ⟨by unfold mid; omega, ?_, hr.1, hr.2, by unfold mid; rw [List.count_append]; simp; omega⟩
  intro ho
  rcases List.mem_append.1 ho with ho | ho
  · have := hok.done u ho; omega
  · simp at ho; subst ho; omega
theorem mid_other {I : Int → List Int} {out a : List Int} {u v : Int} (h : v ≠ u) : mid I out (a ++ [u]) v = mid I out a v := by
  unfold mid
  rw [List.count_append]
  have : ¬ (u = v) := fun e => h e.symm
  simp [this]
/-- It still waits: the ready ones are the same. -/
theorem mid_stay {I : Int → List Int} {n : Nat} {out a b : List Int} {id u : Int} (hok : Ok I n out) (hid : id ∈ ready I n out) (hu : users I n id = a ++ u :: b) (h : mid I out (a ++ [u]) u ≠ 0) :
    midReady I n out id (a ++ [u]) = midReady I n out id a := by
  unfold midReady
  apply List.filter_congr
  intro v _
  by_cases e : v = u
  · subst e
    have := (mid_pos hok hid hu).1
    have e1 : (mid I out (a ++ [v]) v == 0) = false := by simp [h]
    have e2 : (mid I out a v == 0) = false := by simp; omega
    rw [e1, e2]
  · rw [mid_other e]
theorem split_sorted {l : List Int} (h : l.Pairwise (· < ·)) {u : Int} (hu : u ∈ l) : ∃ A B, l = A ++ u :: B ∧ (∀ x ∈ A, x < u) ∧ ∀ x ∈ B, u < x := by
  obtain ⟨A, B, rfl⟩ := List.append_of_mem hu
  rw [List.pairwise_append, List.pairwise_cons] at h
  exact ⟨A, B, rfl, fun x hx => h.2.2 x hx u (by simp), fun x hx => h.2.1.1 x hx⟩
/-- It waits no more: it is put among the ready ones, at its place. -/
theorem mid_put {I : Int → List Int} {n : Nat} {out a b : List Int} {id u : Int} {at_ : Nat} (hok : Ok I n out) (hid : id ∈ ready I n out) (hu : users I n id = a ++ u :: b) (h : mid I out (a ++ [u]) u = 0)
    (hl : ∀ j (hj : j < (midReady I n out id a).length), j < at_ → (midReady I n out id a)[j] < u) (hg : ∀ j (hj : j < (midReady I n out id a).length), at_ ≤ j → u ≤ (midReady I n out id a)[j]) (hat : at_ ≤ (midReady I n out id a).length) :
    midReady I n out id (a ++ [u]) = (midReady I n out id a).take at_ ++ u :: (midReady I n out id a).drop at_ := by
  obtain ⟨p1, p2, p3, p4, p5⟩ := mid_pos hok hid hu
  obtain ⟨A, B, hAB, hA, hB⟩ := split_sorted (ids_pairwise n) (mem_ids.2 ⟨p3, p4⟩)
  have hn1 : ((!(out ++ [id]).contains u && mid I out a u == 0)) = false := by
    have : (mid I out a u == 0) = false := by simp; omega
    rw [this]; simp
  have hn2 : ((!(out ++ [id]).contains u && mid I out (a ++ [u]) u == 0)) = true := by
    rw [h]; simpa using p2
  have hc : ∀ l : List Int, (∀ x ∈ l, x ≠ u) → l.filter (fun v => !(out ++ [id]).contains v && mid I out (a ++ [u]) v == 0) = l.filter (fun v => !(out ++ [id]).contains v && mid I out a v == 0) := fun l hl => by
    apply List.filter_congr
    intro v hv
    rw [mid_other (hl v hv)]
  have e1 : midReady I n out id (a ++ [u]) = A.filter (fun v => !(out ++ [id]).contains v && mid I out a v == 0) ++ u :: B.filter (fun v => !(out ++ [id]).contains v && mid I out a v == 0) := by
    unfold midReady
    rw [hAB, List.filter_append, List.filter_cons, if_pos hn2, hc A (fun x hx => by have := hA x hx; omega), hc B (fun x hx => by have := hB x hx; omega)]
  have e2 : midReady I n out id a = A.filter (fun v => !(out ++ [id]).contains v && mid I out a v == 0) ++ B.filter (fun v => !(out ++ [id]).contains v && mid I out a v == 0) := by
    unfold midReady
    rw [hAB, List.filter_append, List.filter_cons, hn1]
    simp
  rw [e1]
  generalize hX : A.filter (fun v => !(out ++ [id]).contains v && mid I out a v == 0) = X at e2
  generalize hY : B.filter (fun v => !(out ++ [id]).contains v && mid I out a v == 0) = Y at e2
  have hXl : ∀ x ∈ X, x < u := fun x hx => by rw [← hX] at hx; exact hA x ((List.mem_filter.1 hx).1)
  have hYl : ∀ x ∈ Y, u < x := fun x hx => by rw [← hY] at hx; exact hB x ((List.mem_filter.1 hx).1)
  generalize midReady I n out id a = M at *
  subst e2
  have hlen : at_ = X.length := by
    rcases Nat.lt_trichotomy at_ X.length with hh | hh | hh
    · have h1 := hg at_ (by rw [List.length_append]; omega) (Nat.le_refl _)
      rw [List.getElem_append_left hh] at h1
      have := hXl _ (List.getElem_mem hh)
      omega
    · exact hh
    · have h1 := hl X.length (by rw [List.length_append] at hat ⊢; omega) hh
      rw [List.length_append] at hat
      rw [List.getElem_append_right (Nat.le_refl _)] at h1
      have := hYl _ (List.getElem_mem (show X.length - X.length < Y.length by omega))
      omega
  subst hlen
  simp

/-- The steps of the order. -/
theorem go_ok (I : Int → List Int) (n k : Nat) : Ok I n (go I n k) := by
  induction k with
  | zero => exact Ok.nil I n
  | succ k ih =>
    rw [go, step]
    split
    · exact ih
    · rename_i id r h
      exact ih.push (by rw [h]; simp)
theorem go_stuck {I : Int → List Int} {n k : Nat} (h : ready I n (go I n k) = []) : ∀ j, go I n (k + j) = go I n k
  | 0 => rfl
  | j + 1 => by rw [← Nat.add_assoc, go, go_stuck h j, step, h]
theorem go_more {I : Int → List Int} {n k : Nat} {id : Int} {r : List Int} (h : ready I n (go I n k) = id :: r) : go I n (k + 1) = go I n k ++ [id] := by rw [go, step, h]
theorem go_len_le (I : Int → List Int) (n k : Nat) : (go I n k).length ≤ k := by
  induction k with
  | zero => simp [go]
  | succ k ih =>
    rw [go, step]
    split
    · omega
    · rw [List.length_append]; simp; omega
theorem len_le_of_nodup {l : List Int} {n : Nat} (h : l.Nodup) (hr : ∀ u ∈ l, 1 ≤ u ∧ u ≤ n) : l.length ≤ n := by
  induction n generalizing l with
  | zero =>
    cases l with
    | nil => simp
    | cons a r => have := hr a (by simp); omega
  | succ n ih =>
    have h1 : (l.erase ((n : Int) + 1)).length ≤ n := ih (h.erase _) fun u hu => by
      have hm := List.mem_of_mem_erase hu
      have := hr u hm
      have hne : u ≠ (n : Int) + 1 := by
        intro e
        subst e
        exact (List.Nodup.not_mem_erase h) hu
      omega
    rw [List.length_erase] at h1
    split at h1 <;> omega
theorem Ok.len {I : Int → List Int} {n : Nat} {out : List Int} (h : Ok I n out) : out.length ≤ n := len_le_of_nodup h.nodup h.rng
/-- Out of fuel or stuck: the order. -/
theorem go_len {I : Int → List Int} {n k : Nat} (h : (go I n k).length = k) : k ≤ n := by have := (go_ok I n k).len; omega
theorem order_of_stuck {I : Int → List Int} {n k : Nat} (hk : (go I n k).length = k) (h : ready I n (go I n k) = []) : order I n = go I n k := by
  have := go_len hk
  unfold order
  obtain ⟨j, rfl⟩ : ∃ j, n = k + j := ⟨n - k, by omega⟩
  exact go_stuck h j
/-- Each one comes behind its ins. -/
theorem go_behind (I : Int → List Int) (n k : Nat) : ∀ a u b, go I n k = a ++ u :: b → wt I a u = 0 := by
  induction k with
  | zero => intro a u b h; simp [go] at h
  | succ k ih =>
    intro a u b h
    rw [go, step] at h
    split at h
    · exact ih a u b h
    · rename_i id r hr
      rcases List.eq_nil_or_concat b with rfl | ⟨b', x, rfl⟩
      · have h2 := List.append_inj' h rfl
        obtain ⟨e1, e2⟩ := h2
        injection e2 with e2
        subst e2
        rw [← e1]
        exact (mem_ready.1 (show id ∈ ready I n (go I n k) by rw [hr]; simp)).2.2
      · rw [List.concat_eq_append, ← List.cons_append, ← List.append_assoc] at h
        exact ih a u b' (List.append_inj' h rfl).1
theorem order_behind (I : Int → List Int) (n : Nat) {a b : List Int} {u : Int} (h : order I n = a ++ u :: b) : ∀ i ∈ I u, i = 0 ∨ i ∈ a := by
  have := go_behind I n n a u b h
  unfold wt at this
  rw [List.length_eq_zero_iff, List.filter_eq_nil_iff] at this
  intro i hi
  have := this i hi
  simp at this
  by_cases h0 : i = 0
  · exact .inl h0
  · exact .inr (this h0)
theorem order_full {I : Int → List Int} {n : Nat} (h : (order I n).length = n) : ∀ u, u ∈ order I n ↔ 1 ≤ u ∧ u ≤ n := by
  intro u
  refine ⟨(go_ok I n n).rng u, fun hu => ?_⟩
  by_cases hm : u ∈ order I n
  · exact hm
  · have h1 : (u :: order I n).length ≤ n := len_le_of_nodup (by rw [List.nodup_cons]; exact ⟨hm, (go_ok I n n).nodup⟩) fun v hv => by
      rcases List.mem_cons.1 hv with rfl | hv
      · exact hu
      · exact (go_ok I n n).rng v hv
    rw [List.length_cons] at h1
    omega
/-- The first free one is the first of the ready ones. -/
theorem ready_first {I : Int → List Int} {n : Nat} {out : List Int} {id : Int} (h1 : 1 ≤ id) (h2 : id ≤ n) (hf : free I out id = true) (hn : ∀ u, 1 ≤ u → u < id → free I out u = false) : ∃ r, ready I n out = id :: r := by
  obtain ⟨A, B, hAB, hA, hB⟩ := split_sorted (ids_pairwise n) (mem_ids.2 ⟨h1, h2⟩)
  refine ⟨B.filter (free I out), ?_⟩
  unfold ready
  rw [hAB, List.filter_append, List.filter_cons, if_pos hf, List.filter_eq_nil_iff.2, List.nil_append]
  intro u hu
  have hm : u ∈ ids n := by rw [hAB]; simp [hu]
  have := hn u (mem_ids.1 hm).1 (hA u hu)
  simp [this]
theorem ready_none {I : Int → List Int} {n : Nat} {out : List Int} (hn : ∀ u : Int, 1 ≤ u → u ≤ n → free I out u = false) : ready I n out = [] := by
  unfold ready
  rw [List.filter_eq_nil_iff]
  intro u hu
  have := mem_ids.1 hu
  simp [hn u this.1 this.2]
theorem order_len_le (I : Int → List Int) (n : Nat) : (order I n).length ≤ n := go_len_le I n n
theorem order_rng (I : Int → List Int) (n : Nat) : ∀ u ∈ order I n, 1 ≤ u ∧ u ≤ n := (go_ok I n n).rng

/-- The nodes' ins are told, up to node i whole, and l of the next one's. -/
def uMid (I : Int → List Int) (i : Nat) (l : List Int) (id : Int) : List Int := if id = 0 then [] else users I i id ++ List.replicate (l.count id) ((i : Int) + 1)
def wMid (I : Int → List Int) (i : Nat) (l : List Int) (u : Int) : Nat := if 1 ≤ u ∧ u ≤ i then wt I [] u else if u = (i : Int) + 1 then (l.filter fun i => !(i == 0)).length else 0
theorem ids_succ (i : Nat) : ids (i + 1) = ids i ++ [((i : Int) + 1)] := by simp [ids, List.range_succ]
theorem wt_nil (I : Int → List Int) (u : Int) : wt I [] u = ((I u).filter fun i => !(i == 0)).length := by
  unfold wt
  congr 1
  apply List.filter_congr
  intro i _
  simp
theorem uMid_zero (I : Int → List Int) : uMid I 0 [] = fun _ => [] := by funext id; simp [uMid, users, ids]
theorem wMid_zero (I : Int → List Int) : wMid I 0 [] = fun _ => 0 := by
  funext u
  unfold wMid
  rw [if_neg (by omega)]
  split <;> simp
theorem uMid_next (I : Int → List Int) (i : Nat) : uMid I i (I ((i : Int) + 1)) = uMid I (i + 1) [] := by
  funext id
  unfold uMid users
  rw [ids_succ, List.flatMap_append]
  simp
theorem wMid_next (I : Int → List Int) (i : Nat) : wMid I i (I ((i : Int) + 1)) = wMid I (i + 1) [] := by
  funext u
  unfold wMid
  by_cases h : u = (i : Int) + 1
  · subst h
    rw [if_neg (by omega), if_pos rfl, if_pos (by omega), wt_nil]
  · by_cases h2 : 1 ≤ u ∧ u ≤ (i : Int)
    · rw [if_pos h2, if_pos (by omega)]
    · rw [if_neg h2, if_neg h, if_neg (by omega)]
      split <;> simp
theorem uMid_zero_in (I : Int → List Int) (i : Nat) (l : List Int) : uMid I i (l ++ [0]) = uMid I i l := by
  funext id
  unfold uMid
  split
  · rfl
  · rename_i h
    have : ¬ (0 = id) := fun e => h e.symm
    simp [List.count_append, this]
theorem wMid_zero_in (I : Int → List Int) (i : Nat) (l : List Int) : wMid I i (l ++ [0]) = wMid I i l := by
  funext u
  unfold wMid
  simp
theorem uMid_in {I : Int → List Int} {i : Nat} {l : List Int} {id : Int} (h : id ≠ 0) (j : Int) : uMid I i (l ++ [id]) j = if j = id then uMid I i l j ++ [(i : Int) + 1] else uMid I i l j := by
  unfold uMid
  by_cases e : j = id
  · subst e
    simp [h, List.count_append, List.replicate_succ']
  · have : ¬ (id = j) := fun q => e q.symm
    simp [e, List.count_append, this]
theorem wMid_in {I : Int → List Int} {i : Nat} {l : List Int} {id : Int} (h : id ≠ 0) (u : Int) : wMid I i (l ++ [id]) u = if u = (i : Int) + 1 then wMid I i l u + 1 else wMid I i l u := by
  unfold wMid
  by_cases e : u = (i : Int) + 1
  · subst e
    rw [if_neg (by omega), if_pos rfl, if_pos rfl, if_neg (by omega), if_pos rfl]
    simp [h]
  · rw [if_neg e, if_neg e, if_neg e]
theorem uMid_end {I : Int → List Int} {n : Nat} {id : Int} (h : id ≠ 0) : uMid I n [] id = users I n id := by simp [uMid, h]
theorem wMid_end {I : Int → List Int} {n : Nat} {u : Int} (h : 1 ≤ u) (h2 : u ≤ n) : wMid I n [] u = wt I [] u := by unfold wMid; rw [if_pos ⟨h, h2⟩]
theorem uMid_len (I : Int → List Int) (i : Nat) (l : List Int) (id : Int) : (uMid I i l id).length ≤ ((ids i).map fun u => (I u).length).sum + l.length := by
  have h1 : ∀ L : List Int, (L.flatMap fun u => List.replicate ((I u).count id) u).length ≤ (L.map fun u => (I u).length).sum := by
    intro L
    induction L with
    | nil => simp
    | cons a r ih =>
      rw [List.flatMap_cons, List.length_append, List.length_replicate, List.map_cons, List.sum_cons]
      have : (I a).count id ≤ (I a).length := List.count_le_length
      omega
  unfold uMid users
  split
  · simp
  · rw [List.length_append, List.length_replicate]
    have := h1 (ids i)
    have : l.count id ≤ l.length := List.count_le_length
    omega
end Kn
end Go.Proofs.YtkmhagjdafeebaaGreat
/- The plain law of layer 11: which nets are right, their order, shapes and loss. -/
namespace Go.Proofs.YtkmhagjdafeebaaGreat
structure NodeD where
  op : OpD
  ins : List Int
  p : List (List Int)
deriving DecidableEq
structure NetD where
  inn : List Int
  nodes : List NodeD
deriving DecidableEq
namespace Nt
def none_ : NodeD := ⟨⟨0, 0, 0, 0, 0, 0, 0, []⟩, [], []⟩
def node (ns : List NodeD) (id : Int) : NodeD := ns.getD (id.toNat - 1) none_
def insF (ns : List NodeD) (id : Int) : List Int := (node ns id).ins
/-- The first op that isn't right, or number that is none. -/
def bads (n : Nat) : List NodeD → Int
  | [] => 0
  | v :: r => if Od.right v.op then (if v.ins.all (fun i => decide (0 ≤ i ∧ i ≤ n)) then bads n r else 11) else 21
def sorted (ns : List NodeD) : List Int := Kn.order (insF ns) ns.length
def pick (sh : List (List Int)) (l : List Int) : List (List Int) := l.map fun i => sh.getD i.toNat []
def layStep (ns : List NodeD) (sh : List (List Int)) (id : Int) : List Int × Int := Od.shape (node ns id).op (node ns id).p (pick sh (node ns id).ins)
def lay (ns : List NodeD) : List (List Int) → List Int → List (List Int) × Int
  | sh, [] => (sh, 0)
  | sh, id :: r => if (layStep ns sh id).2 = 0 then lay ns (sh.set id.toNat (layStep ns sh id).1) r else ([], (layStep ns sh id).2)
def start (n : NetD) : List (List Int) := n.inn :: List.replicate n.nodes.length []
def isUsed (ns : List NodeD) (id : Int) : Bool := ns.any fun v => v.ins.contains id
def nums (n : Nat) : List Int := (List.range (n + 1)).map fun i : Nat => (i : Int)
def unused (ns : List NodeD) : List Int := (nums ns.length).filter fun id => !isUsed ns id
def loss (ns : List NodeD) : Int := (unused ns).getLastD 0
def lossOk (ns : List NodeD) : Bool := decide ((unused ns).length = 1 ∧ loss ns ≠ 0)
def shapes (n : NetD) : List (List Int) := (lay n.nodes (start n) (sorted n.nodes)).1
/-- What is first wrong. -/
def check (n : NetD) : Int :=
  if n.nodes.length < 1 ∨ 512 < n.nodes.length then 12
  else if Sh.right n.inn = false then 20
  else if bads n.nodes.length n.nodes ≠ 0 then bads n.nodes.length n.nodes
  else if (sorted n.nodes).length ≠ n.nodes.length then 22
  else if (lay n.nodes (start n) (sorted n.nodes)).2 ≠ 0 then (lay n.nodes (start n) (sorted n.nodes)).2
  else if lossOk n.nodes = false then 23
  else if Safe.prod ((shapes n).getD (loss n.nodes).toNat []) ≠ 1 then 23
  else 0
def users (n : NetD) (id : Int) : List Int := (Kn.ids n.nodes.length).filter fun u => (insF n.nodes u).contains id
def chainGo (ns : List NodeD) : Int → List Int → Bool
  | _, [] => true
  | last, id :: r => decide (insF ns id = [last]) && chainGo ns id r
def chain (n : NetD) : Bool := decide (check n = 0) && chainGo n.nodes 0 (sorted n.nodes)
def params (n : NetD) : List (List Int) := n.nodes.flatMap (·.p)

theorem bads_take {n : Nat} : ∀ {ns : List NodeD} {k : Nat}, (∀ j (hj : j < ns.length), j < k → Od.right ns[j].op = true ∧ ns[j].ins.all (fun i => decide (0 ≤ i ∧ i ≤ n)) = true) → bads n ns = bads n (ns.drop k)
  | _, 0, _ => by simp
  | [], _ + 1, _ => by simp
  | v :: r, k + 1, h => by
    have h0 := h 0 (by simp) (by omega)
    simp only [List.getElem_cons_zero] at h0
    rw [bads, if_pos h0.1, if_pos h0.2, List.drop_succ_cons]
    exact bads_take fun j hj hk => by have := h (j + 1) (by simp; omega) (by omega); simpa using this
theorem bads_all {n : Nat} {ns : List NodeD} (h : bads n ns = 0) : ∀ v ∈ ns, Od.right v.op = true ∧ ∀ i ∈ v.ins, 0 ≤ i ∧ i ≤ n := by
  induction ns with
  | nil => simp
  | cons v r ih =>
    rw [bads] at h
    split at h
    · rename_i h1
      split at h
      · rename_i h2
        intro u hu
        rcases List.mem_cons.1 hu with rfl | hu
        · exact ⟨h1, by simpa using h2⟩
        · exact ih h u hu
      · simp at h
    · simp at h
theorem node_at {ns : List NodeD} {k : Nat} (h : k < ns.length) : node ns ((k : Int) + 1) = ns[k] := by
  unfold node
  rw [show ((k : Int) + 1).toNat - 1 = k by omega, List.getD_eq_getElem?_getD, List.getElem?_eq_getElem h]
  rfl
theorem node_in {ns : List NodeD} {id : Int} (h : 1 ≤ id ∧ id ≤ ns.length) : ∃ hk : (id - 1).toNat < ns.length, node ns id = ns[(id - 1).toNat] := by
  refine ⟨by omega, ?_⟩
  unfold node
  rw [show id.toNat - 1 = (id - 1).toNat by omega, List.getD_eq_getElem?_getD, List.getElem?_eq_getElem (by omega)]
  rfl
theorem node_mem {ns : List NodeD} {id : Int} (h : 1 ≤ id ∧ id ≤ ns.length) : node ns id ∈ ns := by
  obtain ⟨hk, e⟩ := node_in h
  rw [e]
  exact List.getElem_mem hk

theorem lay_append (ns : List NodeD) : ∀ (a b : List Int) (sh : List (List Int)), lay ns sh (a ++ b) = if (lay ns sh a).2 = 0 then lay ns (lay ns sh a).1 b else ([], (lay ns sh a).2)
  | [], b, sh => by simp [lay]
  | id :: a, b, sh => by
    rw [List.cons_append, lay, lay]
    split
    · exact lay_append ns a b _
    · simp
theorem lay_snoc {ns : List NodeD} {a : List Int} {sh s1 : List (List Int)} {id : Int} (h : lay ns sh a = (s1, 0)) (hs : (layStep ns s1 id).2 = 0) : lay ns sh (a ++ [id]) = (s1.set id.toNat (layStep ns s1 id).1, 0) := by
  rw [lay_append, h]
  simp [lay, hs]
theorem lay_fail {ns : List NodeD} {a b : List Int} {sh s1 : List (List Int)} {id : Int} (h : lay ns sh a = (s1, 0)) (hs : (layStep ns s1 id).2 ≠ 0) : lay ns sh (a ++ id :: b) = ([], (layStep ns s1 id).2) := by
  rw [lay_append, h]
  simp [lay, hs]
theorem lay_len {ns : List NodeD} : ∀ {a : List Int} {sh : List (List Int)}, (lay ns sh a).2 = 0 → (lay ns sh a).1.length = sh.length
  | [], _, _ => rfl
  | id :: a, sh, h => by
    rw [lay] at h ⊢
    split at h
    · rename_i h1; rw [if_pos h1]; rw [lay_len h]; simp
    · rename_i h1; exact absurd h h1
/-- The shapes of what is laid are right. -/
def Good (a : List Int) (sh : List (List Int)) : Prop := ∀ i : Int, (i = 0 ∨ i ∈ a) → Sh.right (sh.getD i.toNat []) = true
theorem Good.push {a : List Int} {sh : List (List Int)} {id : Int} {s : List Int} (h : Good a sh) (hs : Sh.right s = true) (hid : id.toNat < sh.length) (h0 : ∀ i ∈ a, 0 ≤ i) (h1 : 1 ≤ id) : Good (a ++ [id]) (sh.set id.toNat s) := by
  intro i hi
  by_cases e : i = id
  · subst e
    rw [List.getD_eq_getElem?_getD, List.getElem?_set_self hid]
    exact hs
  · have hi' : i = 0 ∨ i ∈ a := by
      rcases hi with hi | hi
      · exact .inl hi
      · rcases List.mem_append.1 hi with hi | hi
        · exact .inr hi
        · simp at hi; exact absurd hi e
    have hn : 0 ≤ i := by
      rcases hi' with rfl | hi'
      · omega
      · exact h0 i hi'
    rw [List.getD_eq_getElem?_getD, List.getElem?_set_ne (by omega), ← List.getD_eq_getElem?_getD]
    exact h i hi'
theorem Good.pick {a : List Int} {sh : List (List Int)} {l : List Int} (h : Good a sh) (hl : ∀ i ∈ l, i = 0 ∨ i ∈ a) : (pick sh l).all Sh.right = true := by
  unfold Nt.pick
  rw [List.all_map, List.all_eq_true]
  intro i hi
  exact h i (hl i hi)
theorem start_good (n : NetD) (h : Sh.right n.inn = true) : Good [] (start n) := by
  intro i hi
  simp at hi
  subst hi
  simpa [start] using h
theorem nums_length (n : Nat) : (nums n).length = n + 1 := by simp [nums]
theorem mem_nums {n : Nat} {u : Int} : u ∈ nums n ↔ 0 ≤ u ∧ u ≤ n := by
  simp only [nums, List.mem_map, List.mem_range]
  constructor
  · rintro ⟨a, h, rfl⟩; omega
  · intro h; exact ⟨u.toNat, by omega, by omega⟩
theorem nums_succ (n : Nat) : nums (n + 1) = nums n ++ [((n + 1 : Nat) : Int)] := by simp [nums, List.range_succ]
theorem chainGo_append (ns : List NodeD) : ∀ (a b : List Int) (l : Int), chainGo ns l (a ++ b) = (chainGo ns l a && chainGo ns (a.getLastD l) b)
  | [], b, l => by simp [chainGo]
  | x :: a, b, l => by
    rw [List.cons_append, chainGo, chainGo, chainGo_append ns a b x, Bool.and_assoc]
    congr 3
    cases a with
    | nil => simp
    | cons y r => simp [List.getLast?_eq_some_getLast (l := y :: r) (by simp)]
theorem loss_mem {ns : List NodeD} (h : lossOk ns = true) : unused ns = [loss ns] ∧ 1 ≤ loss ns ∧ loss ns ≤ ns.length := by
  simp [lossOk] at h
  obtain ⟨h1, h2⟩ := h
  match hu : unused ns, h1 with
  | [a], _ =>
    have e : loss ns = a := by simp [loss, hu]
    have hm : a ∈ unused ns := by rw [hu]; simp
    have := (mem_nums.1 (List.mem_filter.1 hm).1)
    refine ⟨by rw [e], by omega, by omega⟩
/-- A right net, in one. -/
theorem check_ok {n : NetD} (h : check n = 0) : 1 ≤ n.nodes.length ∧ n.nodes.length ≤ 512 ∧ Sh.right n.inn = true ∧ bads n.nodes.length n.nodes = 0 ∧ (sorted n.nodes).length = n.nodes.length ∧ (lay n.nodes (start n) (sorted n.nodes)).2 = 0 ∧ lossOk n.nodes = true ∧ Safe.prod ((shapes n).getD (loss n.nodes).toNat []) = 1 := by
  unfold check at h
  split at h
  · omega
  · rename_i h1
    split at h
    · omega
    · rename_i h2
      split at h
      · rename_i h3; exact absurd h h3
      · rename_i h3
        split at h
        · omega
        · rename_i h4
          split at h
          · rename_i h5; exact absurd h h5
          · rename_i h5
            split at h
            · omega
            · rename_i h6
              split at h
              · omega
              · rename_i h7
                simp at h2 h3 h4 h5 h6 h7
                exact ⟨by omega, by omega, h2, h3, h4, h5, h6, by simpa using h7⟩
/-- All shapes are right behind the prefix a of the order. -/
theorem lay_good {n : NetD} (hin : Sh.right n.inn = true) : ∀ k, k ≤ (sorted n.nodes).length → (lay n.nodes (start n) ((sorted n.nodes).take k)).2 = 0 → Good ((sorted n.nodes).take k) (lay n.nodes (start n) ((sorted n.nodes).take k)).1
  | 0, _, _ => by simpa [lay] using start_good n hin
  | k + 1, hk, h => by
    have hlt : k < (sorted n.nodes).length := by omega
    have hrng : ∀ u ∈ sorted n.nodes, 1 ≤ u ∧ u ≤ n.nodes.length := (Kn.go_ok (insF n.nodes) n.nodes.length n.nodes.length).rng
    rw [List.take_succ_eq_append_getElem hlt] at h ⊢
    rw [lay_append] at h
    split at h
    · rename_i h1
      have ih := lay_good hin k (by omega) h1
      generalize hsh : lay n.nodes (start n) ((sorted n.nodes).take k) = S at *
      obtain ⟨s1, e⟩ := S
      simp at h1
      subst h1
      have hlen : s1.length = n.nodes.length + 1 := by
        have := lay_len (ns := n.nodes) (a := (sorted n.nodes).take k) (sh := start n) (by rw [hsh])
        rw [hsh] at this
        simpa [start] using this
      by_cases hs : (layStep n.nodes s1 (sorted n.nodes)[k]).2 = 0
      · rw [lay_snoc hsh hs]
        have hr := hrng _ (List.getElem_mem hlt)
        exact ih.push (Od.shape_right hs) (by simp only; omega) (fun i hi => by have := hrng i (List.mem_of_mem_take hi); omega) hr.1
      · simp [lay, hs] at h
    · rename_i h1; exact absurd h h1
theorem shapes_good {n : NetD} (h : check n = 0) : ∀ i : Int, 0 ≤ i → i ≤ n.nodes.length → Sh.right ((shapes n).getD i.toNat []) = true := by
  obtain ⟨h1, h2, h3, h4, h5, h6, h7, h8⟩ := check_ok h
  have := lay_good h3 (sorted n.nodes).length (Nat.le_refl _) (by rw [List.take_length]; exact h6)
  rw [List.take_length] at this
  intro i hi hi2
  refine this i ?_
  by_cases h0 : i = 0
  · exact .inl h0
  · exact .inr ((Kn.order_full h5 i).2 ⟨by omega, hi2⟩)
theorem shapes_len {n : NetD} (h : check n = 0) : (shapes n).length = n.nodes.length + 1 := by
  obtain ⟨h1, h2, h3, h4, h5, h6, h7, h8⟩ := check_ok h
  have := lay_len h6
  simpa [shapes, start] using this
end Nt
end Go.Proofs.YtkmhagjdafeebaaGreat
/- Memory of shapes, ops, nodes and nets: what slices of them read as. No program is named here. -/
namespace Go.Proofs.YtkmhagjdafeebaaGreat
open Go.RowKit

/-- A slice of shapes reads as the list ss. -/
def Shps (w : World) (A : Option Addr) (ss : List (List Int)) : Prop :=
  ∀ j (hj : j < ss.length), ∃ b off S c, A = some ⟨b, off, none⟩ ∧ b < w.heap.size ∧ w.cell? ⟨b, off + j, none⟩ = some (.slice S ss[j].length c) ∧ Ints .i64 w S ss[j] ∧ ss[j].length ≤ c ∧ c ≤ 9223372036854775807
section
variable {w w' : World} {A : Option Addr} {ss : List (List Int)} {B : Nat}
theorem Shps.below (h : Shps w A ss) (hb : Below B w w') (hB : w.heap.size ≤ B) : Shps w' A ss := fun j hj => by
  obtain ⟨b, off, S, c, e, hl, hc, hI, h2⟩ := h j hj
  exact ⟨b, off, S, c, e, Nat.lt_of_lt_of_le hl hb.size, (hb.cell (p := ⟨b, off + j, none⟩) (Nat.lt_of_lt_of_le hl hB)).trans hc, hI.below hb hB, h2⟩
theorem Shps.alloc (h : Shps w A ss) (o : Obj) : Shps (w.alloc o) A ss := h.below ((Below.refl _ _).alloc (Nat.le_refl _) o) (Nat.le_refl _)
theorem Shps.drewN (h : Shps w A ss) (n : Nat) : Shps (w.drewN n) A ss := h
theorem Shps.drew (h : Shps w A ss) : Shps w.drew A ss := h
theorem Shps.nil : Shps w A [] := fun j hj => absurd hj (by simp)
theorem Shps.dropped {b off : Nat} (k : Nat) (h : Shps w (some ⟨b, off, none⟩) ss) : Shps w (some ⟨b, off + k, none⟩) (ss.drop k) := fun j hj => by
  rw [List.length_drop] at hj
  obtain ⟨b', off', S, c, e, hl, hc, hI, h2⟩ := h (k + j) (by omega)
  injection e with e
  injection e with e1 e2
  subst e1 e2
  rw [List.getElem_drop]
  exact ⟨b, off + k, S, c, rfl, hl, by rw [Nat.add_assoc]; exact hc, hI, h2⟩
end

/-- The op's value, its shape at S. -/
def opVal (o : OpD) (S : Option Addr) (c : Nat) : Value := .agg #[.int .i64 o.kind, .int .i64 o.k, .int .i64 o.width, .int .i64 o.step, .int .i64 o.side, .int .i64 o.frm, .int .i64 o.to, .slice S o.s.length c]
/-- All numbers are an int's. -/
def OpD.wide (o : OpD) : Prop := ∀ z ∈ [o.kind, o.k, o.width, o.step, o.side, o.frm, o.to], -9223372036854775808 ≤ z ∧ z ≤ 9223372036854775807

/-- A slice of nodes reads as the list ns. -/
def Nodes (w : World) (A : Option Addr) (ns : List NodeD) : Prop :=
  ∀ j (hj : j < ns.length), ∃ b off S c I d Q q, A = some ⟨b, off, none⟩ ∧ b < w.heap.size ∧
    w.cell? ⟨b, off + j * 10, none⟩ = some (.int .i64 ns[j].op.kind) ∧ w.cell? ⟨b, off + j * 10 + 1, none⟩ = some (.int .i64 ns[j].op.k) ∧ w.cell? ⟨b, off + j * 10 + 2, none⟩ = some (.int .i64 ns[j].op.width) ∧
    w.cell? ⟨b, off + j * 10 + 3, none⟩ = some (.int .i64 ns[j].op.step) ∧ w.cell? ⟨b, off + j * 10 + 4, none⟩ = some (.int .i64 ns[j].op.side) ∧ w.cell? ⟨b, off + j * 10 + 5, none⟩ = some (.int .i64 ns[j].op.frm) ∧
    w.cell? ⟨b, off + j * 10 + 6, none⟩ = some (.int .i64 ns[j].op.to) ∧ w.cell? ⟨b, off + j * 10 + 7, none⟩ = some (.slice S ns[j].op.s.length c) ∧
    w.cell? ⟨b, off + j * 10 + 8, none⟩ = some (.slice I ns[j].ins.length d) ∧ w.cell? ⟨b, off + j * 10 + 9, none⟩ = some (.slice Q ns[j].p.length q) ∧
    (Ints .i64 w S ns[j].op.s ∧ ns[j].op.s.length ≤ c ∧ c ≤ 9223372036854775807) ∧ (Ints .i64 w I ns[j].ins ∧ ns[j].ins.length ≤ d ∧ d ≤ 9223372036854775807) ∧ (Shps w Q ns[j].p ∧ ns[j].p.length ≤ q ∧ q ≤ 9223372036854775807)
theorem Nodes.below {B : Nat} {w w' : World} {A : Option Addr} {ns : List NodeD} (h : Nodes w A ns) (hb : Below B w w') (hB : w.heap.size ≤ B) : Nodes w' A ns := fun j hj => by
  obtain ⟨b, off, S, c, I, d, Q, q, e, hl, c0, c1, c2, c3, c4, c5, c6, c7, c8, c9, ⟨h1, h1'⟩, ⟨h2, h2'⟩, h3, h3'⟩ := h j hj
  have hc : ∀ {k v}, w.cell? ⟨b, k, none⟩ = some v → w'.cell? ⟨b, k, none⟩ = some v := fun {k v} hk => (hb.cell (p := ⟨b, k, none⟩) (Nat.lt_of_lt_of_le hl hB)).trans hk
  exact ⟨b, off, S, c, I, d, Q, q, e, Nat.lt_of_lt_of_le hl hb.size, hc c0, hc c1, hc c2, hc c3, hc c4, hc c5, hc c6, hc c7, hc c8, hc c9, ⟨h1.below hb hB, h1'⟩, ⟨h2.below hb hB, h2'⟩, h3.below hb hB, h3'⟩
theorem Nodes.alloc {w : World} {A : Option Addr} {ns : List NodeD} (h : Nodes w A ns) (o : Obj) : Nodes (w.alloc o) A ns := h.below ((Below.refl _ _).alloc (Nat.le_refl _) o) (Nat.le_refl _)
/-- A net's parts read as n. -/
def NetR (w : World) (A N : Option Addr) (n : NetD) : Prop := Ints .i64 w A n.inn ∧ Nodes w N n.nodes
theorem NetR.below {B : Nat} {w w' : World} {A N : Option Addr} {n : NetD} (h : NetR w A N n) (hb : Below B w w') (hB : w.heap.size ≤ B) : NetR w' A N n := ⟨h.1.below hb hB, h.2.below hb hB⟩

/-- The block g is a row of shapes, none of them in the block itself. -/
def ShpRow (w : World) (g : Nat) (t : TypeId) (sh : List (List Int)) : Prop :=
  ∃ vs : List Value, vs.length = sh.length ∧ Blk w g t vs.toArray ∧ ∀ j (hj : j < sh.length), ∃ S c, vs[j]? = some (.slice S sh[j].length c) ∧ Ints .i64 w S sh[j] ∧ sh[j].length ≤ c ∧ c ≤ 9223372036854775807 ∧ ∀ a, S = some a → a.block ≠ g
section
variable {w w' : World} {g : Nat} {t : TypeId} {sh : List (List Int)} {B : Nat}
theorem ShpRow.lt (h : ShpRow w g t sh) : g < w.heap.size := by obtain ⟨vs, _, hb, _⟩ := h; exact hb.lt
theorem ShpRow.below (h : ShpRow w g t sh) (hb : Below B w w') (hB : w.heap.size ≤ B) : ShpRow w' g t sh := by
  obtain ⟨vs, hl, hk, hv⟩ := h
  refine ⟨vs, hl, hk.below hb (Nat.lt_of_lt_of_le hk.lt hB), fun j hj => ?_⟩
  obtain ⟨S, c, e, hI, h2⟩ := hv j hj
  exact ⟨S, c, e, hI.below hb hB, h2⟩
theorem ShpRow.alloc (h : ShpRow w g t sh) (o : Obj) : ShpRow (w.alloc o) g t sh := h.below ((Below.refl _ _).alloc (Nat.le_refl _) o) (Nat.le_refl _)
theorem ShpRow.drewN (h : ShpRow w g t sh) (n : Nat) : ShpRow (w.drewN n) g t sh := h
theorem ShpRow.at_ (h : ShpRow w g t sh) {j : Nat} (hj : j < sh.length) : ∃ S c, w.cell? ⟨g, j, none⟩ = some (.slice S sh[j].length c) ∧ Ints .i64 w S sh[j] ∧ sh[j].length ≤ c ∧ c ≤ 9223372036854775807 ∧ ∀ a, S = some a → a.block ≠ g := by
  obtain ⟨vs, hl, hk, hv⟩ := h
  obtain ⟨S, c, e, h2⟩ := hv j hj
  exact ⟨S, c, by rw [hk.cell j]; simpa using e, h2⟩
theorem ShpRow.shps (h : ShpRow w g t sh) : Shps w (some ⟨g, 0, none⟩) sh := fun j hj => by
  obtain ⟨S, c, hc, hI, h1, h2, _⟩ := h.at_ hj
  exact ⟨g, 0, S, c, rfl, h.lt, by rw [Nat.zero_add]; exact hc, hI, h1, h2⟩
theorem Ints.set_far {k : IntKind} {A : Option Addr} {zs : List Int} (h : Ints k w A zs) {p : Addr} (hp : ∀ a, A = some a → a.block ≠ p.block) (v : Value) : Ints k (w.setCell p v) A zs := fun j hj => by
  obtain ⟨b, off, e, hl, hc⟩ := h j hj
  refine ⟨b, off, e, by simpa using hl, ?_⟩
  have hne : b ≠ p.block := hp _ e
  exact (World.cell?_of_block (w := w) (a := ⟨b, off + j, none⟩) (Below.heap_setCell w p v b hne)).trans hc
theorem ShpRow.set_ (h : ShpRow w g t sh) {i : Nat} {S : Option Addr} {s : List Int} {c : Nat} (hI : Ints .i64 w S s) (hc : s.length ≤ c) (hm : c ≤ 9223372036854775807) (hS : ∀ a, S = some a → a.block ≠ g) :
    ShpRow (w.setCell ⟨g, i, none⟩ (.slice S s.length c)) g t (sh.set i s) := by
  obtain ⟨vs, hl, hk, hv⟩ := h
  refine ⟨vs.set i (.slice S s.length c), by simp [hl], ?_, fun j hj => ?_⟩
  · have := hk.set_ i (.slice S s.length c)
    simpa using this
  · rw [List.length_set] at hj
    by_cases e : i = j
    · subst e
      refine ⟨S, c, by simp [hl, hj], by simpa using hI.set_far (p := ⟨g, i, none⟩) hS _, by simpa using hc, hm, hS⟩
    · obtain ⟨S', c', e', hI', h1, h2, h3⟩ := hv j hj
      refine ⟨S', c', by simp [List.getElem?_set_ne e, e', List.getElem_set_ne e], ?_, by simpa [List.getElem_set_ne e] using h1, h2, h3⟩
      rw [List.getElem_set_ne e]
      exact hI'.set_far (p := ⟨g, i, none⟩) h3 _
theorem ShpRow.new {n : Nat} (h : Blk w g t (List.replicate n (Value.slice none 0 0)).toArray) : ShpRow w g t (List.replicate n []) :=
  ⟨List.replicate n (.slice none 0 0), by simp, h, fun j hj => ⟨none, 0, by simp at hj; simp [hj], by simp at hj; simp [Ints.nil], by simp, by omega, fun a e => by cases e⟩⟩
end
end Go.Proofs.YtkmhagjdafeebaaGreat
/- Layer 10 (op): which ops are right and equal: contracts. -/
namespace Go.Proofs.YtkmhagjdafeebaaGreat
open Go.RowKit

def opCells (o : OpD) (S : Option Addr) (c : Nat) : Array Value := #[.int .i64 o.kind, .int .i64 o.k, .int .i64 o.width, .int .i64 o.step, .int .i64 o.side, .int .i64 o.frm, .int .i64 o.to, .slice S o.s.length c]
def opNums (o : OpD) : Value := .agg #[.int .i64 o.kind, .int .i64 o.k, .int .i64 o.width, .int .i64 o.step, .int .i64 o.side, .int .i64 o.frm, .int .i64 o.to]

theorem below2 (w : World) (a b : Obj) : Below w.heap.size w ((w.alloc a).alloc b) := ((Below.refl _ w).alloc (Nat.le_refl _) a).alloc (by simp) b
theorem below3 (w : World) (a b c : Obj) : Below w.heap.size w (((w.alloc a).alloc b).alloc c) := (below2 w a b).alloc (by simp; omega) c
/-- The op with what its kind uses, its shape where it was, or none. -/
def UsedP (o : OpD) (S : Option Addr) (c : Nat) (w : World) (e : Ending) (w' : World) : Prop :=
  ∃ S' c', e = .returned (.agg #[.int .i64 (Od.used o).kind, .int .i64 (Od.used o).k, .int .i64 (Od.used o).width, .int .i64 (Od.used o).step, .int .i64 (Od.used o).side, .int .i64 (Od.used o).frm, .int .i64 (Od.used o).to, .slice S' (Od.used o).s.length c']) ∧ (S' = S ∧ (Od.used o).s = o.s ∨ (Od.used o).s = []) ∧ Below w.heap.size w w'

set_option maxHeartbeats 1000000 in
theorem op_numbers (o : OpD) (S : Option Addr) (c : Nat) (w : World) :
    Calls Tryz.prog 88 #[.agg #[.int .i64 o.kind, .int .i64 o.k, .int .i64 o.width, .int .i64 o.step, .int .i64 o.side, .int .i64 o.frm, .int .i64 o.to, .slice S o.s.length c]] w fun e w' => e = .returned (.agg #[.int .i64 o.kind, .int .i64 o.k, .int .i64 o.width, .int .i64 o.step, .int .i64 o.side, .int .i64 o.frm, .int .i64 o.to]) ∧ Below w.heap.size w w' := by
  go_enter Tryz.func88, Tryz.ntmps88
  go_wp2_with fail
  refine bodyPost_ret (v := .agg #[.int .i64 o.kind, .int .i64 o.k, .int .i64 o.width, .int .i64 o.step, .int .i64 o.side, .int .i64 o.frm, .int .i64 o.to]) (by simp [results, Tryz.results88, go_sem]) rfl ?_
  exact ⟨rfl, below2 w _ _⟩

set_option maxHeartbeats 2000000 in
set_option maxRecDepth 100000 in
theorem op_used (o : OpD) (S : Option Addr) (c : Nat) (w : World) :
    Calls Tryz.prog 82 #[.agg #[.int .i64 o.kind, .int .i64 o.k, .int .i64 o.width, .int .i64 o.step, .int .i64 o.side, .int .i64 o.frm, .int .i64 o.to, .slice S o.s.length c]] w (UsedP o S c w) := by
  obtain ⟨kind, k, width, step, side, frm, tz, s⟩ := o
  by_cases hk : kind = 2 ∨ kind = 5 ∨ kind = 10 ∨ kind = 11 ∨ kind = 12 ∨ kind = 13 ∨ kind = 14 ∨ kind = 15
  · rcases hk with rfl | rfl | rfl | rfl | rfl | rfl | rfl | rfl
    all_goals
      go_enter Tryz.func82, Tryz.ntmps82
      go_wp2_with fail
      try go_region_with (fail)
    all_goals try go_wp2_with fail
    all_goals refine bodyPost_ret (by simp [results, Tryz.results82, go_sem]; rfl) rfl ?_
    all_goals refine ⟨_, _, rfl, by simp [Od.used], ?_⟩
    all_goals (repeat' first | exact Below.refl _ _ | exact below3 _ _ _ _ | refine Below.drew ?_ | refine Below.setCell ?_ (by simp) _ | refine Below.alloc ?_ (by simp) _)
  · have n2 : (kind == 2) = false := by simp; omega
    have n5 : (kind == 5) = false := by simp; omega
    have n10 : (kind == 10) = false := by simp; omega
    have n11 : (kind == 11) = false := by simp; omega
    have n12 : (kind == 12) = false := by simp; omega
    have n13 : (kind == 13) = false := by simp; omega
    have n14 : (kind == 14) = false := by simp; omega
    have n15 : (kind == 15) = false := by simp; omega
    have HU := Lib.hid (show Od.used ⟨kind, k, width, step, side, frm, tz, s⟩ = ⟨kind, 0, 0, 0, 0, 0, 0, []⟩ by unfold Od.used; simp only; rw [if_neg (by omega), if_neg (by omega), if_neg (by omega), if_neg (by omega), if_neg (by omega), if_neg (by omega)])
    clear hk
    go_enter Tryz.func82, Tryz.ntmps82
    go_wp2_with fail
    refine bodyPost_ret (by simp [results, Tryz.results82, go_sem]; rfl) rfl ?_
    exact ⟨none, 0, by rw [HU.out]; rfl, .inr (by rw [HU.out]), below3 w _ _ _⟩
end Go.Proofs.YtkmhagjdafeebaaGreat
/- Layer 10 (op): equal and right ops: contracts. -/
namespace Go.Proofs.YtkmhagjdafeebaaGreat
open Go.RowKit

theorem arr_stood : Tryz.prog.stoodInHeld 169 = false := by kernel_rfl
theorem arr_guard : Tryz.prog.eqGuardType Tryz.prog.depth 169 = false := by kernel_rfl
theorem i64_one : Tryz.prog.cellsOf 2 = 1 := by kernel_rfl
theorem run_eql_nums (w : World) (a0 a1 a2 a3 a4 a5 a6 b0 b1 b2 b3 b4 b5 b6 : Int) : (binOp .eql 169 (.agg #[.int .i64 a0, .int .i64 a1, .int .i64 a2, .int .i64 a3, .int .i64 a4, .int .i64 a5, .int .i64 a6]) (.agg #[.int .i64 b0, .int .i64 b1, .int .i64 b2, .int .i64 b3, .int .i64 b4, .int .i64 b5, .int .i64 b6])).run Tryz.prog w =
    .ok (.bool (a0 == b0 && a1 == b1 && a2 == b2 && a3 == b3 && a4 == b4 && a5 == b5 && a6 == b6)) w := by
  obtain ⟨i0, hi, _, _, _⟩ := info_parts i64_info
  have hA := run_equalIn_array (P := Tryz.prog) (w := w) 9999 #[.int .i64 a0, .int .i64 a1, .int .i64 a2, .int .i64 a3, .int .i64 a4, .int .i64 a5, .int .i64 a6] #[.int .i64 b0, .int .i64 b1, .int .i64 b2, .int .i64 b3, .int .i64 b4, .int .i64 b5, .int .i64 b6] Tryz.underlying169 hi
  rw [i64_one] at hA
  have g1 := arr_stood
  have g2 := arr_guard
  simp [go_sem]
  rw [hA]
  rw [show List.range 7 = [0, 1, 2, 3, 4, 5, 6] from rfl]
  clear hA
  cases h0 : (a0 == b0)
  · simp [Op.eqItems, go_sem, h0]
  cases h1 : (a1 == b1)
  · simp [Op.eqItems, go_sem, h0, h1]
  cases h2 : (a2 == b2)
  · simp [Op.eqItems, go_sem, h0, h1, h2]
  cases h3 : (a3 == b3)
  · simp [Op.eqItems, go_sem, h0, h1, h2, h3]
  cases h4 : (a4 == b4)
  · simp [Op.eqItems, go_sem, h0, h1, h2, h3, h4]
  cases h5 : (a5 == b5)
  · simp [Op.eqItems, go_sem, h0, h1, h2, h3, h4, h5]
  cases h6 : (a6 == b6)
  all_goals simp [Op.eqItems, go_sem, h0, h1, h2, h3, h4, h5, h6]

theorem op_eq_iff (o q : OpD) : decide (o = q) = ((o.kind == q.kind && o.k == q.k && o.width == q.width && o.step == q.step && o.side == q.side && o.frm == q.frm && o.to == q.to) && (o.s == q.s)) := by
  obtain ⟨a0, a1, a2, a3, a4, a5, a6, a7⟩ := o
  obtain ⟨b0, b1, b2, b3, b4, b5, b6, b7⟩ := q
  rw [Bool.eq_iff_iff]
  simp [and_assoc]

set_option maxHeartbeats 4000000 in
theorem op_equal (o q : OpD) (S T : Option Addr) (c d : Nat) (w : World) (ho : o.s.length ≤ 17592186043904) (hq : q.s.length ≤ 17592186043904) (hI : Ints .i64 w S o.s) (hJ : Ints .i64 w T q.s) :
    Calls Tryz.prog 81 #[.agg #[.int .i64 o.kind, .int .i64 o.k, .int .i64 o.width, .int .i64 o.step, .int .i64 o.side, .int .i64 o.frm, .int .i64 o.to, .slice S o.s.length c], .agg #[.int .i64 q.kind, .int .i64 q.k, .int .i64 q.width, .int .i64 q.step, .int .i64 q.side, .int .i64 q.frm, .int .i64 q.to, .slice T q.s.length d]] w fun e w' => e = .returned (.bool (decide (o = q))) ∧ Below w.heap.size w w' := by
  have hrun := fun W => run_eql_nums W o.kind o.k o.width o.step o.side o.frm o.to q.kind q.k q.width q.step q.side q.frm q.to
  have HE := Lib.hid (op_eq_iff o q)
  have hk0 := (Blk.new w 39 #[.int .i64 o.kind, .int .i64 o.k, .int .i64 o.width, .int .i64 o.step, .int .i64 o.side, .int .i64 o.frm, .int .i64 o.to, .slice S o.s.length c]).alloc (.cells #[.int .i64 q.kind, .int .i64 q.k, .int .i64 q.width, .int .i64 q.step, .int .i64 q.side, .int .i64 q.frm, .int .i64 q.to, .slice T q.s.length d] 39)
  have hk1 := Blk.new (w.alloc (.cells #[.int .i64 o.kind, .int .i64 o.k, .int .i64 o.width, .int .i64 o.step, .int .i64 o.side, .int .i64 o.frm, .int .i64 o.to, .slice S o.s.length c] 39)) 39 #[.int .i64 q.kind, .int .i64 q.k, .int .i64 q.width, .int .i64 q.step, .int .i64 q.side, .int .i64 q.frm, .int .i64 q.to, .slice T q.s.length d]
  have hb0 := below2 w (.cells #[.int .i64 o.kind, .int .i64 o.k, .int .i64 o.width, .int .i64 o.step, .int .i64 o.side, .int .i64 o.frm, .int .i64 o.to, .slice S o.s.length c] 39) (.cells #[.int .i64 q.kind, .int .i64 q.k, .int .i64 q.width, .int .i64 q.step, .int .i64 q.side, .int .i64 q.frm, .int .i64 q.to, .slice T q.s.length d] 39)
  rw [World.size_alloc] at hk1
  go_enter Tryz.func81, Tryz.ntmps81
  go_wp2_with fail
  generalize ((w.alloc (.cells #[.int .i64 o.kind, .int .i64 o.k, .int .i64 o.width, .int .i64 o.step, .int .i64 o.side, .int .i64 o.frm, .int .i64 o.to, .slice S o.s.length c] 39)).alloc (.cells #[.int .i64 q.kind, .int .i64 q.k, .int .i64 q.width, .int .i64 q.step, .int .i64 q.side, .int .i64 q.frm, .int .i64 q.to, .slice T q.s.length d] 39)) = w0 at *
  have hlt0 := hk0.lt
  have hlt1 := hk1.lt
  have hcells : ∀ W, Below w0.heap.size w0 W → W.cell? ⟨w.heap.size, 0, none⟩ = some (.int .i64 o.kind) ∧ W.cell? ⟨w.heap.size, 1, none⟩ = some (.int .i64 o.k) ∧ W.cell? ⟨w.heap.size, 2, none⟩ = some (.int .i64 o.width) ∧ W.cell? ⟨w.heap.size, 3, none⟩ = some (.int .i64 o.step) ∧ W.cell? ⟨w.heap.size, 4, none⟩ = some (.int .i64 o.side) ∧ W.cell? ⟨w.heap.size, 5, none⟩ = some (.int .i64 o.frm) ∧ W.cell? ⟨w.heap.size, 6, none⟩ = some (.int .i64 o.to) ∧ W.cell? ⟨w.heap.size, 7, none⟩ = some (.slice S o.s.length c) ∧ W.cell? ⟨w.heap.size + 1, 0, none⟩ = some (.int .i64 q.kind) ∧ W.cell? ⟨w.heap.size + 1, 1, none⟩ = some (.int .i64 q.k) ∧ W.cell? ⟨w.heap.size + 1, 2, none⟩ = some (.int .i64 q.width) ∧ W.cell? ⟨w.heap.size + 1, 3, none⟩ = some (.int .i64 q.step) ∧ W.cell? ⟨w.heap.size + 1, 4, none⟩ = some (.int .i64 q.side) ∧ W.cell? ⟨w.heap.size + 1, 5, none⟩ = some (.int .i64 q.frm) ∧ W.cell? ⟨w.heap.size + 1, 6, none⟩ = some (.int .i64 q.to) ∧ W.cell? ⟨w.heap.size + 1, 7, none⟩ = some (.slice T q.s.length d) := fun W hW => by
    have k0 := hk0.below hW hlt0
    have k1 := hk1.below hW hlt1
    have e := fun i => k0.cell i
    have f := fun i => k1.cell i
    refine ⟨?_, ?_, ?_, ?_, ?_, ?_, ?_, ?_, ?_, ?_, ?_, ?_, ?_, ?_, ?_, ?_⟩
    all_goals first | (rw [e]; rfl) | (rw [f]; rfl)
  have hself : Below w0.heap.size w0 w0.drew := (Below.refl _ _).drew
  have hall := hcells _ hself
  generalize hbv : (o.kind == q.kind && o.k == q.k && o.width == q.width && o.step == q.step && o.side == q.side && o.frm == q.frm && o.to == q.to) = bv at *
  have Hcells := Lib.hid hcells
  have HI := Lib.hid hI
  have HJ := Lib.hid hJ
  have Hk0 := Lib.hid hk0
  have Hk1 := Lib.hid hk1
  have Hbv := Lib.hid hbv
  clear hcells hI hJ hk0 hk1 hbv
  obtain ⟨x0, x1, x2, x3, x4, x5, x6, x7, y0, y1, y2, y3, y4, y5, y6, y7⟩ := hall
  cases bv
  · first
      | (go_region_with (first
          | (go_at_call_of 88 (Value.agg #[.int .i64 o.kind, .int .i64 o.k, .int .i64 o.width, .int .i64 o.step, .int .i64 o.side, .int .i64 o.frm, .int .i64 o.to, .slice S o.s.length c]); refine (op_numbers o S c _).mono ?_; rintro e wa ⟨rfl, ha⟩; have hbb := hself.trans (ha.mono hself.size); obtain ⟨u0, u1, u2, u3, u4, u5, u6, u7, u8, u9, u10, u11, u12, u13, u14, u15⟩ := Hcells.out _ hbb)
          | (go_at_call 88; refine (op_numbers q T d _).mono ?_; rintro e wb ⟨rfl, hb⟩; have hbb := hbb.trans (hb.mono hbb.size); obtain ⟨v0, v1, v2, v3, v4, v5, v6, v7, v8, v9, v10, v11, v12, v13, v14, v15⟩ := Hcells.out _ hbb)))
      | skip
    all_goals
      go_wp2_with fail
      go_ret
      exact ⟨by rw [HE.out]; rfl, hb0.trans (hbb.mono hb0.size)⟩
  · go_region_held3 (fun W => W.cell? ⟨w.heap.size, 0, none⟩ = some (.int .i64 o.kind) ∧ W.cell? ⟨w.heap.size, 1, none⟩ = some (.int .i64 o.k) ∧ W.cell? ⟨w.heap.size, 2, none⟩ = some (.int .i64 o.width) ∧ W.cell? ⟨w.heap.size, 3, none⟩ = some (.int .i64 o.step) ∧ W.cell? ⟨w.heap.size, 4, none⟩ = some (.int .i64 o.side) ∧ W.cell? ⟨w.heap.size, 5, none⟩ = some (.int .i64 o.frm) ∧ W.cell? ⟨w.heap.size, 6, none⟩ = some (.int .i64 o.to) ∧ W.cell? ⟨w.heap.size, 7, none⟩ = some (.slice S o.s.length c) ∧ W.cell? ⟨w.heap.size + 1, 0, none⟩ = some (.int .i64 q.kind) ∧ W.cell? ⟨w.heap.size + 1, 1, none⟩ = some (.int .i64 q.k) ∧ W.cell? ⟨w.heap.size + 1, 2, none⟩ = some (.int .i64 q.width) ∧ W.cell? ⟨w.heap.size + 1, 3, none⟩ = some (.int .i64 q.step) ∧ W.cell? ⟨w.heap.size + 1, 4, none⟩ = some (.int .i64 q.side) ∧ W.cell? ⟨w.heap.size + 1, 5, none⟩ = some (.int .i64 q.frm) ∧ W.cell? ⟨w.heap.size + 1, 6, none⟩ = some (.int .i64 q.to) ∧ W.cell? ⟨w.heap.size + 1, 7, none⟩ = some (.slice T q.s.length d)) (first | exact Hcells.out _ hbc | exact Hcells.out _ hbb | exact Hcells.out _ hself)
      (first
        | (go_at_call_of 88 (Value.agg #[.int .i64 o.kind, .int .i64 o.k, .int .i64 o.width, .int .i64 o.step, .int .i64 o.side, .int .i64 o.frm, .int .i64 o.to, .slice S o.s.length c]); refine (op_numbers o S c _).mono ?_; rintro e wa ⟨rfl, ha⟩; have hbb := hself.trans (ha.mono hself.size))
        | (go_at_call 88; refine (op_numbers q T d _).mono ?_; rintro e wb ⟨rfl, hb⟩; have hbb := hbb.trans (hb.mono hbb.size))
        | (go_at_call 17; refine (shape_equal S T c d o.s q.s _ ho hq (HI.out.below (hb0.trans (hbb.mono hb0.size)) (Nat.le_refl _)) (HJ.out.below (hb0.trans (hbb.mono hb0.size)) (Nat.le_refl _))).mono ?_; rintro e wd ⟨rfl, nd, rfl⟩; have hbc := Bdrawn hbb nd))
    all_goals
      go_wp2_with fail
      go_ret
      exact ⟨by rw [HE.out]; rfl, hb0.trans (hbc.mono hb0.size)⟩
end Go.Proofs.YtkmhagjdafeebaaGreat
/- Layer 10 (op): right ops, how many ins and parameters: contracts. -/
namespace Go.Proofs.YtkmhagjdafeebaaGreat
open Go.RowKit

theorem used_len (o : OpD) : (Od.used o).s.length ≤ o.s.length := by
  unfold Od.used
  repeat' split
  all_goals simp
set_option maxHeartbeats 4000000 in
theorem op_right (o : OpD) (S : Option Addr) (c : Nat) (w : World) (ho : o.s.length ≤ 17592186043904) (hI : Ints .i64 w S o.s) :
    Calls Tryz.prog 76 #[.agg #[.int .i64 o.kind, .int .i64 o.k, .int .i64 o.width, .int .i64 o.step, .int .i64 o.side, .int .i64 o.frm, .int .i64 o.to, .slice S o.s.length c]] w fun e w' => e = .returned (.bool (Od.right o)) ∧ Below w.heap.size w w' := by
  have hk0 := Blk.new w 39 #[.int .i64 o.kind, .int .i64 o.k, .int .i64 o.width, .int .i64 o.step, .int .i64 o.side, .int .i64 o.frm, .int .i64 o.to, .slice S o.s.length c]
  have hb0 : Below w.heap.size w (w.alloc (.cells #[.int .i64 o.kind, .int .i64 o.k, .int .i64 o.width, .int .i64 o.step, .int .i64 o.side, .int .i64 o.frm, .int .i64 o.to, .slice S o.s.length c] 39)) := (Below.refl _ _).alloc (Nat.le_refl _) _
  have hlt0 := hk0.lt
  have hul := used_len o
  by_cases h1 : 1 ≤ o.kind
  case neg =>
    have HR := Lib.hid (show Od.right o = false by simp [Od.right]; omega)
    have d1 : decide (1 ≤ o.kind) = false := by simp; omega
    have d1' : decide (o.kind ≥ 1) = false := d1
    go_enter Tryz.func76, Tryz.ntmps76
    go_wp2_with fail
    first
      | (go_region_with (fail))
      | skip
    all_goals
      go_wp2_with fail
      go_ret
      exact ⟨by rw [HR.out]; rfl, by first | exact hb0 | exact hb0.drew⟩
  by_cases h15 : o.kind ≤ 15
  case neg =>
    have HR := Lib.hid (show Od.right o = false by simp [Od.right]; omega)
    have d1 : decide (1 ≤ o.kind) = true := by simp; omega
    have d2 : decide (o.kind ≤ 15) = false := by simp; omega
    go_enter Tryz.func76, Tryz.ntmps76
    go_wp2_with fail
    first
      | (go_region_with (fail))
      | skip
    all_goals
      go_wp2_with fail
      go_ret
      exact ⟨by rw [HR.out]; rfl, by first | exact hb0 | exact hb0.drew⟩
  have HR := Lib.hid (show Od.right o = decide (o = Od.used o) by simp [Od.right, h1, h15])
  have d1 : decide (1 ≤ o.kind) = true := by simp; omega
  have d2 : decide (o.kind ≤ 15) = true := by simp; omega
  go_enter Tryz.func76, Tryz.ntmps76
  go_wp2_with fail
  generalize (w.alloc (.cells #[.int .i64 o.kind, .int .i64 o.k, .int .i64 o.width, .int .i64 o.step, .int .i64 o.side, .int .i64 o.frm, .int .i64 o.to, .slice S o.s.length c] 39)) = w0 at *
  have hcells : ∀ W, Below w0.heap.size w0 W → W.cell? ⟨w.heap.size, 0, none⟩ = some (.int .i64 o.kind) ∧ W.cell? ⟨w.heap.size, 1, none⟩ = some (.int .i64 o.k) ∧ W.cell? ⟨w.heap.size, 2, none⟩ = some (.int .i64 o.width) ∧ W.cell? ⟨w.heap.size, 3, none⟩ = some (.int .i64 o.step) ∧ W.cell? ⟨w.heap.size, 4, none⟩ = some (.int .i64 o.side) ∧ W.cell? ⟨w.heap.size, 5, none⟩ = some (.int .i64 o.frm) ∧ W.cell? ⟨w.heap.size, 6, none⟩ = some (.int .i64 o.to) ∧ W.cell? ⟨w.heap.size, 7, none⟩ = some (.slice S o.s.length c) := fun W hW => by
    have k0 := hk0.below hW hlt0
    have e := fun i => k0.cell i
    refine ⟨?_, ?_, ?_, ?_, ?_, ?_, ?_, ?_⟩
    all_goals (rw [e]; rfl)
  have hself : Below w0.heap.size w0 w0.drew := (Below.refl _ _).drew
  obtain ⟨x0, x1, x2, x3, x4, x5, x6, x7⟩ := hcells _ hself
  have Hcells := Lib.hid hcells
  have HI := Lib.hid hI
  have Hk0 := Lib.hid hk0
  clear hcells hI hk0
  go_region_held3 (fun W => W.cell? ⟨w.heap.size, 0, none⟩ = some (.int .i64 o.kind) ∧ W.cell? ⟨w.heap.size, 1, none⟩ = some (.int .i64 o.k) ∧ W.cell? ⟨w.heap.size, 2, none⟩ = some (.int .i64 o.width) ∧ W.cell? ⟨w.heap.size, 3, none⟩ = some (.int .i64 o.step) ∧ W.cell? ⟨w.heap.size, 4, none⟩ = some (.int .i64 o.side) ∧ W.cell? ⟨w.heap.size, 5, none⟩ = some (.int .i64 o.frm) ∧ W.cell? ⟨w.heap.size, 6, none⟩ = some (.int .i64 o.to) ∧ W.cell? ⟨w.heap.size, 7, none⟩ = some (.slice S o.s.length c)) (first | exact Hcells.out _ hbc | exact Hcells.out _ hbb | exact Hcells.out _ hself)
    (first
      | (go_at_call 82; refine (op_used o S c _).mono ?_; rintro e wa ⟨S', c', rfl, hcase, ha⟩; have hbb := hself.trans (ha.mono hself.size); have HC := Lib.hid hcase; clear hcase)
      | (go_at_call 81; refine (op_equal o (Od.used o) S S' c c' _ ho (by omega) (HI.out.below (hb0.trans (hbb.mono hb0.size)) (Nat.le_refl _)) (by rcases HC.out with ⟨e1, e2⟩ | e2; (rw [e1, e2]; exact HI.out.below (hb0.trans (hbb.mono hb0.size)) (Nat.le_refl _)); (rw [e2]; exact Ints.nil))).mono ?_; rintro e wd ⟨rfl, hd⟩; have hbc := hbb.trans (hd.mono hbb.size)))
  all_goals
    go_wp2_with fail
    go_ret
    exact ⟨by rw [HR.out]; rfl, hb0.trans (hbc.mono hb0.size)⟩
end Go.Proofs.YtkmhagjdafeebaaGreat
/- Layer 10 (op): how many ins and parameters: contracts. -/
namespace Go.Proofs.YtkmhagjdafeebaaGreat
open Go.RowKit

theorem op_cells {W : World} {g : Nat} {t : TypeId} {o : OpD} {S : Option Addr} {c : Nat} (h : Blk W g t #[.int .i64 o.kind, .int .i64 o.k, .int .i64 o.width, .int .i64 o.step, .int .i64 o.side, .int .i64 o.frm, .int .i64 o.to, .slice S o.s.length c]) :
    W.cell? ⟨g, 0, none⟩ = some (.int .i64 o.kind) ∧ W.cell? ⟨g, 1, none⟩ = some (.int .i64 o.k) ∧ W.cell? ⟨g, 2, none⟩ = some (.int .i64 o.width) ∧ W.cell? ⟨g, 3, none⟩ = some (.int .i64 o.step) ∧ W.cell? ⟨g, 4, none⟩ = some (.int .i64 o.side) ∧ W.cell? ⟨g, 5, none⟩ = some (.int .i64 o.frm) ∧ W.cell? ⟨g, 6, none⟩ = some (.int .i64 o.to) ∧ W.cell? ⟨g, 7, none⟩ = some (.slice S o.s.length c) := by
  have e := fun i => h.cell i
  refine ⟨?_, ?_, ?_, ?_, ?_, ?_, ?_, ?_⟩
  all_goals (rw [e]; rfl)

set_option maxHeartbeats 1000000 in
theorem point_ins (k : Int) (w : World) : Calls Tryz.prog 108 #[.int .i64 k] w fun e w' => e = .returned (.int .i64 (Od.ptIns k)) ∧ w = w' := by
  by_cases h : 1 ≤ k ∧ k ≤ 7
  · have hk : k = 1 ∨ k = 2 ∨ k = 3 ∨ k = 4 ∨ k = 5 ∨ k = 6 ∨ k = 7 := by omega
    rcases hk with rfl | rfl | rfl | rfl | rfl | rfl | rfl
    all_goals
      go_enter Tryz.func108, Tryz.ntmps108
      go_wp2_with fail
      go_ret
      exact ⟨rfl, rfl⟩
  · have HP := Lib.hid (show Od.ptIns k = 0 by unfold Od.ptIns; rw [if_neg (by omega), if_neg (by omega)])
    have n1 : (k == 1) = false := by simp; omega
    have n2 : (k == 2) = false := by simp; omega
    have n3 : (k == 3) = false := by simp; omega
    have n4 : (k == 4) = false := by simp; omega
    have n5 : (k == 5) = false := by simp; omega
    have n6 : (k == 6) = false := by simp; omega
    have n7 : (k == 7) = false := by simp; omega
    clear h
    go_enter Tryz.func108, Tryz.ntmps108
    go_wp2_with fail
    go_ret
    exact ⟨by rw [HP.out]; rfl, rfl⟩

set_option maxHeartbeats 1000000 in
theorem op_ins (o : OpD) (S : Option Addr) (c : Nat) (w : World) (ho : o.s.length ≤ 17592186043904) (hI : Ints .i64 w S o.s) :
    Calls Tryz.prog 103 #[.agg #[.int .i64 o.kind, .int .i64 o.k, .int .i64 o.width, .int .i64 o.step, .int .i64 o.side, .int .i64 o.frm, .int .i64 o.to, .slice S o.s.length c]] w fun e w' => e = .returned (.tuple #[.int .i64 (Od.least o), .int .i64 (Od.most o)]) ∧ Below w.heap.size w w' := by
  have hk0 := Blk.new w 39 #[.int .i64 o.kind, .int .i64 o.k, .int .i64 o.width, .int .i64 o.step, .int .i64 o.side, .int .i64 o.frm, .int .i64 o.to, .slice S o.s.length c]
  have hb0 : Below w.heap.size w (w.alloc (.cells #[.int .i64 o.kind, .int .i64 o.k, .int .i64 o.width, .int .i64 o.step, .int .i64 o.side, .int .i64 o.frm, .int .i64 o.to, .slice S o.s.length c] 39)) := (Below.refl _ _).alloc (Nat.le_refl _) _
  have hlt0 := hk0.lt
  have hr := op_right o S c (w.alloc (.cells #[.int .i64 o.kind, .int .i64 o.k, .int .i64 o.width, .int .i64 o.step, .int .i64 o.side, .int .i64 o.frm, .int .i64 o.to, .slice S o.s.length c] 39)) ho (hI.alloc _)
  cases hq : Od.right o
  · have HL := Lib.hid (show Od.least o = 0 ∧ Od.most o = 0 by simp [Od.least, Od.most, hq])
    rw [hq] at hr
    have Hr := Lib.hid hr
    have Hk0 := Lib.hid hk0
    have Hq := Lib.hid hq
    have HI := Lib.hid hI
    clear hr hk0 hq hI
    go_enter Tryz.func103, Tryz.ntmps103
    go_wp2_with fail
    refine (Hr.out).mono ?_
    rintro e w1 ⟨rfl, h1⟩
    go_wp2_with fail
    go_ret2
    exact ⟨by rw [HL.out.1, HL.out.2]; rfl, hb0.trans (h1.mono hb0.size)⟩
  · have hkd := Od.right_kind hq
    rw [hq] at hr
    by_cases h7 : o.kind ≤ 7
    · have HL := Lib.hid (show Od.least o = Od.ptIns o.kind ∧ Od.most o = Od.ptIns o.kind by simp [Od.least, Od.most, hq, h7])
      have Hr := Lib.hid hr
      have Hk0 := Lib.hid hk0
      have Hq := Lib.hid hq
      have HI := Lib.hid hI
      clear hr hk0 hq hI
      go_enter Tryz.func103, Tryz.ntmps103
      go_wp2_with fail
      refine (Hr.out).mono ?_
      rintro e w1 ⟨rfl, h1⟩
      obtain ⟨x0, -⟩ := op_cells (Hk0.out.below h1 hlt0)
      go_wp2_with fail
      refine (point_ins o.kind _).mono ?_
      rintro e w2 ⟨rfl, rfl⟩
      go_wp2_with fail
      go_ret2
      exact ⟨by rw [HL.out.1, HL.out.2]; rfl, hb0.trans (h1.mono hb0.size)⟩
    · by_cases h13 : o.kind = 13
      · have HL := Lib.hid (show Od.least o = 1 ∧ Od.most o = 8 by simp [Od.least, Od.most, hq, h13])
        have Hr := Lib.hid hr
        have Hk0 := Lib.hid hk0
        have Hq := Lib.hid hq
        have HI := Lib.hid hI
        have H13 := Lib.hid h13
        clear hr hk0 hq hI h13
        go_enter Tryz.func103, Tryz.ntmps103
        go_wp2_with fail
        refine (Hr.out).mono ?_
        rintro e w1 ⟨rfl, h1⟩
        obtain ⟨x0, -⟩ := op_cells (Hk0.out.below h1 hlt0)
        rw [H13.out] at x0
        go_wp2_with fail
        go_ret2
        exact ⟨by rw [HL.out.1, HL.out.2]; rfl, hb0.trans (h1.mono hb0.size)⟩
      · have HL := Lib.hid (show Od.least o = 1 ∧ Od.most o = 1 by simp [Od.least, Od.most, hq, h13, h7])
        have n13 : (o.kind == 13) = false := by simp; omega
        have Hr := Lib.hid hr
        have Hk0 := Lib.hid hk0
        have Hq := Lib.hid hq
        have HI := Lib.hid hI
        clear hr hk0 hq hI
        go_enter Tryz.func103, Tryz.ntmps103
        go_wp2_with fail
        refine (Hr.out).mono ?_
        rintro e w1 ⟨rfl, h1⟩
        obtain ⟨x0, -⟩ := op_cells (Hk0.out.below h1 hlt0)
        go_wp2_with fail
        go_ret2
        exact ⟨by rw [HL.out.1, HL.out.2]; rfl, hb0.trans (h1.mono hb0.size)⟩

set_option maxHeartbeats 1000000 in
theorem op_params (o : OpD) (S : Option Addr) (c : Nat) (w : World) (ho : o.s.length ≤ 17592186043904) (hI : Ints .i64 w S o.s) :
    Calls Tryz.prog 104 #[.agg #[.int .i64 o.kind, .int .i64 o.k, .int .i64 o.width, .int .i64 o.step, .int .i64 o.side, .int .i64 o.frm, .int .i64 o.to, .slice S o.s.length c]] w fun e w' => e = .returned (.int .i64 (Od.params o)) ∧ Below w.heap.size w w' := by
  have hk0 := Blk.new w 39 #[.int .i64 o.kind, .int .i64 o.k, .int .i64 o.width, .int .i64 o.step, .int .i64 o.side, .int .i64 o.frm, .int .i64 o.to, .slice S o.s.length c]
  have hb0 : Below w.heap.size w (w.alloc (.cells #[.int .i64 o.kind, .int .i64 o.k, .int .i64 o.width, .int .i64 o.step, .int .i64 o.side, .int .i64 o.frm, .int .i64 o.to, .slice S o.s.length c] 39)) := (Below.refl _ _).alloc (Nat.le_refl _) _
  have hlt0 := hk0.lt
  have hr := op_right o S c (w.alloc (.cells #[.int .i64 o.kind, .int .i64 o.k, .int .i64 o.width, .int .i64 o.step, .int .i64 o.side, .int .i64 o.frm, .int .i64 o.to, .slice S o.s.length c] 39)) ho (hI.alloc _)
  cases hq : Od.right o
  · have HL := Lib.hid (show Od.params o = 0 by simp [Od.params, hq])
    rw [hq] at hr
    have Hr := Lib.hid hr
    have Hk0 := Lib.hid hk0
    have Hq := Lib.hid hq
    have HI := Lib.hid hI
    clear hr hk0 hq hI
    go_enter Tryz.func104, Tryz.ntmps104
    go_wp2_with fail
    refine (Hr.out).mono ?_
    rintro e w1 ⟨rfl, h1⟩
    go_wp2_with fail
    go_ret
    exact ⟨by rw [HL.out]; rfl, hb0.trans (h1.mono hb0.size)⟩
  · rw [hq] at hr
    by_cases h8 : o.kind = 8 ∨ o.kind = 9 ∨ o.kind = 10
    · have HL := Lib.hid (show Od.params o = if o.kind = 8 then 2 else 1 by unfold Od.params; rw [if_pos hq]; rcases h8 with h | h | h <;> simp [h])
      have Hr := Lib.hid hr
      have Hk0 := Lib.hid hk0
      have Hq := Lib.hid hq
      have HI := Lib.hid hI
      clear hr hk0 hq hI
      rcases h8 with h8 | h8 | h8
      all_goals
        have H8 := Lib.hid h8
        clear h8
        go_enter Tryz.func104, Tryz.ntmps104
        go_wp2_with fail
        refine (Hr.out).mono ?_
        rintro e w1 ⟨rfl, h1⟩
        obtain ⟨x0, -⟩ := op_cells (Hk0.out.below h1 hlt0)
        rw [H8.out] at x0
        go_wp2_with fail
        go_ret
        exact ⟨by rw [HL.out, H8.out]; rfl, hb0.trans (h1.mono hb0.size)⟩
    · have HL := Lib.hid (show Od.params o = 0 by unfold Od.params; rw [if_pos hq, if_neg (by omega), if_neg (by omega)])
      have n8 : (o.kind == 8) = false := by simp; omega
      have n9 : (o.kind == 9) = false := by simp; omega
      have n10 : (o.kind == 10) = false := by simp; omega
      have Hr := Lib.hid hr
      have Hk0 := Lib.hid hk0
      have Hq := Lib.hid hq
      have HI := Lib.hid hI
      clear hr hk0 hq hI
      clear h8
      go_enter Tryz.func104, Tryz.ntmps104
      go_wp2_with fail
      refine (Hr.out).mono ?_
      rintro e w1 ⟨rfl, h1⟩
      obtain ⟨x0, -⟩ := op_cells (Hk0.out.below h1 hlt0)
      go_wp2_with fail
      go_ret
      exact ⟨by rw [HL.out]; rfl, hb0.trans (h1.mono hb0.size)⟩

set_option maxHeartbeats 1000000 in
theorem op_counts (o : OpD) (S : Option Addr) (c : Nat) (p x : Int) (w : World) (ho : o.s.length ≤ 17592186043904) (hI : Ints .i64 w S o.s) :
    Calls Tryz.prog 93 #[.agg #[.int .i64 o.kind, .int .i64 o.k, .int .i64 o.width, .int .i64 o.step, .int .i64 o.side, .int .i64 o.frm, .int .i64 o.to, .slice S o.s.length c], .int .i64 p, .int .i64 x] w fun e w' => e = .returned (.int .i64 (Od.counts o p x)) ∧ Below w.heap.size w w' := by
  have hk0 := Blk.new w 39 #[.int .i64 o.kind, .int .i64 o.k, .int .i64 o.width, .int .i64 o.step, .int .i64 o.side, .int .i64 o.frm, .int .i64 o.to, .slice S o.s.length c]
  have hb0 : Below w.heap.size w (w.alloc (.cells #[.int .i64 o.kind, .int .i64 o.k, .int .i64 o.width, .int .i64 o.step, .int .i64 o.side, .int .i64 o.frm, .int .i64 o.to, .slice S o.s.length c] 39)) := (Below.refl _ _).alloc (Nat.le_refl _) _
  have hlt0 := hk0.lt
  have hr := op_right o S c (w.alloc (.cells #[.int .i64 o.kind, .int .i64 o.k, .int .i64 o.width, .int .i64 o.step, .int .i64 o.side, .int .i64 o.frm, .int .i64 o.to, .slice S o.s.length c] 39)) ho (hI.alloc _)
  cases hq : Od.right o
  · have HL := Lib.hid (show Od.counts o p x = 21 by simp [Od.counts, hq])
    rw [hq] at hr
    have Hr := Lib.hid hr
    have Hk0 := Lib.hid hk0
    have Hq := Lib.hid hq
    have HI := Lib.hid hI
    clear hr hk0 hq hI
    go_enter Tryz.func93, Tryz.ntmps93
    go_wp2_with fail
    refine (Hr.out).mono ?_
    rintro e w1 ⟨rfl, h1⟩
    go_wp2_with fail
    go_ret
    exact ⟨by rw [HL.out]; rfl, hb0.trans (h1.mono hb0.size)⟩
  · rw [hq] at hr
    have HL := Lib.hid (show Od.counts o p x = if x < Od.least o ∨ Od.most o < x ∨ p ≠ Od.params o then 20 else 0 by simp [Od.counts, hq])
    have Hr := Lib.hid hr
    have Hk0 := Lib.hid hk0
    have Hq := Lib.hid hq
    have HI := Lib.hid hI
    clear hr hk0 hq hI
    go_enter Tryz.func93, Tryz.ntmps93
    go_wp2_with fail
    refine (Hr.out).mono ?_
    rintro e w1 ⟨rfl, h1⟩
    obtain ⟨x0, x1, x2, x3, x4, x5, x6, x7⟩ := op_cells (Hk0.out.below h1 hlt0)
    go_wp2_with fail
    refine (op_ins o S c _ ho (HI.out.below (hb0.trans (h1.mono hb0.size)) (Nat.le_refl _))).mono ?_
    rintro e w2 ⟨rfl, h2⟩
    clear x0 x1 x2 x3 x4 x5 x6 x7
    have hb2 := h1.trans (h2.mono h1.size)
    by_cases hx1 : x < Od.least o
    · go_wp2_with fail
      go_ret
      exact ⟨by rw [HL.out, if_pos (.inl hx1)]; rfl, hb0.trans (hb2.mono hb0.size)⟩
    · by_cases hx2 : Od.most o < x
      · go_wp2_with fail
        go_ret
        exact ⟨by rw [HL.out, if_pos (.inr (.inl hx2))]; rfl, hb0.trans (hb2.mono hb0.size)⟩
      · obtain ⟨x0, x1, x2, x3, x4, x5, x6, x7⟩ := op_cells (Hk0.out.below hb2 hlt0)
        go_wp2_with fail
        refine (op_params o S c _ ho (HI.out.below (hb0.trans (hb2.mono hb0.size)) (Nat.le_refl _))).mono ?_
        rintro e w3 ⟨rfl, h3⟩
        clear x0 x1 x2 x3 x4 x5 x6 x7
        have hb3 := hb2.trans (h3.mono hb2.size)
        by_cases hp : p = Od.params o
        · have hp' : (p != Od.params o) = false := by simp [hp]
          have HE := Lib.hid (show Od.counts o p x = 0 by rw [HL.out, if_neg (by omega)])
          clear hp
          go_wp2_with fail
          go_ret
          exact ⟨by rw [HE.out]; rfl, hb0.trans (hb3.mono hb0.size)⟩
        · have hp' : (p != Od.params o) = true := by simp [hp]
          have HE := Lib.hid (show Od.counts o p x = 20 by rw [HL.out, if_pos (.inr (.inr hp))])
          clear hp
          go_wp2_with fail
          go_ret
          exact ⟨by rw [HE.out]; rfl, hb0.trans (hb3.mono hb0.size)⟩
end Go.Proofs.YtkmhagjdafeebaaGreat

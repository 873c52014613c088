/- Lemmas for the statements of this seat: contracts of functions and the plain laws. -/
import Derived.BigQuiet
import Derived.ChangeSame
import Derived.Deep.CutBlock
import Derived.Deep.DeepCutAuto
import Derived.Deep.Fields
import Derived.Deep.RegionHeld3
import Derived.Deep.RegionLaw
import Derived.Deep.Slices
import Derived.Defers
import Derived.OpenShut
import Derived.ProofKit
import Derived.Recover
import Derived.WalkKit
import Derived.Test.YtbnnpkcfifejmabGreatZ05
set_option linter.unusedVariables false
namespace Go.Proofs.YtbnnpkcfifejmabGreat
open Go.RowKit
theorem natAbs_le {x : Int} (h : Fx.In x) : x.natAbs ≤ 9223372036854775808 := by unfold Fx.In at h; omega
theorem natAbs_lt {x : Int} (h : Fx.In x) : x.natAbs < 18446744073709551616 := Nat.lt_of_le_of_lt (natAbs_le h) (by decide)
theorem prod_le126 {x y : Int} (hx : Fx.In x) (hy : Fx.In y) : x.natAbs * y.natAbs ≤ 85070591730234615865843651857942052864 := Nat.mul_le_mul (natAbs_le hx) (natAbs_le hy)
theorem u64_join (p : Nat) (hp : p < 39614081257132168796771975168) : bits .or .u64 (((p / 18446744073709551616 : Nat) : Int) * 4294967296) (((p % 18446744073709551616 : Nat) : Int) / 4294967296) = ((p / 4294967296 : Nat) : Int) := by
 have e1 : (((p / 18446744073709551616 : Nat) : Int) * 4294967296) = ((p / 18446744073709551616 * 4294967296 : Nat) : Int) := by omega
 have e2 : (((p % 18446744073709551616 : Nat) : Int) / 4294967296) = ((p % 18446744073709551616 / 4294967296 : Nat) : Int) := by omega
 rw [e1, e2, bits_or_u64_nat _ _ (by omega) (by omega), or_mul _ _ 32 4294967296 (by decide) (by omega)]
 omega
theorem u64_mask (p : Nat) : bits .and .u64 ((p % 18446744073709551616 : Nat) : Int) 4294967295 = ((p % 4294967296 : Nat) : Int) := by
 have h := bits_and_u64_nat (p % 18446744073709551616) 4294967295 (by omega) (by omega)
 have e : p % 18446744073709551616 &&& 4294967295 = p % 18446744073709551616 % 4294967296 := Nat.and_two_pow_sub_one_eq_mod _ 32
 rw [e] at h
 refine h.trans ?_
 omega
theorem u64_odd (q : Nat) (hq : q < 18446744073709551616) : bits .and .u64 (q : Int) 1 = ((q % 2 : Nat) : Int) := by
 have h := bits_and_u64_nat q 1 hq (by omega)
 rw [Nat.and_one_is_mod] at h
 exact h
set_option maxRecDepth 20000 in
theorem fix_mul (x y : Int) (w : World) (hx : Fx.In x) (hy : Fx.In y) : Calls Tryz.prog 67 #[.int .i64 x, .int .i64 y] w fun e w' => e = .returned (.int .i64 (Fx.mul x y)) ∧ w = w' := by
 have HX := Lib.hid hx
 have HY := Lib.hid hy
 clear hx hy
 go_enter Tryz.func67, Tryz.ntmps67
 go_wp2_with fail
 generalize hN : (!(decide (x < 0) == decide (y < 0))) = nb
 have HN := Lib.hid (show Fx.neg2 x y = nb from hN)
 clear hN
 refine (fix_size x _ HX.out).mono ?_
 rintro e w1 ⟨rfl, rfl⟩
 go_wp2_with fail
 refine (fix_size y _ HY.out).mono ?_
 rintro e w1 ⟨rfl, rfl⟩
 go_wp2_with fail
 refine (Tryz.bits_Mul64 x.natAbs y.natAbs (natAbs_lt HX.out) (natAbs_lt HY.out) _).mono ?_
 rintro e w1 ⟨rfl, hw1⟩
 subst hw1
 obtain ⟨p, hp⟩ : ∃ p, p = x.natAbs * y.natAbs := ⟨_, rfl⟩
 have HP := Lib.hid hp
 rw [← hp]
 have hple : p ≤ 85070591730234615865843651857942052864 := by rw [hp]; exact prod_le126 HX.out HY.out
 clear hp
 obtain ⟨hi, hhi⟩ : ∃ hi : Int, hi = ((p / 18446744073709551616 : Nat) : Int) := ⟨_, rfl⟩
 obtain ⟨lo, hlo⟩ : ∃ lo : Int, lo = ((p % 18446744073709551616 : Nat) : Int) := ⟨_, rfl⟩
 rw [← hhi, ← hlo]
 have b1 : 0 ≤ hi := by omega
 have b2 : 0 ≤ lo := by omega
 have b3 : hi < 4611686018427387905 := by omega
 have b4 : lo ≤ 18446744073709551615 := by omega
 have HH := Lib.hid hhi
 have HL := Lib.hid hlo
 have Hple := Lib.hid hple
 clear hhi hlo hple
 by_cases h : 2147483648 ≤ hi
 ·have HE : RowKit.Hid (Fx.edge nb = Fx.mul x y) := by
   have h1 := HH.out
   unfold Fx.mul
   rw [← HP.out, HN.out]
   refine (Fx.clamp_sgn_big ?_).symm
   unfold Fx.rnd
   split <;> omega
  go_wp2_with fail
  refine (fix_edge nb _).mono ?_
  rintro e w1 ⟨rfl, rfl⟩
  go_wp2_with fail
  go_ret
  exact ⟨ret_int HE.out, rfl⟩
 ·have hlt : p < 39614081257132168796771975168 := by have := HH.out; have := Hple.out; omega
  have j1 := u64_join p hlt
  have j2 := u64_mask p
  have j3 := u64_odd (p / 4294967296) (by omega)
  rw [← HH.out, ← HL.out] at j1
  rw [← HL.out] at j2
  obtain ⟨q, hq⟩ : ∃ q : Int, q = ((p / 4294967296 : Nat) : Int) := ⟨_, rfl⟩
  obtain ⟨r, hr⟩ : ∃ r : Int, r = ((p % 4294967296 : Nat) : Int) := ⟨_, rfl⟩
  obtain ⟨t, ht⟩ : ∃ t : Int, t = ((p / 4294967296 % 2 : Nat) : Int) := ⟨_, rfl⟩
  have q0 : 0 ≤ q := by omega
  have q1 : q ≤ 9223372036854775807 := by omega
  have r0 : 0 ≤ r := by omega
  have r1 : r ≤ 4294967295 := by omega
  rw [← hq] at j1 j3
  rw [← hr] at j2
  rw [← ht] at j3
  have HQ := Lib.hid hq
  have HR := Lib.hid hr
  have HT := Lib.hid ht
  have Hl := Lib.hid hlt
  clear hq hr ht hlt
  have key : ∀ z : Int, 0 ≤ z → z.toNat = Fx.rnd p 4294967296 → Fx.clamp (Fx.sgn nb z.toNat) = Fx.mul x y := fun z _ hz => by
   unfold Fx.mul
   rw [← HP.out, HN.out, hz]
  have Hk := Lib.hid key
  clear key
  by_cases h1 : 2147483648 < r
  ·have d1 : decide (2147483648 < r) = true := by simpa using h1
   have d2 : (r == 2147483648) = false := by simp; omega
   have hz : (q + 1).toNat = Fx.rnd p 4294967296 := by
    have := HQ.out; have := HR.out
    unfold Fx.rnd
    rw [if_pos (by omega)]
    omega
   have Hz := Lib.hid hz
   clear hz h1
   go_wp2_with fail
   refine (fix_signed_int (q + 1) nb _ (by omega) (by omega)).mono ?_
   rintro e w1 ⟨rfl, rfl⟩
   go_wp2_with fail
   go_ret
   exact ⟨ret_int (Hk.out _ (by omega) Hz.out), rfl⟩
  ·have d1 : decide (2147483648 < r) = false := by simpa using h1
   by_cases h2 : r = 2147483648
   ·have d2 : (r == 2147483648) = true := by simpa using h2
    by_cases h3 : t = 1
    ·have d3 : (t == 1) = true := by simpa using h3
     have hz : (q + 1).toNat = Fx.rnd p 4294967296 := by
      have := HQ.out; have := HR.out; have := HT.out
      unfold Fx.rnd
      rw [if_pos (by omega)]
      omega
     have Hz := Lib.hid hz
     clear hz h1 h2 h3
     go_wp2_with fail
     refine (fix_signed_int (q + 1) nb _ (by omega) (by omega)).mono ?_
     rintro e w1 ⟨rfl, rfl⟩
     go_wp2_with fail
     go_ret
     exact ⟨ret_int (Hk.out _ (by omega) Hz.out), rfl⟩
    ·have d3 : (t == 1) = false := by simpa using h3
     have hz : q.toNat = Fx.rnd p 4294967296 := by
      have := HQ.out; have := HR.out; have := HT.out
      unfold Fx.rnd
      rw [if_neg (by omega)]
      omega
     have Hz := Lib.hid hz
     clear hz h1 h2 h3
     go_wp2_with fail
     refine (fix_signed_int q nb _ (by omega) (by omega)).mono ?_
     rintro e w1 ⟨rfl, rfl⟩
     go_wp2_with fail
     go_ret
     exact ⟨ret_int (Hk.out _ (by omega) Hz.out), rfl⟩
   ·have d2 : (r == 2147483648) = false := by simpa using h2
    have hz : q.toNat = Fx.rnd p 4294967296 := by
     have := HQ.out; have := HR.out; have := HT.out
     unfold Fx.rnd
     rw [if_neg (by omega)]
     omega
    have Hz := Lib.hid hz
    clear hz h1 h2
    go_wp2_with fail
    refine (fix_signed_int q nb _ (by omega) (by omega)).mono ?_
    rintro e w1 ⟨rfl, rfl⟩
    go_wp2_with fail
    go_ret
    exact ⟨ret_int (Hk.out _ (by omega) Hz.out), rfl⟩
end Go.Proofs.YtbnnpkcfifejmabGreat
namespace Go.Proofs.YtbnnpkcfifejmabGreat
namespace Kd
def more (q r b v : Nat) : Bool := decide (4294967296 ≤ q) || decide (4294967296 * r + v < q * b)
section
variable {u v y a b q r : Nat}
theorem digit_lt (hv : v < 4294967296) (hu : u < y) : (u * 4294967296 + v) / y < 4294967296 := by
 rw [Nat.div_lt_iff_lt_mul (by omega)]
 have : (u + 1) * 4294967296 ≤ y * 4294967296 := Nat.mul_le_mul_right _ hu
 rw [Nat.mul_comm 4294967296 y]
 omega
theorem prod_eq (hy : y = a * 4294967296 + b) : q * y = q * a * 4294967296 + q * b := by rw [hy, Nat.mul_add, Nat.mul_assoc]
theorem step (hy : y = a * 4294967296 + b) (hv : v < 4294967296) (hu : u < y) (hq : u = q * a + r) (h : more q r b v = true) : (u * 4294967296 + v) / y < q := by
 simp only [more, Bool.or_eq_true, decide_eq_true_eq] at h
 by_cases h1 : 4294967296 ≤ q
 ·exact Nat.lt_of_lt_of_le (digit_lt hv hu) h1
 ·rw [Nat.div_lt_iff_lt_mul (by omega), prod_eq hy]
  omega
theorem stop (hy : y = a * 4294967296 + b) (hq : u = q * a + r) (hy0 : 0 < y) (h : more q r b v = false) : q ≤ (u * 4294967296 + v) / y := by
 simp only [more, Bool.or_eq_false_iff, decide_eq_false_iff_not] at h
 rw [Nat.le_div_iff_mul_le hy0, prod_eq hy]
 omega
theorem stop_brk (hy : y = a * 4294967296 + b) (hq : u = q * a + r) (hy0 : 0 < y) (hb : b < 4294967296) (hq1 : q ≤ 4294967296) (hr : 4294967296 ≤ r) : q ≤ (u * 4294967296 + v) / y := by
 rw [Nat.le_div_iff_mul_le hy0, prod_eq hy]
 have h1 : q * b ≤ 4294967296 * b := Nat.mul_le_mul_right _ hq1
 omega
theorem first (ha : 2147483648 ≤ a) (hy : y = a * 4294967296 + b) (hb : b < 4294967296) (hu : u < y) : u / a ≤ 4294967297 := by
 have : u / a < 4294967298 := by
  rw [Nat.div_lt_iff_lt_mul (by omega)]
  omega
 omega
structure Inv (u v y a b q r : Nat) : Prop where
 eq : u = q * a + r
 ge : (u * 4294967296 + v) / y ≤ q
 le : q ≤ 4294967297
theorem Inv.start (ha : 2147483648 ≤ a) (hy : y = a * 4294967296 + b) (hb : b < 4294967296) (hv : v < 4294967296) (hu : u < y) : Inv u v y a b (u / a) (u - u / a * a) := by
 have h0 := Nat.div_mul_le_self u a
 refine ⟨by omega, ?_, first ha hy hb hu⟩
 rw [← Nat.lt_add_one_iff, Nat.div_lt_iff_lt_mul (by omega)]
 have h2 : u < (u / a + 1) * a := by rw [← Nat.div_lt_iff_lt_mul (by omega)]; omega
 have h3 : (u / a + 1) * y = (u / a + 1) * a * 4294967296 + (u / a + 1) * b := prod_eq hy
 rw [h3]
 generalize (u / a + 1) * a = t at *
 generalize (u / a + 1) * b = t2 at *
 omega
theorem Inv.next (h : Inv u v y a b q r) (hy : y = a * 4294967296 + b) (hv : v < 4294967296) (hu : u < y) (hm : more q r b v = true) : 1 ≤ q ∧ q - 1 ≤ 4294967296 ∧ Inv u v y a b (q - 1) (r + a) := by
 have h1 := step hy hv hu h.eq hm
 have h2 := h.le
 have h5 : (u * 4294967296 + v) / y ≤ q - 1 := by
  generalize (u * 4294967296 + v) / y = d at h1
  omega
 have h6 : 1 ≤ q := Nat.lt_of_le_of_lt (Nat.zero_le _) h1
 clear h1
 have h3 : q * a = (q - 1) * a + a := by
  obtain ⟨n, rfl⟩ : ∃ n, q = n + 1 := ⟨q - 1, by omega⟩
  rw [Nat.add_sub_cancel, Nat.succ_mul]
 have h4 := h.eq
 exact ⟨h6, by omega, ⟨by omega, h5, by omega⟩⟩
theorem Inv.done (h : Inv u v y a b q r) (hy : y = a * 4294967296 + b) (hy0 : 0 < y) (hm : more q r b v = false) : q = (u * 4294967296 + v) / y :=
 Nat.le_antisymm (stop hy h.eq hy0 hm) h.ge
theorem Inv.brk (h : Inv u v y a b q r) (hy : y = a * 4294967296 + b) (hy0 : 0 < y) (hb : b < 4294967296) (hq : q ≤ 4294967296) (hr : 4294967296 ≤ r) : q = (u * 4294967296 + v) / y :=
 Nat.le_antisymm (stop_brk hy h.eq hy0 hb hq hr) h.ge
end
theorem two0 {u v1 v0 y q1 r1 : Nat} (hy : 0 < y) (h1 : y * q1 + r1 = u * 4294967296 + v1) :
  (u * 18446744073709551616 + v1 * 4294967296 + v0) / y = q1 * 4294967296 + (r1 * 4294967296 + v0) / y ∧ (u * 18446744073709551616 + v1 * 4294967296 + v0) % y = (r1 * 4294967296 + v0) % y := by
 have e : u * 18446744073709551616 + v1 * 4294967296 + v0 = y * (q1 * 4294967296) + (r1 * 4294967296 + v0) := by
  rw [← Nat.mul_assoc]
  omega
 rw [e, Nat.mul_add_div hy, Nat.mul_add_mod]
 exact And.intro rfl rfl
theorem two {u v1 v0 y : Nat} (hy : 0 < y) :
  (u * 18446744073709551616 + v1 * 4294967296 + v0) / y = (u * 4294967296 + v1) / y * 4294967296 + ((u * 4294967296 + v1) % y * 4294967296 + v0) / y ∧
  (u * 18446744073709551616 + v1 * 4294967296 + v0) % y = ((u * 4294967296 + v1) % y * 4294967296 + v0) % y :=
 two0 hy (Nat.div_add_mod (u * 4294967296 + v1) y)
theorem shifted (n y s : Nat) : n * 2 ^ s / (y * 2 ^ s) = n / y ∧ n * 2 ^ s % (y * 2 ^ s) / 2 ^ s = n % y := by
 have hp : 0 < 2 ^ s := Nat.two_pow_pos s
 refine ⟨Nat.mul_div_mul_right _ _ hp, ?_⟩
 rw [Nat.mul_mod_mul_right, Nat.mul_div_cancel _ hp]
theorem words {hi lo s : Nat} (hs : s < 64) (hlo : lo < 18446744073709551616) :
  (hi * 18446744073709551616 + lo) * 2 ^ s = (hi * 2 ^ s + lo / 2 ^ (64 - s)) * 18446744073709551616 + lo * 2 ^ s % 18446744073709551616 := by
 have e : (18446744073709551616 : Nat) = 2 ^ (64 - s) * 2 ^ s := by rw [← Nat.pow_add, show 64 - s + s = 64 by omega]
 have hp : 0 < 2 ^ s := Nat.two_pow_pos s
 have h1 : lo * 2 ^ s / 18446744073709551616 = lo / 2 ^ (64 - s) := by rw [e, Nat.mul_div_mul_right _ _ hp]
 have h2 := Nat.div_add_mod (lo * 2 ^ s) 18446744073709551616
 rw [h1] at h2
 rw [Nat.add_mul, Nat.mul_right_comm]
 generalize hi * 2 ^ s = x at *
 generalize lo / 2 ^ (64 - s) = z at *
 omega
theorem low_lt {lo s : Nat} (hs : s < 64) (hlo : lo < 18446744073709551616) : lo / 2 ^ (64 - s) < 2 ^ s := by
 rw [Nat.div_lt_iff_lt_mul (Nat.two_pow_pos _), ← Nat.pow_add, show s + (64 - s) = 64 by omega]
 exact hlo
theorem high_lt {hi lo y s : Nat} (hs : s < 64) (hlo : lo < 18446744073709551616) (h : hi < y) : hi * 2 ^ s + lo / 2 ^ (64 - s) < y * 2 ^ s := by
 have h1 := low_lt hs hlo
 have h2 : (hi + 1) * 2 ^ s ≤ y * 2 ^ s := Nat.mul_le_mul_right _ h
 rw [Nat.succ_mul] at h2
 omega
end Kd
end Go.Proofs.YtbnnpkcfifejmabGreat
namespace Go.Proofs.YtbnnpkcfifejmabGreat
open Go.RowKit
structure Norm (hi lo y : Int) (s : Nat) (Y A B U V1 V0 : Int) : Prop where
 y0 : 0 ≤ Y
 y1 : Y ≤ 18446744073709551615
 a0 : 2147483648 ≤ A
 a1 : A ≤ 4294967295
 b0 : 0 ≤ B
 b1 : B ≤ 4294967295
 yab : Y = A * 4294967296 + B
 u0 : 0 ≤ U
 u1 : U < Y
 v0 : 0 ≤ V1
 v1 : V1 ≤ 4294967295
 w0 : 0 ≤ V0
 w1 : V0 ≤ 4294967295
 num : (hi.toNat * 18446744073709551616 + lo.toNat) * 2 ^ s = U.toNat * 18446744073709551616 + V1.toNat * 4294967296 + V0.toNat
 den : Y.toNat = y.toNat * 2 ^ s
theorem lenAux_spec : ∀ (f x : Nat), x < 2 ^ f → x < 2 ^ Lib.bitLenAux f x ∧ (x ≠ 0 → 1 ≤ Lib.bitLenAux f x ∧ 2 ^ (Lib.bitLenAux f x - 1) ≤ x)
 | 0, x, h => by simp at h; subst h; simp [Lib.bitLenAux]
 | f + 1, x, h => by
  unfold Lib.bitLenAux
  by_cases h0 : x = 0
  ·subst h0; simp
  ·rw [if_neg h0]
   have h2 : x / 2 < 2 ^ f := by rw [Nat.pow_succ] at h; omega
   obtain ⟨a, b⟩ := lenAux_spec f (x / 2) h2
   rw [Nat.add_comm, Nat.add_sub_cancel]
   refine ⟨by rw [Nat.pow_succ]; omega, fun _ => ⟨by omega, ?_⟩⟩
   by_cases h1 : x / 2 = 0
   ·rw [h1] at a
    have : Lib.bitLenAux f 0 = 0 := by cases f <;> simp [Lib.bitLenAux]
    rw [h1, this]; simp; omega
   ·obtain ⟨b1, b2⟩ := b h1
    obtain ⟨m, hm⟩ : ∃ m, Lib.bitLenAux f (x / 2) = m + 1 := ⟨_, (Nat.sub_add_cancel b1).symm⟩
    rw [hm, Nat.add_sub_cancel] at b2
    rw [hm, Nat.pow_succ]; omega
theorem bitLen_shift_bounds {y : Nat} (h0 : 1 ≤ y) (h1 : y ≤ 18446744073709551615) : Lib.bitLen y ≤ 64 ∧ 1 ≤ Lib.bitLen y ∧ 9223372036854775808 ≤ y * 2 ^ (64 - Lib.bitLen y) ∧ y * 2 ^ (64 - Lib.bitLen y) ≤ 18446744073709551615 := by
 obtain ⟨a, b⟩ := lenAux_spec 64 y (by omega)
 have b := (b (by omega)).2
 change y < 2 ^ Lib.bitLen y at a
 change 2 ^ (Lib.bitLen y - 1) ≤ y at b
 have h2 : Lib.bitLen y ≤ 64 := by
  rcases Nat.lt_or_ge 64 (Lib.bitLen y) with h | h
  ·have : 2 ^ 64 ≤ 2 ^ (Lib.bitLen y - 1) := Nat.pow_le_pow_right (by omega) (by omega)
   omega
  ·exact h
 have h3 : 1 ≤ Lib.bitLen y := by
  rcases Nat.eq_zero_or_pos (Lib.bitLen y) with h | h
  ·rw [h] at a; simp at a; omega
  ·exact h
 generalize Lib.bitLen y = m at *
 have e1 : 2 ^ (m - 1) * 2 ^ (64 - m) = 9223372036854775808 := by rw [← Nat.pow_add, show m - 1 + (64 - m) = 63 by omega]
 have e2 : 2 ^ m * 2 ^ (64 - m) = 18446744073709551616 := by rw [← Nat.pow_add, show m + (64 - m) = 64 by omega]
 have c1 : 2 ^ (m - 1) * 2 ^ (64 - m) ≤ y * 2 ^ (64 - m) := Nat.mul_le_mul_right _ b
 have c2 : y * 2 ^ (64 - m) < 2 ^ m * 2 ^ (64 - m) := Nat.mul_lt_mul_of_pos_right a (Nat.two_pow_pos _)
 rw [e1] at c1
 rw [e2] at c2
 exact ⟨h2, h3, c1, by omega⟩
theorem u64_wrapN (a : Nat) : IntKind.u64.wrap (a : Int) = ((a % 18446744073709551616 : Nat) : Int) := by rw [IntKind.wrap_u64]; omega
theorem u64_maskN (a : Nat) (ha : a < 18446744073709551616) : bits .and .u64 (a : Int) 4294967295 = ((a % 4294967296 : Nat) : Int) := by
 have h := u64_mask a
 rw [Nat.mod_eq_of_lt ha] at h
 exact h
theorem pow_cast (n : Nat) : (2 : Int) ^ n = ((2 ^ n : Nat) : Int) := by simp
theorem norm_end {h l d k : Nat} {A B U V1 V0 : Int} {yy uu ll : Nat} (w2 : uu < yy) (w3 : (h * 18446744073709551616 + l) * 2 ^ k = uu * 18446744073709551616 + ll) (hl : ll < 18446744073709551616) (m2 : 9223372036854775808 ≤ yy) (m3 : yy ≤ 18446744073709551615)
  (hA : (yy : Int) / 4294967296 = A) (hB : ((yy % 4294967296 : Nat) : Int) = B) (hU : ((uu : Nat) : Int) = U) (hV1 : (ll : Int) / 4294967296 = V1) (hV0 : ((ll % 4294967296 : Nat) : Int) = V0) (hd : yy = d * 2 ^ k) :
  Norm h l d k yy A B U V1 V0 := by
 subst hA hB hU hV1 hV0
 refine ⟨by omega, by omega, by omega, by omega, by omega, by omega, by omega, by omega, by omega, by omega, by omega, by omega, by omega, ?_, ?_⟩
 ·simp only [Int.toNat_natCast]
  rw [w3]
  omega
 ·simpa using hd
theorem norm (hi lo y s : Int) (Y A B U L V1 V0 : Int) (h0 : 0 ≤ hi) (h1 : hi < y) (h2 : y ≤ 18446744073709551615) (l0 : 0 ≤ lo) (l1 : lo ≤ 18446744073709551615) (hs : s = 64 - (Lib.bitLen y.toNat : Int))
  (hY : IntKind.u64.wrap (y * 2 ^ s.toNat) = Y) (hA : Y / 4294967296 = A) (hB : bits .and .u64 Y 4294967295 = B)
  (hU : bits .or .u64 (IntKind.u64.wrap (hi * 2 ^ s.toNat)) (lo / 2 ^ (64 - s).toNat) = U) (hL : IntKind.u64.wrap (lo * 2 ^ s.toNat) = L) (hV1 : L / 4294967296 = V1) (hV0 : bits .and .u64 L 4294967295 = V0) :
  Norm hi lo y s.toNat Y A B U V1 V0 := by
 obtain ⟨h, rfl⟩ := Int.eq_ofNat_of_zero_le h0
 obtain ⟨l, rfl⟩ := Int.eq_ofNat_of_zero_le l0
 obtain ⟨d, rfl⟩ := Int.eq_ofNat_of_zero_le (show 0 ≤ y by omega)
 obtain ⟨m0, m1, m2, m3⟩ := bitLen_shift_bounds (y := d) (by omega) (by omega)
 rw [Int.toNat_natCast] at hs
 obtain ⟨k, hk⟩ : ∃ k, k = 64 - Lib.bitLen d := ⟨_, rfl⟩
 have hk1 : s.toNat = k := by omega
 have hk2 : (64 - s).toNat = 64 - k := by omega
 have hk3 : k < 64 := by omega
 rw [← hk] at m2 m3
 rw [hk1] at hY hU hL
 rw [hk2] at hU
 rw [hk1]
 clear hs hk hk1 hk2 m0 m1
 have hlt : l < 18446744073709551616 := by omega
 have hhd : h < d := by omega
 have w1 := Kd.low_lt (lo := l) hk3 hlt
 have w2 := Kd.high_lt (hi := h) (lo := l) (y := d) hk3 hlt hhd
 have w3 := Kd.words (hi := h) hk3 hlt
 simp only [pow_cast, ← Int.natCast_mul, ← Int.natCast_ediv] at hY hU hL
 rw [u64_wrapN] at hY hU hL
 have hh : h * 2 ^ k < 18446744073709551616 := by
  generalize l / 2 ^ (64 - k) = z at w2
  generalize h * 2 ^ k = z2 at *
  generalize d * 2 ^ k = z3 at *
  omega
 rw [Nat.mod_eq_of_lt (by omega)] at hY
 rw [Nat.mod_eq_of_lt hh, bits_or_u64_nat _ _ hh (by omega), or_mul _ _ k (2 ^ k) rfl w1] at hU
 subst hY hL
 rw [u64_maskN _ (by omega)] at hB hV0
 exact norm_end w2 w3 (Nat.mod_lt _ (by decide)) m2 m3 hA hB hU hV1 hV0 rfl
def DRel (U V Y A B : Int) (q r : Int) : Prop := 0 ≤ q ∧ q ≤ 4294967297 ∧ 0 ≤ r ∧ r ≤ 4294967295 ∧ Kd.Inv U.toNat V.toNat Y.toNat A.toNat B.toNat q.toNat r.toNat
structure DOk (U V Y A B : Int) : Prop where
 y0 : 0 ≤ Y
 a0 : 2147483648 ≤ A
 a1 : A ≤ 4294967295
 b0 : 0 ≤ B
 b1 : B ≤ 4294967295
 yab : Y.toNat = A.toNat * 4294967296 + B.toNat
 u0 : 0 ≤ U
 u1 : U < Y
 v0 : 0 ≤ V
 v1 : V ≤ 4294967295
def digit (U V Y : Int) : Int := (((U.toNat * 4294967296 + V.toNat) / Y.toNat : Nat) : Int)
def drest (U V Y : Int) : Int := (((U.toNat * 4294967296 + V.toNat) % Y.toNat : Nat) : Int)
section
variable {U V Y A B q r : Int}
theorem digit_start (h : DOk U V Y A B) : 0 ≤ U / A * A ∧ U / A * A ≤ U ∧ 0 ≤ U / A ∧ U / A ≤ 4294967297 ∧ DRel U V Y A B (U / A) (U - U / A * A) := by
 obtain ⟨y0, a0, a1, b0, b1, yab, u0, u1, v0, v1⟩ := h
 obtain ⟨u, rfl⟩ := Int.eq_ofNat_of_zero_le u0
 obtain ⟨a, rfl⟩ := Int.eq_ofNat_of_zero_le (show 0 ≤ A by omega)
 have e : (u : Int) / (a : Int) = ((u / a : Nat) : Int) := by simp
 have e2 : ((u / a : Nat) : Int) * (a : Int) = ((u / a * a : Nat) : Int) := by simp
 have h0 := Nat.div_mul_le_self u a
 have hi := Kd.Inv.start (u := u) (v := V.toNat) (y := Y.toNat) (a := a) (b := B.toNat) (by omega) (by simpa using yab) (by omega) (by omega) (by omega)
 have h1 := hi.le
 have h2 := Nat.mod_lt u (show 0 < a by omega)
 have h3 := Nat.div_add_mod u a
 rw [Nat.mul_comm] at h3
 rw [e, e2]
 unfold DRel
 have e3 : ((u : Int) - ((u / a * a : Nat) : Int)).toNat = u - u / a * a := by omega
 rw [e3]
 simp only [Int.toNat_natCast]
 generalize u / a * a = x at *
 generalize u / a = z at *
 exact ⟨by omega, by omega, by omega, by omega, by omega, by omega, by omega, by omega, hi⟩
theorem digit_prod (hq : 0 ≤ q) (hq1 : q ≤ 4294967295) (hB : 0 ≤ B) (hB1 : B ≤ 4294967295) : 0 ≤ q * B ∧ q * B ≤ 18446744065119617025 := by
 refine ⟨Int.mul_nonneg hq hB, ?_⟩
 have := Int.mul_le_mul hq1 hB1 hB (by omega)
 omega
theorem more_of (hr0 : 0 ≤ r) (hq0 : 0 ≤ q) (hv0 : 0 ≤ V) (hB : 0 ≤ B) : Kd.more q.toNat r.toNat B.toNat V.toNat = (decide (4294967296 ≤ q) || decide (4294967296 * r + V < q * B)) := by
 obtain ⟨q, rfl⟩ := Int.eq_ofNat_of_zero_le hq0
 obtain ⟨r, rfl⟩ := Int.eq_ofNat_of_zero_le hr0
 obtain ⟨V, rfl⟩ := Int.eq_ofNat_of_zero_le hv0
 obtain ⟨B, rfl⟩ := Int.eq_ofNat_of_zero_le hB
 have e2 : (q : Int) * (B : Int) = ((q * B : Nat) : Int) := by simp
 unfold Kd.more
 rw [e2]
 simp only [Int.toNat_natCast]
 rw [Bool.eq_iff_iff]
 simp only [Bool.or_eq_true, decide_eq_true_eq]
 omega
theorem digit_next (h : DOk U V Y A B) (hd : DRel U V Y A B q r) (hm : (decide (4294967296 ≤ q) || decide (4294967296 * r + V < q * B)) = true) :
  1 ≤ q ∧ (r + A < 4294967296 → DRel U V Y A B (q - 1) (r + A)) ∧ (4294967296 ≤ r + A → q - 1 = digit U V Y) := by
 obtain ⟨y0, a0, a1, b0, b1, yab, u0, u1, v0, v1⟩ := h
 obtain ⟨d0, d1, d2, d3, d4⟩ := hd
 rw [← more_of d2 d0 v0 b0] at hm
 obtain ⟨k1, k2, k3⟩ := d4.next yab (by omega) (by omega) hm
 have e1 : (q - 1).toNat = q.toNat - 1 := by omega
 have e2 : (r + A).toNat = r.toNat + A.toNat := by omega
 refine ⟨by omega, fun hr => ⟨by omega, by omega, by omega, by omega, by rw [e1, e2]; exact k3⟩, fun hr => ?_⟩
 have := k3.brk yab (by omega) (by omega) (by omega) (by omega)
 unfold digit
 omega
theorem digit_done (h : DOk U V Y A B) (hd : DRel U V Y A B q r) (hm : (decide (4294967296 ≤ q) || decide (4294967296 * r + V < q * B)) = false) : q = digit U V Y := by
 obtain ⟨y0, a0, a1, b0, b1, yab, u0, u1, v0, v1⟩ := h
 obtain ⟨d0, d1, d2, d3, d4⟩ := hd
 rw [← more_of d2 d0 v0 b0] at hm
 have := d4.done yab (by omega) hm
 unfold digit
 omega
theorem digit_bd (h : DOk U V Y A B) : 0 ≤ digit U V Y ∧ digit U V Y ≤ 4294967295 ∧ 0 ≤ drest U V Y ∧ drest U V Y < Y := by
 obtain ⟨y0, a0, a1, b0, b1, yab, u0, u1, v0, v1⟩ := h
 have h1 := Kd.digit_lt (u := U.toNat) (v := V.toNat) (y := Y.toNat) (by omega) (by omega)
 have h2 := Nat.mod_lt (U.toNat * 4294967296 + V.toNat) (show 0 < Y.toNat by omega)
 unfold digit drest
 generalize (U.toNat * 4294967296 + V.toNat) / Y.toNat = x at *
 generalize (U.toNat * 4294967296 + V.toNat) % Y.toNat = z at *
 omega
theorem digit_rest (h : DOk U V Y A B) : IntKind.u64.wrap (IntKind.u64.wrap (IntKind.u64.wrap (U * 4294967296) + V) - IntKind.u64.wrap (digit U V Y * Y)) = drest U V Y := by
 have hb := digit_bd h
 obtain ⟨y0, a0, a1, b0, b1, yab, u0, u1, v0, v1⟩ := h
 have h1 := Nat.div_add_mod (U.toNat * 4294967296 + V.toNat) Y.toNat
 have e : digit U V Y * Y = ((Y.toNat * ((U.toNat * 4294967296 + V.toNat) / Y.toNat) : Nat) : Int) := by
  unfold digit
  rw [Int.natCast_mul, Int.mul_comm, Int.toNat_of_nonneg y0]
 rw [e]
 unfold drest at *
 generalize (U.toNat * 4294967296 + V.toNat) % Y.toNat = z at *
 generalize Y.toNat * ((U.toNat * 4294967296 + V.toNat) / Y.toNat) = x at *
 simp only [IntKind.wrap_u64]
 omega
end
theorem nat_two {m q1 q0 : Nat} (h : m = q1 * 4294967296 + q0) : (q1 : Int) * 4294967296 + (q0 : Int) = (m : Int) := by omega
theorem nat_shr {m r s : Nat} (h : r / 2 ^ s = m) : (r : Int) / 2 ^ s = (m : Int) := by rw [← h, pow_cast]; exact (Int.natCast_ediv _ _).symm
theorem div_nat {n y s Y u v1 v0 : Nat} (h1 : n * 2 ^ s = u * 18446744073709551616 + v1 * 4294967296 + v0) (h2 : Y = y * 2 ^ s) (hY : 0 < Y) :
  n / y = (u * 4294967296 + v1) / Y * 4294967296 + ((u * 4294967296 + v1) % Y * 4294967296 + v0) / Y ∧ ((u * 4294967296 + v1) % Y * 4294967296 + v0) % Y / 2 ^ s = n % y := by
 obtain ⟨a, b⟩ := Kd.shifted n y s
 obtain ⟨c, d⟩ := Kd.two (u := u) (v1 := v1) (v0 := v0) hY
 rw [← h1] at c d
 rw [← h2] at a b
 exact ⟨a.symm.trans c, by rw [← d]; exact b⟩
theorem div_end {hi lo y : Int} {s : Nat} {Y A B U V1 V0 : Int} (n : Norm hi lo y s Y A B U V1 V0) :
  digit U V1 Y * 4294967296 + digit (drest U V1 Y) V0 Y = (((hi.toNat * 18446744073709551616 + lo.toNat) / y.toNat : Nat) : Int) ∧ drest (drest U V1 Y) V0 Y / 2 ^ s = (((hi.toNat * 18446744073709551616 + lo.toNat) % y.toNat : Nat) : Int) := by
 have hY : 0 < Y.toNat := by have := n.u0; have := n.u1; omega
 obtain ⟨a, b⟩ := div_nat n.num n.den hY
 have e : (drest U V1 Y).toNat = (U.toNat * 4294967296 + V1.toNat) % Y.toNat := Int.toNat_natCast _
 rw [← e] at a b
 exact ⟨nat_two a, nat_shr b⟩
theorem ret_two {a b a' b' : Int} (h1 : a = a') (h2 : b = b') : Ending.returned (.tuple #[.int .u64 a, .int .u64 b]) = .returned (.tuple #[.int .u64 a', .int .u64 b']) := by rw [h1, h2]
set_option maxRecDepth 20000 in
set_option maxHeartbeats 4000000 in
theorem div64_zero (lo y : Int) (w : World) (y1 : 1 ≤ y) (h2 : y ≤ 18446744073709551615) (l0 : 0 ≤ lo) (l1 : lo ≤ 18446744073709551615) :
  Calls Tryz.prog 112 #[.int .u64 0, .int .u64 lo, .int .u64 y] w fun e w' => e = .returned (.tuple #[.int .u64 (lo / y), .int .u64 (lo % y)]) ∧ ∃ n, w' = w.drewN n := by
 have h1 : 0 < y := by omega
 go_enter Tryz.func112, Tryz.ntmps112
 go_wp2_with fail
 go_quiet (fail)
 go_wp2_with fail
 go_ret2
 exact ⟨ret_two rfl rfl, nq, rfl⟩
set_option maxRecDepth 20000 in
set_option maxHeartbeats 4000000 in
theorem div64_big (hi lo y q z : Int) (w : World) (h0 : 0 ≤ hi) (hp : 1 ≤ hi) (h1 : hi < y) (h2 : y ≤ 18446744073709551615) (l0 : 0 ≤ lo) (l1 : lo ≤ 18446744073709551615)
  (hq : (((hi.toNat * 18446744073709551616 + lo.toNat) / y.toNat : Nat) : Int) = q) (hz : (((hi.toNat * 18446744073709551616 + lo.toNat) % y.toNat : Nat) : Int) = z) :
  Calls Tryz.prog 112 #[.int .u64 hi, .int .u64 lo, .int .u64 y] w fun e w' => e = .returned (.tuple #[.int .u64 q, .int .u64 z]) ∧ w = w' := by
 have y1 : 1 ≤ y := by omega
 have HQ := Lib.hid hq
 have HZ := Lib.hid hz
 clear hq hz
 have d1 : (hi == 0) = false := by simp; omega
 go_enter Tryz.func112, Tryz.ntmps112
 go_wp2_with fail
 refine (Tryz.bits_LeadingZeros64 y _ (by omega) (by omega)).mono ?_
 rintro e w1 ⟨rfl, hw1⟩
 subst hw1
 obtain ⟨s, hs⟩ : ∃ s : Int, s = 64 - (Lib.bitLen y.toNat : Int) := ⟨_, rfl⟩
 rw [← hs]
 obtain ⟨m0, m1, _, _⟩ := bitLen_shift_bounds (y := y.toNat) (by omega) (by omega)
 have s0 : 0 ≤ s := by omega
 have s1 : s ≤ 63 := by omega
 have HS := Lib.hid hs
 clear hs m0 m1
 go_upto_region 15 with fail
 generalize hY : IntKind.u64.wrap (y * 2 ^ s.toNat) = Y
 generalize hA : Y / 4294967296 = A
 generalize hB : bits .and .u64 Y 4294967295 = B
 generalize hU : bits .or .u64 (IntKind.u64.wrap (hi * 2 ^ s.toNat)) (lo / 2 ^ (64 - s).toNat) = U
 generalize hL : IntKind.u64.wrap (lo * 2 ^ s.toNat) = L
 generalize hV1 : L / 4294967296 = V1
 generalize hV0 : bits .and .u64 L 4294967295 = V0
 have N := Lib.hid (norm hi lo y s Y A B U L V1 V0 h0 h1 h2 l0 l1 HS.out hY hA hB hU hL hV1 hV0)
 generalize IntKind.u64.wrap (hi * 2 ^ s.toNat) = junk1
 generalize lo / 2 ^ (64 - s).toNat = junk2
 clear hY hA hB hU hL hV1 hV0
 obtain ⟨n1, n2, n3, n4, n5, n6, n14, n7, n8, n9, n10, n11, n12, n15, n16⟩ := N.out
 have hok : DOk U V1 Y A B := ⟨n1, n3, n4, n5, n6, by omega, n7, n8, n9, n10⟩
 have n13 : U ≤ 18446744073709551614 := by omega
 have Hok := Lib.hid hok
 obtain ⟨g1, g2, g3, g4, g5⟩ := digit_start hok
 obtain ⟨g6, g7, g8, g9⟩ := digit_bd hok
 have HDS := Lib.hid g5
 have H0 := Lib.hid h0
 clear n14 n15 n16 hok g5
 have t1 : 0 ≤ U - U / A * A := by omega
 go_upto_block 0 with fail
 go_cut [15] (fun q wx => w1 = wx ∧ q = .int .u64 (digit U V1 Y))
 case first =>
  go_wp2_with fail
  go_loop [15, 16] (fun qv rv => ∃ q r : Int, qv = .int .u64 q ∧ rv = .int .u64 r ∧ DRel U V1 Y A B q r) (fun qv _ => (intOf qv).toNat)
  case atStart => exact ⟨_, _, rfl, rfl, HDS.out⟩
  case round =>
   obtain ⟨q, r, rfl, rfl, hd⟩ := hrel
   obtain ⟨d0, d1, d2, d3, _⟩ := id hd
   have HD := Lib.hid hd
   clear hd g1 g2 g3 g4 g6 g7 g8 g9
   by_cases hq : 4294967296 ≤ q
   ·have hm : (decide (4294967296 ≤ q) || decide (4294967296 * r + V1 < q * B)) = true := by simp [hq]
    obtain ⟨k1, k2, k3⟩ := digit_next Hok.out HD.out hm
    have K2 := Lib.hid k2
    have K3 := Lib.hid k3
    clear hm k2 k3
    by_cases hr : r + A < 4294967296
    ·go_wp2_with fail
     go_round
     case rel => exact ⟨q - 1, r + A, rfl, rfl, K2.out hr⟩
     case measure => simp [intOf]; omega
    ·have hr2 : 4294967296 ≤ r + A := by omega
     go_wp2_with fail
     go_meet
     exact ⟨rfl, by rw [K3.out hr2]⟩
   ·have hq2 : q ≤ 4294967295 := by omega
    obtain ⟨p0, p1⟩ := digit_prod d0 hq2 n5 n6
    by_cases hc : 4294967296 * r + V1 < q * B
    ·have hm : (decide (4294967296 ≤ q) || decide (4294967296 * r + V1 < q * B)) = true := by simp [hc]
     obtain ⟨k1, k2, k3⟩ := digit_next Hok.out HD.out hm
     have K2 := Lib.hid k2
     have K3 := Lib.hid k3
     clear hm k2 k3
     by_cases hr : r + A < 4294967296
     ·go_wp2_with fail
      go_round
      case rel => exact ⟨q - 1, r + A, rfl, rfl, K2.out hr⟩
      case measure => simp [intOf]; omega
     ·have hr2 : 4294967296 ≤ r + A := by omega
      go_wp2_with fail
      go_meet
      exact ⟨rfl, by rw [K3.out hr2]⟩
    ·have hm : (decide (4294967296 ≤ q) || decide (4294967296 * r + V1 < q * B)) = false := by simp [hc]; omega
     have K3 := Lib.hid (digit_done Hok.out HD.out hm)
     clear hm
     go_wp2_with fail
     go_meet
     exact ⟨rfl, by rw [← K3.out]⟩
 case rest =>
  obtain ⟨rfl, rfl⟩ := hcut
  clear g1 g2 g3 g4 t1 HDS
  have HR := Lib.hid (digit_rest Hok.out)
  obtain ⟨e1, e2⟩ := div_end N.out
  rw [HQ.out] at e1
  rw [HZ.out] at e2
  have E1 := Lib.hid e1
  have E2 := Lib.hid e2
  have hok2 : DOk (drest U V1 Y) V0 Y A B := by
   obtain ⟨a0, a1, a2, a3, a4, a5, a6, a7, a8, a9⟩ := Hok.out
   exact ⟨a0, a1, a2, a3, a4, a5, g8, g9, n11, n12⟩
  have HR2 := Lib.hid (digit_rest hok2)
  obtain ⟨p1, p2, p3, p4, p5⟩ := digit_start hok2
  obtain ⟨p6, p7, p8, p9⟩ := digit_bd hok2
  have HDS := Lib.hid p5
  have Hok2 := Lib.hid hok2
  clear e1 e2 hok2 p5 N Hok n7 n8 n13 H0
  generalize digit U V1 Y = Q1 at *
  go_upto_region 22 with fail
  rw [HR.out]
  generalize drest U V1 Y = R at *
  generalize IntKind.u64.wrap (Q1 * Y) = junk3
  generalize IntKind.u64.wrap (U * 4294967296) = junk4
  generalize IntKind.u64.wrap (junk4 + V1) = junk5
  have t1 : 0 ≤ R - R / A * A := by omega
  have t2 : R ≤ 18446744073709551614 := by omega
  go_upto_block 2 with fail
  go_cut [18] (fun q wx => w1 = wx ∧ q = .int .u64 (digit R V0 Y))
  case first =>
   go_wp2_with fail
   go_loop [18, 16] (fun qv rv => ∃ q r : Int, qv = .int .u64 q ∧ rv = .int .u64 r ∧ DRel R V0 Y A B q r) (fun qv _ => (intOf qv).toNat)
   case atStart => exact ⟨_, _, rfl, rfl, HDS.out⟩
   case round =>
    obtain ⟨q, r, rfl, rfl, hd⟩ := hrel
    obtain ⟨d0, d1, d2, d3, _⟩ := id hd
    have HD := Lib.hid hd
    clear hd p1 p2 p3 p4 p6 p7 p8 p9
    by_cases hq : 4294967296 ≤ q
    ·have hm : (decide (4294967296 ≤ q) || decide (4294967296 * r + V0 < q * B)) = true := by simp [hq]
     obtain ⟨k1, k2, k3⟩ := digit_next Hok2.out HD.out hm
     have K2 := Lib.hid k2
     have K3 := Lib.hid k3
     clear hm k2 k3
     by_cases hr : r + A < 4294967296
     ·go_wp2_with fail
      go_round
      case rel => exact ⟨q - 1, r + A, rfl, rfl, K2.out hr⟩
      case measure => simp [intOf]; omega
     ·have hr2 : 4294967296 ≤ r + A := by omega
      go_wp2_with fail
      go_meet
      exact ⟨rfl, by rw [K3.out hr2]⟩
    ·have hq2 : q ≤ 4294967295 := by omega
     obtain ⟨z0, z1⟩ := digit_prod d0 hq2 n5 n6
     by_cases hc : 4294967296 * r + V0 < q * B
     ·have hm : (decide (4294967296 ≤ q) || decide (4294967296 * r + V0 < q * B)) = true := by simp [hc]
      obtain ⟨k1, k2, k3⟩ := digit_next Hok2.out HD.out hm
      have K2 := Lib.hid k2
      have K3 := Lib.hid k3
      clear hm k2 k3
      by_cases hr : r + A < 4294967296
      ·go_wp2_with fail
       go_round
       case rel => exact ⟨q - 1, r + A, rfl, rfl, K2.out hr⟩
       case measure => simp [intOf]; omega
      ·have hr2 : 4294967296 ≤ r + A := by omega
       go_wp2_with fail
       go_meet
       exact ⟨rfl, by rw [K3.out hr2]⟩
     ·have hm : (decide (4294967296 ≤ q) || decide (4294967296 * r + V0 < q * B)) = false := by simp [hc]; omega
      have K3 := Lib.hid (digit_done Hok2.out HD.out hm)
      clear hm
      go_wp2_with fail
      go_meet
      exact ⟨rfl, by rw [← K3.out]⟩
  case rest =>
   obtain ⟨rfl, rfl⟩ := hcut
   clear p1 p2 p3 p4 t1 HDS
   generalize digit R V0 Y = Q0 at *
   go_wp2_with fail
   rw [HR2.out]
   go_ret2
   exact ⟨ret_two E1.out E2.out, rfl⟩
theorem div64 (hi lo y q z : Int) (w : World) (h0 : 0 ≤ hi) (h1 : hi < y) (h2 : y ≤ 18446744073709551615) (l0 : 0 ≤ lo) (l1 : lo ≤ 18446744073709551615)
  (hq : (((hi.toNat * 18446744073709551616 + lo.toNat) / y.toNat : Nat) : Int) = q) (hz : (((hi.toNat * 18446744073709551616 + lo.toNat) % y.toNat : Nat) : Int) = z) :
  Calls Tryz.prog 112 #[.int .u64 hi, .int .u64 lo, .int .u64 y] w fun e w' => e = .returned (.tuple #[.int .u64 q, .int .u64 z]) ∧ ∃ n, w' = w.drewN n := by
 by_cases hp : hi = 0
 ·subst hp
  rw [Int.toNat_zero, Nat.zero_mul, Nat.zero_add] at hq hz
  rw [Int.natCast_ediv, Int.toNat_of_nonneg l0, Int.toNat_of_nonneg (show 0 ≤ y by omega)] at hq
  rw [Int.natCast_emod, Int.toNat_of_nonneg l0, Int.toNat_of_nonneg (show 0 ≤ y by omega)] at hz
  refine (div64_zero lo y w (by omega) h2 l0 l1).mono ?_
  rintro e w' ⟨rfl, h⟩
  exact ⟨ret_two hq hz, h⟩
 ·refine (div64_big hi lo y q z w h0 (by omega) h1 h2 l0 l1 hq hz).mono ?_
  rintro e w' ⟨rfl, rfl⟩
  exact ⟨rfl, 0, rfl⟩
end Go.Proofs.YtbnnpkcfifejmabGreat
namespace Go.Proofs.YtbnnpkcfifejmabGreat
open Go.RowKit
theorem quo_words {p : Nat} : p / 4294967296 * 18446744073709551616 + p * 4294967296 % 18446744073709551616 = p * 4294967296 := by omega
theorem div_over {a b : Nat} (hb : 1 ≤ b) (h : b ≤ a / 4294967296) : 9223372036854775808 ≤ Fx.rnd (a * 4294967296) b := by
 have h1 : 9223372036854775808 ≤ a * 4294967296 / b := by
  rw [Nat.le_div_iff_mul_le (by omega)]
  omega
 unfold Fx.rnd
 split <;> omega
theorem rnd_ge {p b : Nat} (h : 9223372036854775808 ≤ p / b) : 9223372036854775808 ≤ Fx.rnd p b := by
 unfold Fx.rnd
 split <;> omega
set_option maxRecDepth 20000 in
set_option maxHeartbeats 4000000 in
theorem fix_div (x y : Int) (w : World) (hx : Fx.In x) (hy : Fx.In y) : Calls Tryz.prog 72 #[.int .i64 x, .int .i64 y] w fun e w' => e = .returned (.int .i64 (Fx.div x y)) ∧ ∃ n, w' = w.drewN n := by
 by_cases hy0 : y = 0
 ·subst hy0
  by_cases hx0 : x = 0
  ·subst hx0
   go_enter Tryz.func72, Tryz.ntmps72
   go_wp2_with fail
   go_ret
   exact ⟨rfl, 0, rfl⟩
  ·have d : (x == 0) = false := by simpa using hx0
   have HE := Lib.hid (show Fx.edge (decide (x < 0)) = Fx.div x 0 by unfold Fx.div; rw [if_pos rfl, if_neg hx0])
   clear hx0 hx hy
   go_enter Tryz.func72, Tryz.ntmps72
   go_wp2_with fail
   refine (fix_edge _ _).mono ?_
   rintro e w1 ⟨rfl, rfl⟩
   go_wp2_with fail
   go_ret
   exact ⟨ret_int HE.out, 0, rfl⟩
 ·have d : (y == 0) = false := by simpa using hy0
  have HD := Lib.hid (show Fx.clamp (Fx.sgn (Fx.neg2 x y) (Fx.rnd (x.natAbs * 4294967296) y.natAbs)) = Fx.div x y by unfold Fx.div; rw [if_neg hy0])
  have hb1 : 1 ≤ y.natAbs := by omega
  have hb2 := natAbs_le hy
  have ha2 := natAbs_le hx
  have HX := Lib.hid hx
  have HY := Lib.hid hy
  have Hb1 := Lib.hid hb1
  have Hb2 := Lib.hid hb2
  have Ha2 := Lib.hid ha2
  clear hx hy hy0 hb1 hb2 ha2
  go_enter Tryz.func72, Tryz.ntmps72
  go_wp2_with fail
  generalize hN : (!(decide (x < 0) == decide (y < 0))) = nb
  rw [show Fx.neg2 x y = nb from hN] at HD
  clear hN
  refine (fix_size x _ HX.out).mono ?_
  rintro e w1 ⟨rfl, rfl⟩
  go_wp2_with fail
  refine (fix_size y _ HY.out).mono ?_
  rintro e w1 ⟨rfl, rfl⟩
  obtain ⟨a, ha⟩ : ∃ a : Int, a = (x.natAbs : Int) := ⟨_, rfl⟩
  obtain ⟨b, hb⟩ : ∃ b : Int, b = (y.natAbs : Int) := ⟨_, rfl⟩
  have a0 : 0 ≤ a := by omega
  have b1 : 1 ≤ b := by have := Hb1.out; omega
  have a2 : a ≤ 9223372036854775808 := by have := Ha2.out; omega
  have b2 : b ≤ 9223372036854775808 := by have := Hb2.out; omega
  have ea : x.natAbs = a.toNat := by omega
  have eb : y.natAbs = b.toNat := by omega
  rw [ea, eb] at HD
  rw [← ha, ← hb]
  clear ha hb ea eb Hb1 Hb2 Ha2
  go_upto_region 8 with fail
  generalize hhi : a / 4294967296 = hi
  generalize hlo : IntKind.u64.wrap (a * 4294967296) = lo
  have h0 : 0 ≤ hi := by omega
  have h1 : hi ≤ 2147483648 := by omega
  have l0 : 0 ≤ lo := by rw [IntKind.wrap_u64] at hlo; omega
  have l1 : lo ≤ 18446744073709551615 := by rw [IntKind.wrap_u64] at hlo; omega
  have HH := Lib.hid hhi
  have HL := Lib.hid hlo
  clear hhi hlo
  by_cases hge : b ≤ hi
  ·have HE : RowKit.Hid (Fx.edge nb = Fx.div x y) := by
    rw [← HD.out]
    have := HH.out
    exact (Fx.clamp_sgn_big (div_over (by omega) (by omega))).symm
   go_wp2_with fail
   refine (fix_edge _ _).mono ?_
   rintro e w1 ⟨rfl, rfl⟩
   go_wp2_with fail
   go_ret
   exact ⟨ret_int HE.out, 0, rfl⟩
  ·have hlt : hi < b := by omega
   have hp : hi.toNat * 18446744073709551616 + lo.toNat = a.toNat * 4294967296 := by
    have h5 := HH.out
    have h6 := HL.out
    rw [IntKind.wrap_u64] at h6
    omega
   have HP := Lib.hid hp
   clear hp
   obtain ⟨q, hq⟩ : ∃ q : Int, q = ((a.toNat * 4294967296 / b.toNat : Nat) : Int) := ⟨_, rfl⟩
   obtain ⟨z, hz⟩ : ∃ z : Int, z = ((a.toNat * 4294967296 % b.toNat : Nat) : Int) := ⟨_, rfl⟩
   have q0 : 0 ≤ q := by rw [hq]; exact Int.natCast_nonneg _
   have q1 : q ≤ 18446744073709551615 := by
    have h3 : a.toNat * 4294967296 / b.toNat < 18446744073709551616 := by
     rw [Nat.div_lt_iff_lt_mul (by omega)]
     have := HH.out
     omega
    rw [hq]
    generalize a.toNat * 4294967296 / b.toNat = m at *
    omega
   have z0 : 0 ≤ z := by rw [hz]; exact Int.natCast_nonneg _
   have z1 : z < b := by
    have h3 := Nat.mod_lt (a.toNat * 4294967296) (show 0 < b.toNat by omega)
    rw [hz]
    generalize a.toNat * 4294967296 % b.toNat = m at *
    omega
   have HQ := Lib.hid hq
   have HZ := Lib.hid hz
   clear hq hz
   have HA : RowKit.Hid (∀ n : Int, n.toNat = Fx.rnd (a.toNat * 4294967296) b.toNat → Fx.clamp (Fx.sgn nb n.toNat) = Fx.div x y) := fun n hn => by rw [hn]; exact HD.out
   have odd : bits .and .u64 q 1 = q % 2 := by
    obtain ⟨n, rfl⟩ := Int.eq_ofNat_of_zero_le q0
    rw [u64_odd n (by omega)]
    omega
   go_wp2_with fail
   refine (div64 hi lo b q z _ h0 hlt (by omega) l0 l1 (by rw [HP.out]; exact HQ.out.symm) (by rw [HP.out]; exact HZ.out.symm)).mono ?_
   rintro e w1 ⟨rfl, n, rfl⟩
   by_cases hbig : 9223372036854775808 ≤ q
   ·have HE : RowKit.Hid (Fx.edge nb = Fx.div x y) := by
     rw [← HD.out]
     have := HQ.out
     refine (Fx.clamp_sgn_big (rnd_ge ?_)).symm
     generalize a.toNat * 4294967296 / b.toNat = m at *
     omega
    go_wp2_with fail
    refine (fix_edge _ _).mono ?_
    rintro e w1 ⟨rfl, rfl⟩
    go_wp2_with fail
    go_ret
    exact ⟨ret_int HE.out, n, rfl⟩
   ·have hsm : q ≤ 9223372036854775807 := by omega
    clear hbig q1
    have hr : Fx.rnd (a.toNat * 4294967296) b.toNat = if b.toNat < 2 * z.toNat ∨ (2 * z.toNat = b.toNat ∧ q.toNat % 2 = 1) then q.toNat + 1 else q.toNat := by
     unfold Fx.rnd
     rw [HQ.out, HZ.out, Int.toNat_natCast, Int.toNat_natCast]
    have HR := Lib.hid hr
    clear hr
    by_cases c1 : b - z < z
    ·have hz : (q + 1).toNat = Fx.rnd (a.toNat * 4294967296) b.toNat := by rw [HR.out, if_pos (by omega)]; omega
     have Hz := Lib.hid hz
     clear hz
     go_wp2_with fail
     refine (fix_signed_int (q + 1) nb _ (by omega) (by omega)).mono ?_
     rintro e w1 ⟨rfl, rfl⟩
     go_wp2_with fail
     go_ret
     exact ⟨ret_int (HA.out _ Hz.out), n, rfl⟩
    ·by_cases c2 : z = b - z
     ·have d2 : (z == b - z) = true := by simpa using c2
      have c3 : 2 * z = b := by omega
      by_cases c4 : q % 2 = 1
      ·have d3 : (q % 2 == 1) = true := by simpa using c4
       have hz : (q + 1).toNat = Fx.rnd (a.toNat * 4294967296) b.toNat := by rw [HR.out, if_pos (by omega)]; omega
       have Hz := Lib.hid hz
       clear hz c2 c3 c4
       go_wp2_with fail
       refine (fix_signed_int (q + 1) nb _ (by omega) (by omega)).mono ?_
       rintro e w1 ⟨rfl, rfl⟩
       go_wp2_with fail
       go_ret
       exact ⟨ret_int (HA.out _ Hz.out), n, rfl⟩
      ·have d3 : (q % 2 == 1) = false := by simpa using c4
       have hz : q.toNat = Fx.rnd (a.toNat * 4294967296) b.toNat := by rw [HR.out, if_neg (by omega)]
       have Hz := Lib.hid hz
       clear hz c2 c3 c4
       go_wp2_with fail
       refine (fix_signed_int q nb _ (by omega) (by omega)).mono ?_
       rintro e w1 ⟨rfl, rfl⟩
       go_wp2_with fail
       go_ret
       exact ⟨ret_int (HA.out _ Hz.out), n, rfl⟩
     ·have d2 : (z == b - z) = false := by simpa using c2
      have hz : q.toNat = Fx.rnd (a.toNat * 4294967296) b.toNat := by rw [HR.out, if_neg (by omega)]
      have Hz := Lib.hid hz
      clear hz c2
      go_wp2_with fail
      refine (fix_signed_int q nb _ (by omega) (by omega)).mono ?_
      rintro e w1 ⟨rfl, rfl⟩
      go_wp2_with fail
      go_ret
      exact ⟨ret_int (HA.out _ Hz.out), n, rfl⟩
end Go.Proofs.YtbnnpkcfifejmabGreat
namespace Go.Proofs.YtbnnpkcfifejmabGreat
open Go.ChangeShapes Go.WideShapes Go.Deep Go.RowKit
section
variable {H : Type} {enc : TypeId × Value → H} {P : Program} {w : World} {base : Nat} {spare : Nat → Bool} {held : Bool}
theorem open_slice_fields {t e : TypeId} {fs : Array Field} {fuel : Nat} {cs : List Value} {x : DataW H × List MemPlace} (ht : P.underlying t = some (.slice e)) (he : P.underlying e = some (.struct fs))
  (hone : oneCellFields P fs = true) (hC : P.cellsOf e = fs.size) (h : DataW.trod enc P w base spare held fuel t cs = some x) :
  (cs = [.slice none 0 0] ∧ x = (.nil, [])) ∨
  ∃ (a : Addr) (len cap m : Nat) (D : Nat → DataW H) (Pl : Nat → List MemPlace), cs = [.slice (some a) len cap] ∧ base ≤ a.block ∧ len ≤ cap ∧ cap ≤ maxLen ∧ m = (if spare a.block then cap else len) ∧
   x = (.slice ((List.range len).map D) ((List.range (m - len)).map fun j => D (len + j)), MemPlace.row a (m * fs.size) ++ (List.range m).flatMap Pl) ∧
   ∀ i, i < m → ∃ (ys : List (DataW H × List MemPlace)) (n : Nat), D i = .agg (ys.map (·.1)) ∧ Pl i = ys.flatMap (·.2) ∧ ys.length = fs.size ∧
    ∀ (j : Nat) (f : Field), fs[j]? = some f → ∃ (v : Value) (y : DataW H × List MemPlace), w.cell? (a.add (i * fs.size + j)) = some v ∧ ys[j]? = some y ∧ DataW.trod enc P w base spare held n f.type [v] = some y := by
 rcases open_slice ht h with h0 | ⟨a, len, cap, m, n, D, Pl, hcs, hb, hl, hm, hmm, hx, hi⟩
 ·exact .inl h0
 ·refine .inr ⟨a, len, cap, m, D, Pl, hcs, hb, hl, hm, hmm, by rw [hC] at hx; exact hx, fun i him => ?_⟩
  obtain ⟨cs', hc, ht'⟩ := hi i him
  rw [hC] at hc
  obtain ⟨ys, n', hn', hy, hlen, hyl, hf⟩ := DataW.trod_struct he ht'
  obtain ⟨_, hcl, hat⟩ := World.cells?_some hc
  simp only [Prod.mk.injEq] at hy
  refine ⟨ys, n', hy.1, hy.2, hyl, fun j f hj => ?_⟩
  obtain ⟨ho, hk⟩ := hone_of hone j f hj
  have hjl : j < fs.size := (Array.getElem?_eq_some_iff.1 hj).1
  have hcell := hat j hjl
  have hv : cs'[j]? = some (cs'[j]'(by omega)) := List.getElem?_eq_getElem (by omega)
  have h1 := hf j f hj
  rw [ho, hk] at h1
  have hone' : (cs'.drop j).take 1 = [cs'[j]'(by omega)] := by
   rw [List.drop_eq_getElem_cons (by omega)]
   rfl
  rw [hone'] at h1
  have hys : ys[j]? = some (ys[j]'(by omega)) := List.getElem?_eq_getElem (by omega)
  refine ⟨_, _, ?_, hys, h1.trans hys⟩
  rw [← Go.Deep.add_add, hcell, hv]
end
theorem plain_row {w : World} {a : Addr} {v : Value} (h : w.cell? (a.add 0) = some v) : ∃ b off, a = ⟨b, off, none⟩ := by
 obtain ⟨b, off, spot⟩ := a
 have hs : spot = none := by simpa [Addr.add] using World.cell?_spot h
 subst hs
 exact ⟨b, off, rfl⟩
theorem add_plain' (b off j : Nat) : (⟨b, off, none⟩ : Addr).add j = ⟨b, off + j, none⟩ := by
 unfold Addr.add; split <;> simp_all
section
variable {H : Type} {enc : TypeId × Value → H} {P : Program} {w : World} {base : Nat} {spare : Nat → Bool} {held : Bool}
theorem ints_open {t e : TypeId} {k : IntKind} {fuel : Nat} {v : Value} {x : DataW H × List MemPlace} (ht : P.underlying t = some (.slice e)) (he : P.underlying e = some (.int k)) (hc : P.cellsOf e = 1) (h : DataW.trod enc P w base spare held fuel t [v] = some x) :
  ∃ A cap zs, v = .slice A zs.length cap ∧ zs.length ≤ 9223372036854775807 ∧ zs.length ≤ cap ∧ Ints k w A zs ∧ ∀ n ∈ zs, (Lit.int k n).wf = true := by
 rcases open_ints ht he hc h with ⟨hcs, _⟩ | ⟨a, len, cap, zs, hcs, _, hl, hm, hz, _, hcell, hwz⟩
 ·simp at hcs; subst hcs
  exact ⟨none, 0, [], rfl, by simp, by simp, Ints.nil, by simp⟩
 ·simp at hcs; subst hcs
  have hlz : len ≤ zs.length := by rw [hz]; split <;> omega
  have hll : (zs.take len).length = len := by rw [List.length_take]; omega
  refine ⟨some a, cap, zs.take len, by rw [hll], by rw [hll]; unfold maxLen at hm; omega, by omega, fun j hj => ?_, fun n hn => hwz n (List.mem_of_mem_take hn)⟩
  have hj' : j < len := by omega
  obtain ⟨b, off, rfl⟩ := plain_row (w := w) (a := a) (v := .int k (zs.getD 0 0)) (hcell 0 (by omega))
  have hc2 := hcell j (by omega)
  rw [add_plain'] at hc2
  refine ⟨b, off, rfl, World.block_lt_of_cell? _ _ hc2, ?_⟩
  rw [hc2]
  have e : (zs.take len).getD j 0 = zs.getD j 0 := by simp [List.getD_eq_getElem?_getD, hj']
  rw [e]
end
end Go.Proofs.YtbnnpkcfifejmabGreat
namespace Go.Proofs.YtbnnpkcfifejmabGreat
open Go.RowKit
theorem In_at {l : List Int} (h : ∀ z ∈ l, Fx.In z) {k : Nat} (hk : k < l.length) : Fx.In l[k] := h _ (List.getElem_mem hk)
theorem sum_succ {l : List Int} {k : Nat} (hk : k < l.length) : Fx.sum (l.take (k + 1)) = Fx.add (Fx.sum (l.take k)) l[k] := by
 unfold Fx.sum
 rw [List.take_succ_eq_append_getElem hk, List.foldl_append]
 rfl
theorem dot_succ {a b : List Int} {k : Nat} (hk : k < a.length) (hk2 : k < b.length) : Fx.dot (a.take (k + 1)) (b.take (k + 1)) = Fx.add (Fx.dot (a.take k) (b.take k)) (Fx.mul a[k] b[k]) := by
 unfold Fx.dot
 rw [List.take_succ_eq_append_getElem hk, List.take_succ_eq_append_getElem hk2, List.zip_append (by simp; omega), List.foldl_append]
 rfl
theorem get_at {l : List Int} {k : Nat} (hk : k < l.length) : l.getD k 0 = l[k] := by rw [List.getD_eq_getElem?_getD, List.getElem?_eq_getElem hk]; rfl
theorem fix_sum (A : Option Addr) (c : Nat) (xs : List Int) (w : World) (hl : xs.length ≤ 9223372036854775807) (hI : Ints .i64 w A xs) (hin : ∀ z ∈ xs, Fx.In z) :
  Calls Tryz.prog 71 #[.slice A xs.length c] w fun e w' => e = .returned (.int .i64 (Fx.sum xs)) ∧ w = w' := by
 have Hin := Lib.hid hin
 have HI := Lib.hid hI
 clear hI
 clear hin
 go_enter Tryz.func71, Tryz.ntmps71
 go_wp2_with fail
 go_loop [3, 8] (fun s i => ∃ k : Nat, k ≤ xs.length ∧ i = .int .i64 k ∧ s = .int .i64 (Fx.sum (xs.take k))) (fun _ i => xs.length - (intOf i).toNat)
 case atStart => exact ⟨0, Nat.zero_le _, rfl, rfl⟩
 case round =>
  obtain ⟨k, hk, rfl, rfl⟩ := hrel
  by_cases hlt : k < xs.length
  ·obtain ⟨b, off, rfl, -, hc⟩ := HI.out k hlt
   rw [get_at hlt] at hc
   have hx := In_at Hin.out hlt
   have hs := sum_succ hlt
   have h0 := Fx.sum_in (xs.take k)
   generalize Fx.sum (xs.take k) = s at *
   generalize xs[k] = x at *
   have HS := Lib.hid hs
   have HX := Lib.hid hx
   have H0 := Lib.hid h0
   clear hs hx h0
   go_wp2_with fail
   refine (fix_add s x _ H0.out HX.out).mono ?_
   rintro e w1 ⟨rfl, rfl⟩
   go_wp2_with fail
   go_round
   case rel => exact ⟨k + 1, by omega, by go_num, by rw [HS.out]⟩
   case measure => simp [intOf]; omega
  ·obtain rfl : k = xs.length := by omega
   rw [List.take_length]
   go_wp2_with fail
   go_ret
   exact ⟨rfl, rfl⟩
set_option maxHeartbeats 1000000 in
theorem fix_dot (A B : Option Addr) (c d : Nat) (a b : List Int) (w : World) (hl : a.length ≤ 1000000) (hn : b.length = a.length) (hI : Ints .i64 w A a) (hJ : Ints .i64 w B b) (ha : ∀ z ∈ a, Fx.In z) (hb : ∀ z ∈ b, Fx.In z) :
  Calls Tryz.prog 61 #[.slice A a.length c, .slice B a.length d] w fun e w' => e = .returned (.int .i64 (Fx.dot a b)) ∧ ∃ n, w' = w.drewN n := by
 have HN := Lib.hid hn
 have HI := Lib.hid hI
 have HJ := Lib.hid hJ
 have Ha := Lib.hid ha
 have Hb := Lib.hid hb
 clear hI hJ ha hb
 clear hn
 go_enter Tryz.func61, Tryz.ntmps61
 go_wp2_with fail
 go_loopw [5, 12] (fun s i wr => ∃ k n : Nat, k ≤ a.length ∧ i = .int .i64 k ∧ s = .int .i64 (Fx.dot (a.take k) (b.take k)) ∧ wr = w.drewN n) (fun _ i _ => a.length - (intOf i).toNat)
 case atStart => exact ⟨0, 0, Nat.zero_le _, rfl, rfl, rfl⟩
 case round =>
  obtain ⟨k, n, hk, rfl, rfl, hw⟩ := hrel
  have hIr : Ints .i64 wr A a := by rw [hw]; exact HI.out.drewN n
  have hJr : Ints .i64 wr B b := by rw [hw]; exact HJ.out.drewN n
  have Hw := Lib.hid hw
  have HIr := Lib.hid hIr
  have HJr := Lib.hid hJr
  clear hw hIr hJr
  by_cases hlt : k < a.length
  ·have hlt' : k < b.length := by have := HN.out; omega
   obtain ⟨ba, oa, rfl, -, hc⟩ := HIr.out k hlt
   obtain ⟨bb, ob, rfl, -, hc'⟩ := HJr.out k hlt'
   rw [get_at hlt] at hc
   rw [get_at hlt'] at hc'
   have hx := In_at Ha.out hlt
   have hy := In_at Hb.out hlt'
   have hs := dot_succ hlt hlt'
   have h0 := Fx.dot_in (a.take k) (b.take k)
   generalize Fx.dot (a.take k) (b.take k) = s at *
   generalize a[k] = x at *
   generalize b[k] = y at *
   have hc1 := fun n => fix_mul x y (wr.drewN n) hx hy
   have hc2 := fun n => fix_add s (Fx.mul x y) (wr.drewN n) h0 (Fx.mul_in x y)
   have HS := Lib.hid hs
   clear hs hx hy h0 hlt'
   have Hc1 := Lib.hid hc1
   have Hc2 := Lib.hid hc2
   clear hc1 hc2
   have k1 : (k : Int) < (a.length : Int) := by omega
   have k2 : (0 : Int) ≤ (k : Int) := by omega
   go_wp2_with fail
   go_quiet (first | (go_at_call 67; exact quiet_same (Hc1.out _)) | (go_at_call 63; exact quiet_same (Hc2.out _)))
   go_wp2_with fail
   go_roundw
   case rel => exact ⟨k + 1, n + nq, by omega, by go_num, by rw [HS.out], by rw [Hw.out, World.drewN_drewN]⟩
   case measure => simp [intOf]; omega
  ·obtain rfl : k = a.length := by omega
   have e : a.length = b.length := HN.out.symm
   rw [List.take_length, show b.take a.length = b by rw [e, List.take_length]]
   clear e
   go_wp2_with fail
   go_ret
   exact ⟨rfl, n, Hw.out⟩
theorem fix_clamp (x l h : Int) (w : World) : Calls Tryz.prog 116 #[.int .i64 x, .int .i64 l, .int .i64 h] w fun e w' => e = .returned (.int .i64 (Fx.held x l h)) ∧ w = w' := by
 by_cases h1 : h < x
 ·have E := Lib.hid (show h = Fx.held x l h by unfold Fx.held; rw [if_pos h1])
  go_enter Tryz.func116, Tryz.ntmps116
  go_wp2_with fail
  go_ret
  exact ⟨ret_int E.out, rfl⟩
 ·by_cases h2 : x < l
  ·have E := Lib.hid (show l = Fx.held x l h by unfold Fx.held; rw [if_neg h1, if_pos h2])
   go_enter Tryz.func116, Tryz.ntmps116
   go_wp2_with fail
   go_ret
   exact ⟨ret_int E.out, rfl⟩
  ·have E := Lib.hid (show x = Fx.held x l h by unfold Fx.held; rw [if_neg h1, if_neg h2])
   go_enter Tryz.func116, Tryz.ntmps116
   go_wp2_with fail
   go_ret
   exact ⟨ret_int E.out, rfl⟩
theorem fix_neg_one (w : World) : Calls Tryz.prog 117 #[.int .i64 4294967296] w fun e w' => e = .returned (.int .i64 (-4294967296)) ∧ w = w' := by
 go_enter Tryz.func117, Tryz.ntmps117
 go_wp2_with fail
 go_ret
 exact ⟨rfl, rfl⟩
theorem fix_int (n : Int) (w : World) (h0 : 0 ≤ n) (h1 : n < 2147483648) : Calls Tryz.prog 16 #[.int .i64 n] w fun e w' => e = .returned (.int .i64 (n * 4294967296)) ∧ w = w' := by
 go_enter Tryz.func16, Tryz.ntmps16
 go_wp2_with fail
 go_ret
 exact ⟨rfl, rfl⟩
end Go.Proofs.YtbnnpkcfifejmabGreat
namespace Go.Proofs.YtbnnpkcfifejmabGreat
open Go.RowKit
structure Ten where
 s : List Int
 c : List Int
namespace Tn
def right (t : Ten) : Bool := Sh.right t.s && decide ((t.c.length : Int) = Safe.prod t.s)
theorem right_false {t : Ten} (h : Sh.right t.s = false) : right t = false := by simp [right, h]
theorem right_true {t : Ten} (h : Sh.right t.s = true) : right t = decide ((t.c.length : Int) = Safe.prod t.s) := by simp [right, h]
end Tn
def TenR (w : World) (S C : Option Addr) (t : Ten) : Prop := Ints .i64 w S t.s ∧ Ints .i64 w C t.c
def TenN (B : Nat) (w : World) (v : Value) (t : Ten) : Prop :=
 ∃ g h, v = .agg #[.slice (some ⟨g, 0, none⟩) t.s.length t.s.length, .slice (some ⟨h, 0, none⟩) t.c.length t.c.length] ∧ B ≤ g ∧ B ≤ h ∧
  Blk w g 3 (t.s.map (Value.int .i64)).toArray ∧ Blk w h 43 (t.c.map (Value.int .i64)).toArray
theorem Blk.ints {w : World} {g : Nat} {t : TypeId} {k : IntKind} {zs : List Int} (h : Blk w g t (zs.map (Value.int k)).toArray) : Ints k w (some ⟨g, 0, none⟩) zs := Ints.of_row fun j hj => by
 rw [Nat.zero_add, h.cell j]
 simp [hj]
set_option maxHeartbeats 1000000 in
theorem tensor_right (S C : Option Addr) (c d : Nat) (t : Ten) (w : World) (hl : t.s.length ≤ 9223372036854775807) (hl' : t.c.length ≤ 9223372036854775807) (hI : Ints .i64 w S t.s) :
  Calls Tryz.prog 43 #[.agg #[.slice S t.s.length c, .slice C t.c.length d]] w fun e w' => e = .returned (.bool (Tn.right t)) ∧ Below w.heap.size w w' := by
 have HI := Lib.hid (hI.alloc (.cells #[.slice S t.s.length c, .slice C t.c.length d] 30))
 clear hI
 have hb0 : Below w.heap.size w (w.alloc (.cells #[.slice S t.s.length c, .slice C t.c.length d] 30)) := (Below.refl _ _).alloc (Nat.le_refl _) _
 go_enter Tryz.func43, Tryz.ntmps43
 go_wp2_with fail
 refine (shape_size S c t.s _ (by omega) HI.out).mono ?_
 rintro e w1 ⟨rfl, h1⟩
 have hz := h1.size
 rw [World.size_alloc] at h1 hz
 have hc : w1.cell? ⟨w.heap.size, 1, none⟩ = some (.slice C t.c.length d) := by rw [h1.cell (p := ⟨w.heap.size, 1, none⟩) (Nat.lt_succ_self _)]; simp
 have hb1 := hb0.trans (h1.mono (Nat.le_succ _))
 clear h1 hb0 HI
 cases hr : Sh.right t.s
 ·have HS := Lib.hid (show Sh.size t.s = (0, 20) by simp [Sh.size, hr])
  have HR := Lib.hid (Tn.right_false hr)
  clear hr
  rw [HS.out]
  go_wp2_with fail
  go_ret
  exact ⟨by rw [HR.out]; rfl, hb1⟩
 ·have HS := Lib.hid (show Sh.size t.s = (Safe.prod t.s, 0) by simp [Sh.size, hr])
  have HR := Lib.hid (Tn.right_true hr)
  clear hr
  rw [HS.out]
  go_wp2_with fail
  go_ret
  refine ⟨?_, hb1⟩
  rw [HR.out]
  by_cases he : (t.c.length : Int) = Safe.prod t.s
  ·simp [he]
  ·simp [he]
def TenPost (t : Ten) (w : World) (e : Ending) (w' : World) : Prop := ∃ v, e = .returned v ∧ TenN w.heap.size w' v t ∧ Below w.heap.size w w'
set_option maxHeartbeats 1000000 in
theorem tensor_copy (S C : Option Addr) (c d : Nat) (t : Ten) (w : World) (hl : t.s.length ≤ 1000000) (hl' : t.c.length ≤ 1000000) (hT : TenR w S C t) :
  Calls Tryz.prog 21 #[.agg #[.slice S t.s.length c, .slice C t.c.length d]] w (TenPost t w) := by
 obtain ⟨i0, hi, hz0, hz1, hz2⟩ := info_parts fix_info
 obtain ⟨hI, hC⟩ := hT
 have HI := Lib.hid hI
 have HC := Lib.hid hC
 clear hI hC
 go_enter Tryz.func21, Tryz.ntmps21
 go_wp2_with (at_make; refine wpList_make_full _ rfl _ _ 28 rfl w.heap.size 43 i0 (.int .i64 0) 1 Tryz.underlying28 hi hz0 hz1 _ _ _ _ t.c.length rfl rfl (by first | rfl | simp) (by first | rfl | simp) ?b2 ?b3 ?b4 ?_)
 case b2 => rw [hz2]; omega
 case b3 => unfold maxLen; omega
 case b4 => simp; omega
 intro w1 hown hgrow
 have hblk := own_cur hown
 have hlen := hown.1
 generalize hw0 : (w.alloc (.cells #[.slice S t.s.length c, .slice C t.c.length d] 30)).alloc (.cells #[.slice none 0 0, .slice none 0 0] 30) = w0 at hgrow
 have hsz0 : w0.heap.size = w.heap.size + 2 := by subst hw0; simp
 have hb0 : Below w.heap.size w w0 := by subst hw0; exact ((Below.refl _ _).alloc (Nat.le_refl _) _).alloc (by simp) _
 have hk0 : Blk w0 w.heap.size 30 #[.slice S t.s.length c, .slice C t.c.length d] := by subst hw0; exact (Blk.new w _ _).alloc _
 have hk1 : Blk w0 (w.heap.size + 1) 30 #[.slice none 0 0, .slice none 0 0] := by subst hw0; have := Blk.new (w.alloc (.cells #[.slice S t.s.length c, .slice C t.c.length d] 30)) 30 #[.slice none 0 0, .slice none 0 0]; rwa [World.size_alloc] at this
 clear hw0
 have hk01 := hk0.grown hgrow (by simp)
 have hk11 := hk1.grown hgrow (by simp)
 have hb1 : Below w.heap.size w w1 := hb0.grown hgrow (by omega) (by simp)
 have hsz1 := hgrow.size
 have HC1 := Lib.hid (HC.out.below hb1 (Nat.le_refl _))
 have c0 := hk01.cell 0
 have c1 := hk01.cell 1
 simp at c0 c1
 generalize (madeCells #[Value.int .i64 0] t.c.length).toList = cur at *
 clear hown hgrow HC hk0 hk1 hb0
 go_wp2_with (with_reducible refine wpList_copy_splice rfl (.tmp 8) (.tmp 10) 28 28 rfl 43 Tryz.underlying28 ?d1 (some ⟨w.heap.size + 1 + 1, 0, none⟩) C t.c.length t.c.length t.c.length d rfl rfl (w.heap.size + 1 + 1) 0 cur 43 hblk (t.c.map (Value.int .i64)) ?d2 ?d3 ?d4 ?d5 (w.heap.size + 2) w1 (Below.refl _ _) (Nat.le_refl _) ?_)
 case d1 => kernel_rfl
 case d2 => simp
 case d3 => intro hp; exact HC1.out.src' (by simpa using hp)
 case d4 => simp at hlen ⊢; omega
 case d5 => intro v hv; obtain ⟨x, _, rfl⟩ := List.mem_map.1 hv; rfl
 intro w2 hw2 hb2
 have hs := splice_all (cur := cur) (cs := t.c.map (Value.int .i64)) (by simp at hlen ⊢; omega)
 have HF := Lib.hid (show Blk w2 (w.heap.size + 1 + 1) 43 (t.c.map (Value.int .i64)).toArray by rw [← hs]; exact hw2.out)
 have hk02 := hk01.below hb2 (by omega)
 have hk12 := hk11.below hb2 (by omega)
 have hb3 := hb1.trans (hb2.mono (by omega))
 have hsz2 := hb2.size
 have HI2 := Lib.hid (HI.out.below hb3 (Nat.le_refl _))
 clear hw2 hb1 hlen hs hblk c0 c1 hk01 hk11 HC1 HI hb2
 have c0 := hk02.cell 0
 simp at c0
 go_wp2_with fail
 refine (shape_copy S c t.s _ (by omega) HI2.out).mono ?_
 rintro e w3 ⟨g, rfl, hg, hgb, h3⟩
 have hk13 := hk12.below h3 hk12.lt
 have HF3 := HF.out.below h3 HF.out.lt
 have HG3 : Blk w3 g 3 (t.s.map (Value.int .i64)).toArray := hgb
 have c1 := hk13.cell 0
 have c2 := hk13.cell 1
 have f1 := hk13.frozen 0
 have f2 := hk13.frozen 1
 simp at c1 c2
 have hb4 := hb3.trans (h3.mono hb3.size)
 have HK := Lib.hid hk13
 have HF := Lib.hid HF3
 have HG := Lib.hid HG3
 have hgne : w.heap.size + 1 ≠ g := by have := hb3.size; omega
 clear hk02 hk12 hb3 c0 h3 hgb HI2 hk13 HF3 HG3
 go_wp2_with fail
 refine bodyPost_ret (v := .agg #[.slice (some ⟨g, 0, none⟩) t.s.length t.s.length, .slice (some ⟨w.heap.size + 1 + 1, 0, none⟩) t.c.length t.c.length]) (by simp [results, Tryz.results21, go_sem, c1, c2]) rfl ?_
 exact ⟨_, rfl, ⟨g, w.heap.size + 1 + 1, rfl, by omega, by omega, (HG.out.far (p := ⟨w.heap.size + 1, 0, none⟩) (Ne.symm hgne) _).far (p := ⟨w.heap.size + 1, 1, none⟩) (Ne.symm hgne) _, (HF.out.far (p := ⟨w.heap.size + 1, 0, none⟩) (by simp) _).far (p := ⟨w.heap.size + 1, 1, none⟩) (by simp) _⟩, (hb4.setCell (p := ⟨w.heap.size + 1, 0, none⟩) (Nat.le_succ _) _).setCell (p := ⟨w.heap.size + 1, 1, none⟩) (Nat.le_succ _) _⟩
def MakeP (s : List Int) (f : Int) (w : World) (e : Ending) (w' : World) : Prop :=
 (Sh.right s = false ∧ e = .returned (.tuple #[.agg #[.slice none 0 0, .slice none 0 0], .int .i64 20]) ∨ Sh.right s = true ∧ ∃ v, e = .returned (.tuple #[v, .int .i64 0]) ∧ TenN w.heap.size w' v ⟨s, List.replicate (Safe.prod s).toNat f⟩) ∧ Below w.heap.size w w'
theorem fill_all {cs : List Value} {n : Nat} {f : Int} (hl : cs.length = n) (h : ∀ j, j < n → cs[j]? = some (.int .i64 f)) : cs = (List.replicate n f).map (Value.int .i64) := by
 apply List.ext_getElem?
 intro j
 by_cases hj : j < n
 ·rw [h j hj]; simp [hj]
 ·rw [List.getElem?_eq_none (by omega), List.getElem?_eq_none (by simp; omega)]
set_option maxHeartbeats 2000000 in
theorem tensor_make (S : Option Addr) (c : Nat) (s : List Int) (f : Int) (w : World) (hl : s.length ≤ 1000000) (hI : Ints .i64 w S s) :
  Calls Tryz.prog 45 #[.slice S s.length c, .int .i64 f] w (MakeP s f w) := by
 obtain ⟨i0, hi, hz0, hz1, hz2⟩ := info_parts fix_info
 have hI0 := hI.alloc (.cells #[.slice none 0 0, .slice none 0 0] 30)
 have hk0 := Blk.new w 30 #[.slice none 0 0, .slice none 0 0]
 have hb0 : Below w.heap.size w (w.alloc (.cells #[.slice none 0 0, .slice none 0 0] 30)) := (Below.refl _ _).alloc (Nat.le_refl _) _
 have HI := Lib.hid hI
 have HI0 := Lib.hid hI0
 have Hk0 := Lib.hid hk0
 clear hI hI0 hk0
 go_enter Tryz.func45, Tryz.ntmps45
 go_wp2_with fail
 refine (shape_size S c s _ (by omega) HI0.out).mono ?_
 rintro e w1 ⟨rfl, h1⟩
 have hk1 := Hk0.out.below h1 (by simp)
 have hb1 := hb0.trans (h1.mono (by simp))
 have hsz1 := h1.size
 rw [World.size_alloc] at hsz1
 clear h1 hb0 HI0 Hk0
 cases hr : Sh.right s
 ·have HS := Lib.hid (show Sh.size s = (0, 20) by simp [Sh.size, hr])
  rw [HS.out]
  have c0 := hk1.cell 0
  have c1 := hk1.cell 1
  have f0 := hk1.frozen 0
  have f1 := hk1.frozen 1
  simp at c0 c1
  have Hk1 := Lib.hid hk1
  have Hr := Lib.hid hr
  clear hk1 hr
  go_wp2_with fail
  refine bodyPost_ret (v := .tuple #[.agg #[.slice none 0 0, .slice none 0 0], .int .i64 20]) (by simp [results, Tryz.results45, go_sem, c0, c1]) rfl ?_
  exact ⟨.inl ⟨Hr.out, rfl⟩, (hb1.setCell (p := ⟨w.heap.size, 0, none⟩) (Nat.le_refl _) _).setCell (p := ⟨w.heap.size, 1, none⟩) (Nat.le_refl _) _⟩
 ·have HS := Lib.hid (show Sh.size s = (Safe.prod s, 0) by simp [Sh.size, hr])
  obtain ⟨_, _, _, _, hp1, hp2⟩ := Sh.right_mul hr
  rw [HS.out]
  have HP := Lib.hid (rfl : (Safe.prod s).toNat = (Safe.prod s).toNat)
  obtain ⟨n, hn⟩ := Int.eq_ofNat_of_zero_le (show 0 ≤ Safe.prod s by omega)
  have HN := Lib.hid (show (Safe.prod s).toNat = n by omega)
  rw [hn] at hp1 hp2 ⊢
  have Hk1 := Lib.hid hk1
  have Hr := Lib.hid hr
  clear hk1 hr
  clear HP HS hn
  go_wp2_with (at_make; refine wpList_make_full _ rfl _ _ 28 rfl w.heap.size 43 i0 (.int .i64 0) 1 Tryz.underlying28 hi hz0 hz1 _ _ _ _ n rfl rfl (by first | rfl | simp) (by first | rfl | simp) ?b2 ?b3 ?b4 ?_)
  case b2 => rw [hz2]; omega
  case b3 => unfold maxLen; omega
  case b4 => omega
  intro w2 hown hgrow
  have hblk := own_cur hown
  have hlen := hown.1
  have hlt := lt_of_block hblk
  have hk2 := Hk1.out.grown hgrow (by simp)
  have hb2 : Below w.heap.size w w2 := hb1.grown hgrow (by omega) (by simp)
  generalize hg : w1.heap.size = g at *
  generalize (madeCells #[Value.int .i64 0] n).toList = cur at *
  have Hblk := Lib.hid (show Blk w2 g 43 cur.toArray from hblk)
  have Hlen := Lib.hid (show cur.length = n by omega)
  have Hk2 := Lib.hid hk2
  clear hk2
  clear hown hgrow hblk hlen hg hb1
  go_wp2_with fail
  go_loopw [9, 23] (fun _ i wr => ∃ (k : Nat) (cs : List Value), k ≤ n ∧ i = .int .i64 k ∧ cs.length = n ∧ Blk wr g 43 cs.toArray ∧ (∀ j, j < k → cs[j]? = some (.int .i64 f)) ∧ Blk wr w.heap.size 30 #[.slice none 0 0, .slice none 0 0] ∧ Below w.heap.size w wr) (fun _ i _ => n - (intOf i).toNat)
  case atStart => exact ⟨0, cur, Nat.zero_le _, rfl, Hlen.out, Hblk.out, fun j hj => by omega, Hk2.out, hb2⟩
  case round =>
   clear Hblk Hlen Hk2 hb2
   obtain ⟨k, cs, hk, rfl, hcl, hbk, hall, hkr, hbel⟩ := hrel
   by_cases hlt : k < n
   ·obtain ⟨v0, c0⟩ : ∃ v, wr.cell? ⟨g, k, none⟩ = some v := ⟨cs[k], by rw [hbk.cell k]; simp [hcl, hlt]⟩
    have f0 := hbk.frozen k
    have Hcl := Lib.hid hcl
    have Hbk := Lib.hid hbk
    have Hall := Lib.hid hall
    have Hkr := Lib.hid hkr
    clear hcl hbk hall hkr
    go_wp2_with fail
    go_roundw
    case rel =>
     refine ⟨k + 1, cs.set k (.int .i64 f), by omega, by go_num, by rw [List.length_set]; exact Hcl.out, ?_, ?_, Hkr.out.far (p := ⟨g, k, none⟩) (by simp; omega) _, hbel.setCell (p := ⟨g, k, none⟩) (by simp; omega) _⟩
     ·have := Hbk.out.set_ k (.int .i64 f); simpa using this
     ·intro j hj
      rw [List.getElem?_set]
      by_cases e : k = j
      ·subst e; simp [Hcl.out, hlt]
      ·rw [if_neg e]; exact Hall.out j (by omega)
    case measure => simp [intOf]; omega
   ·obtain rfl : k = n := by omega
    have HE := Lib.hid (fill_all hcl hall)
    rw [HE.out] at hbk
    have hsz := hbel.size
    have hglt := hbk.lt
    have Hbk := Lib.hid hbk
    have Hkr := Lib.hid hkr
    clear hbk hkr
    clear hall hcl
    go_wp2_with fail
    refine (shape_copy S c s _ (by omega) (HI.out.below hbel (Nat.le_refl _))).mono ?_
    rintro e w3 ⟨q, rfl, hq, hqb, h3⟩
    have hk3 := Hkr.out.below h3 Hkr.out.lt
    have c0 := hk3.cell 0
    have c1 := hk3.cell 1
    have f0 := hk3.frozen 0
    have f1 := hk3.frozen 1
    simp at c0 c1
    have HG := Lib.hid (show Blk w3 q 3 (s.map (Value.int .i64)).toArray from hqb)
    have HH := Lib.hid (Hbk.out.below h3 Hbk.out.lt)
    have hb4 := hbel.trans (h3.mono hbel.size)
    clear hk3 hqb h3 hbel
    go_wp2_with fail
    refine bodyPost_ret (v := .tuple #[.agg #[.slice (some ⟨q, 0, none⟩) s.length s.length, .slice (some ⟨g, 0, none⟩) k k], .int .i64 0]) (by simp [results, Tryz.results45, go_sem, c0, c1]) rfl ?_
    refine ⟨.inr ⟨Hr.out, _, rfl, q, g, by rw [HN.out]; simp, by omega, by omega, ?_, ?_⟩, (hb4.setCell (p := ⟨w.heap.size, 0, none⟩) (Nat.le_refl _) _).setCell (p := ⟨w.heap.size, 1, none⟩) (Nat.le_refl _) _⟩
    ·exact (HG.out.far (p := ⟨w.heap.size, 0, none⟩) (by simp; omega) _).far (p := ⟨w.heap.size, 1, none⟩) (by simp; omega) _
    ·rw [HN.out]; exact (HH.out.far (p := ⟨w.heap.size, 0, none⟩) (by simp; omega) _).far (p := ⟨w.heap.size, 1, none⟩) (by simp; omega) _
end Go.Proofs.YtbnnpkcfifejmabGreat
namespace Go.Proofs.YtbnnpkcfifejmabGreat
open Go.RowKit
theorem same_idle (p : Addr) (w : World) :
  CallsD Tryz.prog 57 #[.pointer (some p)] .returning w fun e u' w' => e = .returned (.tuple #[]) ∧ u' = .returning ∧ w' = w := by
 refine callsD_of_wpS Tryz.func57 rfl fun c₀ cs hu => ?_
 apply wpS_seq
 apply wpS_region
 simp [wpOpsS, go_sem, recoverD, hu, Tryz.ntmps57, Exit.thenS]
 refine wpS_cond (t := false) (by simp [Act.eval, Array.replicate]) ?_
 simp only [Bool.false_eq_true, if_false]
 refine wpS_of_wp (wp_skip ?_)
 cases c₀
 simp_all [bodyPostS, results, Tryz.results57]
set_option maxHeartbeats 1000000 in
theorem tensor_same (A A' : Option Addr) (c c' : Nat) (xs ys : List Int) (w : World) (hl : xs.length ≤ 1000000000) (hn : xs.length = ys.length) (hI : Ints .i64 w A xs) (hI' : Ints .i64 w A' ys) :
  Calls Tryz.prog 25 #[.slice A xs.length c, .slice A' ys.length c'] w fun e w' => e = .returned (.bool (xs == ys)) ∧ Below w.heap.size w w' := by
 have hmf : ∀ (fn : Fn) (first cap : Array Value) (w : World), (Instr.makeFunc fn first cap).run Tryz.prog w = .ok (.func fn first cap) w := fun _ _ _ _ => rfl
 have hb0 : Below w.heap.size w (w.alloc (.cells #[.bool false] 4)) := (Below.refl _ _).alloc (Nat.le_refl _) _
 have HI := Lib.hid (hI.alloc (.cells #[.bool false] 4))
 have HI' := Lib.hid (hI'.alloc (.cells #[.bool false] 4))
 have HN := Lib.hid hn
 clear hI hI' hn
 go_enter_defers Tryz.func25, Tryz.ntmps25
 go_wp2_with fail
 go_loopw [10] (fun i wr => wr = w.alloc (.cells #[.bool false] 4) ∧ ∃ k : Nat, k ≤ xs.length ∧ i = .int .i64 k ∧ xs.take k = ys.take k) (fun i _ => xs.length - (intOf i).toNat)
 case atStart => exact ⟨rfl, 0, Nat.zero_le _, rfl, rfl⟩
 case round =>
  obtain ⟨rfl, k, hk, rfl, htk⟩ := hrel
  have HT := Lib.hid htk
  clear htk
  by_cases hlt : k < xs.length
  ·have hlt' : k < ys.length := by have := HN.out; omega
   obtain ⟨b, off, rfl, hb, hc⟩ := HI.out k hlt
   obtain ⟨b', off', rfl, hb', hc'⟩ := HI'.out k hlt'
   by_cases hxy : xs[k] = ys[k]
   ·have hb : (xs[k] != ys[k]) = false := by simp [hxy]
    have HT2 := Lib.hid (show xs.take (k + 1) = ys.take (k + 1) by rw [List.take_succ_eq_append_getElem hlt, List.take_succ_eq_append_getElem hlt', HT.out, hxy])
    clear hxy
    go_wp2_with fail
    go_roundw
    case rel => exact ⟨trivial, k + 1, by omega, by go_num, HT2.out⟩
    case measure => simp [intOf]; omega
   ·have hb : (xs[k] != ys[k]) = true := by simp [hxy]
    have hf := Lib.hid (show (xs == ys) = false by simp; rintro rfl; exact hxy rfl)
    clear hxy
    go_wp2_with fail
    refine leaves_cons (f := 57) (args := #[.pointer (some ⟨w.heap.size, 0, none⟩)]) (by simp) (by simp [go_sem]) ?_
    refine (same_idle ⟨w.heap.size, 0, none⟩ _).mono ?_
    rintro e u' w'' ⟨rfl, rfl, rfl⟩
    simp only [Leaves, settle]
    exact ⟨_, by simp [results, Tryz.results25, go_sem]; rfl, by rw [hf.out], hb0⟩
  ·obtain rfl : k = xs.length := by omega
   have hf := Lib.hid (show (xs == ys) = true by have := HT.out; rw [List.take_length, HN.out, List.take_length] at this; simp [this])
   have hb1 : Below w.heap.size w (w.alloc (.cells #[.bool true] 4)) := (Below.refl _ _).alloc (Nat.le_refl _) _
   go_wp2_with fail
   refine leaves_cons (f := 57) (args := #[.pointer (some ⟨w.heap.size, 0, none⟩)]) (by simp) (by simp [go_sem]) ?_
   refine (same_idle ⟨w.heap.size, 0, none⟩ _).mono ?_
   rintro e u' w'' ⟨rfl, rfl, rfl⟩
   simp only [Leaves, settle]
   exact ⟨_, by simp [results, Tryz.results25, go_sem]; rfl, by rw [hf.out], hb1⟩
namespace Tn
def eq (a b : Ten) : Bool := (a.s == b.s) && (a.c == b.c)
theorem eq_iff (a b : Ten) : eq a b = true ↔ a = b := by
 cases a; cases b; simp [eq]
end Tn
set_option maxHeartbeats 1000000 in
theorem tensor_equal (S C S' C' : Option Addr) (c d c' d' : Nat) (a b : Ten) (w : World) (hl : a.s.length ≤ 1000000000) (hl' : a.c.length ≤ 1000000000) (hm : b.s.length ≤ 1000000000) (hm' : b.c.length ≤ 1000000000) (hT : TenR w S C a) (hT' : TenR w S' C' b) :
  Calls Tryz.prog 9 #[.agg #[.slice S a.s.length c, .slice C a.c.length d], .agg #[.slice S' b.s.length c', .slice C' b.c.length d']] w fun e w' => e = .returned (.bool (Tn.eq a b)) ∧ Below w.heap.size w w' := by
 have hb0 : Below w.heap.size w ((w.alloc (.cells #[.slice S a.s.length c, .slice C a.c.length d] 30)).alloc (.cells #[.slice S' b.s.length c', .slice C' b.c.length d'] 30)) := ((Below.refl _ _).alloc (Nat.le_refl _) _).alloc (by simp) _
 have HA := Lib.hid (hT.1.below hb0 (Nat.le_refl _))
 have HB := Lib.hid (hT.2.below hb0 (Nat.le_refl _))
 have HC := Lib.hid (hT'.1.below hb0 (Nat.le_refl _))
 have HD := Lib.hid (hT'.2.below hb0 (Nat.le_refl _))
 clear hT hT'
 go_enter Tryz.func9, Tryz.ntmps9
 go_wp2_with fail
 refine (shape_equal S S' c c' a.s b.s _ (by omega) (by omega) HA.out HC.out).mono ?_
 rintro e w1 ⟨rfl, n, rfl⟩
 have hbn := fun n => Bdrawn hb0 n
 have HBn := Lib.hid hbn
 clear hb0 hbn
 cases hs : (a.s == b.s)
 ·have HE := Lib.hid (show Tn.eq a b = false by simp [Tn.eq, hs])
  clear hs
  go_wp2_with fail
  go_ret
  exact ⟨by rw [HE.out]; rfl, HBn.out n⟩
 ·by_cases hn : a.c.length = b.c.length
  ·have hq : ((a.c.length : Int) == b.c.length) = true := by simp [hn]
   have HN := Lib.hid hn
   have HE := Lib.hid (show Tn.eq a b = (a.c == b.c) by simp [Tn.eq, hs])
   clear hn hs
   go_wp2_with fail
   refine (tensor_same C C' d d' a.c b.c _ hl' HN.out (HB.out.drewN n) (HD.out.drewN n)).mono ?_
   rintro e w2 ⟨rfl, h2⟩
   have hb2 := (HBn.out n).trans (h2.mono (HBn.out n).size)
   go_wp2_with fail
   go_ret
   exact ⟨by rw [HE.out]; rfl, hb2⟩
  ·have hq : ((a.c.length : Int) == b.c.length) = false := by simp; omega
   have HE := Lib.hid (show Tn.eq a b = false by simp [Tn.eq, hs]; intro e; rw [e] at hn; exact hn rfl)
   clear hn hs
   go_wp2_with fail
   go_ret
   exact ⟨by rw [HE.out]; rfl, HBn.out n⟩
def OfP (t : Ten) (w : World) (e : Ending) (w' : World) : Prop :=
 (Tn.right t = false ∧ e = .returned (.tuple #[.agg #[.slice none 0 0, .slice none 0 0], .int .i64 20]) ∨ Tn.right t = true ∧ ∃ v, e = .returned (.tuple #[v, .int .i64 0]) ∧ TenN w.heap.size w' v t) ∧ Below w.heap.size w w'
set_option maxHeartbeats 1000000 in
theorem tensor_of (S C : Option Addr) (c d : Nat) (t : Ten) (w : World) (hl : t.s.length ≤ 1048576) (hl' : t.c.length ≤ 1048576) (hT : TenR w S C t) :
  Calls Tryz.prog 17 #[.slice S t.s.length c, .slice C t.c.length d] w (OfP t w) := by
 have HT := Lib.hid hT
 clear hT
 have hk0 := (Blk.new w 30 #[.slice none 0 0, .slice none 0 0]).alloc (.cells #[.slice S t.s.length c, .slice C t.c.length d] 30)
 have hk1 := Blk.new (w.alloc (.cells #[.slice none 0 0, .slice none 0 0] 30)) 30 #[.slice S t.s.length c, .slice C t.c.length d]
 rw [World.size_alloc] at hk1
 have hb0 : Below w.heap.size w ((w.alloc (.cells #[.slice none 0 0, .slice none 0 0] 30)).alloc (.cells #[.slice S t.s.length c, .slice C t.c.length d] 30)) := ((Below.refl _ _).alloc (Nat.le_refl _) _).alloc (by simp) _
 have Hk0 := Lib.hid hk0
 have Hk1 := Lib.hid hk1
 clear hk0 hk1
 go_enter Tryz.func17, Tryz.ntmps17
 go_wp2_with fail
 refine (tensor_right S C c d t _ (by omega) (by omega) (HT.out.1.below hb0 (Nat.le_refl _))).mono ?_
 rintro e w1 ⟨rfl, h1⟩
 have hk01 := Hk0.out.below h1 Hk0.out.lt
 have hk11 := Hk1.out.below h1 Hk1.out.lt
 have hb1 := hb0.trans (h1.mono hb0.size)
 clear h1 hb0 Hk0 Hk1
 cases hr : Tn.right t
 ·have c0 := hk01.cell 0
  have c1 := hk01.cell 1
  have f0 := hk01.frozen 0
  have f1 := hk01.frozen 1
  simp at c0 c1
  have Hr := Lib.hid hr
  clear hr
  go_wp2_with fail
  refine bodyPost_ret (v := .tuple #[.agg #[.slice none 0 0, .slice none 0 0], .int .i64 20]) (by simp [results, Tryz.results17, go_sem, c0, c1]) rfl ?_
  exact ⟨.inl ⟨Hr.out, rfl⟩, (hb1.setCell (p := ⟨w.heap.size, 0, none⟩) (Nat.le_refl _) _).setCell (p := ⟨w.heap.size, 1, none⟩) (Nat.le_refl _) _⟩
 ·have hsmall : t.s.length ≤ 1000000 ∧ t.c.length ≤ 1000000 := by
   have hr2 := hr
   simp only [Tn.right, Bool.and_eq_true, decide_eq_true_eq] at hr2
   obtain ⟨_, q1, _, _, _, q2⟩ := Sh.right_mul hr2.1
   omega
  have d0 := hk11.cell 0
  have d1 := hk11.cell 1
  simp at d0 d1
  have Hr := Lib.hid hr
  clear hr
  go_wp2_with fail
  refine (tensor_copy S C c d t _ hsmall.1 hsmall.2 ⟨HT.out.1.below hb1 (Nat.le_refl _), HT.out.2.below hb1 (Nat.le_refl _)⟩).mono ?_
  rintro e w2 ⟨v, rfl, ⟨g, h, rfl, hg, hh, hG, hH⟩, h2⟩
  have hk02 := hk01.below h2 hk01.lt
  have hb2 := hb1.trans (h2.mono hb1.size)
  have hlt1 := hk01.lt
  have c0 := hk02.cell 0
  have c1 := hk02.cell 1
  have f0 := hk02.frozen 0
  have f1 := hk02.frozen 1
  simp at c0 c1
  have HG := Lib.hid hG
  have HH := Lib.hid hH
  clear hG hH
  clear hk01 hk11 d0 d1 hb1 h2
  go_wp2_with fail
  refine bodyPost_ret (v := .tuple #[.agg #[.slice (some ⟨g, 0, none⟩) t.s.length t.s.length, .slice (some ⟨h, 0, none⟩) t.c.length t.c.length], .int .i64 0]) (by simp [results, Tryz.results17, go_sem, c0, c1]) rfl ?_
  exact ⟨.inr ⟨Hr.out, _, rfl, g, h, rfl, by omega, by omega, (HG.out.far (p := ⟨w.heap.size, 0, none⟩) (by simp; omega) _).far (p := ⟨w.heap.size, 1, none⟩) (by simp; omega) _, (HH.out.far (p := ⟨w.heap.size, 0, none⟩) (by simp; omega) _).far (p := ⟨w.heap.size, 1, none⟩) (by simp; omega) _⟩, (hb2.setCell (p := ⟨w.heap.size, 0, none⟩) (Nat.le_refl _) _).setCell (p := ⟨w.heap.size, 1, none⟩) (Nat.le_refl _) _⟩
end Go.Proofs.YtbnnpkcfifejmabGreat
namespace Go.Proofs.YtbnnpkcfifejmabGreat
open Go.RowKit
namespace Ly
def In (t : Ten) : Prop := ∀ z ∈ t.c, Fx.In z
def none_ : Ten := ⟨[], []⟩
def got (l : List Ten) (i : Nat) : Ten := l.getD i none_
def tab (n : Nat) (f : Nat → Int) : List Int := (List.range n).map f
def at_ (l : List Int) (i : Nat) : Int := l.getD i 0
def zeros (n : Nat) : List Int := List.replicate n 0
def side (s : List Int) (i : Nat) : Nat := (at_ s i).toNat
def span (l : List Int) : Nat := (Safe.prod l).toNat
def alike (a b : Ten) : Bool := Tn.right a && Tn.right b && decide (a.s = b.s)
def add (a b : Ten) : Ten × Int := if alike a b then (⟨a.s, tab a.c.length fun i => Fx.add (at_ a.c i) (at_ b.c i)⟩, 0) else (none_, 20)
def cutRows (c : List Int) (row a n : Nat) (k : Nat) : List Int := (List.range k).flatMap fun i => (c.drop (i * row + a)).take n
def cut (x : Ten) (sd frm til : Int) : Ten × Int :=
 if Tn.right x then
  if (Od.cut x.s sd frm til).2 = 0 then
   let inner := span ((Od.cut x.s sd frm til).1.drop (sd.toNat + 1))
   let row := side x.s sd.toNat * inner
   (⟨(Od.cut x.s sd frm til).1, cutRows x.c row (frm.toNat * inner) ((til.toNat - frm.toNat) * inner) (x.c.length / row)⟩, 0)
  else (none_, (Od.cut x.s sd frm til).2)
 else (none_, 20)
def of_ (s c : List Int) : Ten × Int := if Tn.right ⟨s, c⟩ then (⟨s, c⟩, 0) else (none_, 20)
def one : Int := 4294967296
def line (x : Int) : Int := Fx.add (Fx.mul x 1073741824) 2147483648
def cell (kind k x y : Int) : Int :=
 if kind = 1 then (if x < 0 then 0 else x)
 else if kind = 2 then (if 0 < x then x else Fx.mul x k)
 else if kind = 3 then Fx.held x (-4294967296) 4294967296
 else if kind = 4 then Fx.held (line x) 0 4294967296
 else if kind = 5 then Fx.mul x k
 else if kind = 6 then Fx.add x y
 else if kind = 7 then Fx.mul x y
 else 0
def slope (kind k x y g : Int) : Int × Int :=
 if kind = 1 then (if 0 < x then (g, 0) else (0, 0))
 else if kind = 2 then (if 0 < x then (g, 0) else (Fx.mul g k, 0))
 else if kind = 3 then (if -4294967296 < x ∧ x < 4294967296 then (g, 0) else (0, 0))
 else if kind = 4 then (if 0 < line x ∧ line x < 4294967296 then (Fx.mul g 1073741824, 0) else (0, 0))
 else if kind = 5 then (Fx.mul g k, 0)
 else if kind = 6 then (g, g)
 else if kind = 7 then (Fx.mul g y, Fx.mul g x)
 else (0, 0)
def second (x : List Ten) (i : Nat) : Int := if x.length < 2 then 0 else at_ (got x 1).c i
def ptAgree (kind : Int) (x : List Ten) : Int :=
 if Od.ptIns kind = 0 then 21 else if (x.length : Int) ≠ Od.ptIns kind then 20 else if x.all (fun t => Tn.right t && decide (t.s = (got x 0).s)) then 0 else 20
def point (kind k : Int) (x : List Ten) : Ten × Int :=
 if ptAgree kind x = 0 then (⟨(got x 0).s, tab (got x 0).c.length fun i => cell kind k (at_ (got x 0).c i) (second x i)⟩, 0) else (none_, ptAgree kind x)
def slopes (kind k : Int) (x : List Ten) (g : Ten) (i : Nat) : Int × Int := slope kind k (at_ (got x 0).c i) (second x i) (at_ g.c i)
def pointBack (kind k : Int) (g : Ten) (x : List Ten) : List Ten × Int :=
 if ptAgree kind x = 0 then
  if Tn.right g && decide (g.s = (got x 0).s) then
   (if x.length < 2 then [⟨(got x 0).s, tab (got x 0).c.length fun i => (slopes kind k x g i).1⟩]
    else [⟨(got x 0).s, tab (got x 0).c.length fun i => (slopes kind k x g i).1⟩, ⟨(got x 1).s, tab (got x 0).c.length fun i => (slopes kind k x g i).2⟩], 0)
  else ([], 20)
 else ([], ptAgree kind x)
def denseOk (w b x : Ten) : Bool := Tn.right w && decide (w.s.length = 2) && Tn.right b && Tn.right x && decide (b.s = [at_ w.s 0]) && decide ((x.c.length : Int) = at_ w.s 1)
def rowOf (w : List Int) (n i : Nat) : List Int := (w.drop (i * n)).take n
def dense (w b x : Ten) : Ten × Int :=
 if denseOk w b x then (⟨b.s, tab b.c.length fun i => Fx.add (Fx.dot (rowOf w.c x.c.length i) x.c) (at_ b.c i)⟩, 0) else (none_, 20)
def denseX (w g x : List Int) : Nat → List Int
 | 0 => zeros x.length
 | i + 1 => tab x.length fun j => Fx.add (at_ (denseX w g x i) j) (Fx.mul (at_ w (i * x.length + j)) (at_ g i))
def denseW (g x : List Int) : List Int := tab (g.length * x.length) fun k => Fx.mul (at_ g (k / x.length)) (at_ x (k % x.length))
def denseBack (w b x g : Ten) : (Ten × Ten × Ten) × Int :=
 if denseOk w b x && Tn.right g && decide (g.s = b.s) then ((⟨w.s, denseW g.c x.c⟩, g, ⟨x.s, denseX w.c g.c x.c g.c.length⟩), 0) else ((none_, none_, none_), 20)
structure Frame where
 outs : Nat
 ins : Nat
 k0 : Nat
 k1 : Nat
 i0 : Nat
 i1 : Nat
 o0 : Nat
 o1 : Nat
 step : Nat
def last2 (l : List Int) : Nat × Nat := if l.length = 1 then (1, side l 0) else (side l 0, side l 1)
def frame (w x out : List Int) (step : Int) : Frame :=
 ⟨side w 0, side w 1, (last2 (w.drop 2)).1, (last2 (w.drop 2)).2, (last2 (x.drop 1)).1, (last2 (x.drop 1)).2, (last2 (out.drop 1)).1, (last2 (out.drop 1)).2, step.toNat⟩
structure Touch where
 o : Nat
 w : Nat
 x : Nat
def Frame.rowT (f : Frame) (p i j q t : Nat) : List Touch :=
 (List.range f.k1).map fun u => ⟨(p * f.o0 + i) * f.o1 + j, (p * f.ins + q) * (f.k0 * f.k1) + t * f.k1 + u, q * (f.i0 * f.i1) + (i * f.step * f.i1 + j * f.step) + t * f.i1 + u⟩
def Frame.cellT (f : Frame) (p i j : Nat) : List Touch := (List.range f.ins).flatMap fun q => (List.range f.k0).flatMap fun t => f.rowT p i j q t
def Frame.all (f : Frame) : List Touch := (List.range f.outs).flatMap fun p => (List.range f.o0).flatMap fun i => (List.range f.o1).flatMap fun j => f.cellT p i j
def addAt (l : List Int) (i : Nat) (v : Int) : List Int := l.set i (Fx.add (at_ l i) v)
def convC (w x : List Int) (ts : List Touch) (n : Nat) : List Int := ts.foldl (fun o t => addAt o t.o (Fx.mul (at_ w t.w) (at_ x t.x))) (zeros n)
def convW (g x : List Int) (ts : List Touch) (n : Nat) : List Int := ts.foldl (fun o t => addAt o t.w (Fx.mul (at_ g t.o) (at_ x t.x))) (zeros n)
def convX (g w : List Int) (ts : List Touch) (n : Nat) : List Int := ts.foldl (fun o t => addAt o t.x (Fx.mul (at_ g t.o) (at_ w t.w))) (zeros n)
def convErr (w x : Ten) (step : Int) : Int := if Tn.right w && Tn.right x then (Od.conv w.s x.s step).2 else 20
def convT (w x : Ten) (step : Int) : List Touch := (frame w.s x.s (Od.conv w.s x.s step).1 step).all
def conv (w x : Ten) (step : Int) : Ten × Int :=
 if convErr w x step = 0 then (⟨(Od.conv w.s x.s step).1, convC w.c x.c (convT w x step) (span (Od.conv w.s x.s step).1)⟩, 0) else (none_, convErr w x step)
def convBack (w x g : Ten) (step : Int) : (Ten × Ten) × Int :=
 if convErr w x step = 0 then
  if Tn.right g && decide (g.s = (Od.conv w.s x.s step).1) then
   ((⟨w.s, convW g.c x.c (convT w x step) w.c.length⟩, ⟨x.s, convX g.c w.c (convT w x step) x.c.length⟩), 0)
  else ((none_, none_), 20)
 else ((none_, none_), convErr w x step)
def best (l : List Int) : Nat → Int
 | 0 => -1
 | k + 1 => if best l k < 0 ∨ at_ l (best l k).toNat < at_ l k then k else best l k
def poolErr (x : Ten) (width step : Int) : Int := if Tn.right x then (Od.pool x.s width step).2 else 20
def from_ (sd n step i : Nat) : Nat := i / n * sd + i % n * step
def win (c : List Int) (sd n width step i : Nat) : List Int := (c.drop (from_ sd n step i)).take width
def poolCell (top : Bool) (l : List Int) (width : Int) : Int := if top then at_ l (best l l.length).toNat else Fx.div (Fx.sum l) (width * 4294967296)
def lastOf (s : List Int) : Nat := side s (s.length - 1)
def poolS (x : Ten) (width step : Int) : List Int := (Od.pool x.s width step).1
def pool (top : Bool) (x : Ten) (width step : Int) : Ten × Int :=
 if poolErr x width step = 0 then
  (⟨poolS x width step, tab (span (poolS x width step)) fun i => poolCell top (win x.c (lastOf x.s) (lastOf (poolS x width step)) width.toNat step.toNat i) width⟩, 0)
 else (none_, poolErr x width step)
def addRow (l : List Int) (a : Nat) (v : Int) : Nat → List Int
 | 0 => l
 | j + 1 => addAt (addRow l a v j) (a + j) v
def poolStep (top : Bool) (x : List Int) (sd n : Nat) (width : Int) (step : Nat) (acc : List Int) (i : Nat) (v : Int) : List Int :=
 if top then addAt acc (from_ sd n step i + (best (win x sd n width.toNat step i) width.toNat).toNat) v
 else addRow acc (from_ sd n step i) (Fx.div v (width * 4294967296)) width.toNat
def poolX (top : Bool) (x g : List Int) (sd n : Nat) (width : Int) (step : Nat) : Nat → List Int
 | 0 => zeros x.length
 | i + 1 => poolStep top x sd n width step (poolX top x g sd n width step i) i (at_ g i)
def poolBack (top : Bool) (x g : Ten) (width step : Int) : Ten × Int :=
 if poolErr x width step = 0 then
  if Tn.right g && decide (g.s = poolS x width step) then
   (⟨x.s, poolX top x.c g.c (lastOf x.s) (lastOf (poolS x width step)) width step.toNat g.c.length⟩, 0)
  else (none_, 20)
 else (none_, poolErr x width step)
def joinedS (sd : Int) (s : List Int) : List Ten → List Int × Int
 | [] => (s, 0)
 | t :: r => if Tn.right t then (if (Od.join s t.s sd).2 = 0 then joinedS sd (Od.join s t.s sd).1 r else ([], (Od.join s t.s sd).2)) else ([], 20)
def joined (sd : Int) (x : List Ten) : List Int × Int :=
 match x with
 | [] => ([], 20)
 | t :: r => if Tn.right t then (if r.length = 0 ∧ (sd < 0 ∨ (t.s.length : Int) ≤ sd) then ([], 11) else joinedS sd t.s r) else ([], 20)
def joinRow (rows : Nat) (i : Nat) (t : Ten) : List Int := (t.c.drop (i * (t.c.length / rows))).take (t.c.length / rows)
def joinC (rows : Nat) (x : List Ten) (k : Nat) : List Int := (List.range k).flatMap fun i => x.flatMap (joinRow rows i)
def join (sd : Int) (x : List Ten) : Ten × Int :=
 if (joined sd x).2 = 0 then
  let rows := span ((joined sd x).1.take sd.toNat)
  (⟨(joined sd x).1, joinC rows x rows⟩, 0)
 else (none_, (joined sd x).2)
def joinBackL (sd : Int) (g : Ten) (frm : Int) : List Ten → List Ten × Int
 | [] => ([], 0)
 | t :: r =>
  if (cut g sd frm (frm + at_ t.s sd.toNat)).2 = 0 then
   (if (joinBackL sd g (frm + at_ t.s sd.toNat) r).2 = 0 then ((cut g sd frm (frm + at_ t.s sd.toNat)).1 :: (joinBackL sd g (frm + at_ t.s sd.toNat) r).1, 0) else ([], (joinBackL sd g (frm + at_ t.s sd.toNat) r).2))
  else ([], (cut g sd frm (frm + at_ t.s sd.toNat)).2)
def joinBack (sd : Int) (g : Ten) (x : List Ten) : List Ten × Int :=
 if (joined sd x).2 = 0 then (if Tn.right g && decide (g.s = (joined sd x).1) then joinBackL sd g 0 x else ([], 20)) else ([], (joined sd x).2)
def cutX (n row a part : Nat) (g : List Int) : Nat → List Int
 | 0 => zeros n
 | i + 1 => splice (cutX n row a part g i) (i * row + a) ((g.drop (i * part)).take part)
def cutBack (x g : Ten) (sd frm til : Int) : Ten × Int :=
 if Tn.right x then
  if (Od.cut x.s sd frm til).2 = 0 then
   if Tn.right g && decide (g.s = (Od.cut x.s sd frm til).1) then
    let inner := span ((Od.cut x.s sd frm til).1.drop (sd.toNat + 1))
    let row := side x.s sd.toNat * inner
    (⟨x.s, cutX x.c.length row (frm.toNat * inner) ((til.toNat - frm.toNat) * inner) g.c (x.c.length / row)⟩, 0)
   else (none_, 20)
  else (none_, (Od.cut x.s sd frm til).2)
 else (none_, 20)
def turn (x : Ten) (s : List Int) : Ten × Int := if Tn.right x then of_ s x.c else (none_, 20)
def turnBack (x g : Ten) : Ten × Int := if Tn.right x && Tn.right g then of_ x.s g.c else (none_, 20)
def lay (o : OpD) (p x : List Ten) : Ten × Int :=
 if o.kind = 8 then dense (got p 0) (got p 1) (got x 0)
 else if o.kind = 9 then add (got x 0) (got p 0)
 else if o.kind = 10 then conv (got p 0) (got x 0) o.step
 else if o.kind = 11 then pool true (got x 0) o.width o.step
 else if o.kind = 12 then pool false (got x 0) o.width o.step
 else if o.kind = 13 then join o.side x
 else if o.kind = 14 then cut (got x 0) o.side o.frm o.to
 else if o.kind = 15 then turn (got x 0) o.s
 else point o.kind o.k x
def go (o : OpD) (p x : List Ten) : Ten × Int := if Od.counts o p.length x.length = 0 then lay o p x else (none_, Od.counts o p.length x.length)
structure Bk where
 p : List Ten
 x : List Ten
def bnone : Bk := ⟨[], []⟩
def bsingle (r : Ten × Int) : Bk × Int := if r.2 = 0 then (⟨[], [r.1]⟩, 0) else (bnone, r.2)
def bseveral (r : List Ten × Int) : Bk × Int := if r.2 = 0 then (⟨[], r.1⟩, 0) else (bnone, r.2)
def bbias (b x g : Ten) : Bk × Int :=
 if (add x b).2 = 0 then (if Tn.right g && decide (g.s = (add x b).1.s) then (⟨[g], [g]⟩, 0) else (bnone, 20)) else (bnone, (add x b).2)
def bturn (x g : Ten) (s : List Int) : Bk × Int :=
 if (turn x s).2 = 0 then (if Tn.right g && decide (g.s = s) then bsingle (turnBack x g) else (bnone, 20)) else (bnone, (turn x s).2)
def layBack (o : OpD) (p x : List Ten) (g : Ten) : Bk × Int :=
 if o.kind = 8 then (if (denseBack (got p 0) (got p 1) (got x 0) g).2 = 0 then (⟨[(denseBack (got p 0) (got p 1) (got x 0) g).1.1, (denseBack (got p 0) (got p 1) (got x 0) g).1.2.1], [(denseBack (got p 0) (got p 1) (got x 0) g).1.2.2]⟩, 0) else (bnone, (denseBack (got p 0) (got p 1) (got x 0) g).2))
 else if o.kind = 9 then bbias (got p 0) (got x 0) g
 else if o.kind = 10 then (if (convBack (got p 0) (got x 0) g o.step).2 = 0 then (⟨[(convBack (got p 0) (got x 0) g o.step).1.1], [(convBack (got p 0) (got x 0) g o.step).1.2]⟩, 0) else (bnone, (convBack (got p 0) (got x 0) g o.step).2))
 else if o.kind = 11 then bsingle (poolBack true (got x 0) g o.width o.step)
 else if o.kind = 12 then bsingle (poolBack false (got x 0) g o.width o.step)
 else if o.kind = 13 then bseveral (joinBack o.side g x)
 else if o.kind = 14 then bsingle (cutBack (got x 0) g o.side o.frm o.to)
 else if o.kind = 15 then bturn (got x 0) g o.s
 else bseveral (pointBack o.kind o.k g x)
def back (o : OpD) (p x : List Ten) (g : Ten) : Bk × Int := if Od.counts o p.length x.length = 0 then layBack o p x g else (bnone, Od.counts o p.length x.length)
end Ly
end Go.Proofs.YtbnnpkcfifejmabGreat
namespace Go.Proofs.YtbnnpkcfifejmabGreat
open Go.RowKit
def Tens (w : World) (A : Option Addr) (ts : List Ten) : Prop :=
 ∀ j (hj : j < ts.length), ∃ b off S c C d, A = some ⟨b, off, none⟩ ∧ b < w.heap.size ∧ w.cell? ⟨b, off + j * 2, none⟩ = some (.slice S ts[j].s.length c) ∧ w.cell? ⟨b, off + j * 2 + 1, none⟩ = some (.slice C ts[j].c.length d) ∧ TenR w S C ts[j] ∧ ts[j].s.length ≤ 9223372036854775807 ∧ ts[j].c.length ≤ 9223372036854775807
theorem TenR.below {B : Nat} {w w' : World} {S C : Option Addr} {t : Ten} (h : TenR w S C t) (hb : Below B w w') (hB : w.heap.size ≤ B) : TenR w' S C t := ⟨h.1.below hb hB, h.2.below hb hB⟩
theorem TenR.drew {w : World} {S C : Option Addr} {t : Ten} (h : TenR w S C t) : TenR w.drew S C t := h
theorem Tens.below {B : Nat} {w w' : World} {A : Option Addr} {ts : List Ten} (h : Tens w A ts) (hb : Below B w w') (hB : w.heap.size ≤ B) : Tens w' A ts := fun j hj => by
 obtain ⟨b, off, S, c, C, d, e, hl, c0, c1, hT, h2⟩ := h j hj
 exact ⟨b, off, S, c, C, d, e, Nat.lt_of_lt_of_le hl hb.size, (hb.cell (p := ⟨b, off + j * 2, none⟩) (Nat.lt_of_lt_of_le hl hB)).trans c0, (hb.cell (p := ⟨b, off + j * 2 + 1, none⟩) (Nat.lt_of_lt_of_le hl hB)).trans c1, hT.below hb hB, h2⟩
theorem take_all_succ {α : Type} {p : α → Bool} {l : List α} {k : Nat} (hk : k < l.length) (h : (l.take k).all p = true) (hp : p l[k] = true) : (l.take (k + 1)).all p = true := by
 rw [List.take_succ_eq_append_getElem hk, List.all_append, h]; simp [hp]
theorem all_false_at {α : Type} {p : α → Bool} {l : List α} {k : Nat} (hk : k < l.length) (hp : p l[k] = false) : l.all p = false := by
 rw [List.all_eq_false]; exact ⟨l[k], List.getElem_mem hk, by simp [hp]⟩
namespace Tn
def alike (a b : List Ten) : Bool := decide (a.length = b.length) && a.all right && b.all right && (a.map (·.s) == b.map (·.s))
theorem alike_len {a b : List Ten} (h : a.length ≠ b.length) : alike a b = false := by simp [alike, h]
theorem alike_a {a b : List Ten} (h : a.all right = false) : alike a b = false := by simp [alike, h]
theorem alike_b {a b : List Ten} (h : b.all right = false) : alike a b = false := by simp [alike, h]
theorem alike_ok {a b : List Ten} (h : a.length = b.length) (ha : a.all right = true) (hb : b.all right = true) : alike a b = (a.map (·.s) == b.map (·.s)) := by simp [alike, h, ha, hb]
theorem right_len {t : Ten} (h : right t = true) : t.s.length ≤ 4 ∧ 1 ≤ t.s.length ∧ t.c.length ≤ 65536 := by
 simp [right] at h
 obtain ⟨_, h1, h2, _, _, h3⟩ := Sh.right_mul h.1
 omega
end Tn
namespace Tn
def eqs (a b : List Ten) : Bool := decide (a.length = b.length) && (a.zip b).all fun p => eq p.1 p.2
theorem eqs_iff (a b : List Ten) : eqs a b = true ↔ a = b := by
 induction a generalizing b with
 | nil => cases b <;> simp [eqs]
 | cons x a ih =>
  cases b with
  | nil => simp [eqs]
  | cons y b =>
   have := ih b
   simp [eqs] at this ⊢
   rw [eq_iff]
   constructor
   ·rintro ⟨h1, h2, h3⟩; exact ⟨h2, this.1 ⟨h1, h3⟩⟩
   ·rintro ⟨h1, h2⟩; have := this.2 h2; exact ⟨this.1, h1, this.2⟩
theorem eqs_false {a b : List Ten} {k : Nat} (h : k < a.length) (h' : k < b.length) (he : eq a[k] b[k] = false) : eqs a b = false := by
 cases hh : eqs a b
 ·rfl
 ·have := (eqs_iff a b).1 hh
  subst this
  rw [(eq_iff _ _).2 rfl] at he
  cases he
theorem eqs_len {a b : List Ten} (h : a.length ≠ b.length) : eqs a b = false := by simp [eqs, h]
def small (a : List Ten) : Prop := ∀ t ∈ a, t.s.length ≤ 1000000 ∧ t.c.length ≤ 1000000
end Tn
end Go.Proofs.YtbnnpkcfifejmabGreat
namespace Go.Proofs.YtbnnpkcfifejmabGreat
open Go.RowKit
theorem kinds7 {k : Int} (h1 : 1 ≤ k) (h7 : k ≤ 7) : k = 1 ∨ k = 2 ∨ k = 3 ∨ k = 4 ∨ k = 5 ∨ k = 6 ∨ k = 7 := by omega
theorem point_line (x : Int) (w : World) (hx : Fx.In x) : Calls Tryz.prog 118 #[.int .i64 x] w fun e w' => e = .returned (.int .i64 (Ly.line x)) ∧ w = w' := by
 have Hx := Lib.hid hx
 clear hx
 go_enter Tryz.func118, Tryz.ntmps118
 go_wp2_with fail
 refine (fix_mul x 1073741824 _ Hx.out (by unfold Fx.In; omega)).mono ?_
 rintro e w1 ⟨rfl, rfl⟩
 go_wp2_with fail
 refine (fix_add (Fx.mul x 1073741824) 2147483648 _ (Fx.mul_in _ _) (by unfold Fx.In; omega)).mono ?_
 rintro e w1 ⟨rfl, rfl⟩
 go_wp2_with fail
 go_ret
 exact ⟨rfl, rfl⟩
namespace Ly
theorem cell_in {kind k x y : Int} (hx : Fx.In x) : Fx.In (cell kind k x y) := by
 unfold cell
 have o1 : Fx.In 4294967296 := by unfold Fx.In; omega
 have o2 : Fx.In (-4294967296) := by unfold Fx.In; omega
 repeat' split
 all_goals first | exact hx | exact Fx.in_zero | exact Fx.mul_in _ _ | exact Fx.add_in _ _ | exact Fx.held_in hx o2 o1 | exact Fx.held_in (Fx.add_in _ _) Fx.in_zero o1
theorem slope_in {kind k x y g : Int} (hg : Fx.In g) : Fx.In (slope kind k x y g).1 ∧ Fx.In (slope kind k x y g).2 := by
 unfold slope
 repeat' split
 all_goals refine ⟨?_, ?_⟩
 all_goals first | exact hg | exact Fx.in_zero | exact Fx.mul_in _ _
theorem cell1 (k x y : Int) : cell 1 k x y = if x < 0 then 0 else x := by unfold cell; rw [if_pos (by decide)]
theorem cell2 (k x y : Int) : cell 2 k x y = if 0 < x then x else Fx.mul x k := by unfold cell; rw [if_neg (by decide)]; rw [if_pos (by decide)]
theorem cell3 (k x y : Int) : cell 3 k x y = Fx.held x (-4294967296) 4294967296 := by unfold cell; rw [if_neg (by decide)]; rw [if_neg (by decide)]; rw [if_pos (by decide)]
theorem cell4 (k x y : Int) : cell 4 k x y = Fx.held (line x) 0 4294967296 := by unfold cell; rw [if_neg (by decide)]; rw [if_neg (by decide)]; rw [if_neg (by decide)]; rw [if_pos (by decide)]
theorem cell5 (k x y : Int) : cell 5 k x y = Fx.mul x k := by unfold cell; rw [if_neg (by decide)]; rw [if_neg (by decide)]; rw [if_neg (by decide)]; rw [if_neg (by decide)]; rw [if_pos (by decide)]
theorem cell6 (k x y : Int) : cell 6 k x y = Fx.add x y := by unfold cell; rw [if_neg (by decide)]; rw [if_neg (by decide)]; rw [if_neg (by decide)]; rw [if_neg (by decide)]; rw [if_neg (by decide)]; rw [if_pos (by decide)]
theorem cell7 (k x y : Int) : cell 7 k x y = Fx.mul x y := by unfold cell; rw [if_neg (by decide)]; rw [if_neg (by decide)]; rw [if_neg (by decide)]; rw [if_neg (by decide)]; rw [if_neg (by decide)]; rw [if_neg (by decide)]; rw [if_pos (by decide)]
theorem slope1 (k x y g : Int) : slope 1 k x y g = if 0 < x then (g, 0) else (0, 0) := by unfold slope; rw [if_pos (by decide)]
theorem slope2 (k x y g : Int) : slope 2 k x y g = if 0 < x then (g, 0) else (Fx.mul g k, 0) := by unfold slope; rw [if_neg (by decide)]; rw [if_pos (by decide)]
theorem slope3 (k x y g : Int) : slope 3 k x y g = if -4294967296 < x ∧ x < 4294967296 then (g, 0) else (0, 0) := by unfold slope; rw [if_neg (by decide)]; rw [if_neg (by decide)]; rw [if_pos (by decide)]
theorem slope4 (k x y g : Int) : slope 4 k x y g = if 0 < line x ∧ line x < 4294967296 then (Fx.mul g 1073741824, 0) else (0, 0) := by unfold slope; rw [if_neg (by decide)]; rw [if_neg (by decide)]; rw [if_neg (by decide)]; rw [if_pos (by decide)]
theorem slope5 (k x y g : Int) : slope 5 k x y g = (Fx.mul g k, 0) := by unfold slope; rw [if_neg (by decide)]; rw [if_neg (by decide)]; rw [if_neg (by decide)]; rw [if_neg (by decide)]; rw [if_pos (by decide)]
theorem slope6 (k x y g : Int) : slope 6 k x y g = (g, g) := by unfold slope; rw [if_neg (by decide)]; rw [if_neg (by decide)]; rw [if_neg (by decide)]; rw [if_neg (by decide)]; rw [if_neg (by decide)]; rw [if_pos (by decide)]
theorem slope7 (k x y g : Int) : slope 7 k x y g = (Fx.mul g y, Fx.mul g x) := by unfold slope; rw [if_neg (by decide)]; rw [if_neg (by decide)]; rw [if_neg (by decide)]; rw [if_neg (by decide)]; rw [if_neg (by decide)]; rw [if_neg (by decide)]; rw [if_pos (by decide)]
end Ly
theorem point_cell (kind k x y : Int) (w : World) (h1 : 1 ≤ kind) (h7 : kind ≤ 7) (hk : Fx.In k) (hx : Fx.In x) (hy : Fx.In y) :
  Calls Tryz.prog 76 #[.int .i64 kind, .int .i64 k, .int .i64 x, .int .i64 y] w fun e w' => e = .returned (.int .i64 (Ly.cell kind k x y)) ∧ w = w' := by
 have Hk := Lib.hid hk
 have Hx := Lib.hid hx
 have Hy := Lib.hid hy
 clear hk hx hy
 rcases kinds7 h1 h7 with rfl | rfl | rfl | rfl | rfl | rfl | rfl
 all_goals clear h1 h7
 ·by_cases h : x < 0
  ·have hm := Lib.hid (show Ly.cell 1 k x y = 0 by rw [Ly.cell1, if_pos h])
   have d1 : decide (x < 0) = true := by simpa using h
   have d2 : decide (0 < x) = false := by simp; omega
   have d3 : decide (x ≤ 0) = true := by simp; omega
   have d4 : decide (0 ≤ x) = false := by simp; omega
   go_enter Tryz.func76, Tryz.ntmps76
   go_wp2_with fail
   go_ret
   exact ⟨by (rw [hm.out] <;> simp <;> omega), rfl⟩
  ·have hm := Lib.hid (show Ly.cell 1 k x y = x by rw [Ly.cell1, if_neg h])
   have d1 : decide (x < 0) = false := by simpa using h
   have d4 : decide (0 ≤ x) = true := by simp; omega
   go_enter Tryz.func76, Tryz.ntmps76
   go_wp2_with fail
   go_ret
   exact ⟨by (rw [hm.out] <;> simp <;> omega), rfl⟩
 ·by_cases h : 0 < x
  ·have hm := Lib.hid (show x = Ly.cell 2 k x y by rw [Ly.cell2, if_pos h])
   go_enter Tryz.func76, Tryz.ntmps76
   go_wp2_with fail
   go_ret
   exact ⟨ret_int hm.out, rfl⟩
  ·have hm := Lib.hid (show Fx.mul x k = Ly.cell 2 k x y by rw [Ly.cell2, if_neg h])
   go_enter Tryz.func76, Tryz.ntmps76
   go_wp2_with fail
   refine (fix_mul x k _ Hx.out Hk.out).mono ?_
   rintro e w1 ⟨rfl, rfl⟩
   go_wp2_with fail
   go_ret
   exact ⟨ret_int hm.out, rfl⟩
 ·go_enter Tryz.func76, Tryz.ntmps76
  go_wp2_with fail
  refine (fix_neg_one _).mono ?_
  rintro e w1 ⟨rfl, rfl⟩
  go_wp2_with fail
  refine (fix_clamp _ _ _ _).mono ?_
  rintro e w1 ⟨rfl, rfl⟩
  go_wp2_with fail
  go_ret
  exact ⟨ret_int (Ly.cell3 k x y).symm, rfl⟩
 ·go_enter Tryz.func76, Tryz.ntmps76
  go_wp2_with fail
  refine (point_line x _ Hx.out).mono ?_
  rintro e w1 ⟨rfl, rfl⟩
  go_wp2_with fail
  refine (fix_clamp _ _ _ _).mono ?_
  rintro e w1 ⟨rfl, rfl⟩
  go_wp2_with fail
  go_ret
  exact ⟨ret_int (Ly.cell4 k x y).symm, rfl⟩
 ·go_enter Tryz.func76, Tryz.ntmps76
  go_wp2_with fail
  refine (fix_mul x k _ Hx.out Hk.out).mono ?_
  rintro e w1 ⟨rfl, rfl⟩
  go_wp2_with fail
  go_ret
  exact ⟨ret_int (Ly.cell5 k x y).symm, rfl⟩
 ·go_enter Tryz.func76, Tryz.ntmps76
  go_wp2_with fail
  refine (fix_add x y _ Hx.out Hy.out).mono ?_
  rintro e w1 ⟨rfl, rfl⟩
  go_wp2_with fail
  go_ret
  exact ⟨ret_int (Ly.cell6 k x y).symm, rfl⟩
 ·go_enter Tryz.func76, Tryz.ntmps76
  go_wp2_with fail
  refine (fix_mul x y _ Hx.out Hy.out).mono ?_
  rintro e w1 ⟨rfl, rfl⟩
  go_wp2_with fail
  go_ret
  exact ⟨ret_int (Ly.cell7 k x y).symm, rfl⟩
theorem ret_pair {a b a' b' : Int} (h : (a, b) = (a', b')) : Ending.returned (.tuple #[.int .i64 a, .int .i64 b]) = .returned (.tuple #[.int .i64 a', .int .i64 b']) := by injection h with h1 h2; rw [h1, h2]
theorem point_slope (kind k x y g : Int) (w : World) (h1 : 1 ≤ kind) (h7 : kind ≤ 7) (hk : Fx.In k) (hx : Fx.In x) (hy : Fx.In y) (hg : Fx.In g) :
  Calls Tryz.prog 124 #[.int .i64 kind, .int .i64 k, .int .i64 x, .int .i64 y, .int .i64 g] w fun e w' => e = .returned (.tuple #[.int .i64 (Ly.slope kind k x y g).1, .int .i64 (Ly.slope kind k x y g).2]) ∧ w = w' := by
 have Hk := Lib.hid hk
 have Hx := Lib.hid hx
 have Hy := Lib.hid hy
 have Hg := Lib.hid hg
 clear hk hx hy hg
 rcases kinds7 h1 h7 with rfl | rfl | rfl | rfl | rfl | rfl | rfl
 all_goals clear h1 h7
 ·by_cases h : 0 < x
  ·have hm := Lib.hid (show (g, 0) = Ly.slope 1 k x y g by rw [Ly.slope1, if_pos h])
   go_enter Tryz.func124, Tryz.ntmps124
   go_wp2_with fail
   go_ret2
   exact ⟨ret_pair hm.out, rfl⟩
  ·have hm := Lib.hid (show (0, 0) = Ly.slope 1 k x y g by rw [Ly.slope1, if_neg h])
   go_enter Tryz.func124, Tryz.ntmps124
   go_wp2_with fail
   go_ret2
   exact ⟨ret_pair hm.out, rfl⟩
 ·by_cases h : 0 < x
  ·have hm := Lib.hid (show (g, 0) = Ly.slope 2 k x y g by rw [Ly.slope2, if_pos h])
   go_enter Tryz.func124, Tryz.ntmps124
   go_wp2_with fail
   go_ret2
   exact ⟨ret_pair hm.out, rfl⟩
  ·have hm := Lib.hid (show (Fx.mul g k, 0) = Ly.slope 2 k x y g by rw [Ly.slope2, if_neg h])
   go_enter Tryz.func124, Tryz.ntmps124
   go_wp2_with fail
   refine (fix_mul g k _ Hg.out Hk.out).mono ?_
   rintro e w1 ⟨rfl, rfl⟩
   go_wp2_with fail
   go_ret2
   exact ⟨ret_pair hm.out, rfl⟩
 ·by_cases h : -4294967296 < x
  ·by_cases h2 : x < 4294967296
   ·have hm := Lib.hid (show (g, 0) = Ly.slope 3 k x y g by rw [Ly.slope3, if_pos ⟨h, h2⟩])
    go_enter Tryz.func124, Tryz.ntmps124
    go_wp2_with fail
    refine (fix_neg_one _).mono ?_
    rintro e w1 ⟨rfl, rfl⟩
    go_wp2_with fail
    go_ret2
    exact ⟨ret_pair hm.out, rfl⟩
   ·have hm := Lib.hid (show (0, 0) = Ly.slope 3 k x y g by rw [Ly.slope3, if_neg (fun k => h2 k.2)])
    go_enter Tryz.func124, Tryz.ntmps124
    go_wp2_with fail
    refine (fix_neg_one _).mono ?_
    rintro e w1 ⟨rfl, rfl⟩
    go_wp2_with fail
    go_ret2
    exact ⟨ret_pair hm.out, rfl⟩
  ·have hm := Lib.hid (show (0, 0) = Ly.slope 3 k x y g by rw [Ly.slope3, if_neg (fun k => h k.1)])
   go_enter Tryz.func124, Tryz.ntmps124
   go_wp2_with fail
   refine (fix_neg_one _).mono ?_
   rintro e w1 ⟨rfl, rfl⟩
   go_wp2_with fail
   go_ret2
   exact ⟨ret_pair hm.out, rfl⟩
 ·by_cases h : 0 < Ly.line x
  ·by_cases h2 : Ly.line x < 4294967296
   ·have hm := Lib.hid (show (Fx.mul g 1073741824, 0) = Ly.slope 4 k x y g by rw [Ly.slope4, if_pos ⟨h, h2⟩])
    go_enter Tryz.func124, Tryz.ntmps124
    go_wp2_with fail
    refine (point_line x _ Hx.out).mono ?_
    rintro e w1 ⟨rfl, rfl⟩
    go_wp2_with fail
    refine (fix_mul g 1073741824 _ Hg.out (by unfold Fx.In; omega)).mono ?_
    rintro e w1 ⟨rfl, rfl⟩
    go_wp2_with fail
    go_ret2
    exact ⟨ret_pair hm.out, rfl⟩
   ·have hm := Lib.hid (show (0, 0) = Ly.slope 4 k x y g by rw [Ly.slope4, if_neg (fun k => h2 k.2)])
    go_enter Tryz.func124, Tryz.ntmps124
    go_wp2_with fail
    refine (point_line x _ Hx.out).mono ?_
    rintro e w1 ⟨rfl, rfl⟩
    go_wp2_with fail
    go_ret2
    exact ⟨ret_pair hm.out, rfl⟩
  ·have hm := Lib.hid (show (0, 0) = Ly.slope 4 k x y g by rw [Ly.slope4, if_neg (fun k => h k.1)])
   go_enter Tryz.func124, Tryz.ntmps124
   go_wp2_with fail
   refine (point_line x _ Hx.out).mono ?_
   rintro e w1 ⟨rfl, rfl⟩
   go_wp2_with fail
   go_ret2
   exact ⟨ret_pair hm.out, rfl⟩
 ·go_enter Tryz.func124, Tryz.ntmps124
  go_wp2_with fail
  refine (fix_mul g k _ Hg.out Hk.out).mono ?_
  rintro e w1 ⟨rfl, rfl⟩
  go_wp2_with fail
  go_ret2
  exact ⟨ret_pair (Ly.slope5 k x y g).symm, rfl⟩
 ·go_enter Tryz.func124, Tryz.ntmps124
  go_wp2_with fail
  go_ret2
  exact ⟨ret_pair (Ly.slope6 k x y g).symm, rfl⟩
 ·go_enter Tryz.func124, Tryz.ntmps124
  go_wp2_with fail
  refine (fix_mul g y _ Hg.out Hy.out).mono ?_
  rintro e w1 ⟨rfl, rfl⟩
  go_wp2_with fail
  refine (fix_mul g x _ Hg.out Hx.out).mono ?_
  rintro e w1 ⟨rfl, rfl⟩
  go_wp2_with fail
  go_ret2
  exact ⟨ret_pair (Ly.slope7 k x y g).symm, rfl⟩
end Go.Proofs.YtbnnpkcfifejmabGreat
namespace Go.Proofs.YtbnnpkcfifejmabGreat
open Go.RowKit
structure TenIn (w : World) (S C : Option Addr) (c d : Nat) (t : Ten) : Prop where
 r : TenR w S C t
 s1 : t.s.length ≤ c
 s2 : c ≤ 9223372036854775807
 c1 : t.c.length ≤ d
 c2 : d ≤ 9223372036854775807
 l1 : t.s.length ≤ 1048576
 l2 : t.c.length ≤ 1048576
 num : Ly.In t
theorem TenIn.below {B : Nat} {w w' : World} {S C : Option Addr} {c d : Nat} {t : Ten} (h : TenIn w S C c d t) (hb : Below B w w') (hB : w.heap.size ≤ B) : TenIn w' S C c d t := { h with r := h.r.below hb hB }
theorem TenIn.later {w w' : World} {S C : Option Addr} {c d : Nat} {t : Ten} (h : TenIn w S C c d t) (hb : Later w w') : TenIn w' S C c d t := h.below hb (Nat.le_refl _)
theorem TenIn.cell {w : World} {S C : Option Addr} {c d : Nat} {t : Ten} (h : TenIn w S C c d t) {k : Nat} (hk : k < t.c.length) : ∃ b off, C = some ⟨b, off, none⟩ ∧ b < w.heap.size ∧ w.cell? ⟨b, off + k, none⟩ = some (.int .i64 (Ly.at_ t.c k)) := h.r.2 k hk
def Tns (w : World) (A : Option Addr) (ts : List Ten) : Prop :=
 ∀ j (hj : j < ts.length), ∃ b off S c C d, A = some ⟨b, off, none⟩ ∧ b < w.heap.size ∧ w.cell? ⟨b, off + j * 2, none⟩ = some (.slice S ts[j].s.length c) ∧ w.cell? ⟨b, off + j * 2 + 1, none⟩ = some (.slice C ts[j].c.length d) ∧ TenIn w S C c d ts[j]
theorem Tns.below {B : Nat} {w w' : World} {A : Option Addr} {ts : List Ten} (h : Tns w A ts) (hb : Below B w w') (hB : w.heap.size ≤ B) : Tns w' A ts := fun j hj => by
 obtain ⟨b, off, S, c, C, d, e, hl, c0, c1, hT⟩ := h j hj
 exact ⟨b, off, S, c, C, d, e, Nat.lt_of_lt_of_le hl hb.size, (hb.cell (p := ⟨b, off + j * 2, none⟩) (Nat.lt_of_lt_of_le hl hB)).trans c0, (hb.cell (p := ⟨b, off + j * 2 + 1, none⟩) (Nat.lt_of_lt_of_le hl hB)).trans c1, hT.below hb hB⟩
theorem Tns.later {w w' : World} {A : Option Addr} {ts : List Ten} (h : Tns w A ts) (hb : Later w w') : Tns w' A ts := h.below hb (Nat.le_refl _)
theorem got_at {l : List Ten} {k : Nat} (h : k < l.length) : Ly.got l k = l[k] := by unfold Ly.got; rw [List.getD_eq_getElem?_getD, List.getElem?_eq_getElem h]; rfl
theorem Tns.at_ {w : World} {A : Option Addr} {ts : List Ten} (h : Tns w A ts) {j : Nat} (hj : j < ts.length) :
  ∃ b off S c C d, A = some ⟨b, off, none⟩ ∧ b < w.heap.size ∧ w.cell? ⟨b, off + j * 2, none⟩ = some (.slice S (Ly.got ts j).s.length c) ∧ w.cell? ⟨b, off + j * 2 + 1, none⟩ = some (.slice C (Ly.got ts j).c.length d) ∧ TenIn w S C c d (Ly.got ts j) := by
 rw [got_at hj]
 exact h j hj
theorem Tns.first {w : World} {A : Option Addr} {ts : List Ten} (h : Tns w A ts) (hj : 0 < ts.length) :
  ∃ b off S c C d, A = some ⟨b, off, none⟩ ∧ b < w.heap.size ∧ w.cell? ⟨b, off, none⟩ = some (.slice S (Ly.got ts 0).s.length c) ∧ w.cell? ⟨b, off + 1, none⟩ = some (.slice C (Ly.got ts 0).c.length d) ∧ TenIn w S C c d (Ly.got ts 0) := by
 obtain ⟨b, off, S, c, C, d, h1, h2, h3, h4, h5⟩ := h.at_ hj
 exact ⟨b, off, S, c, C, d, h1, h2, by simpa using h3, by simpa using h4, h5⟩
def TenO (B : Nat) (w : World) (v : Value) (t : Ten) : Prop :=
 ∃ S c C d, v = .agg #[.slice S t.s.length c, .slice C t.c.length d] ∧ TenIn w S C c d t ∧ (∀ a, S = some a → B ≤ a.block) ∧ (∀ a, C = some a → B ≤ a.block ∧ a.block < w.heap.size ∧ ∀ j, w.frozen? ⟨a.block, j, none⟩ = false)
theorem TenO.later {B : Nat} {w w' : World} {v : Value} {t : Ten} (h : TenO B w v t) (hb : Later w w') : TenO B w' v t := by
 obtain ⟨S, c, C, d, h1, h2, h3, h4⟩ := h
 refine ⟨S, c, C, d, h1, h2.later hb, h3, fun a e => ?_⟩
 obtain ⟨k1, k2, k3⟩ := h4 a e
 exact ⟨k1, Nat.lt_of_lt_of_le k2 hb.size, fun j => (Below.frozen hb (p := ⟨a.block, j, none⟩) k2).trans (k3 j)⟩
theorem TenO.base {B B' : Nat} {w : World} {v : Value} {t : Ten} (h : TenO B w v t) (hB : B' ≤ B) : TenO B' w v t := by
 obtain ⟨S, c, C, d, h1, h2, h3, h4⟩ := h
 exact ⟨S, c, C, d, h1, h2, fun a e => Nat.le_trans hB (h3 a e), fun a e => ⟨Nat.le_trans hB (h4 a e).1, (h4 a e).2⟩⟩
theorem TenN.o {B : Nat} {w : World} {v : Value} {t : Ten} (h : TenN B w v t) (h1 : t.s.length ≤ 1048576) (h2 : t.c.length ≤ 1048576) (hn : Ly.In t) : TenO B w v t := by
 obtain ⟨g, i, rfl, hg, hi, kg, ki⟩ := h
 refine ⟨_, _, _, _, rfl, ⟨⟨kg.ints, ki.ints⟩, Nat.le_refl _, by omega, Nat.le_refl _, by omega, h1, h2, hn⟩, fun a e => ?_, fun a e => ?_⟩
 ·injection e with e; subst e; exact hg
 ·injection e with e; subst e; exact ⟨hi, ki.lt, fun j => ki.frozen j⟩
theorem Blk.intsL {w : World} {g : Nat} {t : TypeId} (l : List Int) (h : Blk w g t (l.map (Value.int .i64)).toArray) : Ints .i64 w (some ⟨g, 0, none⟩) l := Ints.of_row fun j hj => by
 rw [Nat.zero_add, h.cell]
 simp [hj]
theorem cell_setfar {w : World} {p q : Addr} {u v : Value} (h : w.cell? q = some v) (hne : q.block ≠ p.block) : (w.setCell p u).cell? q = some v := (World.cell?_of_block (Below.heap_setCell w p u q.block hne)).trans h
theorem far_block {w : World} {p b : Nat} (hne : b ≠ p) (u u2 : Value) : ((w.setCell ⟨p, 0, none⟩ u).setCell ⟨p, 1, none⟩ u2).heap[b]? = w.heap[b]? :=
 (Below.heap_setCell _ ⟨p, 1, none⟩ u2 b hne).trans (Below.heap_setCell w ⟨p, 0, none⟩ u b hne)
theorem Ints.box {w : World} {A : Option Addr} {zs : List Int} {p : Nat} {T : TypeId} (h : Ints .i64 w A zs) (hz : Blk w p T #[.slice none 0 0, .slice none 0 0]) (u u2 : Value) : Ints .i64 ((w.setCell ⟨p, 0, none⟩ u).setCell ⟨p, 1, none⟩ u2) A zs := fun j hj => by
 obtain ⟨b, off, e, hl, hc⟩ := h j hj
 have hne : b ≠ p := by
  rintro rfl
  rw [hz.cell] at hc
  match h : off + j with
  | 0 => rw [h] at hc; simp at hc
  | 1 => rw [h] at hc; simp at hc
  | n + 2 => rw [h] at hc; simp at hc
 exact ⟨b, off, e, by simpa using hl, (World.cell?_of_block (far_block hne u u2)).trans hc⟩
theorem TenO.box {B : Nat} {w : World} {v u u2 : Value} {t : Ten} {p : Nat} {T : TypeId} (h : TenO B w v t) (hz : Blk w p T #[.slice none 0 0, .slice none 0 0]) : TenO B ((w.setCell ⟨p, 0, none⟩ u).setCell ⟨p, 1, none⟩ u2) v t := by
 obtain ⟨S, c, C, d, h1, h2, h3, h4⟩ := h
 refine ⟨S, c, C, d, h1, { h2 with r := ⟨h2.r.1.box hz u u2, h2.r.2.box hz u u2⟩ }, h3, fun a e => ?_⟩
 obtain ⟨k1, k2, k3⟩ := h4 a e
 exact ⟨k1, by simpa using k2, fun j => by rw [World.frozen?_setCell, World.frozen?_setCell]; exact k3 j⟩
def GoP (r : Ten × Int) (w : World) (e : Ending) (w' : World) : Prop :=
 (r.2 ≠ 0 ∧ e = .returned (.tuple #[.agg #[.slice none 0 0, .slice none 0 0], .int .i64 r.2]) ∨ r.2 = 0 ∧ ∃ v, e = .returned (.tuple #[v, .int .i64 0]) ∧ TenO w.heap.size w' v r.1) ∧ Below w.heap.size w w'
theorem GoP.fail {n : Int} {r : Ten × Int} {w w' : World} (hr : r = (Ly.none_, n)) (hn : n ≠ 0) (hb : Below w.heap.size w w') : GoP r w (.returned (.tuple #[.agg #[.slice none 0 0, .slice none 0 0], .int .i64 n])) w' := by
 subst hr; exact ⟨.inl ⟨hn, rfl⟩, hb⟩
theorem GoP.fail2 {n : Int} {r : Ten × Int} {w w' : World} (hr : r.2 = n) (hn : n ≠ 0) (hb : Below w.heap.size w w') : GoP r w (.returned (.tuple #[.agg #[.slice none 0 0, .slice none 0 0], .int .i64 n])) w' := by
 subst hr; exact ⟨.inl ⟨hn, rfl⟩, hb⟩
theorem GoP.ok {t : Ten} {r : Ten × Int} {v : Value} {w w' : World} (hr : r = (t, 0)) (hv : TenO w.heap.size w' v t) (hb : Below w.heap.size w w') : GoP r w (.returned (.tuple #[v, .int .i64 0])) w' := by
 subst hr; exact ⟨.inr ⟨rfl, v, rfl, hv⟩, hb⟩
theorem GoP.from_ {r : Ten × Int} {w w1 w' : World} {e : Ending} (h : GoP r w1 e w') (hb : Below w.heap.size w w1) : GoP r w e w' := by
 refine ⟨?_, hb.trans (h.2.mono hb.size)⟩
 rcases h.1 with h1 | ⟨h1, v, h2, h3⟩
 ·exact .inl h1
 ·exact .inr ⟨h1, v, h2, h3.base hb.size⟩
namespace Ly
theorem tab_len (n : Nat) (f : Nat → Int) : (tab n f).length = n := by simp [tab]
theorem tab_get {n : Nat} {f : Nat → Int} {k : Nat} (hk : k < (tab n f).length) : (tab n f)[k] = f k := by simp [tab]
theorem tab_in {n : Nat} {f : Nat → Int} (h : ∀ i, i < n → Fx.In (f i)) : ∀ z ∈ tab n f, Fx.In z := fun z hz => by
 unfold tab at hz
 obtain ⟨i, hi, rfl⟩ := List.mem_map.1 hz
 exact h i (List.mem_range.1 hi)
theorem at_in {l : List Int} (h : ∀ z ∈ l, Fx.In z) (i : Nat) : Fx.In (at_ l i) := by
 unfold at_
 rw [List.getD_eq_getElem?_getD]
 rcases Nat.lt_or_ge i l.length with hi | hi
 ·rw [List.getElem?_eq_getElem hi]; exact h _ (List.getElem_mem hi)
 ·rw [List.getElem?_eq_none hi]; exact Fx.in_zero
theorem at_get {l : List Int} {i : Nat} (hi : i < l.length) : at_ l i = l[i] := by unfold at_; rw [List.getD_eq_getElem?_getD, List.getElem?_eq_getElem hi]; rfl
theorem got_in {l : List Ten} (h : ∀ t ∈ l, In t) (i : Nat) : In (got l i) := by
 unfold got
 rw [List.getD_eq_getElem?_getD]
 rcases Nat.lt_or_ge i l.length with hi | hi
 ·rw [List.getElem?_eq_getElem hi]; exact h _ (List.getElem_mem hi)
 ·rw [List.getElem?_eq_none hi]; intro z hz; simp [none_] at hz
theorem mid_step (C L : List Int) {k : Nat} (hk : k < C.length) (hn : C.length = L.length) : (C.take k ++ L.drop k).set k C[k] = C.take (k + 1) ++ L.drop (k + 1) := by
 have h1 : (C.take k).length = k := by simp; omega
 rw [List.set_append_right _ _ (by omega), h1, Nat.sub_self, List.drop_eq_getElem_cons (by omega), List.set_cons_zero, List.take_succ_eq_append_getElem hk, List.append_assoc]
 rfl
theorem mid_len (C L : List Int) (k : Nat) (hk : k ≤ C.length) (hn : C.length = L.length) : (C.take k ++ L.drop k).length = C.length := by simp; omega
theorem mid_end (C L : List Int) (k : Nat) (hk : k = C.length) (hn : C.length = L.length) : C.take k ++ L.drop k = C := by subst hk; rw [List.take_length, hn, List.drop_length, List.append_nil]
end Ly
theorem Tns.in_ {w : World} {A : Option Addr} {ts : List Ten} (h : Tns w A ts) : ∀ t ∈ ts, Ly.In t := fun t ht => by
 obtain ⟨j, hj, rfl⟩ := List.getElem_of_mem ht
 obtain ⟨b, off, S, c, C, d, h1, h2, h3, h4, h5⟩ := h j hj
 exact h5.num
end Go.Proofs.YtbnnpkcfifejmabGreat
namespace Go.Proofs.YtbnnpkcfifejmabGreat
open Go.RowKit
theorem Later.au {w w1 : World} (h : Later w w1 := by with_reducible repeat (first | exact Later.refl _ | apply Later.drew | apply Later.drewN | apply Later.alloc | refine Later.call ?_ (by assumption))) : Later w w1 := h
theorem ga {α : Type} {xs : List α} {i : Nat} (h : i < xs.toArray.size) : xs.toArray[i] = xs[i] := List.getElem_toArray h
theorem gs {α : Type} (a : α) (al : List α) (i : Nat) (h : i + 1 < (a :: al).length) : (a :: al)[i + 1] = al[i]'(by simpa using h) := List.getElem_cons_succ ..
theorem gz {α : Type} (a : α) (al : List α) (h : 0 < (a :: al).length) : (a :: al)[0] = a := List.getElem_cons_zero ..
theorem sa {α : Type} (l : List α) (i : Nat) (a : α) : l.toArray.setIfInBounds i a = (l.set i a).toArray := List.setIfInBounds_toArray ..
theorem sz {α : Type} {x : α} {xs : List α} {a : α} : (x :: xs).set 0 a = a :: xs := List.set_cons_zero
theorem ss {α : Type} {x : α} {xs : List α} {i : Nat} {a : α} : (x :: xs).set (i + 1) a = x :: xs.set i a := List.set_cons_succ
section
variable {P : Program} {ops : Array Oper} {Q : Exit → Act → World → Prop} {md : Region.Mode} {S : World → Prop} {fuel : Nat} {listed : Array Bool} {a : Act} {w : World}
theorem tk (i : Nat) {oi : Oper} {v : Value} {a2 : Act} (h : wpAnyH P md ops Q S fuel (listed.setIfInBounds i true) a2 w)
  (hi : ops[i]? = some oi := by rfl) (hs : Region.noSelect ops = true := by kernel_rfl) (hf : Region.free md ops listed i = true := by kernel_rfl) (hr : (Region.ready md ops listed).contains i = true := by kernel_rfl)
  (hg : Region.wanted oi (yielded ops a.tmps) = true := by rfl)
  (hy : ∀ w, S w → (execOp a.eval oi).run P w = .ok (.value v) w := by (simp only [List.getElem_toArray, List.getElem_cons_succ, List.getElem_cons_zero]; intro w hSw; (try dsimp only at hSw); go_simp; first | done | with_reducible rfl))
  (hS : S w := by assumption)
  (ha : a.put oi.dst v = a2 := by ((try simp only [List.getElem_toArray, List.getElem_cons_succ, List.getElem_cons_zero, Act.put, List.setIfInBounds_toArray, List.set_cons_zero, List.set_cons_succ]) <;> rfl))
  (hQ : ∀ c a w, Q (.panic c) (a.put oi.dst v) w → Q (.panic c) a w := by exact fun _ _ _ h => h) : wpAnyH P md ops Q S (fuel + 1) listed a w :=
 wpAnyH_take hi hs hf hr hQ (.inl ⟨hg, hy⟩) hS (ha ▸ h)
theorem tn (i : Nat) {oi : Oper} {a2 : Act} (h : wpAnyH P md ops Q S fuel (listed.setIfInBounds i true) a2 w)
  (hi : ops[i]? = some oi := by rfl) (hs : Region.noSelect ops = true := by kernel_rfl) (hf : Region.free md ops listed i = true := by kernel_rfl) (hr : (Region.ready md ops listed).contains i = true := by kernel_rfl)
  (hg : Region.wanted oi (yielded ops a.tmps) = false := by rfl)
  (hS : S w := by assumption)
  (ha : a.put oi.dst undef = a2 := by ((try simp only [List.getElem_toArray, List.getElem_cons_succ, List.getElem_cons_zero, Act.put, List.setIfInBounds_toArray, List.set_cons_zero, List.set_cons_succ]) <;> rfl))
  (hQ : ∀ c a w, Q (.panic c) (a.put oi.dst undef) w → Q (.panic c) a w := by exact fun _ _ _ h => h) : wpAnyH P md ops Q S (fuel + 1) listed a w :=
 wpAnyH_take hi hs hf hr hQ (.inr ⟨hg, rfl⟩) hS (ha ▸ h)
theorem rd (i : Nat) {oi : Oper}
  (h : ∀ K' : Act → World → Prop, Shut (∀ a w, S w → (S w → wpAnyH P md ops Q S fuel (listed.setIfInBounds i true) a w) → K' a w) → if Region.wanted oi (yielded ops a.tmps) = true then Oper.wp P oi a w K' Q else K' (a.put oi.dst undef) w)
  (hr : Region.ready md ops listed = [i] := by kernel_rfl) (hi : ops[i]? = some oi := by rfl) : wpAnyH P md ops Q S (fuel + 1) listed a w :=
 wpAnyH_ready hr (by simp) (AllReadyH.cons hi h AllReadyH.nil)
end
end Go.Proofs.YtbnnpkcfifejmabGreat

/- Lemmas for the statements of this seat: contracts of functions and the plain laws. -/
import Derived.Deep.RegionHeld3
import Derived.Sort.OwnSortedInts
import Derived.Test.YtnffjfjhbjeaiaaGreatDoorZ12
set_option linter.unusedVariables false
/- The plain law of layer 21: each so many nodes of the order, the last one, rising. -/
namespace Go.Proofs.YtnffjfjhbjeaiaaGreatDoor
namespace Rt
/-- The first j picks. -/
def picks (os : List Int) (s : Nat) (j : Nat) : List Int := (List.range j).map fun i => os.getD ((i + 1) * s - 1) 0
theorem picks_succ (os : List Int) (s j : Nat) : picks os s (j + 1) = picks os s j ++ [os.getD ((j + 1) * s - 1) 0] := by simp [picks, List.range_succ]
theorem picks_len (os : List Int) (s j : Nat) : (picks os s j).length = j := by simp [picks]
def every (os : List Int) (s : Nat) : List Int := (picks os s (os.length / s)).mergeSort fun x y => decide (x ≤ y)
theorem every_len (os : List Int) (s : Nat) : (every os s).length = os.length / s := by simp [every, picks_len]
theorem every_mem {os : List Int} {s : Nat} {z : Int} : z ∈ every os s ↔ z ∈ picks os s (os.length / s) := by unfold every; exact List.mem_mergeSort
theorem pick_at {os : List Int} {s i : Nat} (hs : 1 ≤ s) (hi : i < os.length / s) : (i + 1) * s - 1 < os.length ∧ 1 ≤ (i + 1) * s := by
  have h1 : (i + 1) * s ≤ os.length / s * s := Nat.mul_le_mul_right s (by omega)
  have h2 := Nat.div_mul_le_self os.length s
  have h3 : 1 * s ≤ (i + 1) * s := Nat.mul_le_mul_right s (by omega)
  omega
theorem nodup_at {l : List Int} (hn : l.Nodup) {i j : Nat} (hi : i < l.length) (hj : j < l.length) (h : l[i] = l[j]) : i = j := by
  have hp := List.pairwise_iff_getElem.1 hn
  rcases Nat.lt_trichotomy i j with h1 | h1 | h1
  · exact absurd h (hp i j hi hj h1)
  · exact h1
  · exact absurd h.symm (hp j i hj hi h1)
/-- Just the multiples' nodes are picked. -/
theorem every_has {os : List Int} (hn : os.Nodup) {s : Nat} (hs : 1 ≤ s) {k : Nat} (hk : k < os.length) : (every os s).contains os[k] = decide ((k + 1) % s = 0) := by
  rw [Bool.eq_iff_iff, List.contains_iff_mem, every_mem, decide_eq_true_iff]
  unfold picks
  rw [List.mem_map]
  constructor
  · rintro ⟨i, hi, he⟩
    have hi : i < os.length / s := by simpa using hi
    obtain ⟨h1, h2⟩ := pick_at (os := os) hs hi
    rw [get_at h1] at he
    have := nodup_at hn _ _ he
    have e : k + 1 = (i + 1) * s := by omega
    rw [e, Nat.mul_mod_left]
  · intro h
    obtain ⟨q, hq⟩ := Nat.dvd_of_mod_eq_zero h
    have hq0 : 1 ≤ q := by
      rcases Nat.eq_zero_or_pos q with h0 | h0
      · subst h0; simp at hq
      · exact h0
    obtain ⟨i, rfl⟩ : ∃ i, q = i + 1 := ⟨q - 1, by omega⟩
    have hqs : (i + 1) * s = k + 1 := by rw [Nat.mul_comm]; exact hq.symm
    have hil : i < os.length / s := by
      have : i + 1 ≤ os.length / s := (Nat.le_div_iff_mul_le (by omega)).2 (by omega)
      omega
    refine ⟨i, by simpa using hil, ?_⟩
    have e : (i + 1) * s - 1 = k := by omega
    rw [e, get_at hk]
theorem picks_nodup {os : List Int} (hn : os.Nodup) {s : Nat} (hs : 1 ≤ s) : (picks os s (os.length / s)).Nodup := by
  unfold picks
  rw [List.Nodup, List.pairwise_map]
  refine List.Pairwise.imp_of_mem ?_ (List.nodup_range (n := os.length / s))
  intro i j hi hj hne he
  have hi : i < os.length / s := by simpa using hi
  have hj : j < os.length / s := by simpa using hj
  obtain ⟨h1, h2⟩ := pick_at (os := os) hs hi
  obtain ⟨h3, h4⟩ := pick_at (os := os) hs hj
  rw [get_at h1, get_at h3] at he
  have := nodup_at hn _ _ he
  have e : (i + 1) * s = (j + 1) * s := by omega
  have := Nat.eq_of_mul_eq_mul_right (by omega) e
  exact hne (by omega)
/-- They rise. -/
theorem every_rise {os : List Int} (hn : os.Nodup) {s : Nat} (hs : 1 ≤ s) {i : Nat} (hi : i + 1 < (every os s).length) : (every os s)[i] < (every os s)[i + 1] := by
  have hp : (every os s).Pairwise fun a b => a ≤ b := by
    have h := List.pairwise_mergeSort (le := fun x y : Int => decide (x ≤ y)) (fun a b c h1 h2 => by simp at *; omega) (fun a b => by simp; omega) (picks os s (os.length / s))
    exact h.imp (fun h => by simpa using h)
  have hnd : (every os s).Nodup := (List.mergeSort_perm (picks os s (os.length / s)) _).nodup_iff.2 (picks_nodup hn hs)
  have h1 := (List.pairwise_iff_getElem.1 hp) i (i + 1) (by omega) hi (by omega)
  have h2 : (every os s)[i] ≠ (every os s)[i + 1] := fun e => by
    have := nodup_at hnd _ _ e
    omega
  omega
theorem div_next {s k : Nat} (hs : 1 ≤ s) : (k + 1) / s = k / s + if (k + 1) % s = 0 then 1 else 0 := by
  have h1 := Nat.div_add_mod (k + 1) s
  have h2 := Nat.div_add_mod k s
  have h3 := Nat.mod_lt (k + 1) (show 0 < s by omega)
  have h4 := Nat.mod_lt k (show 0 < s by omega)
  have h5 : (k + 1) / s = k / s ∨ (k + 1) / s = k / s + 1 := by
    have a1 : k / s ≤ (k + 1) / s := Nat.div_le_div_right (by omega)
    have a2 : (k + 1) / s ≤ k / s + 1 := by
      have : (k + 1) / s ≤ (k + s) / s := Nat.div_le_div_right (by omega)
      rw [Nat.add_div_right k (by omega)] at this
      exact this
    omega
  rcases h5 with h5 | h5
  · rw [h5] at h1 ⊢
    rw [if_neg (by omega)]; omega
  · rw [h5] at h1 ⊢
    rw [Nat.mul_add, Nat.mul_one] at h1
    rw [if_pos (by omega)]
end Rt
end Go.Proofs.YtnffjfjhbjeaiaaGreatDoor
/- Layer 2 (safe): the root: contract. -/
namespace Go.Proofs.YtnffjfjhbjeaiaaGreatDoor
open Go.RowKit

theorem bitLen_bd : ∀ (f x : Nat), x < 2 ^ f → 0 < x → x < 2 ^ Lib.bitLenAux f x ∧ 1 ≤ Lib.bitLenAux f x ∧ Lib.bitLenAux f x ≤ f
  | 0, x, h, h0 => by simp at h; omega
  | f + 1, x, h, h0 => by
    rw [Lib.bitLenAux, if_neg (by omega)]
    by_cases h1 : x = 1
    · subst h1
      cases f <;> simp [Lib.bitLenAux]
    · have ⟨a, b, c⟩ := bitLen_bd f (x / 2) (by rw [Nat.pow_succ] at h; omega) (by omega)
      refine ⟨?_, by omega, by omega⟩
      rw [Nat.add_comm, Nat.pow_succ]
      omega

theorem root_start (x : Nat) (h0 : 0 < x) (h : x < 2 ^ 63) : (Lib.bitLen x - 1) / 2 ≤ 31 ∧ (x : Int) < (0 + 2 ^ ((Lib.bitLen x - 1) / 2 + 1)) * (0 + 2 ^ ((Lib.bitLen x - 1) / 2 + 1)) ∧ 1 ≤ Lib.bitLen x ∧ Lib.bitLen x ≤ 63 := by
  have e : Lib.bitLen x = Lib.bitLenAux 63 x := Lib.bitLenAux_fuel 63 x h 64 (by omega)
  have ⟨a, b, c⟩ := bitLen_bd 63 x h h0
  rw [e]
  generalize Lib.bitLenAux 63 x = L at a b c
  refine ⟨by omega, ?_, b, c⟩
  rw [Int.zero_add, ← Int.pow_add]
  have : 2 ^ L ≤ 2 ^ ((L - 1) / 2 + 1 + ((L - 1) / 2 + 1)) := Nat.pow_le_pow_right (by omega) (by omega)
  have h3 : x < 2 ^ ((L - 1) / 2 + 1 + ((L - 1) / 2 + 1)) := by omega
  exact_mod_cast h3

def rootBit (j : Nat) : Int := 2 ^ j / 2
theorem rootBit_zero : rootBit 0 = 0 := by decide
theorem rootBit_succ (j : Nat) : rootBit (j + 1) = 2 ^ j := by
  unfold rootBit
  rw [Int.pow_succ]
  omega
theorem rootBit_half (j : Nat) : (2 : Int) ^ j / 2 = rootBit j := rfl
theorem pow_bd (j : Nat) (h : j ≤ 31) : (1 : Int) ≤ 2 ^ j ∧ (2 : Int) ^ j ≤ 2147483648 := by
  have h1 : 2 ^ j ≤ 2 ^ 31 := Nat.pow_le_pow_right (by omega) h
  have h2 : 0 < 2 ^ j := Nat.pow_pos (by omega)
  have e : ((2 ^ j : Nat) : Int) = 2 ^ j := Int.natCast_pow 2 j
  rw [← e]
  omega

theorem root_bd {r n : Int} (h0 : 0 ≤ r) (h : r * r ≤ n) (hn : n ≤ 9223372036854775807) : r ≤ 4294967296 := by
  rcases Int.lt_or_le 4294967296 r with h1 | h1
  · have := Int.mul_le_mul (Int.le_of_lt h1) (Int.le_of_lt h1) (by omega) h0
    omega
  · exact h1

set_option maxHeartbeats 400000 in
theorem safe_isqrt (n : Int) (w : World) (hl : -9223372036854775808 ≤ n) (hh : n ≤ 9223372036854775807) :
    Calls Tryz.prog 20 #[.int .i64 n] w fun e w' => e = .returned (.int .i64 (Safe.isqrt n)) ∧ w = w' := by
  by_cases hn : n ≤ 0
  · have hfin := Lib.hid (Safe.isqrt_nonpos hn)
    go_enter Tryz.func20, Tryz.ntmps20
    go_wp2_with fail
    go_ret
    exact ⟨ret_int (by rw [hfin.out]), rfl⟩
  · have hn1 : 1 ≤ n := by omega
    clear hn
    obtain ⟨x, rfl⟩ := Int.eq_ofNat_of_zero_le (show 0 ≤ n by omega)
    obtain ⟨hm, hx, hL1, hL2⟩ := root_start x (by omega) (by omega)
    have HX := Lib.hid hx
    have HP := Lib.hid (pow_bd _ hm)
    clear hx
    go_enter Tryz.func20, Tryz.ntmps20
    go_wp2_with fail
    refine (Tryz.bits_Len (x : Int) _ (by omega) (by omega)).mono ?_
    rintro e w' ⟨rfl, hw⟩
    obtain rfl := hw.symm
    clear hw
    rw [Int.toNat_natCast]
    generalize Lib.bitLen x = L at HX HP hm hL1 hL2
    go_wp2_with fail
    go_loop [3, 4, 5] (fun r b _ => ∃ (j : Nat) (q : Int), j ≤ 32 ∧ 0 ≤ q ∧ r = .int .i64 q ∧ b = .int .i64 (rootBit j) ∧ q * q ≤ (x : Int) ∧ (x : Int) < (q + 2 ^ j) * (q + 2 ^ j)) (fun _ b _ => (intOf b).toNat)
    case atStart =>
      refine ⟨(L - 1) / 2 + 1, 0, by omega, by omega, rfl, ?_, by omega, HX.out⟩
      rw [rootBit_succ, IntWalk.wrap64_in _ ⟨by have := HP.out; omega, by have := HP.out; omega⟩]
    case round =>
      obtain ⟨j, q, hj, hq, rfl, rfl, h1, h2⟩ := hrel
      have H1 := Lib.hid h1
      have H2 := Lib.hid h2
      have hqb := root_bd hq h1 hh
      clear h1 h2
      rcases j with _ | j
      · rw [rootBit_zero]
        have hfin := Lib.hid (Safe.isqrt_uniq hq H1.out (by simpa using H2.out))
        go_wp2_with fail
        go_ret
        exact ⟨ret_int (by rw [← hfin.out]), rfl⟩
      · have ⟨hp1, hp2⟩ := pow_bd j (by omega)
        have HB := Lib.hid (rootBit_half j)
        rw [rootBit_succ]
        have e2 : (2 : Int) ^ (j + 1) = 2 * 2 ^ j := by rw [Int.pow_succ, Int.mul_comm]
        rw [e2] at H2
        clear e2
        generalize hpe : (2 : Int) ^ j = p at hp1 hp2 HB H2
        have HE := Lib.hid hpe
        clear hpe
        have hd0 : 0 ≤ (x : Int) / (q + p) := Int.ediv_nonneg (by omega) (by omega)
        have hd1 : (x : Int) / (q + p) ≤ 9223372036854775807 := Int.le_trans (Int.ediv_le_self _ (by omega)) hh
        by_cases hle : (q + p) * (q + p) ≤ (x : Int)
        · have hd : q + p ≤ (x : Int) / (q + p) := (Int.le_ediv_iff_mul_le (by omega)).2 hle
          have HL := Lib.hid hle
          clear hle
          go_wp2_with fail
          go_round
          case rel => exact ⟨j, q + p, by omega, by omega, rfl, by rw [HB.out], HL.out, by rw [HE.out]; have := H2.out; rw [show q + p + p = q + 2 * p by omega]; exact this⟩
          case measure => simp [intOf]; omega
        · have hd : (x : Int) / (q + p) < q + p := by
            rcases Int.lt_or_le ((x : Int) / (q + p)) (q + p) with h | h
            · exact h
            · exact absurd ((Int.le_ediv_iff_mul_le (by omega)).1 h) hle
          have HL := Lib.hid hle
          clear hle
          go_wp2_with fail
          go_round
          case rel => exact ⟨j, q, by omega, by omega, rfl, by rw [HB.out], H1.out, by rw [HE.out]; have := HL.out; omega⟩
          case measure => simp [intOf]; omega
end Go.Proofs.YtnffjfjhbjeaiaaGreatDoor
/- Layer 21 (roots): Every, Root, All; the law's first: contracts. -/
namespace Go.Proofs.YtnffjfjhbjeaiaaGreatDoor
open Go.RowKit
def everyE (n : NetD) (step : Int) : Int := if Nt.check n ≠ 0 then Nt.check n else if 1 ≤ step ∧ step ≤ 512 then 0 else 11
def everyL (n : NetD) (step : Int) : List Int := if Nt.check n = 0 ∧ 1 ≤ step ∧ step ≤ 512 then Rt.every (Nt.sorted n.nodes) step.toNat else []
/-- A row of numbers and an error. -/
def RowE (l : List Int) (er : Int) (w : World) (e : Ending) (w' : World) : Prop :=
  ∃ A c, e = .returned (.tuple #[.slice A l.length c, .int .i64 er]) ∧ Ints .i64 w' A l ∧ Later w w'
theorem own_sorted {w : World} {B g n cap m : Nat} {os : Array Obj} {l : List Int} (h : w.ownsRow B 3 1 (.slice (some ⟨g, 0, none⟩) n cap) n (l.map (Value.int .i64))) (hl : l.length = n) {ts : List Int} (ht : ts.length = l.length) :
    Ints .i64 (Go.Sort.grow (Go.Sort.putRow (Value.int .i64) (Go.Sort.ahead w m) g 0 ts.toArray) os) (some ⟨g, 0, none⟩) ts ∧ B ≤ g := by
  subst hl
  rcases h.2 with ⟨e, _⟩ | ⟨g', cap', cur, e, hb, hh, r1, r2, r3, r4⟩
  · cases e
  · injection e with e1 e2 e3
    injection e1 with e1
    injection e1 with e1 _ _
    subst e1 e3
    have ho := ownsRow_sortedI (w := w) (n := m) (os := os) (ts := ts) ht hb hh r1 r2 r3
    rw [← ht] at ho
    obtain ⟨A, c, e, _, hI⟩ := Ints.of_own ho
    injection e with e1 _ _
    subst e1
    exact ⟨hI, hb⟩
set_option maxHeartbeats 8000000 in
set_option maxRecDepth 100000 in
theorem roots_every (A N : Option Addr) (c d : Nat) (n : NetD) (step : Int) (w : World) (hok : n.ok) (hR : NetR w A N n) (hd : n.nodes.length ≤ d) (h12 : n.nodes.length ≤ 12) (hst : -9223372036854775808 ≤ step ∧ step ≤ 9223372036854775807) :
    Calls Tryz.prog 18 #[.agg #[.slice A n.inn.length c, .slice N n.nodes.length d], .int .i64 step] w (RowE (everyL n step) (everyE n step) w) := by
  obtain ⟨i0, hi, hz0, hz1, hz2⟩ := info_parts int_info
  have hl0 : Later w (w.alloc (.cells #[.slice A n.inn.length c, .slice N n.nodes.length d] 26)) := (Later.refl w).alloc _
  have HR := Lib.hid hR
  have Hok := Lib.hid hok
  have Hl0 := Lib.hid hl0
  clear hR hok hl0
  go_enter Tryz.func18, Tryz.ntmps18
  go_wp2_with fail
  generalize w.alloc (.cells #[.slice A n.inn.length c, .slice N n.nodes.length d] 26) = w1 at *
  refine (net_order A N c d n w1 Hok.out (HR.out.below Hl0.out (Nat.le_refl _)) hd).mono ?_
  rintro e w2 ⟨hb2, ⟨hch, O, oc, rfl, hO, ho1, ho2⟩ | ⟨hch, rfl⟩⟩
  all_goals have hl2 := Hl0.out.call hb2
  rotate_left
  · have q0 : (Nt.check n != 0) = true := by simp [hch]
    have HE := Lib.hid (show everyE n step = Nt.check n by unfold everyE; rw [if_pos hch])
    have HL := Lib.hid (show everyL n step = [] by unfold everyL; rw [if_neg (fun h => hch h.1)])
    have Hch := Lib.hid hch
    have Hl2 := Lib.hid hl2
    clear hch hl2
    clear hb2
    go_wp2_with fail
    go_ret2
    rw [HE.out, HL.out]
    exact ⟨none, 0, rfl, Ints.nil, Hl2.out⟩
  have hso := Rt.order_len hch
  by_cases hs : 1 ≤ step ∧ step ≤ 512
  rotate_left
  · have HE := Lib.hid (show everyE n step = 11 by unfold everyE; rw [if_neg (by simp [hch]), if_neg hs])
    have HL := Lib.hid (show everyL n step = [] by unfold everyL; rw [if_neg (fun h => hs h.2)])
    have Hch := Lib.hid hch
    have Hl2 := Lib.hid hl2
    have Hso := Lib.hid hso
    have HO := Lib.hid hO
    clear hch hl2 hso hO
    clear hb2
    by_cases h1 : step < 1
    · clear hs
      go_wp2_with fail
      go_ret2
      rw [HE.out, HL.out]
      exact ⟨none, 0, rfl, Ints.nil, Hl2.out⟩
    · have h2 : 512 < step := by omega
      clear hs
      go_wp2_with fail
      go_ret2
      rw [HE.out, HL.out]
      exact ⟨none, 0, rfl, Ints.nil, Hl2.out⟩
  have HE := Lib.hid (show everyE n step = 0 by unfold everyE; rw [if_neg (by simp [hch]), if_pos hs])
  obtain ⟨s, rfl⟩ := Int.eq_ofNat_of_zero_le (show 0 ≤ step by omega)
  have HL := Lib.hid (show everyL n (s : Int) = Rt.every (Nt.sorted n.nodes) s by unfold everyL; rw [if_pos ⟨hch, hs⟩, Int.toNat_natCast])
  generalize Nt.sorted n.nodes = os at *
  have h1 : ¬ (s : Int) < 1 := by omega
  have h2 : ¬ (512 : Int) < (s : Int) := by omega
  have hs1 : 1 ≤ s := by omega
  have hs2 : s ≤ 512 := by omega
  have Hch := Lib.hid hch
  have Hl2 := Lib.hid hl2
  have Hso := Lib.hid hso
  have HO := Lib.hid hO
  clear hch hl2 hso hO
  clear hb2 hs hst
  go_wp2_with fail
  clear h1 h2
  go_loopw [8, 9] (fun l t wx => ∃ j : Nat, j ≤ os.length / s ∧ t = .int .i64 (((j + 1) * s : Nat) : Int) ∧ wx.ownsRow w2.heap.size 3 1 l (Rt.picks os s j).length ((Rt.picks os s j).map (Value.int .i64)) ∧ Later w2 wx) (fun _ t _ => n.nodes.length + 512 + 1 - (intOf t).toNat)
  case atStart => exact ⟨0, Nat.zero_le _, by simp, by simpa [Rt.picks] using World.ownsRow_nil w2 w2.heap.size 3 1, Later.refl _⟩
  case round =>
    obtain ⟨j, hj, rfl, hown, hlw⟩ := hrel
    obtain ⟨Ao, co, rfl⟩ := own_form hown
    have hso := Hso.out
    have hms : j * s ≤ os.length := by
      have h1 : j * s ≤ os.length / s * s := Nat.mul_le_mul_right s hj
      have h2 := Nat.div_mul_le_self os.length s
      omega
    have hsp : (j + 1) * s = j * s + s := Nat.succ_mul j s
    have hpl := Rt.picks_len os s j
    by_cases hlt : j < os.length / s
    · obtain ⟨q1, q2⟩ := Rt.pick_at (os := os) hs1 hlt
      obtain ⟨b, off, rfl, -, hc⟩ := HO.out.below hlw (Nat.le_refl _) ((j + 1) * s - 1) q1
      have HSn := Lib.hid (Rt.picks_succ os s j)
      have hjl : j ≤ 12 := by
        have h1 : j * 1 ≤ j * s := Nat.mul_le_mul_left j hs1
        omega
      have HN := Lib.hid (show (j + 1 + 1) * s = (j + 1) * s + s from Nat.succ_mul (j + 1) s)
      generalize os.getD ((j + 1) * s - 1) 0 = z at *
      generalize (j + 1) * s = p at *
      generalize Rt.picks os s j = r at *
      obtain ⟨p', rfl⟩ : ∃ p', p = p' + 1 := ⟨p - 1, by omega⟩
      rw [show p' + 1 - 1 = p' from rfl] at hc
      have i1 : IntKind.i64.wrap ((p' : Int) + 1 - 1) = (p' : Int) := by rw [IntWalk.i64_in _ (by omega)]; omega
      have i2 : (0 : Int) ≤ (p' : Int) := by omega
      have i3 : (p' : Int) < (n.nodes.length : Int) := by omega
      have i4 : (p' : Int) + 1 ≤ (n.nodes.length : Int) := by omega
      have ho := ownsRow_new hown (.cells #[.int .i64 z] 3)
      have hbx2 := hlw.alloc (.cells #[.int .i64 z] 3)
      have hszb := Below.size hlw
      have HLO := Lib.hid (fun b (hb : (Value.slice Ao r.length co).ownBlock = some b) => (hown.lt b hb).1)
      have hrl : r.length ≤ 12 := by omega
      clear hpl hsp hms hown hso
      go_wp2_with (at_builtin; refine wpList_append_own_at _ rfl _ _ 22 rfl w2.heap.size 3 i0 (.int .i64 0) 1 8 Tryz.underlying22 hi hz0 hz1 hz2 rfl (by decide) _ _ _ rfl ho ⟨wr.heap.size, 0, none⟩ 1 1 [.int .i64 z] rfl rfl ?c1 (by intro u hu; simp at hu; subst hu; rfl) (by unfold maxLen; omega) (by omega) ?c2 ?_)
      first | (case c1 => exact one_new wr _ _) | skip
      case c2 => simp; omega
      intro v' w4 hown' hgrow _ hat
      have hl4 : Later w2 w4 := Below.grown hbx2 hgrow (by simp; omega) (fun b hb => HLO.out b hb)
      have hown2 : w4.ownsRow w2.heap.size 3 1 v' (r ++ [z]).length ((r ++ [z]).map (Value.int .i64)) := by simpa using hown'
      rw [← HSn.out] at hown2
      have i5 : IntKind.i64.wrap ((p' : Int) + 1 + (s : Int)) = (p' : Int) + 1 + (s : Int) := IntWalk.i64_in _ (by omega)
      have Hown2 := Lib.hid hown2
      have Hl4 := Lib.hid hl4
      clear hown2 hl4
      clear hown' hgrow hat ho hbx2 HLO i1
      go_wp2_with fail
      clear i5
      go_roundw
      case rel => exact ⟨j + 1, by omega, by rw [HN.out]; go_num, Hown2.out, Hl4.out⟩
      case measure => simp [intOf]; omega
    · have hje : j = os.length / s := by omega
      have hge : ¬ ((j + 1) * s : Nat) ≤ n.nodes.length := fun h => by
        have : j + 1 ≤ os.length / s := (Nat.le_div_iff_mul_le (by omega)).2 (by omega)
        omega
      subst hje
      have hep : Rt.every os s = (Rt.picks os s (os.length / s)).mergeSort fun x y => decide (x ≤ y) := rfl
      generalize (os.length / s + 1) * s = p at *
      have hge2 : ¬ (p : Int) ≤ (n.nodes.length : Int) := by omega
      have hel := Rt.every_len os s
      generalize os.length / s = m at *
      have hml : m ≤ 12 := by
        have h1 : m * 1 ≤ m * s := Nat.mul_le_mul_left m hs1
        omega
      have Hlw := Lib.hid hlw
      have Hep := Lib.hid hep
      have Hel := Lib.hid hel
      clear hlw hep hel
      clear hsp hms hso hge hj hlt
      by_cases hm0 : m = 0
      · subst hm0
        have HZ := Lib.hid (show Rt.every os s = [] from List.eq_nil_of_length_eq_zero Hel.out)
        rw [hpl]
        clear hown hpl
        go_wp2_with fail
        refine (Tryz.slices_Sort_int_none Ao co wr).mono ?_
        rintro e w4 ⟨rfl, rfl⟩
        go_wp2_with fail
        go_ret2
        rw [HE.out, HL.out, HZ.out]
        exact ⟨Ao, co, rfl, Ints.nil, Hl2.out.trans Hlw.out⟩
      · obtain ⟨g, rfl⟩ : ∃ g, Ao = some ⟨g, 0, none⟩ := by
          rcases hown.2 with ⟨e, h0⟩ | ⟨g, cap, cur, e, _⟩
          · omega
          · injection e with e1 _ _; exact ⟨g, e1⟩
        obtain ⟨cur, hcb, hct⟩ : ∃ cur, wr.heap[g]? = some (.cells cur 3 (0, 0)) ∧ cur.toList.take (Rt.picks os s m).length = (Rt.picks os s m).map (Value.int .i64) := by
          rcases hown.2 with ⟨e, h0⟩ | ⟨g', cap', cur, e, hb, hh, r1, r2, r3, r4⟩
          · cases e
          · injection e with e1 _ _
            injection e1 with e1
            injection e1 with e1 _ _
            subst e1
            exact ⟨cur, hh, by simpa using r4⟩
        have hsort := Tryz.slices_Sort_int g 0 co (Rt.picks os s m) wr (holds_of_blockI hcb hct) (lt_of_block hcb) (by rw [hpl]; omega)
        have hfin := fun (k : Nat) (obs : Array Obj) => own_sorted (m := k) (os := obs) hown rfl (ts := (Rt.picks os s m).mergeSort fun x y => decide (x ≤ y)) (by simp)
        have hgr := fun (k : Nat) (obs : Array Obj) => grownBy_sortedI (w := wr) (g := g) (n := k) (os := obs) ((Rt.picks os s m).mergeSort fun x y => decide (x ≤ y)).toArray
        have hnn := hown.lt
        rw [← Hep.out] at hsort hfin hgr
        have HLn := Lib.hid (show (Rt.picks os s m).length = (Rt.every os s).length by rw [hpl, Hel.out])
        have Hsort := Lib.hid hsort
        have Hfin := Lib.hid hfin
        have Hgr := Lib.hid hgr
        clear hsort hfin hgr
        clear hown hcb hct hnn hpl hm0
        generalize Rt.every os s = ev at *
        generalize Rt.picks os s m = pk at *
        go_wp2_with fail
        refine Hsort.out.mono ?_
        rintro e w4 ⟨rfl, k, obs, rfl⟩
        obtain ⟨hI, hB⟩ := Hfin.out k obs
        have hl4 := Below.grown Hlw.out (Hgr.out k obs) (Below.size Hlw.out) (fun b hb => by injection hb with hb; omega)
        have hl5 := Hl2.out.trans (show Later w2 _ from hl4)
        have HI := Lib.hid hI
        have Hl5 := Lib.hid hl5
        clear hI hl5
        clear hl4 hB
        generalize Go.Sort.grow (Go.Sort.putRow (Value.int .i64) (Go.Sort.ahead wr k) g 0 ev.toArray) obs = w5 at *
        go_wp2_with fail
        go_ret2
        rw [HE.out, HL.out, HLn.out]
        exact ⟨some ⟨g, 0, none⟩, co, rfl, HI.out, Hl5.out⟩
end Go.Proofs.YtnffjfjhbjeaiaaGreatDoor
/- Layer 21 (roots): Root, All; the law's first: contracts. -/
namespace Go.Proofs.YtnffjfjhbjeaiaaGreatDoor
open Go.RowKit
set_option maxHeartbeats 8000000 in
set_option maxRecDepth 100000 in
theorem roots_root (A N : Option Addr) (c d : Nat) (n : NetD) (w : World) (hok : n.ok) (hR : NetR w A N n) (hd : n.nodes.length ≤ d) (h12 : n.nodes.length ≤ 12) :
    Calls Tryz.prog 19 #[.agg #[.slice A n.inn.length c, .slice N n.nodes.length d]] w (RowE (everyL n (Safe.isqrt n.nodes.length)) (everyE n (Safe.isqrt n.nodes.length)) w) := by
  have hk0 := Blk.new w 26 #[.slice A n.inn.length c, .slice N n.nodes.length d]
  have hl0 : Later w (w.alloc (.cells #[.slice A n.inn.length c, .slice N n.nodes.length d] 26)) := (Later.refl w).alloc _
  have hsq : 0 ≤ Safe.isqrt n.nodes.length ∧ Safe.isqrt n.nodes.length ≤ 100 := by
    rcases Nat.eq_zero_or_pos n.nodes.length with h0 | h0
    · rw [h0, Safe.isqrt_nonpos (by simp)]; omega
    · obtain ⟨h1, h2, -⟩ := Safe.isqrt_spec (n := (n.nodes.length : Int)) (by omega)
      refine ⟨by omega, ?_⟩
      rcases Int.lt_or_le 100 (Safe.isqrt n.nodes.length) with h3 | h3
      · have := Int.mul_le_mul (Int.le_of_lt h3) (Int.le_of_lt h3) (by omega) (by omega)
        omega
      · exact h3
  have x0 := hk0.cell 0
  have x1 := hk0.cell 1
  simp only [List.getElem?_toArray, List.getElem?_cons_succ, List.getElem?_cons_zero] at x0 x1
  have HSq := Lib.hid (fun (W : World) => safe_isqrt (n.nodes.length : Int) W (by omega) (by omega))
  have HEv := Lib.hid (fun (W : World) (h : Later w W) => roots_every A N c d n (Safe.isqrt n.nodes.length) W hok (hR.below h (Nat.le_refl _)) hd h12 (by omega))
  generalize Safe.isqrt n.nodes.length = sq at *
  generalize everyL n sq = l at *
  generalize everyE n sq = er at *
  have Hl0 := Lib.hid hl0
  clear hl0
  clear hk0 hok hR hsq
  go_enter Tryz.func19, Tryz.ntmps19
  go_wp2_with fail
  generalize w.alloc (.cells #[.slice A n.inn.length c, .slice N n.nodes.length d] 26) = w1 at *
  have HKp := Lib.hid (fun (W : World) (h : Later w1 W) => (⟨h.cell x0, h.cell x1⟩ : W.cell? ⟨w.heap.size, 0, none⟩ = some (.slice A n.inn.length c) ∧ W.cell? ⟨w.heap.size, 1, none⟩ = some (.slice N n.nodes.length d)))
  go_region_held3 (fun W => W.cell? ⟨w.heap.size, 0, none⟩ = some (.slice A n.inn.length c) ∧ W.cell? ⟨w.heap.size, 1, none⟩ = some (.slice N n.nodes.length d)) (first | exact HKp.out _ (show Later w1 _ by repeat (first | (with_reducible exact Later.refl _) | (with_reducible apply Later.drew) | (with_reducible refine Later.trans ?_ (by assumption)))) | fail)
    (first
    | (go_at_call 20; refine (HSq.out _).mono ?_; rintro e w' ⟨rfl, rfl⟩)
    | (go_at_call 18; refine (HEv.out _ (show Later w _ by repeat (first | (with_reducible exact Hl0.out) | (with_reducible apply Later.drew)))).mono ?_; rintro e w7 ⟨L, lc, rfl, hI, hl7⟩)
    | fail)
  have hlz := Hl0.out.trans ((Later.refl w1).drew.trans hl7)
  have Hlz := Lib.hid hlz
  have HI := Lib.hid hI
  clear hlz hI
  clear hl7 x0 x1 HKp
  go_wp2_with fail
  go_ret2
  exact ⟨L, lc, rfl, HI.out, Hlz.out⟩
def ones (m : Nat) : List Int := (List.range m).map fun (i : Nat) => ((i : Nat) : Int) + 1
theorem ones_len (m : Nat) : (ones m).length = m := by simp [ones]
theorem ones_succ (m : Nat) : ones (m + 1) = ones m ++ [(m : Int) + 1] := by simp [ones, List.range_succ]
/-- The first k filled. -/
def onesTo (m k : Nat) : List Int := ones k ++ List.replicate (m - k) 0
theorem onesTo_zero (m : Nat) : onesTo m 0 = List.replicate m 0 := by simp [onesTo, ones]
theorem onesTo_len {m k : Nat} (h : k ≤ m) : (onesTo m k).length = m := by simp [onesTo, ones_len]; omega
theorem onesTo_all (m : Nat) : onesTo m m = ones m := by simp [onesTo]
theorem onesTo_set {m k : Nat} (h : k < m) : (onesTo m k).set k ((k : Int) + 1) = onesTo m (k + 1) := by
  unfold onesTo
  have hr : List.replicate (m - k) (0 : Int) = 0 :: List.replicate (m - (k + 1)) 0 := by
    rw [← List.replicate_succ]; congr 1; omega
  rw [hr, List.set_append_right _ _ (by rw [ones_len]; exact Nat.le_refl _), ones_len, Nat.sub_self, List.set_cons_zero, ones_succ, List.append_assoc]
  rfl
theorem ev_row {w : World} {g : Nat} {t : TypeId} (l : List Int) (h : Blk w g t (intV l).toArray) : Ints .i64 w (some ⟨g, 0, none⟩) l := Ints.of_row fun j hj => by
  rw [Nat.zero_add, h.cell]; simp [intV, hj]
def RowP (l : List Int) (w : World) (e : Ending) (w' : World) : Prop :=
  ∃ A c, e = .returned (.slice A l.length c) ∧ Ints .i64 w' A l ∧ Later w w'
set_option maxHeartbeats 8000000 in
set_option maxRecDepth 100000 in
theorem roots_all (A N : Option Addr) (c d : Nat) (n : NetD) (w : World) (hnl : n.nodes.length ≤ 1000000) :
    Calls Tryz.prog 15 #[.agg #[.slice A n.inn.length c, .slice N n.nodes.length d]] w (RowP (ones n.nodes.length) w) := by
  obtain ⟨i0, hi, hz0, hz1, hz2⟩ := info_parts int_info
  have hl0 : Later w (w.alloc (.cells #[.slice A n.inn.length c, .slice N n.nodes.length d] 26)) := (Later.refl w).alloc _
  have hs0 : (w.alloc (.cells #[.slice A n.inn.length c, .slice N n.nodes.length d] 26)).heap.size = w.heap.size + 1 := World.size_alloc _ _
  have Hl0 := Lib.hid hl0
  have Hs0 := Lib.hid hs0
  clear hl0 hs0
  go_enter Tryz.func15, Tryz.ntmps15
  go_wp2_with (at_make; refine wpList_make_full _ rfl _ _ 22 rfl (w.heap.size + 1) 3 i0 (.int .i64 0) 1 Tryz.underlying22 hi hz0 hz1 _ _ _ _ n.nodes.length rfl rfl (by first | rfl | simp | (go_simp; rfl)) (by first | rfl | simp | (go_simp; rfl)) ?b2 ?b3 ?b4 ?_)
  case b2 => rw [hz2]; omega
  case b3 => unfold maxLen; omega
  case b4 => simp
  intro w3 hown hgrow
  have hblk := own_cur hown
  rw [made_one] at hblk
  generalize hw1 : w.alloc (.cells #[.slice A n.inn.length c, .slice N n.nodes.length d] 26) = w1 at *
  have hm0 : Blk w3 (w.heap.size + 1) 3 (intV (onesTo n.nodes.length 0)).toArray := by
    rw [onesTo_zero, intV, List.map_replicate]
    exact hblk
  have hl3 : Later w1 w3 := (Below.refl _ w1).grown hgrow (Nat.le_refl _) (by simp)
  clear hblk hown hgrow hw1
  generalize n.nodes.length = m at *
  have HG0 := Hs0.out
  generalize hg : w.heap.size + 1 = g at *
  have HG := Lib.hid HG0
  clear hg HG0
  have HON := Lib.hid (fun k (h : k ≤ m) => onesTo_len h)
  have HOS := Lib.hid (fun k (h : k < m) => onesTo_set h)
  have HOA := Lib.hid (onesTo_all m)
  have HOL := Lib.hid (ones_len m)
  have Hm0 := Lib.hid hm0
  have Hl3 := Lib.hid hl3
  clear hm0 hl3
  go_wp2_with fail
  go_loopw [4, 11] (fun _ i wx => ∃ k : Nat, k ≤ m ∧ i = .int .i64 (k : Int) ∧ Blk wx g 3 (intV (onesTo m k)).toArray ∧ Later w1 wx) (fun _ i _ => m - (intOf i).toNat)
  case atStart => exact ⟨0, Nat.zero_le _, rfl, Hm0.out, Hl3.out⟩
  case round =>
    obtain ⟨k, hk, rfl, hm, hlw⟩ := hrel
    clear Hm0
    by_cases hlt : k < m
    · have HS := Lib.hid (HOS.out k hlt)
      have hll := HON.out k hk
      obtain ⟨y, hy⟩ := hm.has (j := k) (by rw [intV_len, hll]; exact hlt)
      have fy := hm.frozen k
      have hbs := hm.set_ k (.int .i64 ((k : Int) + 1))
      have HBS := Lib.hid (show Blk (wr.setCell ⟨g, k, none⟩ (.int .i64 ((k : Int) + 1))) g 3 (intV (onesTo m (k + 1))).toArray by
        rw [← HS.out]
        simpa [intV, List.map_set] using hbs)
      have HLX := Lib.hid (hlw.set (p := ⟨g, k, none⟩) (by rw [HG.out]; exact Nat.le_refl _) (.int .i64 ((k : Int) + 1)))
      have k1 : (k : Int) < (m : Int) := by omega
      clear hbs hm hlw hll
      go_wp2_with fail
      go_roundw
      case rel => exact ⟨k + 1, by omega, by go_num, HBS.out, HLX.out⟩
      case measure => simp [intOf]; omega
    · obtain rfl : k = m := by omega
      rw [HOA.out] at hm
      have hI := ev_row _ hm
      have hl := Hl0.out.trans hlw
      have HI := Lib.hid hI
      have Hl := Lib.hid hl
      clear hI hl
      clear hm hlw
      go_wp2_with fail
      go_ret
      refine ⟨some ⟨g, 0, none⟩, k, ?_, HI.out, Hl.out⟩
      rw [HOL.out]
      rfl
set_option maxHeartbeats 8000000 in
set_option maxRecDepth 100000 in
theorem first_21 (m : Nat) (w : World) (hm : m ≤ 1000000) :
    Calls Tryz.prog 22 #[.int .i64 m] w (RowP (ones m) w) := by
  obtain ⟨i0, hi, hz0, hz1, hz2⟩ := info_parts int_info
  go_enter Tryz.func22, Tryz.ntmps22
  go_wp2_with fail
  go_loopw [3, 4, 6] (fun o _ i wx => ∃ k : Nat, k ≤ m ∧ i = .int .i64 (k : Int) ∧ wx.ownsRow w.heap.size 3 1 o (ones k).length ((ones k).map (Value.int .i64)) ∧ Later w wx) (fun _ _ i _ => m - (intOf i).toNat)
  case atStart => exact ⟨0, Nat.zero_le _, rfl, by simpa [ones] using World.ownsRow_nil w w.heap.size 3 1, Later.refl _⟩
  case round =>
    obtain ⟨k, hk, rfl, hown, hlw⟩ := hrel
    obtain ⟨Ao, co, rfl⟩ := own_form hown
    have hln := ones_len k
    by_cases hlt : k < m
    · have HS := Lib.hid (ones_succ k)
      generalize ones k = r at *
      have ho := ownsRow_new hown (.cells #[.int .i64 ((k : Int) + 1)] 3)
      have hbx2 := hlw.alloc (.cells #[.int .i64 ((k : Int) + 1)] 3)
      have hszb := Below.size hlw
      have HLO := Lib.hid (fun b (hb : (Value.slice Ao r.length co).ownBlock = some b) => (hown.lt b hb).1)
      have k1 : (k : Int) < (m : Int) := by omega
      have hrl : r.length ≤ 1000000 := by omega
      clear hown hln
      go_wp2_with (at_builtin; refine wpList_append_own_at _ rfl _ _ 22 rfl w.heap.size 3 i0 (.int .i64 0) 1 8 Tryz.underlying22 hi hz0 hz1 hz2 rfl (by decide) _ _ _ rfl ho ⟨wr.heap.size, 0, none⟩ 1 1 [.int .i64 ((k : Int) + 1)] rfl rfl ?c1 (by intro u hu; simp at hu; subst hu; rfl) (by unfold maxLen; omega) (by omega) ?c2 ?_)
      first | (case c1 => exact one_new wr _ _) | skip
      case c2 => simp; omega
      intro v' w4 hown' hgrow _ hat
      have hl4 : Later w w4 := Below.grown hbx2 hgrow (by simp; omega) (fun b hb => HLO.out b hb)
      have hown2 : w4.ownsRow w.heap.size 3 1 v' (r ++ [(k : Int) + 1]).length ((r ++ [(k : Int) + 1]).map (Value.int .i64)) := by simpa using hown'
      rw [← HS.out] at hown2
      have Hown2 := Lib.hid hown2
      have Hl4 := Lib.hid hl4
      clear hown2 hl4
      clear hown' hgrow hat ho hbx2 HLO
      go_wp2_with fail
      go_roundw
      case rel => exact ⟨k + 1, by omega, by go_num, Hown2.out, Hl4.out⟩
      case measure => simp [intOf]; omega
    · obtain rfl : k = m := by omega
      obtain ⟨q1, -, -⟩ := own_ints hown
      have Hq1 := Lib.hid q1
      have Hlw := Lib.hid hlw
      clear q1 hlw
      clear hown
      go_wp2_with fail
      go_ret
      exact ⟨Ao, co, rfl, Hq1.out, Hlw.out⟩
end Go.Proofs.YtnffjfjhbjeaiaaGreatDoor

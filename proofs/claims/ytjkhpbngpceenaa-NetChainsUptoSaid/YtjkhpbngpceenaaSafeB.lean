/- Layer 2 (safe): sums, products, maxima, differences, shares: contracts. -/
import Derived.Test.YtjkhpbngpceenaaSafe
namespace Go.Proofs.Ytjkhpbngpceenaa
open Go.RowKit

def AddI (B : Nat) (w : World) (zs : List Int) (k : Nat) (wx : World) : Prop := Blk wx B 3 #[.int .i64 (Safe.sum (zs.take k))] ∧ Below B w wx

set_option maxHeartbeats 400000 in
theorem safe_add (A : Option Addr) (c : Nat) (zs : List Int) (w : World) (hl : zs.length ≤ 9223372036854775807) (hI : Ints .i64 w A zs) :
    Calls Try.prog 53 #[.slice A zs.length c] w fun e w' => e = .returned (.tuple #[.int .i64 (Safe.add zs).1, .int .i64 (Safe.add zs).2]) ∧ Below w.heap.size w w' := by
  have HI := Lib.hid hI
  clear hI
  cases hall : zs.all Safe.ok
  · have hfin := Lib.hid (Safe.add_range hall)
    have HA := Lib.hid hall
    clear hall
    go_enter Try.func53, Try.ntmps53
    go_wp2_with fail
    refine (safe_every_pure A c 72 zs Safe.ok _ hl enters_right HI.out safe_right).mono ?_
    rintro e w' ⟨rfl, rfl⟩
    rw [HA.out]
    go_wp2_with fail
    go_ret2
    exact ⟨by rw [hfin.out]; rfl, Below.refl _ _⟩
  · have HA := Lib.hid hall
    clear hall
    go_enter Try.func53, Try.ntmps53
    go_wp2_with fail
    refine (safe_every_pure A c 72 zs Safe.ok _ hl enters_right HI.out safe_right).mono ?_
    rintro e w' ⟨rfl, rfl⟩
    rw [HA.out]
    go_wp2_with fail
    refine (safe_every A c 73 zs #[.pointer (some ⟨w.heap.size, 0, none⟩)] (fun j => decide (Safe.sum (zs.take (j + 1)) ≤ Safe.top)) (AddI w.heap.size w zs) _ hl enters_add1 ?h1 ?h2 ?h3).mono ?_
    case h1 => exact fun k wx h => HI.out.below h.2 (Nat.le_refl _)
    case h2 =>
      intro k hk hok wx hik
      have hb : Safe.sum (zs.take k) ≤ 1099511627776 := by
        rcases k with _ | k
        · simp [Safe.sum]
        · have := hok k (by omega)
          exact of_decide_eq_true this
      have hz := (Safe.ok_iff _).1 (Safe.all_of HA.out k hk)
      have h0 := Safe.sum_nonneg (zs.take k) (fun x hx => Safe.nonneg_of HA.out x (List.mem_of_mem_take hx))
      refine (safe_add1 (zs.getD k 0) (Safe.sum (zs.take k)) w.heap.size wx hik.1 h0 hb hz.1 hz.2).mono ?_
      rintro e w' ⟨rfl, rfl⟩
      have e1 : zs.getD k 0 = zs[k] := by simp [hk]
      have e2 := Safe.sum_take_succ zs k hk
      refine ⟨?_, ?_, ?_⟩
      · show _ = Ending.returned (.bool (decide (Safe.sum (zs.take (k + 1)) ≤ Safe.top)))
        rw [e1, e2, Safe.top_eq]
      · have := hik.1.set_ 0 (.int .i64 (Safe.sum (zs.take k) + zs.getD k 0))
        rw [e1, ← e2] at this
        rw [e1, ← e2]
        exact this
      · exact hik.2.setCell (Nat.le_refl _) _
    case h3 => exact ⟨by simpa [Safe.sum] using Blk.new w 3 #[.int .i64 0], (Below.refl _ _).alloc (Nat.le_refl _) _⟩
    rintro e w' ⟨k, hk, hj, h⟩
    rcases h with ⟨rfl, rfl, hb, hbel⟩ | ⟨h1, h2, rfl, hb, hbel⟩
    · have hc := hb.cell 0
      simp at hc
      have hfin := Lib.hid (Safe.add_sum HA.out (by
        rcases hz : zs.length with _ | n
        · have : zs = [] := List.eq_nil_of_length_eq_zero hz
          subst this; simp [Safe.sum, Safe.top_eq]
        · have := hj n (by omega)
          simp only [← hz, List.take_length] at this
          simpa using this))
      clear hj hb
      go_wp2_with fail
      go_ret2
      exact ⟨by rw [hfin.out]; rfl, hbel⟩
    · have hfin := Lib.hid (Safe.add_big HA.out (k + 1) (by simpa using h2))
      clear hj hb h2
      go_wp2_with fail
      go_ret2
      exact ⟨by rw [hfin.out]; rfl, hbel⟩

def MulI (B : Nat) (w : World) (zs : List Int) (k : Nat) (wx : World) : Prop := (∃ s : Int, (Safe.prod (zs.take k) ≤ Safe.top → s = Safe.prod (zs.take k)) ∧ Blk wx B 3 #[.int .i64 s]) ∧ Below B w wx

set_option maxHeartbeats 400000 in
theorem safe_mul (A : Option Addr) (c : Nat) (zs : List Int) (w : World) (hl : zs.length ≤ 9223372036854775807) (hI : Ints .i64 w A zs) :
    Calls Try.prog 70 #[.slice A zs.length c] w fun e w' => e = .returned (.tuple #[.int .i64 (Safe.mul zs).1, .int .i64 (Safe.mul zs).2]) ∧ Below w.heap.size w w' := by
  have HI := Lib.hid hI
  clear hI
  cases hall : zs.all Safe.ok
  · have hfin := Lib.hid (Safe.mul_range hall)
    have HA := Lib.hid hall
    clear hall
    go_enter Try.func70, Try.ntmps70
    go_wp2_with fail
    refine (safe_every_pure A c 72 zs Safe.ok _ hl enters_right HI.out safe_right).mono ?_
    rintro e w' ⟨rfl, rfl⟩
    rw [HA.out]
    go_wp2_with fail
    go_ret2
    exact ⟨by rw [hfin.out]; rfl, Below.refl _ _⟩
  · have HA := Lib.hid hall
    clear hall
    cases hz : zs.all (· != 0)
    · have hfin := Lib.hid (Safe.mul_zero HA.out hz)
      have HZ := Lib.hid hz
      clear hz
      go_enter Try.func70, Try.ntmps70
      go_wp2_with fail
      refine (safe_every_pure A c 72 zs Safe.ok _ hl enters_right HI.out safe_right).mono ?_
      rintro e w' ⟨rfl, rfl⟩
      rw [HA.out]
      go_wp2_with fail
      refine (safe_every_pure A c 90 zs (· != 0) _ hl enters_mul1 HI.out safe_mul1).mono ?_
      rintro e w' ⟨rfl, rfl⟩
      rw [HZ.out]
      go_wp2_with fail
      go_ret2
      exact ⟨by rw [hfin.out]; rfl, Below.refl _ _⟩
    · have HZ := Lib.hid hz
      clear hz
      go_enter Try.func70, Try.ntmps70
      go_wp2_with fail
      refine (safe_every_pure A c 72 zs Safe.ok _ hl enters_right HI.out safe_right).mono ?_
      rintro e w' ⟨rfl, rfl⟩
      rw [HA.out]
      go_wp2_with fail
      refine (safe_every_pure A c 90 zs (· != 0) _ hl enters_mul1 HI.out safe_mul1).mono ?_
      rintro e w' ⟨rfl, rfl⟩
      rw [HZ.out]
      go_wp2_with fail
      refine (safe_every A c 91 zs #[.pointer (some ⟨w.heap.size, 0, none⟩)] (fun j => decide (Safe.prod (zs.take (j + 1)) ≤ Safe.top)) (MulI w.heap.size w zs) _ hl enters_mul2 ?h1 ?h2 ?h3).mono ?_
      case h1 => exact fun k wx h => HI.out.below h.2 (Nat.le_refl _)
      case h2 =>
        intro k hk hok wx hik
        have hb : Safe.prod (zs.take k) ≤ Safe.top := by
          rcases k with _ | k
          · simp [Safe.prod, Safe.top_eq]
          · have := hok k (by omega)
            simpa using this
        have hz := (Safe.ok_iff _).1 (Safe.all_of HA.out k hk)
        have hz1 : 1 ≤ zs.getD k 0 := Safe.pos_of HA.out HZ.out _ (by simp [hk])
        have h0 := Safe.prod_pos (zs.take k) (fun x hx => Safe.pos_of HA.out HZ.out x (List.mem_of_mem_take hx))
        obtain ⟨⟨s, hs, hblk⟩, hbel⟩ := hik
        obtain rfl := hs hb
        clear hs
        refine (safe_mul2 (zs.getD k 0) (Safe.prod (zs.take k)) w.heap.size wx hblk h0 hb hz1 hz.2).mono ?_
        rintro e w' ⟨rfl, rfl⟩
        have e1 : zs.getD k 0 = zs[k] := by simp [hk]
        have e2 := Safe.prod_take_succ zs k hk
        refine ⟨?_, ?_, ?_⟩
        · show _ = Ending.returned (.bool (decide (Safe.prod (zs.take (k + 1)) ≤ Safe.top)))
          rw [e1, e2, Safe.top_eq]
        · rw [e1, e2]
          by_cases h : Safe.prod (zs.take k) * zs[k] ≤ 1099511627776
          · rw [if_pos h]
            exact ⟨_, fun _ => rfl, hblk.set_ 0 _⟩
          · rw [if_neg h]
            exact ⟨_, fun h' => absurd h' h, hblk⟩
        · split
          · exact hbel.setCell (Nat.le_refl _) _
          · exact hbel
      case h3 => exact ⟨⟨1, fun _ => by simp [Safe.prod], by simpa using Blk.new w 3 #[.int .i64 1]⟩, (Below.refl _ _).alloc (Nat.le_refl _) _⟩
      rintro e w' ⟨k, hk, hj, h⟩
      rcases h with ⟨rfl, rfl, ⟨s, hs, hb⟩, hbel⟩ | ⟨h1, h2, rfl, hb, hbel⟩
      · have hp : Safe.prod zs ≤ Safe.top := by
          rcases hz : zs.length with _ | n
          · have : zs = [] := List.eq_nil_of_length_eq_zero hz
            subst this; simp [Safe.prod, Safe.top_eq]
          · have := hj n (by omega)
            simp only [← hz, List.take_length] at this
            simpa using this
        rw [List.take_length] at hs
        obtain rfl := hs hp
        have hc := hb.cell 0
        simp at hc
        have hfin := Lib.hid (Safe.mul_prod HA.out HZ.out hp)
        clear hj hb hp hs
        go_wp2_with fail
        go_ret2
        exact ⟨by rw [hfin.out]; rfl, hbel⟩
      · have hfin := Lib.hid (Safe.mul_big HA.out HZ.out (k + 1) (by simpa using h2))
        clear hj hb h2
        go_wp2_with fail
        go_ret2
        exact ⟨by rw [hfin.out]; rfl, hbel⟩

end Go.Proofs.Ytjkhpbngpceenaa

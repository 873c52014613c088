/- Layer 2 (safe): what each function of the package computes: contracts over the loaded program. -/
import Derived.Test.YtjkhpbngpceenaaChecked
import Derived.Test.YtjkhpbngpceenaaMem
import Derived.Test.YtjkhpbngpceenaaSafeP
import Derived.KernelRfl
import Derived.Deep.QuietTactic
import Derived.BigQuiet
namespace Go.Proofs.Ytjkhpbngpceenaa
open Go.RowKit

theorem safe_right (n : Int) (w : World) :
    Calls Try.prog 72 #[.int .i64 n] w fun e w' => e = .returned (.bool (Safe.ok n)) ∧ w = w' := by
  by_cases h1 : 0 ≤ n
  · by_cases h2 : n ≤ 1099511627776
    · go_enter Try.func72, Try.ntmps72
      go_wp2
      go_ret
      exact ⟨by simp [Safe.ok, h1, h2], rfl⟩
    · go_enter Try.func72, Try.ntmps72
      go_wp2
      go_ret
      exact ⟨by simp [Safe.ok, h1, h2], rfl⟩
  · go_enter Try.func72, Try.ntmps72
    go_wp2
    go_ret
    exact ⟨by simp [Safe.ok]; omega, rfl⟩

def EvStep (g : Nat) (caps : Array Value) (zs : List Int) (ok : Nat → Bool) (I : Nat → World → Prop) : Prop :=
  ∀ k, k < zs.length → (∀ j, j < k → ok j = true) → ∀ w, I k w → Calls Try.prog g (#[.int .i64 (zs.getD k 0)] ++ caps) w fun e w' => e = .returned (.bool (ok k)) ∧ I (k + 1) w'

def EvPost (zs : List Int) (ok : Nat → Bool) (I : Nat → World → Prop) (e : Ending) (w' : World) : Prop :=
  ∃ k, k ≤ zs.length ∧ (∀ j, j < k → ok j = true) ∧ ((k = zs.length ∧ e = .returned (.bool true) ∧ I k w') ∨ (k < zs.length ∧ ok k = false ∧ e = .returned (.bool false) ∧ I (k + 1) w'))

set_option maxHeartbeats 400000 in
theorem safe_every (A : Option Addr) (c g : Nat) (zs : List Int) (caps : Array Value) (ok : Nat → Bool) (I : Nat → World → Prop) (w : World) (hl : zs.length ≤ 9223372036854775807)
    (eg : ∀ args w, (callFunc g args).run Try.prog w = .ok (.enter g args) w)
    (hI : ∀ k w, I k w → Ints .i64 w A zs) (hs : EvStep g caps zs ok I) (h0 : I 0 w) :
    Calls Try.prog 71 #[.slice A zs.length c, .func (.func g) #[] caps] w (EvPost zs ok I) := by
  have HI := Lib.hid hI
  clear hI
  go_enter Try.func71, Try.ntmps71
  go_wp2_with fail
  go_loopw [6, 9] (fun x i wr => ∃ k : Nat, k ≤ zs.length ∧ i = .int .i64 k ∧ I k wr ∧ (∀ j, j < k → ok j = true)) (fun _ i _ => zs.length - (intOf i).toNat)
  case atStart => exact ⟨0, Nat.zero_le _, rfl, h0, by intro j hj; omega⟩
  case round =>
    obtain ⟨k, hk, rfl, hik, hok⟩ := hrel
    have HO := Lib.hid hok
    clear hok
    by_cases hlt : k < zs.length
    · obtain ⟨b, off, rfl, hb, hc⟩ := HI.out k wr hik k hlt
      have hcall := Lib.hid (hs k hlt HO.out wr hik)
      have ez : zs.getD k 0 = zs[k] := by simp [hlt]
      rw [ez] at hcall
      have hcall2 : Hid (Calls Try.prog g (#[.int .i64 zs[k]] ++ caps) wr fun e w' => e = .returned (.bool (ok k)) ∧ I (k + 1) w') := hcall
      clear hcall ez
      go_wp2_with fail
      refine hcall2.out.mono ?_
      rintro e w1 ⟨rfl, h1⟩
      cases hkk : ok k
      · go_wp2_with fail
        go_ret
        exact ⟨k, hk, HO.out, .inr ⟨hlt, hkk, rfl, h1⟩⟩
      · have HK := Lib.hid hkk
        clear hkk
        go_wp2_with fail
        go_roundw
        case rel => exact ⟨k + 1, by omega, by go_num, h1, fun j hj => by rcases Nat.lt_succ_iff_lt_or_eq.1 hj with h | h; exact HO.out j h; subst h; exact HK.out⟩
        case measure => simp [intOf]; omega
    · go_wp2_with fail
      go_ret
      exact ⟨k, hk, HO.out, .inl ⟨by omega, rfl, hik⟩⟩

/-- every(l, f) where f only computes. -/
theorem safe_every_pure (A : Option Addr) (c g : Nat) (zs : List Int) (p : Int → Bool) (w : World) (hl : zs.length ≤ 9223372036854775807)
    (eg : ∀ args w, (callFunc g args).run Try.prog w = .ok (.enter g args) w)
    (hI : Ints .i64 w A zs) (hs : ∀ n w, Calls Try.prog g #[.int .i64 n] w fun e w' => e = .returned (.bool (p n)) ∧ w = w') :
    Calls Try.prog 71 #[.slice A zs.length c, .func (.func g) #[] #[]] w fun e w' => e = .returned (.bool (zs.all p)) ∧ w = w' := by
  refine (safe_every A c g zs #[] (fun j => p (zs.getD j 0)) (fun _ wx => w = wx) w hl eg (fun k wx h => by subst h; exact hI) (fun k hk _ wx h => by subst h; exact (hs _ _)) rfl).mono ?_
  rintro e w' ⟨k, hk, hj, h⟩
  rcases h with ⟨h1, he, hw⟩ | ⟨h1, h2, he, hw⟩
  · subst h1
    exact ⟨by rw [he, Safe.all_getD hj], hw⟩
  · exact ⟨by rw [he, Safe.not_all h1 h2], hw⟩

theorem enters_right : ∀ args w, (callFunc 72 args).run Try.prog w = .ok (.enter 72 args) w := enters Try.func72 (by kernel_rfl) rfl
theorem enters_add1 : ∀ args w, (callFunc 73 args).run Try.prog w = .ok (.enter 73 args) w := enters Try.func73 (by kernel_rfl) rfl
theorem enters_mul1 : ∀ args w, (callFunc 90 args).run Try.prog w = .ok (.enter 90 args) w := enters Try.func90 (by kernel_rfl) rfl
theorem enters_mul2 : ∀ args w, (callFunc 91 args).run Try.prog w = .ok (.enter 91 args) w := enters Try.func91 (by kernel_rfl) rfl

theorem safe_add1 (n s : Int) (g : Nat) (w : World) (hb : Blk w g 3 #[.int .i64 s]) (h0 : 0 ≤ s) (h1 : s ≤ 1099511627776) (h2 : 0 ≤ n) (h3 : n ≤ 1099511627776) :
    Calls Try.prog 73 #[.int .i64 n, .pointer (some ⟨g, 0, none⟩)] w fun e w' => e = .returned (.bool (decide (s + n ≤ 1099511627776))) ∧ w.setCell ⟨g, 0, none⟩ (.int .i64 (s + n)) = w' := by
  have hc := hb.cell 0
  have hf := hb.frozen 0
  have hc2 := (hb.set_ 0 (.int .i64 (s + n))).cell 0
  simp at hc hc2
  clear hb
  go_enter Try.func73, Try.ntmps73
  go_wp2_with fail
  go_ret
  exact ⟨rfl, rfl⟩

theorem safe_mul1 (n : Int) (w : World) :
    Calls Try.prog 90 #[.int .i64 n] w fun e w' => e = .returned (.bool (n != 0)) ∧ w = w' := by
  go_enter Try.func90, Try.ntmps90
  go_wp2_with fail
  go_ret
  exact ⟨rfl, rfl⟩

theorem safe_mul2 (n s : Int) (g : Nat) (w : World) (hb : Blk w g 3 #[.int .i64 s]) (h0 : 1 ≤ s) (h1 : s ≤ 1099511627776) (h2 : 1 ≤ n) (h3 : n ≤ 1099511627776) :
    Calls Try.prog 91 #[.int .i64 n, .pointer (some ⟨g, 0, none⟩)] w fun e w' =>
      e = .returned (.bool (decide (s * n ≤ 1099511627776))) ∧ (if s * n ≤ 1099511627776 then w.setCell ⟨g, 0, none⟩ (.int .i64 (s * n)) else w) = w' := by
  have hc := hb.cell 0
  have hf := hb.frozen 0
  simp at hc
  clear hb
  have hq : n ≤ 1099511627776 / s ↔ s * n ≤ 1099511627776 := by rw [Int.le_ediv_iff_mul_le (by omega), Int.mul_comm]
  by_cases hle : s * n ≤ 1099511627776
  · have hn : n ≤ 1099511627776 / s := hq.2 hle
    have hp : 0 ≤ s * n := Int.mul_nonneg (by omega) (by omega)
    clear hq
    go_enter Try.func91, Try.ntmps91
    go_wp2_with fail
    go_ret
    exact ⟨by simp [hle], by simp [hle]⟩
  · have hn : 1099511627776 / s < n := by
      rcases Int.lt_or_le (1099511627776 / s) n with h | h
      · exact h
      · exact absurd (hq.1 h) hle
    clear hq
    go_enter Try.func91, Try.ntmps91
    go_wp2_with fail
    go_ret
    exact ⟨by simp [hle], by simp [hle]⟩

end Go.Proofs.Ytjkhpbngpceenaa

/- The walk of the law SafeTurned. -/
import Derived.Test.YtggnpbgkfplgbaaAwakeB
namespace Go.Proofs.Ytggnpbgkfplgbaa
open Go.RowKit

theorem turned_info : (Try.prog.info? 3).map (fun i => (i.zero, i.size, i.bytes)) = some (some (.int .i64 0), 1, 8) := by kernel_rfl

def revTo (zs : List Int) (k : Nat) : List Value := (zs.reverse.take k).map (Value.int .i64)
theorem rev_take_succ (zs : List Int) (k : Nat) (h : k < zs.length) : revTo zs (k + 1) = revTo zs k ++ [.int .i64 zs[zs.length - 1 - k]] := by
  unfold revTo
  rw [List.take_succ_eq_append_getElem (by simpa using h)]
  simp

set_option maxHeartbeats 800000 in
theorem walkSafeTurned (w : World) (A : Option Addr) (c : Nat) (zs : List Int) (hl : zs.length ≤ 9223372036854775807) (hI : Ints .i64 w A zs) (_hw : ∀ n ∈ zs, (Lit.int .i64 n).wf = true) :
    Calls Try.prog 6 #[.slice A zs.length c] w fun e w' => e = .returned (.bool true) ∧ Below w.heap.size w w' := by
  have HI := Lib.hid hI
  clear hI _hw
  by_cases h200 : 200 < zs.length
  · go_enter Try.func6, Try.ntmps6
    go_wp2_with fail
    refine (awake02 _).mono ?_
    rintro e w1 ⟨rfl, h1⟩
    go_wp2_with fail
    go_ret
    exact ⟨rfl, h1⟩
  · obtain ⟨i0, hi, hz0, hz1, hz2⟩ := info_parts turned_info
    go_enter Try.func6, Try.ntmps6
    go_wp2_with fail
    go_loopw [3, 4, 19] (fun v _ i wr => ∃ k : Nat, k ≤ zs.length ∧ i = .int .i64 k ∧ wr.ownsRow w.heap.size 3 1 v k (revTo zs k) ∧ Below w.heap.size w wr) (fun _ _ i _ => zs.length - (intOf i).toNat)
    case atStart => exact ⟨0, Nat.zero_le _, rfl, World.ownsRow_nil _ _ _ _, Below.refl _ _⟩
    case round =>
      obtain ⟨k, hk, rfl, hown, hbel⟩ := hrel
      by_cases hlt : k < zs.length
      · obtain ⟨b, off, rfl, hb, hc⟩ := HI.out.below hbel (Nat.le_refl _) (zs.length - 1 - k) (by omega)
        have hix : zs.length - 1 - k < zs.length := by omega
        have HR := Lib.hid (rev_take_succ zs k hlt)
        go_wp2_with (at_builtin; refine wpList_append_own _ rfl _ _ 22 rfl w.heap.size 3 i0 (.int .i64 0) 1 8 Try.underlying22 hi hz0 hz1 hz2 rfl (by decide) _ _ _ rfl (hown.alloc _) ⟨wr.heap.size, 0, none⟩ 1 1 [.int .i64 zs[zs.length - 1 - k]] rfl rfl ?c1 ?c2 ?c3 ?c4 ?c5 ?_)
        case c1 => exact one_new _ _ _
        case c2 => intro u hu; simp at hu; subst hu; rfl
        case c3 => unfold maxLen; omega
        case c4 => omega
        case c5 => have := hbel.size; simp; omega
        · intro v' w1 hown' hgrow _
          have hb1 : Below w.heap.size w w1 := (hbel.alloc hbel.size _).grown hgrow (by have := hbel.size; simp; omega) (fun g hg => (hown.lt g hg).1)
          have ho1 : w1.ownsRow w.heap.size 3 1 v' (k + 1) (revTo zs (k + 1)) := by
            rw [HR.out]; exact hown'
          clear hown' hgrow hown hbel
          go_wp2_with fail
          go_roundw
          case rel => exact ⟨k + 1, by omega, by go_num, ho1, hb1⟩
          case measure => simp [intOf]; omega
      · obtain rfl : k = zs.length := by omega
        unfold revTo at hown
        rw [List.take_of_length_le (by simp)] at hown
        have hya := Lib.hid (Safe.add_reverse zs)
        have hym := Lib.hid (Safe.mul_reverse zs)
        have hyl : zs.reverse.length ≤ 9223372036854775807 := by simp; omega
        generalize zs.reverse = ys at hown hya hym hyl
        obtain ⟨A', c', hv, hn, hI'⟩ := Ints.of_own hown
        subst hv
        have HI' := Lib.hid hI'
        clear hI' hown hn
        go_wp2_with fail
        refine (safe_add A c zs _ hl (HI.out.below hbel (Nat.le_refl _))).mono ?_
        rintro e w1 ⟨rfl, h1⟩
        go_wp2_with fail
        refine (safe_add A' c' ys _ hyl (HI'.out.below h1 (Nat.le_refl _))).mono ?_
        rintro e w2 ⟨rfl, h2⟩
        rw [hya.out]
        have hb2 : Below wr.heap.size wr w2 := h1.trans (h2.mono h1.size)
        clear h1 h2
        go_wp2_with fail
        refine (safe_mul A c zs _ hl (HI.out.below (hbel.trans (hb2.mono hbel.size)) (Nat.le_refl _))).mono ?_
        rintro e w3 ⟨rfl, h3⟩
        have hb3 : Below wr.heap.size wr w3 := hb2.trans (h3.mono hb2.size)
        clear hb2 h3
        go_wp2_with fail
        refine (safe_mul A' c' ys _ hyl (HI'.out.below hb3 (Nat.le_refl _))).mono ?_
        rintro e w4 ⟨rfl, h4⟩
        rw [hym.out]
        have hb4 : Below wr.heap.size wr w4 := hb3.trans (h4.mono hb3.size)
        clear hb3 h4
        go_wp2_with fail
        refine (awake02 _).mono ?_
        rintro e w5 ⟨rfl, h5⟩
        go_wp2_with fail
        go_ret
        exact ⟨rfl, hbel.trans ((hb4.trans (h5.mono hb4.size)).mono hbel.size)⟩
end Go.Proofs.Ytggnpbgkfplgbaa

/- The walk of the law SafeRoots. -/
import Derived.Test.YtggnpbgkfplgbaaAwakeB
namespace Go.Proofs.Ytggnpbgkfplgbaa
open Go.RowKit

set_option maxHeartbeats 400000 in
theorem walkSafeRoots (w : World) (n : Int) (hw : (Lit.int .i64 n).wf = true) :
    Calls Try.prog 5 #[.int .i64 n] w fun e w' => e = .returned (.bool true) ∧ Below w.heap.size w w' := by
  have ⟨hlo, hhi⟩ := wf_bd hw
  clear hw
  by_cases hn : n < 1
  · have H0 := Lib.hid (Safe.isqrt_nonpos (n := n) (by omega))
    go_enter Try.func5, Try.ntmps5
    go_wp2_with fail
    refine (safe_isqrt n _ hlo hhi).mono ?_
    rintro e w1 ⟨rfl, rfl⟩
    rw [H0.out]
    go_wp2_with fail
    refine (awake02 _).mono ?_
    rintro e w3 ⟨rfl, h3⟩
    go_wp2_with fail
    go_ret
    exact ⟨rfl, h3⟩
  · have ⟨h1, h2, h3⟩ := Safe.isqrt_spec (n := n) (by omega)
    generalize hk : Safe.isqrt n = k at h1 h2 h3
    have HK := Lib.hid hk
    have h4 : k ≤ n / k := (Int.le_ediv_iff_mul_le (by omega)).2 h2
    have h5 : n / (k + 1) < k + 1 := by
      rcases Int.lt_or_le (n / (k + 1)) (k + 1) with h | h
      · exact h
      · have := (Int.le_ediv_iff_mul_le (by omega)).1 h
        omega
    have h6 := root_bd (by omega) h2 hhi
    have hd0 : 0 ≤ n / k := Int.ediv_nonneg (by omega) (by omega)
    have hd1 : n / k ≤ 9223372036854775807 := Int.le_trans (Int.ediv_le_self _ (by omega)) hhi
    have hd2 : 0 ≤ n / (k + 1) := Int.ediv_nonneg (by omega) (by omega)
    have hd3 : n / (k + 1) ≤ 9223372036854775807 := Int.le_trans (Int.ediv_le_self _ (by omega)) hhi
    clear hk h2 h3
    go_enter Try.func5, Try.ntmps5
    go_wp2_with fail
    refine (safe_isqrt n _ hlo hhi).mono ?_
    rintro e w1 ⟨rfl, rfl⟩
    rw [HK.out]
    go_wp2_with fail
    refine (awake02 _).mono ?_
    rintro e w3 ⟨rfl, h3⟩
    go_wp2_with fail
    go_ret
    exact ⟨rfl, h3⟩
end Go.Proofs.Ytggnpbgkfplgbaa

/- The walk of the law SafeSums. -/
import Derived.Test.YtggnpbgkfplgbaaAwakeB
import Derived.Test.YtggnpbgkfplgbaaRefB
namespace Go.Proofs.Ytggnpbgkfplgbaa
open Go.RowKit

set_option maxHeartbeats 400000 in
theorem walkSafeSums (w : World) (A : Option Addr) (c : Nat) (zs : List Int) (hl : zs.length ≤ 9223372036854775807) (hI : Ints .i64 w A zs) (_hw : ∀ n ∈ zs, (Lit.int .i64 n).wf = true) :
    Calls Try.prog 3 #[.slice A zs.length c] w fun e w' => e = .returned (.bool true) ∧ Below w.heap.size w w' := by
  have HI := Lib.hid hI
  clear hI _hw
  by_cases h200 : 200 < zs.length
  · go_enter Try.func3, Try.ntmps3
    go_wp2_with fail
    refine (awake02 _).mono ?_
    rintro e w1 ⟨rfl, h1⟩
    go_wp2_with fail
    go_ret
    exact ⟨rfl, h1⟩
  · go_enter Try.func3, Try.ntmps3
    go_wp2_with fail
    refine (safe_add A c zs _ hl HI.out).mono ?_
    rintro e w1 ⟨rfl, h1⟩
    go_wp2_with fail
    refine (ref_add A c zs _ hl (HI.out.below h1 (Nat.le_refl _))).mono ?_
    rintro e w2 ⟨rfl, rfl⟩
    go_wp2_with fail
    refine (awake02 _).mono ?_
    rintro e w3 ⟨rfl, h3⟩
    go_wp2_with fail
    go_ret
    exact ⟨rfl, h1.trans (h3.mono h1.size)⟩
end Go.Proofs.Ytggnpbgkfplgbaa

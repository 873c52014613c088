/- Layer 2 (safe): maxima, differences, shares, and what the reference computes: contracts. -/
import Derived.Test.YtklngiikgnmdeaaDoorSafe
namespace Go.Proofs.YtklngiikgnmdeaaDoor
open Go.RowKit


def subS (a b : Int) : Int × Int := if Safe.ok a && Safe.ok b then (if b > a then (0, 17) else (a - b, 0)) else (0, 11)
def shareS (a b : Int) : Int × Int × Int := if Safe.ok a && Safe.ok b && b != 0 then (a / b, a % b, 0) else (0, 0, 11)



theorem ref_right (n : Int) (w : World) :
    Calls Tryd.prog 17 #[.int .i64 n] w fun e w' => e = .returned (.bool (Safe.ok n)) ∧ w = w' := by
  by_cases h1 : 0 ≤ n
  · by_cases h2 : n ≤ 1099511627776
    · go_enter Tryd.func17, Tryd.ntmps17
      go_wp2
      go_ret
      exact ⟨by simp [Safe.ok, h1, h2], rfl⟩
    · go_enter Tryd.func17, Tryd.ntmps17
      go_wp2
      go_ret
      exact ⟨by simp [Safe.ok, h1, h2], rfl⟩
  · go_enter Tryd.func17, Tryd.ntmps17
    go_wp2
    go_ret
    exact ⟨by simp [Safe.ok]; omega, rfl⟩

end Go.Proofs.YtklngiikgnmdeaaDoor

/- Layer 17 (code): two instructions held against each other. -/
import Derived.Test.YtklngiikgnmdeaaDoorCode
namespace Go.Proofs.YtklngiikgnmdeaaDoor
open Go.RowKit
theorem ins_stood : Tryd.prog.stoodInHeld 30 = false := by kernel_rfl
theorem ins_guard : Tryd.prog.eqGuardType Tryd.prog.depth 30 = false := by kernel_rfl
theorem run_neq_ins (a b c d : Int) (w : World) : (binOp .neq 30 (.agg #[.int .i64 a, .int .i64 b]) (.agg #[.int .i64 c, .int .i64 d])).run Tryd.prog w = .ok (.bool (!(a == c && b == d))) w := by
  have g1 := ins_stood
  have g2 := ins_guard
  cases h1 : (a == c) <;> cases h2 : (b == d)
  all_goals simp [go_sem, g1, h1, h2]
theorem run_eql_ins (a b c d : Int) (w : World) : (binOp .eql 30 (.agg #[.int .i64 a, .int .i64 b]) (.agg #[.int .i64 c, .int .i64 d])).run Tryd.prog w = .ok (.bool (a == c && b == d)) w := by
  have g1 := ins_stood
  have g2 := ins_guard
  cases h1 : (a == c) <;> cases h2 : (b == d)
  all_goals simp [go_sem, g1, h1, h2]
end Go.Proofs.YtklngiikgnmdeaaDoor

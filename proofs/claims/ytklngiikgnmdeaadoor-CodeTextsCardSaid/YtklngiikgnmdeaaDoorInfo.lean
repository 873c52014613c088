/- Closed facts on types: their zero values, sizes and bytes. -/
import Derived.Test.YtklngiikgnmdeaaDoorChecked
import Derived.KernelRfl
namespace Go.Proofs.YtklngiikgnmdeaaDoor
theorem byte_info : (Tryd.prog.info? 5).map (fun i => (i.zero, i.size, i.bytes)) = some (some (.int .u8 0), 1, 1) := by kernel_rfl
theorem int_info : (Tryd.prog.info? 3).map (fun i => (i.zero, i.size, i.bytes)) = some (some (.int .i64 0), 1, 8) := by kernel_rfl
theorem instr_info : (Tryd.prog.info? 30).map (fun i => (i.zero, i.size, i.bytes)) = some (some (.agg #[.int .i64 0, .int .i64 0]), 2, 16) := by kernel_rfl
end Go.Proofs.YtklngiikgnmdeaaDoor

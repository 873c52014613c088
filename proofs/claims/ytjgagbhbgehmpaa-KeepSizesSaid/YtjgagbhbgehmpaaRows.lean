/-
  No cell of these rows narrows 'for every input' (looked for: loops, veiled, ifaces, maps, wideKeys, modest, calm, conditions, laid).
  DERIVED. THE GIVEN ROWS OF THIS SEAT. 4 by the template 'for every input the law returns true; each argument reads behind the call as it read before'; 0 by the template 'total and deterministic' (their statements: YtjgagbhbgehmpaaTotals.lean).
  GIVEN WITH THE SEED: the statements are not yours to turn. If you find one false, say at which input.
  Laid BY PROGRAM, IN A SANDBOX (cutbox-rows.mjs): the forced cells as the released guide's own fill.sh prints them over the translation 08d81fda03107f50… (all of the seat's roots in one cut). By AI agents, Wed Nov 11 2026. No macro, syntax, notation, axiom, sorry.
-/
import Derived.Test.YtjgagbhbgehmpaaChecked
import GoSem.Claim
import GoSem.ClaimJoined
import GoSem.ClaimMapViews
import Derived.JoinedTies
import Derived.KernelRfl
namespace Go.Proofs.Ytjgagbhbgehmpaa
/- THE CELL 'sum', in the pinned program and in every row, IS THE sha256 OF THE DUMP (.gsa) THAT YtjgagbhbgehmpaaProg.lean LOADS. Nothing in Lean hashes anything: it is a label: what it is worth is what the hold of that sum in a sandbox is worth. -/
noncomputable def Try.pinned : Pinned := { name := "ytjgagbhbgehmpaa", sum := "08d81fda03107f5084f0882c30cf8830608f640dfd1a55763f2e580afb7565cb", checked := Try.checked }
namespace Rows
def none {H : Type} : Left H := { results := [], args := [] }

/-- 'athanorlaw27.KeepEncodes': WHATEVER THE INPUT: true; the input reads as it did. -/
def keepEncodesSpec : ChangeSpec := { name := "keepEncodes", fn := fun _ => fun
  | [d] => { results := [.lit (.bool true)], args := [d] }
  | _ => none }
def keepEncodesRow : OpenClaim := { program := "ytjgagbhbgehmpaa", sum := "08d81fda03107f5084f0882c30cf8830608f640dfd1a55763f2e580afb7565cb", func := "athanor/athanorlaw27.KeepEncodes", spec := "keepEncodes", unfollowed := true, recurses := true, apart := false }
def KeepEncodesSaid : Prop := keepEncodesRow.holds Try.pinned (OpenSpec.ofChange keepEncodesSpec)

/-- ITS FALSE NEIGHBOUR: 'it returns false'. Refute it at one input. -/
def keepEncodesWrong : ChangeSpec := { name := "keepEncodes", fn := fun _ => fun
  | [d] => { results := [.lit (.bool false)], args := [d] }
  | _ => none }
def KeepEncodesWrongFalsely : Prop := keepEncodesRow.holds Try.pinned (OpenSpec.ofChange keepEncodesWrong)

/-- 'athanorlaw27.KeepDecodes': WHATEVER THE INPUT: true; the input reads as it did. -/
def keepDecodesSpec : ChangeSpec := { name := "keepDecodes", fn := fun _ => fun
  | [d] => { results := [.lit (.bool true)], args := [d] }
  | _ => none }
def keepDecodesRow : OpenClaim := { program := "ytjgagbhbgehmpaa", sum := "08d81fda03107f5084f0882c30cf8830608f640dfd1a55763f2e580afb7565cb", func := "athanor/athanorlaw27.KeepDecodes", spec := "keepDecodes", unfollowed := true, recurses := true, apart := false }
def KeepDecodesSaid : Prop := keepDecodesRow.holds Try.pinned (OpenSpec.ofChange keepDecodesSpec)

/-- ITS FALSE NEIGHBOUR: 'it returns false'. Refute it at one input. -/
def keepDecodesWrong : ChangeSpec := { name := "keepDecodes", fn := fun _ => fun
  | [d] => { results := [.lit (.bool false)], args := [d] }
  | _ => none }
def KeepDecodesWrongFalsely : Prop := keepDecodesRow.holds Try.pinned (OpenSpec.ofChange keepDecodesWrong)

/-- 'athanorlaw27.KeepCuts': WHATEVER THE INPUT: true; the input reads as it did. -/
def keepCutsSpec : ChangeSpec := { name := "keepCuts", fn := fun _ => fun
  | [d1, d2, d3] => { results := [.lit (.bool true)], args := [d1, d2, d3] }
  | _ => none }
def keepCutsRow : OpenClaim := { program := "ytjgagbhbgehmpaa", sum := "08d81fda03107f5084f0882c30cf8830608f640dfd1a55763f2e580afb7565cb", func := "athanor/athanorlaw27.KeepCuts", spec := "keepCuts", unfollowed := true, recurses := true, apart := false }
def KeepCutsSaid : Prop := keepCutsRow.holds Try.pinned (OpenSpec.ofChange keepCutsSpec)

/-- ITS FALSE NEIGHBOUR: 'it returns false'. Refute it at one input. -/
def keepCutsWrong : ChangeSpec := { name := "keepCuts", fn := fun _ => fun
  | [d1, d2, d3] => { results := [.lit (.bool false)], args := [d1, d2, d3] }
  | _ => none }
def KeepCutsWrongFalsely : Prop := keepCutsRow.holds Try.pinned (OpenSpec.ofChange keepCutsWrong)

/-- 'athanorlaw27.KeepSizes': WHATEVER THE INPUT: true; the input reads as it did. -/
def keepSizesSpec : ChangeSpec := { name := "keepSizes", fn := fun _ => fun
  | [d] => { results := [.lit (.bool true)], args := [d] }
  | _ => none }
def keepSizesRow : OpenClaim := { program := "ytjgagbhbgehmpaa", sum := "08d81fda03107f5084f0882c30cf8830608f640dfd1a55763f2e580afb7565cb", func := "athanor/athanorlaw27.KeepSizes", spec := "keepSizes", unfollowed := true, recurses := true, apart := false }
def KeepSizesSaid : Prop := keepSizesRow.holds Try.pinned (OpenSpec.ofChange keepSizesSpec)

/-- ITS FALSE NEIGHBOUR: 'it returns false'. Refute it at one input. -/
def keepSizesWrong : ChangeSpec := { name := "keepSizes", fn := fun _ => fun
  | [d] => { results := [.lit (.bool false)], args := [d] }
  | _ => none }
def KeepSizesWrongFalsely : Prop := keepSizesRow.holds Try.pinned (OpenSpec.ofChange keepSizesWrong)

/- THE SECOND FORM. 'bulk': how many values and letters a reading holds, each counted each time it is reached (what is shared counts as often as it is met; a slice's spare places count too). A statement '..UptoSaid' is the law's where the arguments, and the package variables that the reading takes, are together of bulk at most 1048576: NARROWER than '..Said'. Prove '..Said' where nothing that the law and all that it calls make is longer than what came in: it says more and counts as full. Else prove '..UptoSaid'. A law counts once. -/
mutual
def uptoBulk {H : Type} : DataW H → Nat
  | .lit (.string bytes) => bytes.length + 1
  | .lit _ => 1
  | .nil => 1
  | .ptr d => uptoBulk d + 1
  | .slice elems spare => uptoBulkAll elems + uptoBulkAll spare + 1
  | .agg parts => uptoBulkAll parts + 1
  | .iface _ d => uptoBulk d + 1
  | .map entries => uptoBulkEntries entries + 1
  | .held _ => 1
def uptoBulkAll {H : Type} : List (DataW H) → Nat
  | [] => 0
  | d :: r => uptoBulk d + uptoBulkAll r
def uptoBulkEntries {H : Type} : List (Lit × DataW H) → Nat
  | [] => 0
  | x :: r => uptoBulkEntry x + uptoBulkEntries r
def uptoBulkEntry {H : Type} : Lit × DataW H → Nat
  | (.string bytes, d) => bytes.length + uptoBulk d + 1
  | (_, d) => uptoBulk d + 1
 end
def uptoSmall : (H : Type) → List (DataW H) → Bool := fun _ ds => decide (uptoBulkAll ds ≤ 1048576)
def OpenSpec.upto (s : _root_.Go.ChangeSpec) : _root_.Go.OpenSpec := { _root_.Go.OpenSpec.ofChange s with cond := some uptoSmall }

/-- 'athanorlaw27.KeepEncodes', WHERE WHAT IT READS IS OF BULK AT MOST 1048576: true; the input reads as it did. -/
def keepEncodesUptoRow : OpenClaim := { program := "ytjgagbhbgehmpaa", sum := "08d81fda03107f5084f0882c30cf8830608f640dfd1a55763f2e580afb7565cb", func := "athanor/athanorlaw27.KeepEncodes", spec := "keepEncodes", unfollowed := true, recurses := true, apart := false, narrowed := true }
def KeepEncodesUptoSaid : Prop := keepEncodesUptoRow.holds Try.pinned (OpenSpec.upto keepEncodesSpec)

/-- 'athanorlaw27.KeepDecodes', WHERE WHAT IT READS IS OF BULK AT MOST 1048576: true; the input reads as it did. -/
def keepDecodesUptoRow : OpenClaim := { program := "ytjgagbhbgehmpaa", sum := "08d81fda03107f5084f0882c30cf8830608f640dfd1a55763f2e580afb7565cb", func := "athanor/athanorlaw27.KeepDecodes", spec := "keepDecodes", unfollowed := true, recurses := true, apart := false, narrowed := true }
def KeepDecodesUptoSaid : Prop := keepDecodesUptoRow.holds Try.pinned (OpenSpec.upto keepDecodesSpec)

/-- 'athanorlaw27.KeepCuts', WHERE WHAT IT READS IS OF BULK AT MOST 1048576: true; the input reads as it did. -/
def keepCutsUptoRow : OpenClaim := { program := "ytjgagbhbgehmpaa", sum := "08d81fda03107f5084f0882c30cf8830608f640dfd1a55763f2e580afb7565cb", func := "athanor/athanorlaw27.KeepCuts", spec := "keepCuts", unfollowed := true, recurses := true, apart := false, narrowed := true }
def KeepCutsUptoSaid : Prop := keepCutsUptoRow.holds Try.pinned (OpenSpec.upto keepCutsSpec)

/-- 'athanorlaw27.KeepSizes', WHERE WHAT IT READS IS OF BULK AT MOST 1048576: true; the input reads as it did. -/
def keepSizesUptoRow : OpenClaim := { program := "ytjgagbhbgehmpaa", sum := "08d81fda03107f5084f0882c30cf8830608f640dfd1a55763f2e580afb7565cb", func := "athanor/athanorlaw27.KeepSizes", spec := "keepSizes", unfollowed := true, recurses := true, apart := false, narrowed := true }
def KeepSizesUptoSaid : Prop := keepSizesUptoRow.holds Try.pinned (OpenSpec.upto keepSizesSpec)

end Rows
end Go.Proofs.Ytjgagbhbgehmpaa

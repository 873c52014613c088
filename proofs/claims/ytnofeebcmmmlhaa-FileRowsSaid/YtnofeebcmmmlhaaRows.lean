/-
  No cell of these rows narrows 'for every input' (looked for: loops, veiled, ifaces, maps, wideKeys, modest, calm, conditions, laid).
  DERIVED. THE GIVEN ROWS OF THIS SEAT. 4 by the template 'for every input the law returns true; each argument reads behind the call as it read before'; 0 by the template 'total and deterministic' (their statements: YtnofeebcmmmlhaaTotals.lean).
  GIVEN WITH THE SEED: the statements are not yours to turn. If you find one false, say at which input.
  Laid BY PROGRAM, IN A SANDBOX (cutbox-rows.mjs): the forced cells as the released guide's own fill.sh prints them over the translation 7a0da76f31c58cf0… (all of the seat's roots in one cut). By AI agents, Wed Nov 11 2026. No macro, syntax, notation, axiom, sorry.
-/
import Derived.Test.YtnofeebcmmmlhaaChecked
import GoSem.Claim
import GoSem.ClaimJoined
import GoSem.ClaimMapViews
import Derived.JoinedTies
import Derived.KernelRfl
namespace Go.Proofs.Ytnofeebcmmmlhaa
/- THE CELL 'sum', in the pinned program and in every row, IS THE sha256 OF THE DUMP (.gsa) THAT YtnofeebcmmmlhaaProg.lean LOADS. Nothing in Lean hashes anything: it is a label: what it is worth is what the hold of that sum in a sandbox is worth. -/
noncomputable def Try.pinned : Pinned := { name := "ytnofeebcmmmlhaa", sum := "7a0da76f31c58cf0a97efb951fd210c07538d0c7f5082c1ed4e03e9798999c40", checked := Try.checked }
namespace Rows
def none {H : Type} : Left H := { results := [], args := [] }

/-- 'athanorlaw12.FileDecodes': WHATEVER THE INPUT: true; the input reads as it did. -/
def fileDecodesSpec : ChangeSpec := { name := "fileDecodes", fn := fun _ => fun
  | [d] => { results := [.lit (.bool true)], args := [d] }
  | _ => none }
def fileDecodesRow : OpenClaim := { program := "ytnofeebcmmmlhaa", sum := "7a0da76f31c58cf0a97efb951fd210c07538d0c7f5082c1ed4e03e9798999c40", func := "athanor/athanorlaw12.FileDecodes", spec := "fileDecodes", inPlace := ["slices.overlaps[int]"], unfollowed := true, recurses := true, apart := false }
def FileDecodesSaid : Prop := fileDecodesRow.holds Try.pinned (OpenSpec.ofChange fileDecodesSpec)

/-- ITS FALSE NEIGHBOUR: 'it returns false'. Refute it at one input. -/
def fileDecodesWrong : ChangeSpec := { name := "fileDecodes", fn := fun _ => fun
  | [d] => { results := [.lit (.bool false)], args := [d] }
  | _ => none }
def FileDecodesWrongFalsely : Prop := fileDecodesRow.holds Try.pinned (OpenSpec.ofChange fileDecodesWrong)

/-- 'athanorlaw12.FileCuts': WHATEVER THE INPUT: true; the input reads as it did. -/
def fileCutsSpec : ChangeSpec := { name := "fileCuts", fn := fun _ => fun
  | [d1, d2, d3] => { results := [.lit (.bool true)], args := [d1, d2, d3] }
  | _ => none }
def fileCutsRow : OpenClaim := { program := "ytnofeebcmmmlhaa", sum := "7a0da76f31c58cf0a97efb951fd210c07538d0c7f5082c1ed4e03e9798999c40", func := "athanor/athanorlaw12.FileCuts", spec := "fileCuts", inPlace := ["slices.overlaps[int]"], unfollowed := true, recurses := true, apart := false }
def FileCutsSaid : Prop := fileCutsRow.holds Try.pinned (OpenSpec.ofChange fileCutsSpec)

/-- ITS FALSE NEIGHBOUR: 'it returns false'. Refute it at one input. -/
def fileCutsWrong : ChangeSpec := { name := "fileCuts", fn := fun _ => fun
  | [d1, d2, d3] => { results := [.lit (.bool false)], args := [d1, d2, d3] }
  | _ => none }
def FileCutsWrongFalsely : Prop := fileCutsRow.holds Try.pinned (OpenSpec.ofChange fileCutsWrong)

/-- 'athanorlaw12.FileRows': WHATEVER THE INPUT: true; the input reads as it did. -/
def fileRowsSpec : ChangeSpec := { name := "fileRows", fn := fun _ => fun
  | [d] => { results := [.lit (.bool true)], args := [d] }
  | _ => none }
def fileRowsRow : OpenClaim := { program := "ytnofeebcmmmlhaa", sum := "7a0da76f31c58cf0a97efb951fd210c07538d0c7f5082c1ed4e03e9798999c40", func := "athanor/athanorlaw12.FileRows", spec := "fileRows", inPlace := ["slices.overlaps[int]"], unfollowed := true, recurses := true, apart := false }
def FileRowsSaid : Prop := fileRowsRow.holds Try.pinned (OpenSpec.ofChange fileRowsSpec)

/-- ITS FALSE NEIGHBOUR: 'it returns false'. Refute it at one input. -/
def fileRowsWrong : ChangeSpec := { name := "fileRows", fn := fun _ => fun
  | [d] => { results := [.lit (.bool false)], args := [d] }
  | _ => none }
def FileRowsWrongFalsely : Prop := fileRowsRow.holds Try.pinned (OpenSpec.ofChange fileRowsWrong)

/-- 'athanorlaw12.FileSums': WHATEVER THE INPUT: true; the input reads as it did. -/
def fileSumsSpec : ChangeSpec := { name := "fileSums", fn := fun _ => fun
  | [d1, d2, d3] => { results := [.lit (.bool true)], args := [d1, d2, d3] }
  | _ => none }
def fileSumsRow : OpenClaim := { program := "ytnofeebcmmmlhaa", sum := "7a0da76f31c58cf0a97efb951fd210c07538d0c7f5082c1ed4e03e9798999c40", func := "athanor/athanorlaw12.FileSums", spec := "fileSums", inPlace := ["slices.overlaps[int]"], unfollowed := true, recurses := true, apart := false }
def FileSumsSaid : Prop := fileSumsRow.holds Try.pinned (OpenSpec.ofChange fileSumsSpec)

/-- ITS FALSE NEIGHBOUR: 'it returns false'. Refute it at one input. -/
def fileSumsWrong : ChangeSpec := { name := "fileSums", fn := fun _ => fun
  | [d1, d2, d3] => { results := [.lit (.bool false)], args := [d1, d2, d3] }
  | _ => none }
def FileSumsWrongFalsely : Prop := fileSumsRow.holds Try.pinned (OpenSpec.ofChange fileSumsWrong)

/- THE SECOND FORM. 'bulk': how many values and letters a reading holds, each counted each time it is reached (what is shared counts as often as it is met; a slice's spare places count too). A statement '..UptoSaid' is the law's where the arguments, and the package variables that the reading takes, are together of bulk at most 1048576: NARROWER than '..Said'. Prove '..Said' where nothing that the law and all that it calls make is longer than what came in: it says more and counts as full. Else prove '..UptoSaid'. A law counts once. -/
mutual
def uptoBulk {H : Type} : DataW H → Nat
  | .lit (.string bytes) => bytes.length + 1
  | .lit _ => 1
  | .nil => 1
  | .ptr d => uptoBulk d + 1
  | .slice elems spare => uptoBulkAll elems + uptoBulkAll spare + 1
  | .agg parts => uptoBulkAll parts + 1
  | .iface _ d => uptoBulk d + 1
  | .map entries => uptoBulkEntries entries + 1
  | .held _ => 1
def uptoBulkAll {H : Type} : List (DataW H) → Nat
  | [] => 0
  | d :: r => uptoBulk d + uptoBulkAll r
def uptoBulkEntries {H : Type} : List (Lit × DataW H) → Nat
  | [] => 0
  | x :: r => uptoBulkEntry x + uptoBulkEntries r
def uptoBulkEntry {H : Type} : Lit × DataW H → Nat
  | (.string bytes, d) => bytes.length + uptoBulk d + 1
  | (_, d) => uptoBulk d + 1
 end
def uptoSmall : (H : Type) → List (DataW H) → Bool := fun _ ds => decide (uptoBulkAll ds ≤ 1048576)
def OpenSpec.upto (s : _root_.Go.ChangeSpec) : _root_.Go.OpenSpec := { _root_.Go.OpenSpec.ofChange s with cond := some uptoSmall }

/-- 'athanorlaw12.FileDecodes', WHERE WHAT IT READS IS OF BULK AT MOST 1048576: true; the input reads as it did. -/
def fileDecodesUptoRow : OpenClaim := { program := "ytnofeebcmmmlhaa", sum := "7a0da76f31c58cf0a97efb951fd210c07538d0c7f5082c1ed4e03e9798999c40", func := "athanor/athanorlaw12.FileDecodes", spec := "fileDecodes", inPlace := ["slices.overlaps[int]"], unfollowed := true, recurses := true, apart := false, narrowed := true }
def FileDecodesUptoSaid : Prop := fileDecodesUptoRow.holds Try.pinned (OpenSpec.upto fileDecodesSpec)

/-- 'athanorlaw12.FileCuts', WHERE WHAT IT READS IS OF BULK AT MOST 1048576: true; the input reads as it did. -/
def fileCutsUptoRow : OpenClaim := { program := "ytnofeebcmmmlhaa", sum := "7a0da76f31c58cf0a97efb951fd210c07538d0c7f5082c1ed4e03e9798999c40", func := "athanor/athanorlaw12.FileCuts", spec := "fileCuts", inPlace := ["slices.overlaps[int]"], unfollowed := true, recurses := true, apart := false, narrowed := true }
def FileCutsUptoSaid : Prop := fileCutsUptoRow.holds Try.pinned (OpenSpec.upto fileCutsSpec)

/-- 'athanorlaw12.FileRows', WHERE WHAT IT READS IS OF BULK AT MOST 1048576: true; the input reads as it did. -/
def fileRowsUptoRow : OpenClaim := { program := "ytnofeebcmmmlhaa", sum := "7a0da76f31c58cf0a97efb951fd210c07538d0c7f5082c1ed4e03e9798999c40", func := "athanor/athanorlaw12.FileRows", spec := "fileRows", inPlace := ["slices.overlaps[int]"], unfollowed := true, recurses := true, apart := false, narrowed := true }
def FileRowsUptoSaid : Prop := fileRowsUptoRow.holds Try.pinned (OpenSpec.upto fileRowsSpec)

/-- 'athanorlaw12.FileSums', WHERE WHAT IT READS IS OF BULK AT MOST 1048576: true; the input reads as it did. -/
def fileSumsUptoRow : OpenClaim := { program := "ytnofeebcmmmlhaa", sum := "7a0da76f31c58cf0a97efb951fd210c07538d0c7f5082c1ed4e03e9798999c40", func := "athanor/athanorlaw12.FileSums", spec := "fileSums", inPlace := ["slices.overlaps[int]"], unfollowed := true, recurses := true, apart := false, narrowed := true }
def FileSumsUptoSaid : Prop := fileSumsUptoRow.holds Try.pinned (OpenSpec.upto fileSumsSpec)

end Rows
end Go.Proofs.Ytnofeebcmmmlhaa

/-
  No cell of these rows narrows 'for every input' (looked for: loops, veiled, ifaces, maps, wideKeys, modest, calm, conditions, laid).
  DERIVED. THE GIVEN ROWS OF THIS SEAT. 5 by the template 'for every input the law returns true; each argument reads behind the call as it read before'; 0 by the template 'total and deterministic' (their statements: YtddkenhemnkkeaaGreatTotals.lean).
  GIVEN WITH THE SEED: the statements are not yours to turn. If you find one false, say at which input.
  Laid BY PROGRAM, IN A SANDBOX (cutbox-rows.mjs): the forced cells as the released guide's own fill.sh prints them over the translation f0ae26d4e7d1f547… (all of the seat's roots in one cut). By AI agents, Wed Nov 11 2026. No macro, syntax, notation, axiom, sorry.
-/
import Derived.Test.YtddkenhemnkkeaaGreatChecked
import GoSem.Claim
import GoSem.ClaimJoined
import GoSem.ClaimMapViews
import Derived.JoinedTies
import Derived.KernelRfl
namespace Go.Proofs.YtddkenhemnkkeaaGreat
/- THE CELL 'sum', in the pinned program and in every row, IS THE sha256 OF THE DUMP (.gsa) THAT YtddkenhemnkkeaaGreatProg.lean LOADS. Nothing in Lean hashes anything: it is a label: what it is worth is what the hold of that sum in a sandbox is worth. -/
noncomputable def Tryz.pinned : Pinned := { name := "ytddkenhemnkkeaagreat", sum := "f0ae26d4e7d1f547b453576179c1ece9c2384afbdfe852074d2831cbd792b779", checked := Tryz.checked }
namespace Rows
def none {H : Type} : Left H := { results := [], args := [] }

/-- 'athanorlaw22.GreedyKeeps': WHATEVER THE INPUT: true; the input reads as it did. -/
def greedyKeepsSpec : ChangeSpec := { name := "greedyKeeps", fn := fun _ => fun
  | [d1, d2] => { results := [.lit (.bool true)], args := [d1, d2] }
  | _ => none }
def greedyKeepsRow : OpenClaim := { program := "ytddkenhemnkkeaagreat", sum := "f0ae26d4e7d1f547b453576179c1ece9c2384afbdfe852074d2831cbd792b779", func := "athanor/athanorlaw22.GreedyKeeps", spec := "greedyKeeps", inPlace := ["slices.overlaps[int]"], unfollowed := true, recurses := true, plainKeys := false, apart := false }
def GreedyKeepsSaid : Prop := greedyKeepsRow.holds Tryz.pinned (OpenSpec.ofChange greedyKeepsSpec)

/-- ITS FALSE NEIGHBOUR: 'it returns false'. Refute it at one input. -/
def greedyKeepsWrong : ChangeSpec := { name := "greedyKeeps", fn := fun _ => fun
  | [d1, d2] => { results := [.lit (.bool false)], args := [d1, d2] }
  | _ => none }
def GreedyKeepsWrongFalsely : Prop := greedyKeepsRow.holds Tryz.pinned (OpenSpec.ofChange greedyKeepsWrong)

/-- 'athanorlaw22.GreedyLowest': WHATEVER THE INPUT: true; the input reads as it did. -/
def greedyLowestSpec : ChangeSpec := { name := "greedyLowest", fn := fun _ => fun
  | [d1, d2] => { results := [.lit (.bool true)], args := [d1, d2] }
  | _ => none }
def greedyLowestRow : OpenClaim := { program := "ytddkenhemnkkeaagreat", sum := "f0ae26d4e7d1f547b453576179c1ece9c2384afbdfe852074d2831cbd792b779", func := "athanor/athanorlaw22.GreedyLowest", spec := "greedyLowest", inPlace := ["slices.overlaps[int]"], unfollowed := true, recurses := true, plainKeys := false, apart := false }
def GreedyLowestSaid : Prop := greedyLowestRow.holds Tryz.pinned (OpenSpec.ofChange greedyLowestSpec)

/-- ITS FALSE NEIGHBOUR: 'it returns false'. Refute it at one input. -/
def greedyLowestWrong : ChangeSpec := { name := "greedyLowest", fn := fun _ => fun
  | [d1, d2] => { results := [.lit (.bool false)], args := [d1, d2] }
  | _ => none }
def GreedyLowestWrongFalsely : Prop := greedyLowestRow.holds Tryz.pinned (OpenSpec.ofChange greedyLowestWrong)

/-- 'athanorlaw22.GreedyMore': WHATEVER THE INPUT: true; the input reads as it did. -/
def greedyMoreSpec : ChangeSpec := { name := "greedyMore", fn := fun _ => fun
  | [d1, d2, d3] => { results := [.lit (.bool true)], args := [d1, d2, d3] }
  | _ => none }
def greedyMoreRow : OpenClaim := { program := "ytddkenhemnkkeaagreat", sum := "f0ae26d4e7d1f547b453576179c1ece9c2384afbdfe852074d2831cbd792b779", func := "athanor/athanorlaw22.GreedyMore", spec := "greedyMore", inPlace := ["slices.overlaps[int]"], unfollowed := true, recurses := true, plainKeys := false, apart := false }
def GreedyMoreSaid : Prop := greedyMoreRow.holds Tryz.pinned (OpenSpec.ofChange greedyMoreSpec)

/-- ITS FALSE NEIGHBOUR: 'it returns false'. Refute it at one input. -/
def greedyMoreWrong : ChangeSpec := { name := "greedyMore", fn := fun _ => fun
  | [d1, d2, d3] => { results := [.lit (.bool false)], args := [d1, d2, d3] }
  | _ => none }
def GreedyMoreWrongFalsely : Prop := greedyMoreRow.holds Tryz.pinned (OpenSpec.ofChange greedyMoreWrong)

/-- 'athanorlaw22.GreedyBest': WHATEVER THE INPUT: true; the input reads as it did. -/
def greedyBestSpec : ChangeSpec := { name := "greedyBest", fn := fun _ => fun
  | [d1, d2] => { results := [.lit (.bool true)], args := [d1, d2] }
  | _ => none }
def greedyBestRow : OpenClaim := { program := "ytddkenhemnkkeaagreat", sum := "f0ae26d4e7d1f547b453576179c1ece9c2384afbdfe852074d2831cbd792b779", func := "athanor/athanorlaw22.GreedyBest", spec := "greedyBest", inPlace := ["slices.overlaps[int]"], unfollowed := true, recurses := true, plainKeys := false, apart := false }
def GreedyBestSaid : Prop := greedyBestRow.holds Tryz.pinned (OpenSpec.ofChange greedyBestSpec)

/-- ITS FALSE NEIGHBOUR: 'it returns false'. Refute it at one input. -/
def greedyBestWrong : ChangeSpec := { name := "greedyBest", fn := fun _ => fun
  | [d1, d2] => { results := [.lit (.bool false)], args := [d1, d2] }
  | _ => none }
def GreedyBestWrongFalsely : Prop := greedyBestRow.holds Tryz.pinned (OpenSpec.ofChange greedyBestWrong)

/-- 'athanorlaw22.GreedyMakes': WHATEVER THE INPUT: true; the input reads as it did. -/
def greedyMakesSpec : ChangeSpec := { name := "greedyMakes", fn := fun _ => fun
  | [d1, d2, d3] => { results := [.lit (.bool true)], args := [d1, d2, d3] }
  | _ => none }
def greedyMakesRow : OpenClaim := { program := "ytddkenhemnkkeaagreat", sum := "f0ae26d4e7d1f547b453576179c1ece9c2384afbdfe852074d2831cbd792b779", func := "athanor/athanorlaw22.GreedyMakes", spec := "greedyMakes", inPlace := ["slices.overlaps[int]"], unfollowed := true, recurses := true, plainKeys := false, apart := false }
def GreedyMakesSaid : Prop := greedyMakesRow.holds Tryz.pinned (OpenSpec.ofChange greedyMakesSpec)

/-- ITS FALSE NEIGHBOUR: 'it returns false'. Refute it at one input. -/
def greedyMakesWrong : ChangeSpec := { name := "greedyMakes", fn := fun _ => fun
  | [d1, d2, d3] => { results := [.lit (.bool false)], args := [d1, d2, d3] }
  | _ => none }
def GreedyMakesWrongFalsely : Prop := greedyMakesRow.holds Tryz.pinned (OpenSpec.ofChange greedyMakesWrong)

/- THE SECOND FORM. 'bulk': how many values and letters a reading holds, each counted each time it is reached (what is shared counts as often as it is met; a slice's spare places count too). A statement '..UptoSaid' is the law's where the arguments, and the package variables that the reading takes, are together of bulk at most 1048576: NARROWER than '..Said'. Prove '..Said' where nothing that the law and all that it calls make is longer than what came in: it says more and counts as full. Else prove '..UptoSaid'. A law counts once. -/
mutual
def uptoBulk {H : Type} : DataW H → Nat
  | .lit (.string bytes) => bytes.length + 1
  | .lit _ => 1
  | .nil => 1
  | .ptr d => uptoBulk d + 1
  | .slice elems spare => uptoBulkAll elems + uptoBulkAll spare + 1
  | .agg parts => uptoBulkAll parts + 1
  | .iface _ d => uptoBulk d + 1
  | .map entries => uptoBulkEntries entries + 1
  | .held _ => 1
def uptoBulkAll {H : Type} : List (DataW H) → Nat
  | [] => 0
  | d :: r => uptoBulk d + uptoBulkAll r
def uptoBulkEntries {H : Type} : List (Lit × DataW H) → Nat
  | [] => 0
  | x :: r => uptoBulkEntry x + uptoBulkEntries r
def uptoBulkEntry {H : Type} : Lit × DataW H → Nat
  | (.string bytes, d) => bytes.length + uptoBulk d + 1
  | (_, d) => uptoBulk d + 1
 end
def uptoSmall : (H : Type) → List (DataW H) → Bool := fun _ ds => decide (uptoBulkAll ds ≤ 1048576)
def OpenSpec.upto (s : _root_.Go.ChangeSpec) : _root_.Go.OpenSpec := { _root_.Go.OpenSpec.ofChange s with cond := some uptoSmall }

/-- 'athanorlaw22.GreedyKeeps', WHERE WHAT IT READS IS OF BULK AT MOST 1048576: true; the input reads as it did. -/
def greedyKeepsUptoRow : OpenClaim := { program := "ytddkenhemnkkeaagreat", sum := "f0ae26d4e7d1f547b453576179c1ece9c2384afbdfe852074d2831cbd792b779", func := "athanor/athanorlaw22.GreedyKeeps", spec := "greedyKeeps", inPlace := ["slices.overlaps[int]"], unfollowed := true, recurses := true, plainKeys := false, apart := false, narrowed := true }
def GreedyKeepsUptoSaid : Prop := greedyKeepsUptoRow.holds Tryz.pinned (OpenSpec.upto greedyKeepsSpec)

/-- 'athanorlaw22.GreedyLowest', WHERE WHAT IT READS IS OF BULK AT MOST 1048576: true; the input reads as it did. -/
def greedyLowestUptoRow : OpenClaim := { program := "ytddkenhemnkkeaagreat", sum := "f0ae26d4e7d1f547b453576179c1ece9c2384afbdfe852074d2831cbd792b779", func := "athanor/athanorlaw22.GreedyLowest", spec := "greedyLowest", inPlace := ["slices.overlaps[int]"], unfollowed := true, recurses := true, plainKeys := false, apart := false, narrowed := true }
def GreedyLowestUptoSaid : Prop := greedyLowestUptoRow.holds Tryz.pinned (OpenSpec.upto greedyLowestSpec)

/-- 'athanorlaw22.GreedyMore', WHERE WHAT IT READS IS OF BULK AT MOST 1048576: true; the input reads as it did. -/
def greedyMoreUptoRow : OpenClaim := { program := "ytddkenhemnkkeaagreat", sum := "f0ae26d4e7d1f547b453576179c1ece9c2384afbdfe852074d2831cbd792b779", func := "athanor/athanorlaw22.GreedyMore", spec := "greedyMore", inPlace := ["slices.overlaps[int]"], unfollowed := true, recurses := true, plainKeys := false, apart := false, narrowed := true }
def GreedyMoreUptoSaid : Prop := greedyMoreUptoRow.holds Tryz.pinned (OpenSpec.upto greedyMoreSpec)

/-- 'athanorlaw22.GreedyBest', WHERE WHAT IT READS IS OF BULK AT MOST 1048576: true; the input reads as it did. -/
def greedyBestUptoRow : OpenClaim := { program := "ytddkenhemnkkeaagreat", sum := "f0ae26d4e7d1f547b453576179c1ece9c2384afbdfe852074d2831cbd792b779", func := "athanor/athanorlaw22.GreedyBest", spec := "greedyBest", inPlace := ["slices.overlaps[int]"], unfollowed := true, recurses := true, plainKeys := false, apart := false, narrowed := true }
def GreedyBestUptoSaid : Prop := greedyBestUptoRow.holds Tryz.pinned (OpenSpec.upto greedyBestSpec)

/-- 'athanorlaw22.GreedyMakes', WHERE WHAT IT READS IS OF BULK AT MOST 1048576: true; the input reads as it did. -/
def greedyMakesUptoRow : OpenClaim := { program := "ytddkenhemnkkeaagreat", sum := "f0ae26d4e7d1f547b453576179c1ece9c2384afbdfe852074d2831cbd792b779", func := "athanor/athanorlaw22.GreedyMakes", spec := "greedyMakes", inPlace := ["slices.overlaps[int]"], unfollowed := true, recurses := true, plainKeys := false, apart := false, narrowed := true }
def GreedyMakesUptoSaid : Prop := greedyMakesUptoRow.holds Tryz.pinned (OpenSpec.upto greedyMakesSpec)

end Rows
end Go.Proofs.YtddkenhemnkkeaaGreat

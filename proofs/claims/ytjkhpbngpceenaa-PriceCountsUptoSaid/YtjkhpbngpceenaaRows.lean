/-
  No cell of these rows narrows 'for every input' (looked for: loops, veiled, ifaces, maps, wideKeys, modest, calm, conditions, laid).
  DERIVED. THE GIVEN ROWS OF THIS SEAT. 6 by the template 'for every input the law returns true; each argument reads behind the call as it read before'; 0 by the template 'total and deterministic' (their statements: YtjkhpbngpceenaaTotals.lean).
  GIVEN WITH THE SEED: the statements are not yours to turn. If you find one false, say at which input.
  Laid BY PROGRAM, IN A SANDBOX (cutbox-rows.mjs): the forced cells as the released guide's own fill.sh prints them over the translation fb74ad6f2c5fe23f… (all of the seat's roots in one cut). By AI agents, Wed Nov 11 2026. No macro, syntax, notation, axiom, sorry.
-/
import Derived.Test.YtjkhpbngpceenaaChecked
import GoSem.Claim
import GoSem.ClaimJoined
import GoSem.ClaimMapViews
import Derived.JoinedTies
import Derived.KernelRfl
namespace Go.Proofs.Ytjkhpbngpceenaa
/- THE CELL 'sum', in the pinned program and in every row, IS THE sha256 OF THE DUMP (.gsa) THAT YtjkhpbngpceenaaProg.lean LOADS. Nothing in Lean hashes anything: it is a label: what it is worth is what the hold of that sum in a sandbox is worth. -/
noncomputable def Try.pinned : Pinned := { name := "ytjkhpbngpceenaa", sum := "fb74ad6f2c5fe23f2234d8699a53a5401ce35749b278c0908602670821137d26", checked := Try.checked }
namespace Rows
def none {H : Type} : Left H := { results := [], args := [] }

/-- 'athanorlaw11.NetOrders': WHATEVER THE INPUT: true; the input reads as it did. -/
def netOrdersSpec : ChangeSpec := { name := "netOrders", fn := fun _ => fun
  | [d] => { results := [.lit (.bool true)], args := [d] }
  | _ => none }
def netOrdersRow : OpenClaim := { program := "ytjkhpbngpceenaa", sum := "fb74ad6f2c5fe23f2234d8699a53a5401ce35749b278c0908602670821137d26", func := "athanor/athanorlaw11.NetOrders", spec := "netOrders", inPlace := ["slices.overlaps[int]"], unfollowed := true, recurses := true, apart := false }
def NetOrdersSaid : Prop := netOrdersRow.holds Try.pinned (OpenSpec.ofChange netOrdersSpec)

/-- ITS FALSE NEIGHBOUR: 'it returns false'. Refute it at one input. -/
def netOrdersWrong : ChangeSpec := { name := "netOrders", fn := fun _ => fun
  | [d] => { results := [.lit (.bool false)], args := [d] }
  | _ => none }
def NetOrdersWrongFalsely : Prop := netOrdersRow.holds Try.pinned (OpenSpec.ofChange netOrdersWrong)

/-- 'athanorlaw11.NetChains': WHATEVER THE INPUT: true; the input reads as it did. -/
def netChainsSpec : ChangeSpec := { name := "netChains", fn := fun _ => fun
  | [d] => { results := [.lit (.bool true)], args := [d] }
  | _ => none }
def netChainsRow : OpenClaim := { program := "ytjkhpbngpceenaa", sum := "fb74ad6f2c5fe23f2234d8699a53a5401ce35749b278c0908602670821137d26", func := "athanor/athanorlaw11.NetChains", spec := "netChains", inPlace := ["slices.overlaps[int]"], unfollowed := true, recurses := true, apart := false }
def NetChainsSaid : Prop := netChainsRow.holds Try.pinned (OpenSpec.ofChange netChainsSpec)

/-- ITS FALSE NEIGHBOUR: 'it returns false'. Refute it at one input. -/
def netChainsWrong : ChangeSpec := { name := "netChains", fn := fun _ => fun
  | [d] => { results := [.lit (.bool false)], args := [d] }
  | _ => none }
def NetChainsWrongFalsely : Prop := netChainsRow.holds Try.pinned (OpenSpec.ofChange netChainsWrong)

/-- 'athanorlaw11.NetCopies': WHATEVER THE INPUT: true; the input reads as it did. -/
def netCopiesSpec : ChangeSpec := { name := "netCopies", fn := fun _ => fun
  | [d1, d2] => { results := [.lit (.bool true)], args := [d1, d2] }
  | _ => none }
def netCopiesRow : OpenClaim := { program := "ytjkhpbngpceenaa", sum := "fb74ad6f2c5fe23f2234d8699a53a5401ce35749b278c0908602670821137d26", func := "athanor/athanorlaw11.NetCopies", spec := "netCopies", inPlace := ["slices.overlaps[int]"], unfollowed := true, recurses := true, apart := false }
def NetCopiesSaid : Prop := netCopiesRow.holds Try.pinned (OpenSpec.ofChange netCopiesSpec)

/-- ITS FALSE NEIGHBOUR: 'it returns false'. Refute it at one input. -/
def netCopiesWrong : ChangeSpec := { name := "netCopies", fn := fun _ => fun
  | [d1, d2] => { results := [.lit (.bool false)], args := [d1, d2] }
  | _ => none }
def NetCopiesWrongFalsely : Prop := netCopiesRow.holds Try.pinned (OpenSpec.ofChange netCopiesWrong)

/-- 'athanorlaw11.NetChecks': WHATEVER THE INPUT: true; the input reads as it did. -/
def netChecksSpec : ChangeSpec := { name := "netChecks", fn := fun _ => fun
  | [d] => { results := [.lit (.bool true)], args := [d] }
  | _ => none }
def netChecksRow : OpenClaim := { program := "ytjkhpbngpceenaa", sum := "fb74ad6f2c5fe23f2234d8699a53a5401ce35749b278c0908602670821137d26", func := "athanor/athanorlaw11.NetChecks", spec := "netChecks", inPlace := ["slices.overlaps[int]"], unfollowed := true, recurses := true, apart := false }
def NetChecksSaid : Prop := netChecksRow.holds Try.pinned (OpenSpec.ofChange netChecksSpec)

/-- ITS FALSE NEIGHBOUR: 'it returns false'. Refute it at one input. -/
def netChecksWrong : ChangeSpec := { name := "netChecks", fn := fun _ => fun
  | [d] => { results := [.lit (.bool false)], args := [d] }
  | _ => none }
def NetChecksWrongFalsely : Prop := netChecksRow.holds Try.pinned (OpenSpec.ofChange netChecksWrong)

/-- 'athanorlaw11.NetUsers': WHATEVER THE INPUT: true; the input reads as it did. -/
def netUsersSpec : ChangeSpec := { name := "netUsers", fn := fun _ => fun
  | [d1, d2] => { results := [.lit (.bool true)], args := [d1, d2] }
  | _ => none }
def netUsersRow : OpenClaim := { program := "ytjkhpbngpceenaa", sum := "fb74ad6f2c5fe23f2234d8699a53a5401ce35749b278c0908602670821137d26", func := "athanor/athanorlaw11.NetUsers", spec := "netUsers", inPlace := ["slices.overlaps[int]"], unfollowed := true, recurses := true, apart := false }
def NetUsersSaid : Prop := netUsersRow.holds Try.pinned (OpenSpec.ofChange netUsersSpec)

/-- ITS FALSE NEIGHBOUR: 'it returns false'. Refute it at one input. -/
def netUsersWrong : ChangeSpec := { name := "netUsers", fn := fun _ => fun
  | [d1, d2] => { results := [.lit (.bool false)], args := [d1, d2] }
  | _ => none }
def NetUsersWrongFalsely : Prop := netUsersRow.holds Try.pinned (OpenSpec.ofChange netUsersWrong)

/-- 'athanorlaw13.PriceCounts': WHATEVER THE INPUT: true; the input reads as it did. -/
def priceCountsSpec : ChangeSpec := { name := "priceCounts", fn := fun _ => fun
  | [d] => { results := [.lit (.bool true)], args := [d] }
  | _ => none }
def priceCountsRow : OpenClaim := { program := "ytjkhpbngpceenaa", sum := "fb74ad6f2c5fe23f2234d8699a53a5401ce35749b278c0908602670821137d26", func := "athanor/athanorlaw13.PriceCounts", spec := "priceCounts", inPlace := ["slices.overlaps[int]"], unfollowed := true, recurses := true, apart := false }
def PriceCountsSaid : Prop := priceCountsRow.holds Try.pinned (OpenSpec.ofChange priceCountsSpec)

/-- ITS FALSE NEIGHBOUR: 'it returns false'. Refute it at one input. -/
def priceCountsWrong : ChangeSpec := { name := "priceCounts", fn := fun _ => fun
  | [d] => { results := [.lit (.bool false)], args := [d] }
  | _ => none }
def PriceCountsWrongFalsely : Prop := priceCountsRow.holds Try.pinned (OpenSpec.ofChange priceCountsWrong)

/- THE SECOND FORM. 'bulk': how many values and letters a reading holds, each counted each time it is reached (what is shared counts as often as it is met; a slice's spare places count too). A statement '..UptoSaid' is the law's where the arguments, and the package variables that the reading takes, are together of bulk at most 1048576: NARROWER than '..Said'. Prove '..Said' where nothing that the law and all that it calls make is longer than what came in: it says more and counts as full. Else prove '..UptoSaid'. A law counts once. -/
mutual
def uptoBulk {H : Type} : DataW H → Nat
  | .lit (.string bytes) => bytes.length + 1
  | .lit _ => 1
  | .nil => 1
  | .ptr d => uptoBulk d + 1
  | .slice elems spare => uptoBulkAll elems + uptoBulkAll spare + 1
  | .agg parts => uptoBulkAll parts + 1
  | .iface _ d => uptoBulk d + 1
  | .map entries => uptoBulkEntries entries + 1
  | .held _ => 1
def uptoBulkAll {H : Type} : List (DataW H) → Nat
  | [] => 0
  | d :: r => uptoBulk d + uptoBulkAll r
def uptoBulkEntries {H : Type} : List (Lit × DataW H) → Nat
  | [] => 0
  | x :: r => uptoBulkEntry x + uptoBulkEntries r
def uptoBulkEntry {H : Type} : Lit × DataW H → Nat
  | (.string bytes, d) => bytes.length + uptoBulk d + 1
  | (_, d) => uptoBulk d + 1
 end
def uptoSmall : (H : Type) → List (DataW H) → Bool := fun _ ds => decide (uptoBulkAll ds ≤ 1048576)
def OpenSpec.upto (s : _root_.Go.ChangeSpec) : _root_.Go.OpenSpec := { _root_.Go.OpenSpec.ofChange s with cond := some uptoSmall }

/-- 'athanorlaw11.NetOrders', WHERE WHAT IT READS IS OF BULK AT MOST 1048576: true; the input reads as it did. -/
def netOrdersUptoRow : OpenClaim := { program := "ytjkhpbngpceenaa", sum := "fb74ad6f2c5fe23f2234d8699a53a5401ce35749b278c0908602670821137d26", func := "athanor/athanorlaw11.NetOrders", spec := "netOrders", inPlace := ["slices.overlaps[int]"], unfollowed := true, recurses := true, apart := false, narrowed := true }
def NetOrdersUptoSaid : Prop := netOrdersUptoRow.holds Try.pinned (OpenSpec.upto netOrdersSpec)

/-- 'athanorlaw11.NetChains', WHERE WHAT IT READS IS OF BULK AT MOST 1048576: true; the input reads as it did. -/
def netChainsUptoRow : OpenClaim := { program := "ytjkhpbngpceenaa", sum := "fb74ad6f2c5fe23f2234d8699a53a5401ce35749b278c0908602670821137d26", func := "athanor/athanorlaw11.NetChains", spec := "netChains", inPlace := ["slices.overlaps[int]"], unfollowed := true, recurses := true, apart := false, narrowed := true }
def NetChainsUptoSaid : Prop := netChainsUptoRow.holds Try.pinned (OpenSpec.upto netChainsSpec)

/-- 'athanorlaw11.NetCopies', WHERE WHAT IT READS IS OF BULK AT MOST 1048576: true; the input reads as it did. -/
def netCopiesUptoRow : OpenClaim := { program := "ytjkhpbngpceenaa", sum := "fb74ad6f2c5fe23f2234d8699a53a5401ce35749b278c0908602670821137d26", func := "athanor/athanorlaw11.NetCopies", spec := "netCopies", inPlace := ["slices.overlaps[int]"], unfollowed := true, recurses := true, apart := false, narrowed := true }
def NetCopiesUptoSaid : Prop := netCopiesUptoRow.holds Try.pinned (OpenSpec.upto netCopiesSpec)

/-- 'athanorlaw11.NetChecks', WHERE WHAT IT READS IS OF BULK AT MOST 1048576: true; the input reads as it did. -/
def netChecksUptoRow : OpenClaim := { program := "ytjkhpbngpceenaa", sum := "fb74ad6f2c5fe23f2234d8699a53a5401ce35749b278c0908602670821137d26", func := "athanor/athanorlaw11.NetChecks", spec := "netChecks", inPlace := ["slices.overlaps[int]"], unfollowed := true, recurses := true, apart := false, narrowed := true }
def NetChecksUptoSaid : Prop := netChecksUptoRow.holds Try.pinned (OpenSpec.upto netChecksSpec)

/-- 'athanorlaw11.NetUsers', WHERE WHAT IT READS IS OF BULK AT MOST 1048576: true; the input reads as it did. -/
def netUsersUptoRow : OpenClaim := { program := "ytjkhpbngpceenaa", sum := "fb74ad6f2c5fe23f2234d8699a53a5401ce35749b278c0908602670821137d26", func := "athanor/athanorlaw11.NetUsers", spec := "netUsers", inPlace := ["slices.overlaps[int]"], unfollowed := true, recurses := true, apart := false, narrowed := true }
def NetUsersUptoSaid : Prop := netUsersUptoRow.holds Try.pinned (OpenSpec.upto netUsersSpec)

/-- 'athanorlaw13.PriceCounts', WHERE WHAT IT READS IS OF BULK AT MOST 1048576: true; the input reads as it did. -/
def priceCountsUptoRow : OpenClaim := { program := "ytjkhpbngpceenaa", sum := "fb74ad6f2c5fe23f2234d8699a53a5401ce35749b278c0908602670821137d26", func := "athanor/athanorlaw13.PriceCounts", spec := "priceCounts", inPlace := ["slices.overlaps[int]"], unfollowed := true, recurses := true, apart := false, narrowed := true }
def PriceCountsUptoSaid : Prop := priceCountsUptoRow.holds Try.pinned (OpenSpec.upto priceCountsSpec)

end Rows
end Go.Proofs.Ytjkhpbngpceenaa

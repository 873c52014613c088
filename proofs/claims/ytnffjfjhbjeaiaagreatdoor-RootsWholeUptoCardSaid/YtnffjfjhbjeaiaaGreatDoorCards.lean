/-
  DERIVED. GIVEN WITH THE SEED: THE CARDS: each row of YtnffjfjhbjeaiaaGreatDoorRows.lean that lists a variable, with what it lists TIED to the program's text (the seventh form; the later family's looks); each row that meets fmt, with fmt's text TOLD by the authors' own Lean function (tested against real Go, not proved from fmt's source: count such statements apart). THE CARD IS WHAT COUNTS. Prove the row's statement (the work); the ties are given (YtnffjfjhbjeaiaaGreatDoorTie.lean); close each card by the builder's one call (the guide's Derived/Test/ToyasCard.lean, 'card_holds'). Laid BY PROGRAM, IN A SANDBOX (cutbox-door.mjs). By AI agents, Wed Nov 11 2026. No macro, syntax, notation, axiom, sorry.
-/
import Derived.Test.YtnffjfjhbjeaiaaGreatDoorRows
import GoSem.ClaimSeven
namespace Go.Proofs.YtnffjfjhbjeaiaaGreatDoor
namespace Rows

/-- THE TIED CARD OF 'athanorlaw21.RootsLowers'. -/
def rootsLowersCard : Claim7 := { stood := { row := rootsLowersRow, standIns := [], harness := (true, "61b492e0d654403d402665e47bf556d877598234067234732d81de429b132c12"), looks := false }, kinds := [], alts := [], laidByText := true, laidKinds := [.data, .data, .data], laidTests := true, laidLooks := .later }
def RootsLowersCardSaid : Prop := Claim7.holds Tryz.pinned (.plain (OpenSpec.ofChange rootsLowersSpec)) rootsLowersCard

/-- THE TIED CARD OF 'athanorlaw21.RootsWhole'. -/
def rootsWholeCard : Claim7 := { stood := { row := rootsWholeRow, standIns := [], harness := (true, "61b492e0d654403d402665e47bf556d877598234067234732d81de429b132c12"), looks := false }, kinds := [], alts := [], laidByText := true, laidKinds := [.data, .data, .data], laidTests := true, laidLooks := .later }
def RootsWholeCardSaid : Prop := Claim7.holds Tryz.pinned (.plain (OpenSpec.ofChange rootsWholeSpec)) rootsWholeCard

/-- THE TIED CARD OF 'athanorlaw21.RootsEvery'. -/
def rootsEveryCard : Claim7 := { stood := { row := rootsEveryRow, standIns := [], harness := (true, "61b492e0d654403d402665e47bf556d877598234067234732d81de429b132c12"), looks := false }, kinds := [], alts := [], laidByText := true, laidKinds := [.data, .data, .data], laidTests := true, laidLooks := .later }
def RootsEveryCardSaid : Prop := Claim7.holds Tryz.pinned (.plain (OpenSpec.ofChange rootsEverySpec)) rootsEveryCard

/-- THE SECOND FORM's CARD OF 'athanorlaw21.RootsLowers'. -/
def rootsLowersUptoCard : Claim7 := { stood := { row := rootsLowersUptoRow, standIns := [], harness := (true, "61b492e0d654403d402665e47bf556d877598234067234732d81de429b132c12"), looks := false }, kinds := [], alts := [], laidByText := true, laidKinds := [.data, .data, .data], laidTests := true, laidLooks := .later }
def RootsLowersUptoCardSaid : Prop := Claim7.holds Tryz.pinned (.plain (OpenSpec.upto rootsLowersSpec)) rootsLowersUptoCard

/-- THE SECOND FORM's CARD OF 'athanorlaw21.RootsWhole'. -/
def rootsWholeUptoCard : Claim7 := { stood := { row := rootsWholeUptoRow, standIns := [], harness := (true, "61b492e0d654403d402665e47bf556d877598234067234732d81de429b132c12"), looks := false }, kinds := [], alts := [], laidByText := true, laidKinds := [.data, .data, .data], laidTests := true, laidLooks := .later }
def RootsWholeUptoCardSaid : Prop := Claim7.holds Tryz.pinned (.plain (OpenSpec.upto rootsWholeSpec)) rootsWholeUptoCard

/-- THE SECOND FORM's CARD OF 'athanorlaw21.RootsEvery'. -/
def rootsEveryUptoCard : Claim7 := { stood := { row := rootsEveryUptoRow, standIns := [], harness := (true, "61b492e0d654403d402665e47bf556d877598234067234732d81de429b132c12"), looks := false }, kinds := [], alts := [], laidByText := true, laidKinds := [.data, .data, .data], laidTests := true, laidLooks := .later }
def RootsEveryUptoCardSaid : Prop := Claim7.holds Tryz.pinned (.plain (OpenSpec.upto rootsEverySpec)) rootsEveryUptoCard
end Rows
end Go.Proofs.YtnffjfjhbjeaiaaGreatDoor

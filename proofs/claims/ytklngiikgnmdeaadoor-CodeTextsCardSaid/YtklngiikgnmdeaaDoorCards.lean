/-
  DERIVED. GIVEN WITH THE SEED: THE CARDS: each row of YtklngiikgnmdeaaDoorRows.lean that lists a variable, with what it lists TIED to the program's text (the seventh form; the later family's looks); each row that meets fmt, with fmt's text TOLD by the authors' own Lean function (tested against real Go, not proved from fmt's source: count such statements apart). THE CARD IS WHAT COUNTS. Prove the row's statement (the work); the ties are given (YtklngiikgnmdeaaDoorTie.lean); close each card by the builder's one call (the guide's Derived/Test/ToyasCard.lean, 'card_holds'). Laid BY PROGRAM, IN A SANDBOX (cutbox-door.mjs). By AI agents, Wed Nov 11 2026. No macro, syntax, notation, axiom, sorry.
-/
import Derived.Test.YtklngiikgnmdeaaDoorRows
import GoSem.ClaimSeven
namespace Go.Proofs.YtklngiikgnmdeaaDoor
namespace Rows

/-- THE TIED CARD OF 'athanorlaw17.CodeBytes'. -/
def codeBytesCard : Claim7 := { stood := { row := codeBytesRow, standIns := [], harness := (true, "616f41041f7c587cdfe273132ded63878fb587853cfad4fd85f39ddca08faf5c"), looks := false }, kinds := [], alts := [], laidByText := true, laidKinds := [.data, .data, .data], laidTests := true, laidLooks := .later }
def CodeBytesCardSaid : Prop := Claim7.holds Tryd.pinned (.plain (OpenSpec.ofChange codeBytesSpec)) codeBytesCard

/-- THE TIED CARD OF 'athanorlaw17.CodeParses'. -/
def codeParsesCard : Claim7 := { stood := { row := codeParsesRow, standIns := [], harness := (true, "616f41041f7c587cdfe273132ded63878fb587853cfad4fd85f39ddca08faf5c"), looks := false }, kinds := [], alts := [], laidByText := true, laidKinds := [.data, .data, .data], laidTests := true, laidLooks := .later }
def CodeParsesCardSaid : Prop := Claim7.holds Tryd.pinned (.plain (OpenSpec.ofChange codeParsesSpec)) codeParsesCard

/-- THE TIED CARD OF 'athanorlaw17.CodeCosts'. -/
def codeCostsCard : Claim7 := { stood := { row := codeCostsRow, standIns := [], harness := (true, "616f41041f7c587cdfe273132ded63878fb587853cfad4fd85f39ddca08faf5c"), looks := false }, kinds := [], alts := [], laidByText := true, laidKinds := [.data, .data, .data], laidTests := true, laidLooks := .later }
def CodeCostsCardSaid : Prop := Claim7.holds Tryd.pinned (.plain (OpenSpec.ofChange codeCostsSpec)) codeCostsCard

/-- THE TIED CARD OF 'athanorlaw17.CodeTexts'. -/
def codeTextsCard : Claim7 := { stood := { row := codeTextsRow, standIns := [], harness := (true, "616f41041f7c587cdfe273132ded63878fb587853cfad4fd85f39ddca08faf5c"), looks := false }, kinds := [], alts := [], laidByText := true, laidKinds := [.data, .data, .data], laidTests := true, laidLooks := .later }
def CodeTextsCardSaid : Prop := Claim7.holds Tryd.pinned (.plain (OpenSpec.ofChange codeTextsSpec)) codeTextsCard

/-- THE TIED CARD OF 'athanorlaw17.CodeMany'. -/
def codeManyCard : Claim7 := { stood := { row := codeManyRow, standIns := [], harness := (true, "616f41041f7c587cdfe273132ded63878fb587853cfad4fd85f39ddca08faf5c"), looks := false }, kinds := [], alts := [], laidByText := true, laidKinds := [.data, .data, .data], laidTests := true, laidLooks := .later }
def CodeManyCardSaid : Prop := Claim7.holds Tryd.pinned (.plain (OpenSpec.ofChange codeManySpec)) codeManyCard

/-- THE SECOND FORM's CARD OF 'athanorlaw17.CodeBytes'. -/
def codeBytesUptoCard : Claim7 := { stood := { row := codeBytesUptoRow, standIns := [], harness := (true, "616f41041f7c587cdfe273132ded63878fb587853cfad4fd85f39ddca08faf5c"), looks := false }, kinds := [], alts := [], laidByText := true, laidKinds := [.data, .data, .data], laidTests := true, laidLooks := .later }
def CodeBytesUptoCardSaid : Prop := Claim7.holds Tryd.pinned (.plain (OpenSpec.upto codeBytesSpec)) codeBytesUptoCard

/-- THE SECOND FORM's CARD OF 'athanorlaw17.CodeParses'. -/
def codeParsesUptoCard : Claim7 := { stood := { row := codeParsesUptoRow, standIns := [], harness := (true, "616f41041f7c587cdfe273132ded63878fb587853cfad4fd85f39ddca08faf5c"), looks := false }, kinds := [], alts := [], laidByText := true, laidKinds := [.data, .data, .data], laidTests := true, laidLooks := .later }
def CodeParsesUptoCardSaid : Prop := Claim7.holds Tryd.pinned (.plain (OpenSpec.upto codeParsesSpec)) codeParsesUptoCard

/-- THE SECOND FORM's CARD OF 'athanorlaw17.CodeCosts'. -/
def codeCostsUptoCard : Claim7 := { stood := { row := codeCostsUptoRow, standIns := [], harness := (true, "616f41041f7c587cdfe273132ded63878fb587853cfad4fd85f39ddca08faf5c"), looks := false }, kinds := [], alts := [], laidByText := true, laidKinds := [.data, .data, .data], laidTests := true, laidLooks := .later }
def CodeCostsUptoCardSaid : Prop := Claim7.holds Tryd.pinned (.plain (OpenSpec.upto codeCostsSpec)) codeCostsUptoCard

/-- THE SECOND FORM's CARD OF 'athanorlaw17.CodeTexts'. -/
def codeTextsUptoCard : Claim7 := { stood := { row := codeTextsUptoRow, standIns := [], harness := (true, "616f41041f7c587cdfe273132ded63878fb587853cfad4fd85f39ddca08faf5c"), looks := false }, kinds := [], alts := [], laidByText := true, laidKinds := [.data, .data, .data], laidTests := true, laidLooks := .later }
def CodeTextsUptoCardSaid : Prop := Claim7.holds Tryd.pinned (.plain (OpenSpec.upto codeTextsSpec)) codeTextsUptoCard

/-- THE SECOND FORM's CARD OF 'athanorlaw17.CodeMany'. -/
def codeManyUptoCard : Claim7 := { stood := { row := codeManyUptoRow, standIns := [], harness := (true, "616f41041f7c587cdfe273132ded63878fb587853cfad4fd85f39ddca08faf5c"), looks := false }, kinds := [], alts := [], laidByText := true, laidKinds := [.data, .data, .data], laidTests := true, laidLooks := .later }
def CodeManyUptoCardSaid : Prop := Claim7.holds Tryd.pinned (.plain (OpenSpec.upto codeManySpec)) codeManyUptoCard
end Rows
end Go.Proofs.YtklngiikgnmdeaaDoor

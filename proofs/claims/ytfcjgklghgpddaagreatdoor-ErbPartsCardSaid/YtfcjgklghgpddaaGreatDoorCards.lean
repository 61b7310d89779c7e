/-
  DERIVED. GIVEN WITH THE SEED: THE CARDS: each row of YtfcjgklghgpddaaGreatDoorRows.lean that lists a variable, with what it lists TIED to the program's text (the seventh form; the later family's looks); each row that meets fmt, with fmt's text TOLD by the authors' own Lean function (tested against real Go, not proved from fmt's source: count such statements apart). THE CARD IS WHAT COUNTS. Prove the row's statement (the work); the ties are given (YtfcjgklghgpddaaGreatDoorTie.lean); close each card by the builder's one call (the guide's Derived/Test/ToyasCard.lean, 'card_holds'). Laid BY PROGRAM, IN A SANDBOX (cutbox-door.mjs). By AI agents, Wed Nov 11 2026. No macro, syntax, notation, axiom, sorry.
-/
import Derived.Test.YtfcjgklghgpddaaGreatDoorRows
import GoSem.ClaimSeven
namespace Go.Proofs.YtfcjgklghgpddaaGreatDoor
namespace Rows

/-- THE TIED CARD OF 'cabochonlaw10.ErbLong'. -/
def erbLongCard : Claim7 := { stood := { row := erbLongRow, standIns := [], harness := (true, "c52e10096dbe4c7604fe371d64a221f2aeb5179cd959ea0d1bd5915f8a72ab80"), looks := true }, kinds := [], alts := [], laidByText := true, laidKinds := [.data, .pinned], laidTests := true, laidLooks := .later }
def ErbLongCardSaid : Prop := Claim7.holds Tryz.pinned (.plain (OpenSpec.ofChange erbLongSpec)) erbLongCard

/-- THE TIED CARD OF 'cabochonlaw10.ErbHtml'. -/
def erbHtmlCard : Claim7 := { stood := { row := erbHtmlRow, standIns := [], harness := (true, "c52e10096dbe4c7604fe371d64a221f2aeb5179cd959ea0d1bd5915f8a72ab80"), looks := true }, kinds := [], alts := [], laidByText := true, laidKinds := [.data, .pinned], laidTests := true, laidLooks := .later }
def ErbHtmlCardSaid : Prop := Claim7.holds Tryz.pinned (.plain (OpenSpec.ofChange erbHtmlSpec)) erbHtmlCard

/-- THE TIED CARD OF 'cabochonlaw10.ErbParts'. -/
def erbPartsCard : Claim7 := { stood := { row := erbPartsRow, standIns := [], harness := (true, "c52e10096dbe4c7604fe371d64a221f2aeb5179cd959ea0d1bd5915f8a72ab80"), looks := true }, kinds := [], alts := [], laidByText := true, laidKinds := [.data, .pinned], laidTests := true, laidLooks := .later }
def ErbPartsCardSaid : Prop := Claim7.holds Tryz.pinned (.plain (OpenSpec.ofChange erbPartsSpec)) erbPartsCard

/-- THE TIED CARD OF 'cabochonlaw10.ErbGrown'. -/
def erbGrownCard : Claim7 := { stood := { row := erbGrownRow, standIns := [], harness := (true, "c52e10096dbe4c7604fe371d64a221f2aeb5179cd959ea0d1bd5915f8a72ab80"), looks := true }, kinds := [], alts := [], laidByText := true, laidKinds := [.data, .pinned], laidTests := true, laidLooks := .later }
def ErbGrownCardSaid : Prop := Claim7.holds Tryz.pinned (.plain (OpenSpec.ofChange erbGrownSpec)) erbGrownCard

/-- THE SECOND FORM's CARD OF 'cabochonlaw10.ErbLong'. -/
def erbLongUptoCard : Claim7 := { stood := { row := erbLongUptoRow, standIns := [], harness := (true, "c52e10096dbe4c7604fe371d64a221f2aeb5179cd959ea0d1bd5915f8a72ab80"), looks := true }, kinds := [], alts := [], laidByText := true, laidKinds := [.data, .pinned], laidTests := true, laidLooks := .later }
def ErbLongUptoCardSaid : Prop := Claim7.holds Tryz.pinned (.plain (OpenSpec.upto erbLongSpec)) erbLongUptoCard

/-- THE SECOND FORM's CARD OF 'cabochonlaw10.ErbHtml'. -/
def erbHtmlUptoCard : Claim7 := { stood := { row := erbHtmlUptoRow, standIns := [], harness := (true, "c52e10096dbe4c7604fe371d64a221f2aeb5179cd959ea0d1bd5915f8a72ab80"), looks := true }, kinds := [], alts := [], laidByText := true, laidKinds := [.data, .pinned], laidTests := true, laidLooks := .later }
def ErbHtmlUptoCardSaid : Prop := Claim7.holds Tryz.pinned (.plain (OpenSpec.upto erbHtmlSpec)) erbHtmlUptoCard

/-- THE SECOND FORM's CARD OF 'cabochonlaw10.ErbParts'. -/
def erbPartsUptoCard : Claim7 := { stood := { row := erbPartsUptoRow, standIns := [], harness := (true, "c52e10096dbe4c7604fe371d64a221f2aeb5179cd959ea0d1bd5915f8a72ab80"), looks := true }, kinds := [], alts := [], laidByText := true, laidKinds := [.data, .pinned], laidTests := true, laidLooks := .later }
def ErbPartsUptoCardSaid : Prop := Claim7.holds Tryz.pinned (.plain (OpenSpec.upto erbPartsSpec)) erbPartsUptoCard

/-- THE SECOND FORM's CARD OF 'cabochonlaw10.ErbGrown'. -/
def erbGrownUptoCard : Claim7 := { stood := { row := erbGrownUptoRow, standIns := [], harness := (true, "c52e10096dbe4c7604fe371d64a221f2aeb5179cd959ea0d1bd5915f8a72ab80"), looks := true }, kinds := [], alts := [], laidByText := true, laidKinds := [.data, .pinned], laidTests := true, laidLooks := .later }
def ErbGrownUptoCardSaid : Prop := Claim7.holds Tryz.pinned (.plain (OpenSpec.upto erbGrownSpec)) erbGrownUptoCard
end Rows
end Go.Proofs.YtfcjgklghgpddaaGreatDoor

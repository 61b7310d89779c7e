/-
  DERIVED. GIVEN WITH THE SEED: THE CARDS: each row of YtkgmaplkomhjdaaDoorRows.lean that lists a variable, with what it lists TIED to the program's text (the seventh form; the later family's looks); each row that meets fmt, with fmt's text TOLD by the authors' own Lean function (tested against real Go, not proved from fmt's source: count such statements apart). THE CARD IS WHAT COUNTS. Prove the row's statement (the work); the ties are given (YtkgmaplkomhjdaaDoorTie.lean); close each card by the builder's one call (the guide's Derived/Test/ToyasCard.lean, 'card_holds'). Laid BY PROGRAM, IN A SANDBOX (cutbox-door.mjs). By AI agents, Wed Nov 11 2026. No macro, syntax, notation, axiom, sorry.
-/
import Derived.Test.YtkgmaplkomhjdaaDoorRows
import GoSem.ClaimSeven
namespace Go.Proofs.YtkgmaplkomhjdaaDoor
namespace Rows

/-- THE TIED CARD OF 'cabochonlaw23.PreludeParts'. -/
def preludePartsCard : Claim7 := { stood := { row := preludePartsRow, standIns := [], harness := (true, "350d4593a43d2178b9e7e90a1d31cbfc70446b329d08edf52e8643888af93e22"), looks := false }, kinds := [], alts := [], laidByText := true, laidKinds := [.data, .listed, .data, .pinned], laidTests := true, laidLooks := .later }
def PreludePartsCardSaid : Prop := Claim7.holds Tryd.pinned (.plain (OpenSpec.ofChange preludePartsSpec)) preludePartsCard

/-- THE SECOND FORM's CARD OF 'cabochonlaw23.PreludeParts'. -/
def preludePartsUptoCard : Claim7 := { stood := { row := preludePartsUptoRow, standIns := [], harness := (true, "350d4593a43d2178b9e7e90a1d31cbfc70446b329d08edf52e8643888af93e22"), looks := false }, kinds := [], alts := [], laidByText := true, laidKinds := [.data, .listed, .data, .pinned], laidTests := true, laidLooks := .later }
def PreludePartsUptoCardSaid : Prop := Claim7.holds Tryd.pinned (.plain (OpenSpec.upto preludePartsSpec)) preludePartsUptoCard
end Rows
end Go.Proofs.YtkgmaplkomhjdaaDoor

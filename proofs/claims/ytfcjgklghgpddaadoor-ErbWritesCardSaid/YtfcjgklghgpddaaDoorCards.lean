/-
  DERIVED. GIVEN WITH THE SEED: THE CARDS: each row of YtfcjgklghgpddaaDoorRows.lean that lists a variable, with what it lists TIED to the program's text (the seventh form; the later family's looks); each row that meets fmt, with fmt's text TOLD by the authors' own Lean function (tested against real Go, not proved from fmt's source: count such statements apart). THE CARD IS WHAT COUNTS. Prove the row's statement (the work); the ties are given (YtfcjgklghgpddaaDoorTie.lean); close each card by the builder's one call (the guide's Derived/Test/ToyasCard.lean, 'card_holds'). Laid BY PROGRAM, IN A SANDBOX (cutbox-door.mjs). By AI agents, Wed Nov 11 2026. No macro, syntax, notation, axiom, sorry.
-/
import Derived.Test.YtfcjgklghgpddaaDoorRows
import GoSem.ClaimSeven
namespace Go.Proofs.YtfcjgklghgpddaaDoor
namespace Rows

/-- THE TIED CARD OF 'cabochonlaw10.ErbEscapes'. -/
def erbEscapesCard : Claim7 := { stood := { row := erbEscapesRow, standIns := [], harness := (true, "65c025c1c0d2f4f10074763a6b0696f9e68e06ee85aafcc2e186a440602dcf7b"), looks := false }, kinds := [], alts := [], laidByText := true, laidKinds := [.data, .pinned], laidTests := true, laidLooks := .later }
def ErbEscapesCardSaid : Prop := Claim7.holds Tryd.pinned (.plain (OpenSpec.ofChange erbEscapesSpec)) erbEscapesCard

/-- THE TIED CARD OF 'cabochonlaw10.ErbWrites'. -/
def erbWritesCard : Claim7 := { stood := { row := erbWritesRow, standIns := [], harness := (true, "65c025c1c0d2f4f10074763a6b0696f9e68e06ee85aafcc2e186a440602dcf7b"), looks := false }, kinds := [], alts := [], laidByText := true, laidKinds := [.data, .pinned], laidTests := true, laidLooks := .later }
def ErbWritesCardSaid : Prop := Claim7.holds Tryd.pinned (.plain (OpenSpec.ofChange erbWritesSpec)) erbWritesCard

/-- THE TIED CARD OF 'cabochonlaw10.ErbBack'. -/
def erbBackCard : Claim7 := { stood := { row := erbBackRow, standIns := [], harness := (true, "65c025c1c0d2f4f10074763a6b0696f9e68e06ee85aafcc2e186a440602dcf7b"), looks := false }, kinds := [], alts := [], laidByText := true, laidKinds := [.data, .pinned], laidTests := true, laidLooks := .later }
def ErbBackCardSaid : Prop := Claim7.holds Tryd.pinned (.plain (OpenSpec.ofChange erbBackSpec)) erbBackCard

/-- THE SECOND FORM's CARD OF 'cabochonlaw10.ErbEscapes'. -/
def erbEscapesUptoCard : Claim7 := { stood := { row := erbEscapesUptoRow, standIns := [], harness := (true, "65c025c1c0d2f4f10074763a6b0696f9e68e06ee85aafcc2e186a440602dcf7b"), looks := false }, kinds := [], alts := [], laidByText := true, laidKinds := [.data, .pinned], laidTests := true, laidLooks := .later }
def ErbEscapesUptoCardSaid : Prop := Claim7.holds Tryd.pinned (.plain (OpenSpec.upto erbEscapesSpec)) erbEscapesUptoCard

/-- THE SECOND FORM's CARD OF 'cabochonlaw10.ErbWrites'. -/
def erbWritesUptoCard : Claim7 := { stood := { row := erbWritesUptoRow, standIns := [], harness := (true, "65c025c1c0d2f4f10074763a6b0696f9e68e06ee85aafcc2e186a440602dcf7b"), looks := false }, kinds := [], alts := [], laidByText := true, laidKinds := [.data, .pinned], laidTests := true, laidLooks := .later }
def ErbWritesUptoCardSaid : Prop := Claim7.holds Tryd.pinned (.plain (OpenSpec.upto erbWritesSpec)) erbWritesUptoCard

/-- THE SECOND FORM's CARD OF 'cabochonlaw10.ErbBack'. -/
def erbBackUptoCard : Claim7 := { stood := { row := erbBackUptoRow, standIns := [], harness := (true, "65c025c1c0d2f4f10074763a6b0696f9e68e06ee85aafcc2e186a440602dcf7b"), looks := false }, kinds := [], alts := [], laidByText := true, laidKinds := [.data, .pinned], laidTests := true, laidLooks := .later }
def ErbBackUptoCardSaid : Prop := Claim7.holds Tryd.pinned (.plain (OpenSpec.upto erbBackSpec)) erbBackUptoCard
end Rows
end Go.Proofs.YtfcjgklghgpddaaDoor

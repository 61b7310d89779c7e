/-
  DERIVED. GIVEN WITH THE SEED: THE CARDS: each row of YteejemdibfbccaaGreatDoorRows.lean that lists a variable, with what it lists TIED to the program's text (the seventh form; the later family's looks); each row that meets fmt, with fmt's text TOLD by the authors' own Lean function (tested against real Go, not proved from fmt's source: count such statements apart). THE CARD IS WHAT COUNTS. Prove the row's statement (the work); the ties are given (YteejemdibfbccaaGreatDoorTie.lean); close each card by the builder's one call (the guide's Derived/Test/ToyasCard.lean, 'card_holds'). Laid BY PROGRAM, IN A SANDBOX (cutbox-door.mjs). By AI agents, Wed Nov 11 2026. No macro, syntax, notation, axiom, sorry.
-/
import Derived.Test.YteejemdibfbccaaGreatDoorRows
import GoSem.ClaimSeven
namespace Go.Proofs.YteejemdibfbccaaGreatDoor
namespace Rows

/-- THE TIED CARD OF 'cabochonlaw14.ScanTokens'. -/
def scanTokensCard : Claim7 := { stood := { row := scanTokensRow, standIns := [], harness := (true, "be4aee58048e602317ccd7cfc9fab003b289fbdb7ea25d25a875c2188ac39fb8"), looks := true }, kinds := [], alts := [], laidByText := true, laidKinds := [.data, .listed, .data, .pinned], laidTests := true, laidLooks := .later }
def ScanTokensCardSaid : Prop := Claim7.holds Tryz.pinned (.plain (OpenSpec.ofChange scanTokensSpec)) scanTokensCard

/-- THE TIED CARD OF 'cabochonlaw14.ScanBits'. -/
def scanBitsCard : Claim7 := { stood := { row := scanBitsRow, standIns := [], harness := (true, "be4aee58048e602317ccd7cfc9fab003b289fbdb7ea25d25a875c2188ac39fb8"), looks := true }, kinds := [], alts := [], laidByText := true, laidKinds := [.data, .listed, .data, .pinned], laidTests := true, laidLooks := .later }
def ScanBitsCardSaid : Prop := Claim7.holds Tryz.pinned (.plain (OpenSpec.ofChange scanBitsSpec)) scanBitsCard

/-- THE TIED CARD OF 'cabochonlaw14.ScanNames'. -/
def scanNamesCard : Claim7 := { stood := { row := scanNamesRow, standIns := [], harness := (true, "be4aee58048e602317ccd7cfc9fab003b289fbdb7ea25d25a875c2188ac39fb8"), looks := true }, kinds := [], alts := [], laidByText := true, laidKinds := [.data, .listed, .data, .pinned], laidTests := true, laidLooks := .later }
def ScanNamesCardSaid : Prop := Claim7.holds Tryz.pinned (.plain (OpenSpec.ofChange scanNamesSpec)) scanNamesCard

/-- THE TIED CARD OF 'cabochonlaw14.ScanQuote'. -/
def scanQuoteCard : Claim7 := { stood := { row := scanQuoteRow, standIns := [], harness := (true, "be4aee58048e602317ccd7cfc9fab003b289fbdb7ea25d25a875c2188ac39fb8"), looks := true }, kinds := [], alts := [], laidByText := true, laidKinds := [.data, .listed, .data, .pinned], laidTests := true, laidLooks := .later }
def ScanQuoteCardSaid : Prop := Claim7.holds Tryz.pinned (.plain (OpenSpec.ofChange scanQuoteSpec)) scanQuoteCard

/-- THE SECOND FORM's CARD OF 'cabochonlaw14.ScanTokens'. -/
def scanTokensUptoCard : Claim7 := { stood := { row := scanTokensUptoRow, standIns := [], harness := (true, "be4aee58048e602317ccd7cfc9fab003b289fbdb7ea25d25a875c2188ac39fb8"), looks := true }, kinds := [], alts := [], laidByText := true, laidKinds := [.data, .listed, .data, .pinned], laidTests := true, laidLooks := .later }
def ScanTokensUptoCardSaid : Prop := Claim7.holds Tryz.pinned (.plain (OpenSpec.upto scanTokensSpec)) scanTokensUptoCard

/-- THE SECOND FORM's CARD OF 'cabochonlaw14.ScanBits'. -/
def scanBitsUptoCard : Claim7 := { stood := { row := scanBitsUptoRow, standIns := [], harness := (true, "be4aee58048e602317ccd7cfc9fab003b289fbdb7ea25d25a875c2188ac39fb8"), looks := true }, kinds := [], alts := [], laidByText := true, laidKinds := [.data, .listed, .data, .pinned], laidTests := true, laidLooks := .later }
def ScanBitsUptoCardSaid : Prop := Claim7.holds Tryz.pinned (.plain (OpenSpec.upto scanBitsSpec)) scanBitsUptoCard

/-- THE SECOND FORM's CARD OF 'cabochonlaw14.ScanNames'. -/
def scanNamesUptoCard : Claim7 := { stood := { row := scanNamesUptoRow, standIns := [], harness := (true, "be4aee58048e602317ccd7cfc9fab003b289fbdb7ea25d25a875c2188ac39fb8"), looks := true }, kinds := [], alts := [], laidByText := true, laidKinds := [.data, .listed, .data, .pinned], laidTests := true, laidLooks := .later }
def ScanNamesUptoCardSaid : Prop := Claim7.holds Tryz.pinned (.plain (OpenSpec.upto scanNamesSpec)) scanNamesUptoCard

/-- THE SECOND FORM's CARD OF 'cabochonlaw14.ScanQuote'. -/
def scanQuoteUptoCard : Claim7 := { stood := { row := scanQuoteUptoRow, standIns := [], harness := (true, "be4aee58048e602317ccd7cfc9fab003b289fbdb7ea25d25a875c2188ac39fb8"), looks := true }, kinds := [], alts := [], laidByText := true, laidKinds := [.data, .listed, .data, .pinned], laidTests := true, laidLooks := .later }
def ScanQuoteUptoCardSaid : Prop := Claim7.holds Tryz.pinned (.plain (OpenSpec.upto scanQuoteSpec)) scanQuoteUptoCard
end Rows
end Go.Proofs.YteejemdibfbccaaGreatDoor

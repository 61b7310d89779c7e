/-
  DERIVED. GIVEN WITH THE SEED: THE CARDS: each row of YtnecdpkmmncfaaaDoorRows.lean that lists a variable, with what it lists TIED to the program's text (the seventh form; the later family's looks); each row that meets fmt, with fmt's text TOLD by the authors' own Lean function (tested against real Go, not proved from fmt's source: count such statements apart). THE CARD IS WHAT COUNTS. Prove the row's statement (the work); the ties are given (YtnecdpkmmncfaaaDoorTie.lean); close each card by the builder's one call (the guide's Derived/Test/ToyasCard.lean, 'card_holds'). Laid BY PROGRAM, IN A SANDBOX (cutbox-door.mjs). By AI agents, Wed Nov 11 2026. No macro, syntax, notation, axiom, sorry.
-/
import Derived.Test.YtnecdpkmmncfaaaDoorRows
import GoSem.ClaimSeven
namespace Go.Proofs.YtnecdpkmmncfaaaDoor
namespace Rows

/-- THE TIED CARD OF 'cabochonlaw05.ClockDates'. -/
def clockDatesCard : Claim7 := { stood := { row := clockDatesRow, standIns := [], harness := (true, "9053b73347983b2093c328cc46a28d30ea270d95e0de117404d5ed97b4c382a0"), looks := false }, kinds := [], alts := [], laidByText := true, laidKinds := [.data, .data, .data], laidTests := true, laidLooks := .later }
def ClockDatesCardSaid : Prop := Claim7.holds Tryd.pinned (.plain (OpenSpec.ofChange clockDatesSpec)) clockDatesCard

/-- THE TIED CARD OF 'cabochonlaw05.ClockParses'. -/
def clockParsesCard : Claim7 := { stood := { row := clockParsesRow, standIns := [], harness := (true, "9053b73347983b2093c328cc46a28d30ea270d95e0de117404d5ed97b4c382a0"), looks := false }, kinds := [], alts := [], laidByText := true, laidKinds := [.data, .data, .data], laidTests := true, laidLooks := .later }
def ClockParsesCardSaid : Prop := Claim7.holds Tryd.pinned (.plain (OpenSpec.ofChange clockParsesSpec)) clockParsesCard

/-- THE SECOND FORM's CARD OF 'cabochonlaw05.ClockDates'. -/
def clockDatesUptoCard : Claim7 := { stood := { row := clockDatesUptoRow, standIns := [], harness := (true, "9053b73347983b2093c328cc46a28d30ea270d95e0de117404d5ed97b4c382a0"), looks := false }, kinds := [], alts := [], laidByText := true, laidKinds := [.data, .data, .data], laidTests := true, laidLooks := .later }
def ClockDatesUptoCardSaid : Prop := Claim7.holds Tryd.pinned (.plain (OpenSpec.upto clockDatesSpec)) clockDatesUptoCard

/-- THE SECOND FORM's CARD OF 'cabochonlaw05.ClockParses'. -/
def clockParsesUptoCard : Claim7 := { stood := { row := clockParsesUptoRow, standIns := [], harness := (true, "9053b73347983b2093c328cc46a28d30ea270d95e0de117404d5ed97b4c382a0"), looks := false }, kinds := [], alts := [], laidByText := true, laidKinds := [.data, .data, .data], laidTests := true, laidLooks := .later }
def ClockParsesUptoCardSaid : Prop := Claim7.holds Tryd.pinned (.plain (OpenSpec.upto clockParsesSpec)) clockParsesUptoCard
end Rows
end Go.Proofs.YtnecdpkmmncfaaaDoor

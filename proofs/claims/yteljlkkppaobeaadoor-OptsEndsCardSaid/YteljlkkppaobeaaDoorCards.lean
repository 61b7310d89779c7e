/-
  DERIVED. GIVEN WITH THE SEED: THE CARDS: each row of YteljlkkppaobeaaDoorRows.lean that lists a variable, with what it lists TIED to the program's text (the seventh form; the later family's looks); each row that meets fmt, with fmt's text TOLD by the authors' own Lean function (tested against real Go, not proved from fmt's source: count such statements apart). THE CARD IS WHAT COUNTS. Prove the row's statement (the work); the ties are given (YteljlkkppaobeaaDoorTie.lean); close each card by the builder's one call (the guide's Derived/Test/ToyasCard.lean, 'card_holds'). Laid BY PROGRAM, IN A SANDBOX (cutbox-door.mjs). By AI agents, Wed Nov 11 2026. No macro, syntax, notation, axiom, sorry.
-/
import Derived.Test.YteljlkkppaobeaaDoorRows
import GoSem.ClaimSeven
namespace Go.Proofs.YteljlkkppaobeaaDoor
namespace Rows

/-- THE TIED CARD OF 'cabochonlaw09.OptsEnds'. -/
def optsEndsCard : Claim7 := { stood := { row := optsEndsRow, standIns := [], harness := (true, "6f709233e1e106a44276ffa420b8c2917d77628b99ec7ff61b7667a7880bedc1"), looks := false }, kinds := [], alts := [], laidByText := true, laidKinds := [.data, .pinned, .pinned], laidTests := true, laidLooks := .later }
def OptsEndsCardSaid : Prop := Claim7.holds Tryd.pinned (.plain (OpenSpec.ofChange optsEndsSpec)) optsEndsCard

/-- THE TIED CARD OF 'cabochonlaw09.OptsPrefixes'. -/
def optsPrefixesCard : Claim7 := { stood := { row := optsPrefixesRow, standIns := [], harness := (true, "6f709233e1e106a44276ffa420b8c2917d77628b99ec7ff61b7667a7880bedc1"), looks := false }, kinds := [], alts := [], laidByText := true, laidKinds := [.data, .pinned, .pinned], laidTests := true, laidLooks := .later }
def OptsPrefixesCardSaid : Prop := Claim7.holds Tryd.pinned (.plain (OpenSpec.ofChange optsPrefixesSpec)) optsPrefixesCard

/-- THE TIED CARD OF 'cabochonlaw09.OptsAgain'. -/
def optsAgainCard : Claim7 := { stood := { row := optsAgainRow, standIns := [], harness := (true, "6f709233e1e106a44276ffa420b8c2917d77628b99ec7ff61b7667a7880bedc1"), looks := false }, kinds := [], alts := [], laidByText := true, laidKinds := [.data, .pinned, .pinned], laidTests := true, laidLooks := .later }
def OptsAgainCardSaid : Prop := Claim7.holds Tryd.pinned (.plain (OpenSpec.ofChange optsAgainSpec)) optsAgainCard

/-- THE SECOND FORM's CARD OF 'cabochonlaw09.OptsEnds'. -/
def optsEndsUptoCard : Claim7 := { stood := { row := optsEndsUptoRow, standIns := [], harness := (true, "6f709233e1e106a44276ffa420b8c2917d77628b99ec7ff61b7667a7880bedc1"), looks := false }, kinds := [], alts := [], laidByText := true, laidKinds := [.data, .pinned, .pinned], laidTests := true, laidLooks := .later }
def OptsEndsUptoCardSaid : Prop := Claim7.holds Tryd.pinned (.plain (OpenSpec.upto optsEndsSpec)) optsEndsUptoCard

/-- THE SECOND FORM's CARD OF 'cabochonlaw09.OptsPrefixes'. -/
def optsPrefixesUptoCard : Claim7 := { stood := { row := optsPrefixesUptoRow, standIns := [], harness := (true, "6f709233e1e106a44276ffa420b8c2917d77628b99ec7ff61b7667a7880bedc1"), looks := false }, kinds := [], alts := [], laidByText := true, laidKinds := [.data, .pinned, .pinned], laidTests := true, laidLooks := .later }
def OptsPrefixesUptoCardSaid : Prop := Claim7.holds Tryd.pinned (.plain (OpenSpec.upto optsPrefixesSpec)) optsPrefixesUptoCard

/-- THE SECOND FORM's CARD OF 'cabochonlaw09.OptsAgain'. -/
def optsAgainUptoCard : Claim7 := { stood := { row := optsAgainUptoRow, standIns := [], harness := (true, "6f709233e1e106a44276ffa420b8c2917d77628b99ec7ff61b7667a7880bedc1"), looks := false }, kinds := [], alts := [], laidByText := true, laidKinds := [.data, .pinned, .pinned], laidTests := true, laidLooks := .later }
def OptsAgainUptoCardSaid : Prop := Claim7.holds Tryd.pinned (.plain (OpenSpec.upto optsAgainSpec)) optsAgainUptoCard
end Rows
end Go.Proofs.YteljlkkppaobeaaDoor

/-
  DERIVED. GIVEN WITH THE SEED: THE CARDS: each row of YteljlkkppaobeaaGreatDoorRows.lean that lists a variable, with what it lists TIED to the program's text (the seventh form; the later family's looks); each row that meets fmt, with fmt's text TOLD by the authors' own Lean function (tested against real Go, not proved from fmt's source: count such statements apart). THE CARD IS WHAT COUNTS. Prove the row's statement (the work); the ties are given (YteljlkkppaobeaaGreatDoorTie.lean); close each card by the builder's one call (the guide's Derived/Test/ToyasCard.lean, 'card_holds'). Laid BY PROGRAM, IN A SANDBOX (cutbox-door.mjs). By AI agents, Wed Nov 11 2026. No macro, syntax, notation, axiom, sorry.
-/
import Derived.Test.YteljlkkppaobeaaGreatDoorRows
import GoSem.ClaimSeven
namespace Go.Proofs.YteljlkkppaobeaaGreatDoor
namespace Rows

/-- THE TIED CARD OF 'cabochonlaw09.OptsWords'. -/
def optsWordsCard : Claim7 := { stood := { row := optsWordsRow, standIns := [], harness := (true, "01266aa4d491f429ddcb44718ec4641cfa3d21e8ad36f522fb55eb9825040fc9"), looks := true }, kinds := [], alts := [], laidByText := true, laidKinds := [.data, .pinned, .pinned], laidTests := true, laidLooks := .later }
def OptsWordsCardSaid : Prop := Claim7.holds Tryz.pinned (.plain (OpenSpec.ofChange optsWordsSpec)) optsWordsCard

/-- THE SECOND FORM's CARD OF 'cabochonlaw09.OptsWords'. -/
def optsWordsUptoCard : Claim7 := { stood := { row := optsWordsUptoRow, standIns := [], harness := (true, "01266aa4d491f429ddcb44718ec4641cfa3d21e8ad36f522fb55eb9825040fc9"), looks := true }, kinds := [], alts := [], laidByText := true, laidKinds := [.data, .pinned, .pinned], laidTests := true, laidLooks := .later }
def OptsWordsUptoCardSaid : Prop := Claim7.holds Tryz.pinned (.plain (OpenSpec.upto optsWordsSpec)) optsWordsUptoCard
end Rows
end Go.Proofs.YteljlkkppaobeaaGreatDoor

/-
  DERIVED. GIVEN WITH THE SEED: THE CARDS: each row of YtjkchonpnocffaaGreatDoorRows.lean that lists a variable, with what it lists TIED to the program's text (the seventh form; the later family's looks); each row that meets fmt, with fmt's text TOLD by the authors' own Lean function (tested against real Go, not proved from fmt's source: count such statements apart). THE CARD IS WHAT COUNTS. Prove the row's statement (the work); the ties are given (YtjkchonpnocffaaGreatDoorTie.lean); close each card by the builder's one call (the guide's Derived/Test/ToyasCard.lean, 'card_holds'). Laid BY PROGRAM, IN A SANDBOX (cutbox-door.mjs). By AI agents, Wed Nov 11 2026. No macro, syntax, notation, axiom, sorry.
-/
import Derived.Test.YtjkchonpnocffaaGreatDoorRows
import GoSem.ClaimSeven
namespace Go.Proofs.YtjkchonpnocffaaGreatDoor
namespace Rows

/-- THE TIED CARD OF 'cabochonlaw03.PackForms'. -/
def packFormsCard : Claim7 := { stood := { row := packFormsRow, standIns := [], harness := (true, "9ebfc7118d1e03e10fa170231eab694a75213bbcb41f3f5fc3a34e483bac484b"), looks := false }, kinds := [], alts := [], laidByText := true, laidKinds := [.data, .pinned], laidTests := true, laidLooks := .later }
def PackFormsCardSaid : Prop := Claim7.holds Tryz.pinned (.plain (OpenSpec.ofChange packFormsSpec)) packFormsCard

/-- THE SECOND FORM's CARD OF 'cabochonlaw03.PackForms'. -/
def packFormsUptoCard : Claim7 := { stood := { row := packFormsUptoRow, standIns := [], harness := (true, "9ebfc7118d1e03e10fa170231eab694a75213bbcb41f3f5fc3a34e483bac484b"), looks := false }, kinds := [], alts := [], laidByText := true, laidKinds := [.data, .pinned], laidTests := true, laidLooks := .later }
def PackFormsUptoCardSaid : Prop := Claim7.holds Tryz.pinned (.plain (OpenSpec.upto packFormsSpec)) packFormsUptoCard
end Rows
end Go.Proofs.YtjkchonpnocffaaGreatDoor

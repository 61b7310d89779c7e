/-
  DERIVED. GIVEN WITH THE SEED: THE CARDS: each row of YtjkchonpnocffaaDoorRows.lean that lists a variable, with what it lists TIED to the program's text (the seventh form; the later family's looks); each row that meets fmt, with fmt's text TOLD by the authors' own Lean function (tested against real Go, not proved from fmt's source: count such statements apart). THE CARD IS WHAT COUNTS. Prove the row's statement (the work); the ties are given (YtjkchonpnocffaaDoorTie.lean); close each card by the builder's one call (the guide's Derived/Test/ToyasCard.lean, 'card_holds'). Laid BY PROGRAM, IN A SANDBOX (cutbox-door.mjs). By AI agents, Wed Nov 11 2026. No macro, syntax, notation, axiom, sorry.
-/
import Derived.Test.YtjkchonpnocffaaDoorRows
import GoSem.ClaimSeven
namespace Go.Proofs.YtjkchonpnocffaaDoor
namespace Rows

/-- THE TIED CARD OF 'cabochonlaw03.PackReads'. -/
def packReadsCard : Claim7 := { stood := { row := packReadsRow, standIns := [], harness := (true, "ee40ad3c004e27ba634c39df1e0133c8cbf9a6c49400ae1940cd1f890c212da8"), looks := false }, kinds := [], alts := [], laidByText := true, laidKinds := [.data, .pinned], laidTests := true, laidLooks := .later }
def PackReadsCardSaid : Prop := Claim7.holds Tryd.pinned (.plain (OpenSpec.ofChange packReadsSpec)) packReadsCard

/-- THE TIED CARD OF 'cabochonlaw03.PackHexes'. -/
def packHexesCard : Claim7 := { stood := { row := packHexesRow, standIns := [], harness := (true, "ee40ad3c004e27ba634c39df1e0133c8cbf9a6c49400ae1940cd1f890c212da8"), looks := false }, kinds := [], alts := [], laidByText := true, laidKinds := [.data, .pinned], laidTests := true, laidLooks := .later }
def PackHexesCardSaid : Prop := Claim7.holds Tryd.pinned (.plain (OpenSpec.ofChange packHexesSpec)) packHexesCard

/-- THE TIED CARD OF 'cabochonlaw03.PackJoins'. -/
def packJoinsCard : Claim7 := { stood := { row := packJoinsRow, standIns := [], harness := (true, "ee40ad3c004e27ba634c39df1e0133c8cbf9a6c49400ae1940cd1f890c212da8"), looks := false }, kinds := [], alts := [], laidByText := true, laidKinds := [.data, .pinned], laidTests := true, laidLooks := .later }
def PackJoinsCardSaid : Prop := Claim7.holds Tryd.pinned (.plain (OpenSpec.ofChange packJoinsSpec)) packJoinsCard

/-- THE TIED CARD OF 'cabochonlaw03.PackBack'. -/
def packBackCard : Claim7 := { stood := { row := packBackRow, standIns := [], harness := (true, "ee40ad3c004e27ba634c39df1e0133c8cbf9a6c49400ae1940cd1f890c212da8"), looks := false }, kinds := [], alts := [], laidByText := true, laidKinds := [.data, .pinned], laidTests := true, laidLooks := .later }
def PackBackCardSaid : Prop := Claim7.holds Tryd.pinned (.plain (OpenSpec.ofChange packBackSpec)) packBackCard

/-- THE TIED CARD OF 'cabochonlaw03.PackWrites'. -/
def packWritesCard : Claim7 := { stood := { row := packWritesRow, standIns := [], harness := (true, "ee40ad3c004e27ba634c39df1e0133c8cbf9a6c49400ae1940cd1f890c212da8"), looks := false }, kinds := [], alts := [], laidByText := true, laidKinds := [.data, .pinned], laidTests := true, laidLooks := .later }
def PackWritesCardSaid : Prop := Claim7.holds Tryd.pinned (.plain (OpenSpec.ofChange packWritesSpec)) packWritesCard

/-- THE SECOND FORM's CARD OF 'cabochonlaw03.PackReads'. -/
def packReadsUptoCard : Claim7 := { stood := { row := packReadsUptoRow, standIns := [], harness := (true, "ee40ad3c004e27ba634c39df1e0133c8cbf9a6c49400ae1940cd1f890c212da8"), looks := false }, kinds := [], alts := [], laidByText := true, laidKinds := [.data, .pinned], laidTests := true, laidLooks := .later }
def PackReadsUptoCardSaid : Prop := Claim7.holds Tryd.pinned (.plain (OpenSpec.upto packReadsSpec)) packReadsUptoCard

/-- THE SECOND FORM's CARD OF 'cabochonlaw03.PackHexes'. -/
def packHexesUptoCard : Claim7 := { stood := { row := packHexesUptoRow, standIns := [], harness := (true, "ee40ad3c004e27ba634c39df1e0133c8cbf9a6c49400ae1940cd1f890c212da8"), looks := false }, kinds := [], alts := [], laidByText := true, laidKinds := [.data, .pinned], laidTests := true, laidLooks := .later }
def PackHexesUptoCardSaid : Prop := Claim7.holds Tryd.pinned (.plain (OpenSpec.upto packHexesSpec)) packHexesUptoCard

/-- THE SECOND FORM's CARD OF 'cabochonlaw03.PackJoins'. -/
def packJoinsUptoCard : Claim7 := { stood := { row := packJoinsUptoRow, standIns := [], harness := (true, "ee40ad3c004e27ba634c39df1e0133c8cbf9a6c49400ae1940cd1f890c212da8"), looks := false }, kinds := [], alts := [], laidByText := true, laidKinds := [.data, .pinned], laidTests := true, laidLooks := .later }
def PackJoinsUptoCardSaid : Prop := Claim7.holds Tryd.pinned (.plain (OpenSpec.upto packJoinsSpec)) packJoinsUptoCard

/-- THE SECOND FORM's CARD OF 'cabochonlaw03.PackBack'. -/
def packBackUptoCard : Claim7 := { stood := { row := packBackUptoRow, standIns := [], harness := (true, "ee40ad3c004e27ba634c39df1e0133c8cbf9a6c49400ae1940cd1f890c212da8"), looks := false }, kinds := [], alts := [], laidByText := true, laidKinds := [.data, .pinned], laidTests := true, laidLooks := .later }
def PackBackUptoCardSaid : Prop := Claim7.holds Tryd.pinned (.plain (OpenSpec.upto packBackSpec)) packBackUptoCard

/-- THE SECOND FORM's CARD OF 'cabochonlaw03.PackWrites'. -/
def packWritesUptoCard : Claim7 := { stood := { row := packWritesUptoRow, standIns := [], harness := (true, "ee40ad3c004e27ba634c39df1e0133c8cbf9a6c49400ae1940cd1f890c212da8"), looks := false }, kinds := [], alts := [], laidByText := true, laidKinds := [.data, .pinned], laidTests := true, laidLooks := .later }
def PackWritesUptoCardSaid : Prop := Claim7.holds Tryd.pinned (.plain (OpenSpec.upto packWritesSpec)) packWritesUptoCard
end Rows
end Go.Proofs.YtjkchonpnocffaaDoor

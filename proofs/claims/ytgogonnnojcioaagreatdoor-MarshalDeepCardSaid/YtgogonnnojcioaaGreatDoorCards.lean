/-
  DERIVED. GIVEN WITH THE SEED: THE CARDS: each row of YtgogonnnojcioaaGreatDoorRows.lean that lists a variable, with what it lists TIED to the program's text (the seventh form; the later family's looks); each row that meets fmt, with fmt's text TOLD by the authors' own Lean function (tested against real Go, not proved from fmt's source: count such statements apart). THE CARD IS WHAT COUNTS. Prove the row's statement (the work); the ties are given (YtgogonnnojcioaaGreatDoorTie.lean); close each card by the builder's one call (the guide's Derived/Test/ToyasCard.lean, 'card_holds'). Laid BY PROGRAM, IN A SANDBOX (cutbox-door.mjs). By AI agents, Wed Nov 11 2026. No macro, syntax, notation, axiom, sorry.
-/
import Derived.Test.YtgogonnnojcioaaGreatDoorRows
import GoSem.ClaimSeven
namespace Go.Proofs.YtgogonnnojcioaaGreatDoor
namespace Rows

/-- THE TIED CARD OF 'cabochonlaw29.MarshalChanged'. -/
def marshalChangedCard : Claim7 := { stood := { row := marshalChangedRow, standIns := [], harness := (true, "92e2ed60dd5b2613fe6e0d172a7e2bd0782f276a49ab098c444f4227433a6c5a"), looks := false }, kinds := [], alts := [], laidByText := true, laidKinds := [.data, .pinned], laidTests := true, laidLooks := .later }
def MarshalChangedCardSaid : Prop := Claim7.holds Tryz.pinned (.plain (OpenSpec.ofChange marshalChangedSpec)) marshalChangedCard

/-- THE TIED CARD OF 'cabochonlaw29.MarshalBack'. -/
def marshalBackCard : Claim7 := { stood := { row := marshalBackRow, standIns := [], harness := (true, "92e2ed60dd5b2613fe6e0d172a7e2bd0782f276a49ab098c444f4227433a6c5a"), looks := false }, kinds := [], alts := [], laidByText := true, laidKinds := [.data, .data, .data, .data, .pinned], laidTests := true, laidLooks := .later }
def MarshalBackCardSaid : Prop := Claim7.holds Tryz.pinned (.plain (OpenSpec.ofChange marshalBackSpec)) marshalBackCard

/-- THE TIED CARD OF 'cabochonlaw29.MarshalDumps'. -/
def marshalDumpsCard : Claim7 := { stood := { row := marshalDumpsRow, standIns := [], harness := (true, "92e2ed60dd5b2613fe6e0d172a7e2bd0782f276a49ab098c444f4227433a6c5a"), looks := false }, kinds := [], alts := [], laidByText := true, laidKinds := [.data, .pinned], laidTests := true, laidLooks := .later }
def MarshalDumpsCardSaid : Prop := Claim7.holds Tryz.pinned (.plain (OpenSpec.ofChange marshalDumpsSpec)) marshalDumpsCard

/-- THE TIED CARD OF 'cabochonlaw29.MarshalCut'. -/
def marshalCutCard : Claim7 := { stood := { row := marshalCutRow, standIns := [], harness := (true, "92e2ed60dd5b2613fe6e0d172a7e2bd0782f276a49ab098c444f4227433a6c5a"), looks := false }, kinds := [], alts := [], laidByText := true, laidKinds := [.data, .pinned], laidTests := true, laidLooks := .later }
def MarshalCutCardSaid : Prop := Claim7.holds Tryz.pinned (.plain (OpenSpec.ofChange marshalCutSpec)) marshalCutCard

/-- THE TIED CARD OF 'cabochonlaw29.MarshalFull'. -/
def marshalFullCard : Claim7 := { stood := { row := marshalFullRow, standIns := [], harness := (true, "92e2ed60dd5b2613fe6e0d172a7e2bd0782f276a49ab098c444f4227433a6c5a"), looks := false }, kinds := [], alts := [], laidByText := true, laidKinds := [.data, .pinned], laidTests := true, laidLooks := .later }
def MarshalFullCardSaid : Prop := Claim7.holds Tryz.pinned (.plain (OpenSpec.ofChange marshalFullSpec)) marshalFullCard

/-- THE TIED CARD OF 'cabochonlaw29.MarshalDeep'. -/
def marshalDeepCard : Claim7 := { stood := { row := marshalDeepRow, standIns := [], harness := (true, "92e2ed60dd5b2613fe6e0d172a7e2bd0782f276a49ab098c444f4227433a6c5a"), looks := false }, kinds := [], alts := [], laidByText := true, laidKinds := [.data, .pinned], laidTests := true, laidLooks := .later }
def MarshalDeepCardSaid : Prop := Claim7.holds Tryz.pinned (.plain (OpenSpec.ofChange marshalDeepSpec)) marshalDeepCard

/-- THE TIED CARD OF 'cabochonlaw29.MarshalShares'. -/
def marshalSharesCard : Claim7 := { stood := { row := marshalSharesRow, standIns := [], harness := (true, "92e2ed60dd5b2613fe6e0d172a7e2bd0782f276a49ab098c444f4227433a6c5a"), looks := false }, kinds := [], alts := [], laidByText := true, laidKinds := [.data, .pinned], laidTests := true, laidLooks := .later }
def MarshalSharesCardSaid : Prop := Claim7.holds Tryz.pinned (.plain (OpenSpec.ofChange marshalSharesSpec)) marshalSharesCard

/-- THE TIED CARD OF 'cabochonlaw29.MarshalLoads'. -/
def marshalLoadsCard : Claim7 := { stood := { row := marshalLoadsRow, standIns := [], harness := (true, "92e2ed60dd5b2613fe6e0d172a7e2bd0782f276a49ab098c444f4227433a6c5a"), looks := false }, kinds := [], alts := [], laidByText := true, laidKinds := [.data, .pinned], laidTests := true, laidLooks := .later }
def MarshalLoadsCardSaid : Prop := Claim7.holds Tryz.pinned (.plain (OpenSpec.ofChange marshalLoadsSpec)) marshalLoadsCard

/-- THE TIED CARD OF 'cabochonlaw29.MarshalBits'. -/
def marshalBitsCard : Claim7 := { stood := { row := marshalBitsRow, standIns := [], harness := (true, "92e2ed60dd5b2613fe6e0d172a7e2bd0782f276a49ab098c444f4227433a6c5a"), looks := false }, kinds := [], alts := [], laidByText := true, laidKinds := [.data, .pinned], laidTests := true, laidLooks := .later }
def MarshalBitsCardSaid : Prop := Claim7.holds Tryz.pinned (.plain (OpenSpec.ofChange marshalBitsSpec)) marshalBitsCard

/-- THE SECOND FORM's CARD OF 'cabochonlaw29.MarshalChanged'. -/
def marshalChangedUptoCard : Claim7 := { stood := { row := marshalChangedUptoRow, standIns := [], harness := (true, "92e2ed60dd5b2613fe6e0d172a7e2bd0782f276a49ab098c444f4227433a6c5a"), looks := false }, kinds := [], alts := [], laidByText := true, laidKinds := [.data, .pinned], laidTests := true, laidLooks := .later }
def MarshalChangedUptoCardSaid : Prop := Claim7.holds Tryz.pinned (.plain (OpenSpec.upto marshalChangedSpec)) marshalChangedUptoCard

/-- THE SECOND FORM's CARD OF 'cabochonlaw29.MarshalBack'. -/
def marshalBackUptoCard : Claim7 := { stood := { row := marshalBackUptoRow, standIns := [], harness := (true, "92e2ed60dd5b2613fe6e0d172a7e2bd0782f276a49ab098c444f4227433a6c5a"), looks := false }, kinds := [], alts := [], laidByText := true, laidKinds := [.data, .data, .data, .data, .pinned], laidTests := true, laidLooks := .later }
def MarshalBackUptoCardSaid : Prop := Claim7.holds Tryz.pinned (.plain (OpenSpec.upto marshalBackSpec)) marshalBackUptoCard

/-- THE SECOND FORM's CARD OF 'cabochonlaw29.MarshalDumps'. -/
def marshalDumpsUptoCard : Claim7 := { stood := { row := marshalDumpsUptoRow, standIns := [], harness := (true, "92e2ed60dd5b2613fe6e0d172a7e2bd0782f276a49ab098c444f4227433a6c5a"), looks := false }, kinds := [], alts := [], laidByText := true, laidKinds := [.data, .pinned], laidTests := true, laidLooks := .later }
def MarshalDumpsUptoCardSaid : Prop := Claim7.holds Tryz.pinned (.plain (OpenSpec.upto marshalDumpsSpec)) marshalDumpsUptoCard

/-- THE SECOND FORM's CARD OF 'cabochonlaw29.MarshalCut'. -/
def marshalCutUptoCard : Claim7 := { stood := { row := marshalCutUptoRow, standIns := [], harness := (true, "92e2ed60dd5b2613fe6e0d172a7e2bd0782f276a49ab098c444f4227433a6c5a"), looks := false }, kinds := [], alts := [], laidByText := true, laidKinds := [.data, .pinned], laidTests := true, laidLooks := .later }
def MarshalCutUptoCardSaid : Prop := Claim7.holds Tryz.pinned (.plain (OpenSpec.upto marshalCutSpec)) marshalCutUptoCard

/-- THE SECOND FORM's CARD OF 'cabochonlaw29.MarshalFull'. -/
def marshalFullUptoCard : Claim7 := { stood := { row := marshalFullUptoRow, standIns := [], harness := (true, "92e2ed60dd5b2613fe6e0d172a7e2bd0782f276a49ab098c444f4227433a6c5a"), looks := false }, kinds := [], alts := [], laidByText := true, laidKinds := [.data, .pinned], laidTests := true, laidLooks := .later }
def MarshalFullUptoCardSaid : Prop := Claim7.holds Tryz.pinned (.plain (OpenSpec.upto marshalFullSpec)) marshalFullUptoCard

/-- THE SECOND FORM's CARD OF 'cabochonlaw29.MarshalDeep'. -/
def marshalDeepUptoCard : Claim7 := { stood := { row := marshalDeepUptoRow, standIns := [], harness := (true, "92e2ed60dd5b2613fe6e0d172a7e2bd0782f276a49ab098c444f4227433a6c5a"), looks := false }, kinds := [], alts := [], laidByText := true, laidKinds := [.data, .pinned], laidTests := true, laidLooks := .later }
def MarshalDeepUptoCardSaid : Prop := Claim7.holds Tryz.pinned (.plain (OpenSpec.upto marshalDeepSpec)) marshalDeepUptoCard

/-- THE SECOND FORM's CARD OF 'cabochonlaw29.MarshalShares'. -/
def marshalSharesUptoCard : Claim7 := { stood := { row := marshalSharesUptoRow, standIns := [], harness := (true, "92e2ed60dd5b2613fe6e0d172a7e2bd0782f276a49ab098c444f4227433a6c5a"), looks := false }, kinds := [], alts := [], laidByText := true, laidKinds := [.data, .pinned], laidTests := true, laidLooks := .later }
def MarshalSharesUptoCardSaid : Prop := Claim7.holds Tryz.pinned (.plain (OpenSpec.upto marshalSharesSpec)) marshalSharesUptoCard

/-- THE SECOND FORM's CARD OF 'cabochonlaw29.MarshalLoads'. -/
def marshalLoadsUptoCard : Claim7 := { stood := { row := marshalLoadsUptoRow, standIns := [], harness := (true, "92e2ed60dd5b2613fe6e0d172a7e2bd0782f276a49ab098c444f4227433a6c5a"), looks := false }, kinds := [], alts := [], laidByText := true, laidKinds := [.data, .pinned], laidTests := true, laidLooks := .later }
def MarshalLoadsUptoCardSaid : Prop := Claim7.holds Tryz.pinned (.plain (OpenSpec.upto marshalLoadsSpec)) marshalLoadsUptoCard

/-- THE SECOND FORM's CARD OF 'cabochonlaw29.MarshalBits'. -/
def marshalBitsUptoCard : Claim7 := { stood := { row := marshalBitsUptoRow, standIns := [], harness := (true, "92e2ed60dd5b2613fe6e0d172a7e2bd0782f276a49ab098c444f4227433a6c5a"), looks := false }, kinds := [], alts := [], laidByText := true, laidKinds := [.data, .pinned], laidTests := true, laidLooks := .later }
def MarshalBitsUptoCardSaid : Prop := Claim7.holds Tryz.pinned (.plain (OpenSpec.upto marshalBitsSpec)) marshalBitsUptoCard
end Rows
end Go.Proofs.YtgogonnnojcioaaGreatDoor

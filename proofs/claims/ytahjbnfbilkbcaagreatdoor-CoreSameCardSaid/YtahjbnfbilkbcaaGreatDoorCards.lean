/-
  DERIVED. GIVEN WITH THE SEED: THE CARDS: each row of YtahjbnfbilkbcaaGreatDoorRows.lean that lists a variable, with what it lists TIED to the program's text (the seventh form; the later family's looks); each row that meets fmt, with fmt's text TOLD by the authors' own Lean function (tested against real Go, not proved from fmt's source: count such statements apart). THE CARD IS WHAT COUNTS. Prove the row's statement (the work); the ties are given (YtahjbnfbilkbcaaGreatDoorTie.lean); close each card by the builder's one call (the guide's Derived/Test/ToyasCard.lean, 'card_holds'). Laid BY PROGRAM, IN A SANDBOX (cutbox-door.mjs). By AI agents, Wed Nov 11 2026. No macro, syntax, notation, axiom, sorry.
-/
import Derived.Test.YtahjbnfbilkbcaaGreatDoorRows
import GoSem.ClaimSeven
namespace Go.Proofs.YtahjbnfbilkbcaaGreatDoor
namespace Rows

/-- THE TIED CARD OF 'cabochonlaw21.CoreChecks'. -/
def coreChecksCard : Claim7 := { stood := { row := coreChecksRow, standIns := [], harness := (true, "8c46145c91ca01cbbdc693332ca60911ae9d66bc5eabc04f89f5f042d1271d1b"), looks := true }, kinds := [], alts := [], laidByText := true, laidKinds := [.data, .data, .data], laidTests := true, laidLooks := .later }
def CoreChecksCardSaid : Prop := Claim7.holds Tryz.pinned (.plain (OpenSpec.ofChange coreChecksSpec)) coreChecksCard

/-- THE TIED CARD OF 'cabochonlaw21.CoreTexts'. -/
def coreTextsCard : Claim7 := { stood := { row := coreTextsRow, standIns := [], harness := (true, "8c46145c91ca01cbbdc693332ca60911ae9d66bc5eabc04f89f5f042d1271d1b"), looks := true }, kinds := [], alts := [], laidByText := true, laidKinds := [.data, .data, .data], laidTests := true, laidLooks := .later }
def CoreTextsCardSaid : Prop := Claim7.holds Tryz.pinned (.plain (OpenSpec.ofChange coreTextsSpec)) coreTextsCard

/-- THE TIED CARD OF 'cabochonlaw21.CoreParts'. -/
def corePartsCard : Claim7 := { stood := { row := corePartsRow, standIns := [], harness := (true, "8c46145c91ca01cbbdc693332ca60911ae9d66bc5eabc04f89f5f042d1271d1b"), looks := true }, kinds := [], alts := [], laidByText := true, laidKinds := [.data, .data, .data], laidTests := true, laidLooks := .later }
def CorePartsCardSaid : Prop := Claim7.holds Tryz.pinned (.plain (OpenSpec.ofChange corePartsSpec)) corePartsCard

/-- THE TIED CARD OF 'cabochonlaw21.CoreEquivalence'. -/
def coreEquivalenceCard : Claim7 := { stood := { row := coreEquivalenceRow, standIns := [], harness := (true, "8c46145c91ca01cbbdc693332ca60911ae9d66bc5eabc04f89f5f042d1271d1b"), looks := true }, kinds := [], alts := [], laidByText := true, laidKinds := [.data, .data, .data], laidTests := true, laidLooks := .later }
def CoreEquivalenceCardSaid : Prop := Claim7.holds Tryz.pinned (.plain (OpenSpec.ofChange coreEquivalenceSpec)) coreEquivalenceCard

/-- THE TIED CARD OF 'cabochonlaw21.CoreEquals'. -/
def coreEqualsCard : Claim7 := { stood := { row := coreEqualsRow, standIns := [], harness := (true, "8c46145c91ca01cbbdc693332ca60911ae9d66bc5eabc04f89f5f042d1271d1b"), looks := true }, kinds := [], alts := [], laidByText := true, laidKinds := [.data, .data, .data], laidTests := true, laidLooks := .later }
def CoreEqualsCardSaid : Prop := Claim7.holds Tryz.pinned (.plain (OpenSpec.ofChange coreEqualsSpec)) coreEqualsCard

/-- THE TIED CARD OF 'cabochonlaw21.CoreCopies'. -/
def coreCopiesCard : Claim7 := { stood := { row := coreCopiesRow, standIns := [], harness := (true, "8c46145c91ca01cbbdc693332ca60911ae9d66bc5eabc04f89f5f042d1271d1b"), looks := true }, kinds := [], alts := [], laidByText := true, laidKinds := [.data, .data, .data], laidTests := true, laidLooks := .later }
def CoreCopiesCardSaid : Prop := Claim7.holds Tryz.pinned (.plain (OpenSpec.ofChange coreCopiesSpec)) coreCopiesCard

/-- THE TIED CARD OF 'cabochonlaw21.CoreCompares'. -/
def coreComparesCard : Claim7 := { stood := { row := coreComparesRow, standIns := [], harness := (true, "8c46145c91ca01cbbdc693332ca60911ae9d66bc5eabc04f89f5f042d1271d1b"), looks := true }, kinds := [], alts := [], laidByText := true, laidKinds := [.data, .data, .data], laidTests := true, laidLooks := .later }
def CoreComparesCardSaid : Prop := Claim7.holds Tryz.pinned (.plain (OpenSpec.ofChange coreComparesSpec)) coreComparesCard

/-- THE TIED CARD OF 'cabochonlaw21.CoreReaches'. -/
def coreReachesCard : Claim7 := { stood := { row := coreReachesRow, standIns := [], harness := (true, "8c46145c91ca01cbbdc693332ca60911ae9d66bc5eabc04f89f5f042d1271d1b"), looks := true }, kinds := [], alts := [], laidByText := true, laidKinds := [.data, .data, .data], laidTests := true, laidLooks := .later }
def CoreReachesCardSaid : Prop := Claim7.holds Tryz.pinned (.plain (OpenSpec.ofChange coreReachesSpec)) coreReachesCard

/-- THE TIED CARD OF 'cabochonlaw21.CoreOrder'. -/
def coreOrderCard : Claim7 := { stood := { row := coreOrderRow, standIns := [], harness := (true, "8c46145c91ca01cbbdc693332ca60911ae9d66bc5eabc04f89f5f042d1271d1b"), looks := true }, kinds := [], alts := [], laidByText := true, laidKinds := [.data, .data, .data], laidTests := true, laidLooks := .later }
def CoreOrderCardSaid : Prop := Claim7.holds Tryz.pinned (.plain (OpenSpec.ofChange coreOrderSpec)) coreOrderCard

/-- THE TIED CARD OF 'cabochonlaw21.CoreJoined'. -/
def coreJoinedCard : Claim7 := { stood := { row := coreJoinedRow, standIns := [], harness := (true, "8c46145c91ca01cbbdc693332ca60911ae9d66bc5eabc04f89f5f042d1271d1b"), looks := true }, kinds := [], alts := [], laidByText := true, laidKinds := [.data, .data, .data], laidTests := true, laidLooks := .later }
def CoreJoinedCardSaid : Prop := Claim7.holds Tryz.pinned (.plain (OpenSpec.ofChange coreJoinedSpec)) coreJoinedCard

/-- THE TIED CARD OF 'cabochonlaw21.CoreSame'. -/
def coreSameCard : Claim7 := { stood := { row := coreSameRow, standIns := [], harness := (true, "8c46145c91ca01cbbdc693332ca60911ae9d66bc5eabc04f89f5f042d1271d1b"), looks := true }, kinds := [], alts := [], laidByText := true, laidKinds := [.data, .data, .data], laidTests := true, laidLooks := .later }
def CoreSameCardSaid : Prop := Claim7.holds Tryz.pinned (.plain (OpenSpec.ofChange coreSameSpec)) coreSameCard

/-- THE SECOND FORM's CARD OF 'cabochonlaw21.CoreChecks'. -/
def coreChecksUptoCard : Claim7 := { stood := { row := coreChecksUptoRow, standIns := [], harness := (true, "8c46145c91ca01cbbdc693332ca60911ae9d66bc5eabc04f89f5f042d1271d1b"), looks := true }, kinds := [], alts := [], laidByText := true, laidKinds := [.data, .data, .data], laidTests := true, laidLooks := .later }
def CoreChecksUptoCardSaid : Prop := Claim7.holds Tryz.pinned (.plain (OpenSpec.upto coreChecksSpec)) coreChecksUptoCard

/-- THE SECOND FORM's CARD OF 'cabochonlaw21.CoreTexts'. -/
def coreTextsUptoCard : Claim7 := { stood := { row := coreTextsUptoRow, standIns := [], harness := (true, "8c46145c91ca01cbbdc693332ca60911ae9d66bc5eabc04f89f5f042d1271d1b"), looks := true }, kinds := [], alts := [], laidByText := true, laidKinds := [.data, .data, .data], laidTests := true, laidLooks := .later }
def CoreTextsUptoCardSaid : Prop := Claim7.holds Tryz.pinned (.plain (OpenSpec.upto coreTextsSpec)) coreTextsUptoCard

/-- THE SECOND FORM's CARD OF 'cabochonlaw21.CoreParts'. -/
def corePartsUptoCard : Claim7 := { stood := { row := corePartsUptoRow, standIns := [], harness := (true, "8c46145c91ca01cbbdc693332ca60911ae9d66bc5eabc04f89f5f042d1271d1b"), looks := true }, kinds := [], alts := [], laidByText := true, laidKinds := [.data, .data, .data], laidTests := true, laidLooks := .later }
def CorePartsUptoCardSaid : Prop := Claim7.holds Tryz.pinned (.plain (OpenSpec.upto corePartsSpec)) corePartsUptoCard

/-- THE SECOND FORM's CARD OF 'cabochonlaw21.CoreEquivalence'. -/
def coreEquivalenceUptoCard : Claim7 := { stood := { row := coreEquivalenceUptoRow, standIns := [], harness := (true, "8c46145c91ca01cbbdc693332ca60911ae9d66bc5eabc04f89f5f042d1271d1b"), looks := true }, kinds := [], alts := [], laidByText := true, laidKinds := [.data, .data, .data], laidTests := true, laidLooks := .later }
def CoreEquivalenceUptoCardSaid : Prop := Claim7.holds Tryz.pinned (.plain (OpenSpec.upto coreEquivalenceSpec)) coreEquivalenceUptoCard

/-- THE SECOND FORM's CARD OF 'cabochonlaw21.CoreEquals'. -/
def coreEqualsUptoCard : Claim7 := { stood := { row := coreEqualsUptoRow, standIns := [], harness := (true, "8c46145c91ca01cbbdc693332ca60911ae9d66bc5eabc04f89f5f042d1271d1b"), looks := true }, kinds := [], alts := [], laidByText := true, laidKinds := [.data, .data, .data], laidTests := true, laidLooks := .later }
def CoreEqualsUptoCardSaid : Prop := Claim7.holds Tryz.pinned (.plain (OpenSpec.upto coreEqualsSpec)) coreEqualsUptoCard

/-- THE SECOND FORM's CARD OF 'cabochonlaw21.CoreCopies'. -/
def coreCopiesUptoCard : Claim7 := { stood := { row := coreCopiesUptoRow, standIns := [], harness := (true, "8c46145c91ca01cbbdc693332ca60911ae9d66bc5eabc04f89f5f042d1271d1b"), looks := true }, kinds := [], alts := [], laidByText := true, laidKinds := [.data, .data, .data], laidTests := true, laidLooks := .later }
def CoreCopiesUptoCardSaid : Prop := Claim7.holds Tryz.pinned (.plain (OpenSpec.upto coreCopiesSpec)) coreCopiesUptoCard

/-- THE SECOND FORM's CARD OF 'cabochonlaw21.CoreCompares'. -/
def coreComparesUptoCard : Claim7 := { stood := { row := coreComparesUptoRow, standIns := [], harness := (true, "8c46145c91ca01cbbdc693332ca60911ae9d66bc5eabc04f89f5f042d1271d1b"), looks := true }, kinds := [], alts := [], laidByText := true, laidKinds := [.data, .data, .data], laidTests := true, laidLooks := .later }
def CoreComparesUptoCardSaid : Prop := Claim7.holds Tryz.pinned (.plain (OpenSpec.upto coreComparesSpec)) coreComparesUptoCard

/-- THE SECOND FORM's CARD OF 'cabochonlaw21.CoreReaches'. -/
def coreReachesUptoCard : Claim7 := { stood := { row := coreReachesUptoRow, standIns := [], harness := (true, "8c46145c91ca01cbbdc693332ca60911ae9d66bc5eabc04f89f5f042d1271d1b"), looks := true }, kinds := [], alts := [], laidByText := true, laidKinds := [.data, .data, .data], laidTests := true, laidLooks := .later }
def CoreReachesUptoCardSaid : Prop := Claim7.holds Tryz.pinned (.plain (OpenSpec.upto coreReachesSpec)) coreReachesUptoCard

/-- THE SECOND FORM's CARD OF 'cabochonlaw21.CoreOrder'. -/
def coreOrderUptoCard : Claim7 := { stood := { row := coreOrderUptoRow, standIns := [], harness := (true, "8c46145c91ca01cbbdc693332ca60911ae9d66bc5eabc04f89f5f042d1271d1b"), looks := true }, kinds := [], alts := [], laidByText := true, laidKinds := [.data, .data, .data], laidTests := true, laidLooks := .later }
def CoreOrderUptoCardSaid : Prop := Claim7.holds Tryz.pinned (.plain (OpenSpec.upto coreOrderSpec)) coreOrderUptoCard

/-- THE SECOND FORM's CARD OF 'cabochonlaw21.CoreJoined'. -/
def coreJoinedUptoCard : Claim7 := { stood := { row := coreJoinedUptoRow, standIns := [], harness := (true, "8c46145c91ca01cbbdc693332ca60911ae9d66bc5eabc04f89f5f042d1271d1b"), looks := true }, kinds := [], alts := [], laidByText := true, laidKinds := [.data, .data, .data], laidTests := true, laidLooks := .later }
def CoreJoinedUptoCardSaid : Prop := Claim7.holds Tryz.pinned (.plain (OpenSpec.upto coreJoinedSpec)) coreJoinedUptoCard

/-- THE SECOND FORM's CARD OF 'cabochonlaw21.CoreSame'. -/
def coreSameUptoCard : Claim7 := { stood := { row := coreSameUptoRow, standIns := [], harness := (true, "8c46145c91ca01cbbdc693332ca60911ae9d66bc5eabc04f89f5f042d1271d1b"), looks := true }, kinds := [], alts := [], laidByText := true, laidKinds := [.data, .data, .data], laidTests := true, laidLooks := .later }
def CoreSameUptoCardSaid : Prop := Claim7.holds Tryz.pinned (.plain (OpenSpec.upto coreSameSpec)) coreSameUptoCard
end Rows
end Go.Proofs.YtahjbnfbilkbcaaGreatDoor

/-
  DERIVED. GIVEN WITH THE SEED: THE CARDS: each row of YteejemdibfbccaaDoorRows.lean that lists a variable, with what it lists TIED to the program's text (the seventh form; the later family's looks); each row that meets fmt, with fmt's text TOLD by the authors' own Lean function (tested against real Go, not proved from fmt's source: count such statements apart). THE CARD IS WHAT COUNTS. Prove the row's statement (the work); the ties are given (YteejemdibfbccaaDoorTie.lean); close each card by the builder's one call (the guide's Derived/Test/ToyasCard.lean, 'card_holds'). Laid BY PROGRAM, IN A SANDBOX (cutbox-door.mjs). By AI agents, Wed Nov 11 2026. No macro, syntax, notation, axiom, sorry.
-/
import Derived.Test.YteejemdibfbccaaDoorRows
import GoSem.ClaimSeven
namespace Go.Proofs.YteejemdibfbccaaDoor
namespace Rows

/-- THE TIED CARD OF 'cabochonlaw14.ScanCount'. -/
def scanCountCard : Claim7 := { stood := { row := scanCountRow, standIns := [], harness := (true, "29d5a38514b6d36cd327fbc0288b099aab2f6e94237d213b480f59913676cde1"), looks := true }, kinds := [], alts := [], laidByText := true, laidKinds := [.data, .listed, .data, .pinned], laidTests := true, laidLooks := .later }
def ScanCountCardSaid : Prop := Claim7.holds Tryd.pinned (.plain (OpenSpec.ofChange scanCountSpec)) scanCountCard

/-- THE TIED CARD OF 'cabochonlaw14.ScanLong'. -/
def scanLongCard : Claim7 := { stood := { row := scanLongRow, standIns := [], harness := (true, "29d5a38514b6d36cd327fbc0288b099aab2f6e94237d213b480f59913676cde1"), looks := true }, kinds := [], alts := [], laidByText := true, laidKinds := [.data, .listed, .data, .pinned], laidTests := true, laidLooks := .later }
def ScanLongCardSaid : Prop := Claim7.holds Tryd.pinned (.plain (OpenSpec.ofChange scanLongSpec)) scanLongCard

/-- THE TIED CARD OF 'cabochonlaw14.ScanStarts'. -/
def scanStartsCard : Claim7 := { stood := { row := scanStartsRow, standIns := [], harness := (true, "29d5a38514b6d36cd327fbc0288b099aab2f6e94237d213b480f59913676cde1"), looks := true }, kinds := [], alts := [], laidByText := true, laidKinds := [.data, .listed, .data, .pinned], laidTests := true, laidLooks := .later }
def ScanStartsCardSaid : Prop := Claim7.holds Tryd.pinned (.plain (OpenSpec.ofChange scanStartsSpec)) scanStartsCard

/-- THE TIED CARD OF 'cabochonlaw14.ScanSame'. -/
def scanSameCard : Claim7 := { stood := { row := scanSameRow, standIns := [], harness := (true, "29d5a38514b6d36cd327fbc0288b099aab2f6e94237d213b480f59913676cde1"), looks := true }, kinds := [], alts := [], laidByText := true, laidKinds := [.data, .listed, .data, .pinned], laidTests := true, laidLooks := .later }
def ScanSameCardSaid : Prop := Claim7.holds Tryd.pinned (.plain (OpenSpec.ofChange scanSameSpec)) scanSameCard

/-- THE TIED CARD OF 'cabochonlaw14.ScanQuiet'. -/
def scanQuietCard : Claim7 := { stood := { row := scanQuietRow, standIns := [], harness := (true, "29d5a38514b6d36cd327fbc0288b099aab2f6e94237d213b480f59913676cde1"), looks := true }, kinds := [], alts := [], laidByText := true, laidKinds := [.data, .listed, .data, .pinned], laidTests := true, laidLooks := .later }
def ScanQuietCardSaid : Prop := Claim7.holds Tryd.pinned (.plain (OpenSpec.ofChange scanQuietSpec)) scanQuietCard

/-- THE TIED CARD OF 'cabochonlaw14.ScanJoins'. -/
def scanJoinsCard : Claim7 := { stood := { row := scanJoinsRow, standIns := [], harness := (true, "29d5a38514b6d36cd327fbc0288b099aab2f6e94237d213b480f59913676cde1"), looks := true }, kinds := [], alts := [], laidByText := true, laidKinds := [.data, .listed, .data, .pinned], laidTests := true, laidLooks := .later }
def ScanJoinsCardSaid : Prop := Claim7.holds Tryd.pinned (.plain (OpenSpec.ofChange scanJoinsSpec)) scanJoinsCard

/-- THE TIED CARD OF 'cabochonlaw14.ScanWords'. -/
def scanWordsCard : Claim7 := { stood := { row := scanWordsRow, standIns := [], harness := (true, "29d5a38514b6d36cd327fbc0288b099aab2f6e94237d213b480f59913676cde1"), looks := true }, kinds := [], alts := [], laidByText := true, laidKinds := [.data, .listed, .data, .pinned], laidTests := true, laidLooks := .later }
def ScanWordsCardSaid : Prop := Claim7.holds Tryd.pinned (.plain (OpenSpec.ofChange scanWordsSpec)) scanWordsCard

/-- THE SECOND FORM's CARD OF 'cabochonlaw14.ScanCount'. -/
def scanCountUptoCard : Claim7 := { stood := { row := scanCountUptoRow, standIns := [], harness := (true, "29d5a38514b6d36cd327fbc0288b099aab2f6e94237d213b480f59913676cde1"), looks := true }, kinds := [], alts := [], laidByText := true, laidKinds := [.data, .listed, .data, .pinned], laidTests := true, laidLooks := .later }
def ScanCountUptoCardSaid : Prop := Claim7.holds Tryd.pinned (.plain (OpenSpec.upto scanCountSpec)) scanCountUptoCard

/-- THE SECOND FORM's CARD OF 'cabochonlaw14.ScanLong'. -/
def scanLongUptoCard : Claim7 := { stood := { row := scanLongUptoRow, standIns := [], harness := (true, "29d5a38514b6d36cd327fbc0288b099aab2f6e94237d213b480f59913676cde1"), looks := true }, kinds := [], alts := [], laidByText := true, laidKinds := [.data, .listed, .data, .pinned], laidTests := true, laidLooks := .later }
def ScanLongUptoCardSaid : Prop := Claim7.holds Tryd.pinned (.plain (OpenSpec.upto scanLongSpec)) scanLongUptoCard

/-- THE SECOND FORM's CARD OF 'cabochonlaw14.ScanStarts'. -/
def scanStartsUptoCard : Claim7 := { stood := { row := scanStartsUptoRow, standIns := [], harness := (true, "29d5a38514b6d36cd327fbc0288b099aab2f6e94237d213b480f59913676cde1"), looks := true }, kinds := [], alts := [], laidByText := true, laidKinds := [.data, .listed, .data, .pinned], laidTests := true, laidLooks := .later }
def ScanStartsUptoCardSaid : Prop := Claim7.holds Tryd.pinned (.plain (OpenSpec.upto scanStartsSpec)) scanStartsUptoCard

/-- THE SECOND FORM's CARD OF 'cabochonlaw14.ScanSame'. -/
def scanSameUptoCard : Claim7 := { stood := { row := scanSameUptoRow, standIns := [], harness := (true, "29d5a38514b6d36cd327fbc0288b099aab2f6e94237d213b480f59913676cde1"), looks := true }, kinds := [], alts := [], laidByText := true, laidKinds := [.data, .listed, .data, .pinned], laidTests := true, laidLooks := .later }
def ScanSameUptoCardSaid : Prop := Claim7.holds Tryd.pinned (.plain (OpenSpec.upto scanSameSpec)) scanSameUptoCard

/-- THE SECOND FORM's CARD OF 'cabochonlaw14.ScanQuiet'. -/
def scanQuietUptoCard : Claim7 := { stood := { row := scanQuietUptoRow, standIns := [], harness := (true, "29d5a38514b6d36cd327fbc0288b099aab2f6e94237d213b480f59913676cde1"), looks := true }, kinds := [], alts := [], laidByText := true, laidKinds := [.data, .listed, .data, .pinned], laidTests := true, laidLooks := .later }
def ScanQuietUptoCardSaid : Prop := Claim7.holds Tryd.pinned (.plain (OpenSpec.upto scanQuietSpec)) scanQuietUptoCard

/-- THE SECOND FORM's CARD OF 'cabochonlaw14.ScanJoins'. -/
def scanJoinsUptoCard : Claim7 := { stood := { row := scanJoinsUptoRow, standIns := [], harness := (true, "29d5a38514b6d36cd327fbc0288b099aab2f6e94237d213b480f59913676cde1"), looks := true }, kinds := [], alts := [], laidByText := true, laidKinds := [.data, .listed, .data, .pinned], laidTests := true, laidLooks := .later }
def ScanJoinsUptoCardSaid : Prop := Claim7.holds Tryd.pinned (.plain (OpenSpec.upto scanJoinsSpec)) scanJoinsUptoCard

/-- THE SECOND FORM's CARD OF 'cabochonlaw14.ScanWords'. -/
def scanWordsUptoCard : Claim7 := { stood := { row := scanWordsUptoRow, standIns := [], harness := (true, "29d5a38514b6d36cd327fbc0288b099aab2f6e94237d213b480f59913676cde1"), looks := true }, kinds := [], alts := [], laidByText := true, laidKinds := [.data, .listed, .data, .pinned], laidTests := true, laidLooks := .later }
def ScanWordsUptoCardSaid : Prop := Claim7.holds Tryd.pinned (.plain (OpenSpec.upto scanWordsSpec)) scanWordsUptoCard
end Rows
end Go.Proofs.YteejemdibfbccaaDoor

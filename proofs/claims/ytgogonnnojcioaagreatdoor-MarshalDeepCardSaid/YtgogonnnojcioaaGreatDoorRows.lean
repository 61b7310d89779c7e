/-
  NARROWER THAN 'FOR EVERY INPUT', by the rows' own cells (each row's printed sentence says how): MarshalChanged: laid · MarshalBack: laid · MarshalDumps: laid · MarshalCut: laid · MarshalFull: laid · MarshalDeep: laid · MarshalShares: laid · MarshalLoads: laid · MarshalBits: laid.
  DERIVED. THE GIVEN ROWS OF THIS SEAT. 9 by the template 'for every input the law returns true; each argument reads behind the call as it read before'; 0 by the template 'total and deterministic' (their statements: YtgogonnnojcioaaGreatDoorTotals.lean).
  GIVEN WITH THE SEED: the statements are not yours to turn. If you find one false, say at which input.
  Laid BY PROGRAM, IN A SANDBOX (cutbox-rows.mjs): the forced cells as the released guide's own fill.sh prints them over the translation 5f53cdeaa9ac51cd… (all of the seat's roots in one cut). By AI agents, Wed Nov 11 2026. No macro, syntax, notation, axiom, sorry.
-/
import Derived.Test.YtgogonnnojcioaaGreatDoorChecked
import GoSem.PinnedTables
import GoSem.Claim
import GoSem.ClaimJoined
import GoSem.ClaimMapViews
import Derived.JoinedTies
import Derived.KernelRfl
namespace Go.Proofs.YtgogonnnojcioaaGreatDoor
/- THE CELL 'sum', in the pinned program and in every row, IS THE sha256 OF THE DUMP (.gsa) THAT YtgogonnnojcioaaGreatDoorProg.lean LOADS. Nothing in Lean hashes anything: it is a label: what it is worth is what the hold of that sum in a sandbox is worth. -/
noncomputable def Tryz.pinned : Pinned := { name := "ytgogonnnojcioaagreatdoor", sum := "5f53cdeaa9ac51cd638d1455a3da2cb82731934eafb31101e614797b232cf932", checked := Tryz.checked }
namespace Rows
def none {H : Type} : Left H := { results := [], args := [] }

/- WHAT THE LISTED PACKAGE-LEVEL VARIABLES READ AS WHEN THE CALL BEGINS. Each datum BY PROGRAM (the guide's laid-datum.mjs) off the statement by which the dump's own 'gosem.cut.vars' lays the variable. In a bare row this is a premise. The card (YtgogonnnojcioaaGreatDoorCards.lean) ties it to the program's text. -/
def laid_unicode_utf8_acceptRanges {H : Type} : DataW H := .agg [.agg [.lit (.int .u8 128), .lit (.int .u8 191)], .agg [.lit (.int .u8 160), .lit (.int .u8 191)], .agg [.lit (.int .u8 128), .lit (.int .u8 159)], .agg [.lit (.int .u8 144), .lit (.int .u8 191)], .agg [.lit (.int .u8 128), .lit (.int .u8 143)], .agg [.lit (.int .u8 0), .lit (.int .u8 0)], .agg [.lit (.int .u8 0), .lit (.int .u8 0)], .agg [.lit (.int .u8 0), .lit (.int .u8 0)], .agg [.lit (.int .u8 0), .lit (.int .u8 0)], .agg [.lit (.int .u8 0), .lit (.int .u8 0)], .agg [.lit (.int .u8 0), .lit (.int .u8 0)], .agg [.lit (.int .u8 0), .lit (.int .u8 0)], .agg [.lit (.int .u8 0), .lit (.int .u8 0)], .agg [.lit (.int .u8 0), .lit (.int .u8 0)], .agg [.lit (.int .u8 0), .lit (.int .u8 0)], .agg [.lit (.int .u8 0), .lit (.int .u8 0)]]
/-- One of Go's own tables, pinned by name: the form's constant. -/
def laid_unicode_utf8_first : DataW Unit := Go.Pinned.utf8First
def laid_math_bits_deBruijn32tab {H : Type} : DataW H := .agg [.lit (.int .u8 0), .lit (.int .u8 1), .lit (.int .u8 28), .lit (.int .u8 2), .lit (.int .u8 29), .lit (.int .u8 14), .lit (.int .u8 24), .lit (.int .u8 3), .lit (.int .u8 30), .lit (.int .u8 22), .lit (.int .u8 20), .lit (.int .u8 15), .lit (.int .u8 25), .lit (.int .u8 17), .lit (.int .u8 4), .lit (.int .u8 8), .lit (.int .u8 31), .lit (.int .u8 27), .lit (.int .u8 13), .lit (.int .u8 23), .lit (.int .u8 21), .lit (.int .u8 19), .lit (.int .u8 16), .lit (.int .u8 7), .lit (.int .u8 26), .lit (.int .u8 12), .lit (.int .u8 18), .lit (.int .u8 6), .lit (.int .u8 11), .lit (.int .u8 5), .lit (.int .u8 10), .lit (.int .u8 9)]
def laid_math_bits_deBruijn64tab {H : Type} : DataW H := .agg [.lit (.int .u8 0), .lit (.int .u8 1), .lit (.int .u8 56), .lit (.int .u8 2), .lit (.int .u8 57), .lit (.int .u8 49), .lit (.int .u8 28), .lit (.int .u8 3), .lit (.int .u8 61), .lit (.int .u8 58), .lit (.int .u8 42), .lit (.int .u8 50), .lit (.int .u8 38), .lit (.int .u8 29), .lit (.int .u8 17), .lit (.int .u8 4), .lit (.int .u8 62), .lit (.int .u8 47), .lit (.int .u8 59), .lit (.int .u8 36), .lit (.int .u8 45), .lit (.int .u8 43), .lit (.int .u8 51), .lit (.int .u8 22), .lit (.int .u8 53), .lit (.int .u8 39), .lit (.int .u8 33), .lit (.int .u8 30), .lit (.int .u8 24), .lit (.int .u8 18), .lit (.int .u8 12), .lit (.int .u8 5), .lit (.int .u8 63), .lit (.int .u8 55), .lit (.int .u8 48), .lit (.int .u8 27), .lit (.int .u8 60), .lit (.int .u8 41), .lit (.int .u8 37), .lit (.int .u8 16), .lit (.int .u8 46), .lit (.int .u8 35), .lit (.int .u8 44), .lit (.int .u8 21), .lit (.int .u8 52), .lit (.int .u8 32), .lit (.int .u8 23), .lit (.int .u8 11), .lit (.int .u8 54), .lit (.int .u8 26), .lit (.int .u8 40), .lit (.int .u8 15), .lit (.int .u8 34), .lit (.int .u8 20), .lit (.int .u8 31), .lit (.int .u8 10), .lit (.int .u8 25), .lit (.int .u8 14), .lit (.int .u8 19), .lit (.int .u8 9), .lit (.int .u8 13), .lit (.int .u8 8), .lit (.int .u8 7), .lit (.int .u8 6)]
def laid_internal_strconv_uint64pow10 {H : Type} : DataW H := .agg [.lit (.int .u64 1), .lit (.int .u64 10), .lit (.int .u64 100), .lit (.int .u64 1000), .lit (.int .u64 10000), .lit (.int .u64 100000), .lit (.int .u64 1000000), .lit (.int .u64 10000000), .lit (.int .u64 100000000), .lit (.int .u64 1000000000), .lit (.int .u64 10000000000), .lit (.int .u64 100000000000), .lit (.int .u64 1000000000000), .lit (.int .u64 10000000000000), .lit (.int .u64 100000000000000), .lit (.int .u64 1000000000000000), .lit (.int .u64 10000000000000000), .lit (.int .u64 100000000000000000), .lit (.int .u64 1000000000000000000), .lit (.int .u64 10000000000000000000)]

/-- 'cabochonlaw29.MarshalChanged': WHATEVER THE INPUT: true; the input reads as it did. -/
def marshalChangedSpec : ChangeSpec := { name := "marshalChanged", fn := fun _ => fun
  | [d1, d2, d3] => { results := [.lit (.bool true)], args := [d1, d2, d3] }
  | _ => none }
def marshalChangedRow : OpenClaim := { program := "ytgogonnnojcioaagreatdoor", sum := "5f53cdeaa9ac51cd638d1455a3da2cb82731934eafb31101e614797b232cf932", func := "cabochon/cabochonlaw29.MarshalChanged", spec := "marshalChanged", inPlace := ["internal/abi.NoEscape", "internal/bytealg.IndexByteString", "internal/bytealg.IndexString", "internal/bytealg.MakeNoZero"], unfollowed := true, recurses := true, named := ["unicode/utf8.first", "unicode/utf8.acceptRanges", "internal/bytealg.MaxLen"], apart := false, laid := [("unicode/utf8.acceptRanges", laid_unicode_utf8_acceptRanges), ("unicode/utf8.first", laid_unicode_utf8_first)] }
def MarshalChangedSaid : Prop := marshalChangedRow.holds Tryz.pinned (OpenSpec.ofChange marshalChangedSpec)

/-- ITS FALSE NEIGHBOUR: 'it returns false'. Refute it at one input. -/
def marshalChangedWrong : ChangeSpec := { name := "marshalChanged", fn := fun _ => fun
  | [d1, d2, d3] => { results := [.lit (.bool false)], args := [d1, d2, d3] }
  | _ => none }
def MarshalChangedWrongFalsely : Prop := marshalChangedRow.holds Tryz.pinned (OpenSpec.ofChange marshalChangedWrong)

/-- 'cabochonlaw29.MarshalBack': WHATEVER THE INPUT: true; the input reads as it did. -/
def marshalBackSpec : ChangeSpec := { name := "marshalBack", fn := fun _ => fun
  | [d1, d2] => { results := [.lit (.bool true)], args := [d1, d2] }
  | _ => none }
def marshalBackRow : OpenClaim := { program := "ytgogonnnojcioaagreatdoor", sum := "5f53cdeaa9ac51cd638d1455a3da2cb82731934eafb31101e614797b232cf932", func := "cabochon/cabochonlaw29.MarshalBack", spec := "marshalBack", inPlace := ["internal/abi.NoEscape", "internal/bytealg.IndexByteString", "internal/bytealg.IndexString", "internal/bytealg.MakeNoZero"], unfollowed := true, recurses := true, named := ["unicode/utf8.first", "unicode/utf8.acceptRanges", "internal/strconv.uint64pow10", "math/bits.deBruijn32tab", "math/bits.deBruijn64tab", "internal/bytealg.MaxLen"], apart := false, laid := [("math/bits.deBruijn32tab", laid_math_bits_deBruijn32tab), ("math/bits.deBruijn64tab", laid_math_bits_deBruijn64tab), ("internal/strconv.uint64pow10", laid_internal_strconv_uint64pow10), ("unicode/utf8.acceptRanges", laid_unicode_utf8_acceptRanges), ("unicode/utf8.first", laid_unicode_utf8_first)] }
def MarshalBackSaid : Prop := marshalBackRow.holds Tryz.pinned (OpenSpec.ofChange marshalBackSpec)

/-- ITS FALSE NEIGHBOUR: 'it returns false'. Refute it at one input. -/
def marshalBackWrong : ChangeSpec := { name := "marshalBack", fn := fun _ => fun
  | [d1, d2] => { results := [.lit (.bool false)], args := [d1, d2] }
  | _ => none }
def MarshalBackWrongFalsely : Prop := marshalBackRow.holds Tryz.pinned (OpenSpec.ofChange marshalBackWrong)

/-- 'cabochonlaw29.MarshalDumps': WHATEVER THE INPUT: true; the input reads as it did. -/
def marshalDumpsSpec : ChangeSpec := { name := "marshalDumps", fn := fun _ => fun
  | [d1, d2] => { results := [.lit (.bool true)], args := [d1, d2] }
  | _ => none }
def marshalDumpsRow : OpenClaim := { program := "ytgogonnnojcioaagreatdoor", sum := "5f53cdeaa9ac51cd638d1455a3da2cb82731934eafb31101e614797b232cf932", func := "cabochon/cabochonlaw29.MarshalDumps", spec := "marshalDumps", inPlace := ["internal/abi.NoEscape", "internal/bytealg.IndexByteString", "internal/bytealg.IndexString", "internal/bytealg.MakeNoZero"], unfollowed := true, recurses := true, named := ["unicode/utf8.first", "unicode/utf8.acceptRanges", "internal/bytealg.MaxLen"], apart := false, laid := [("unicode/utf8.acceptRanges", laid_unicode_utf8_acceptRanges), ("unicode/utf8.first", laid_unicode_utf8_first)] }
def MarshalDumpsSaid : Prop := marshalDumpsRow.holds Tryz.pinned (OpenSpec.ofChange marshalDumpsSpec)

/-- ITS FALSE NEIGHBOUR: 'it returns false'. Refute it at one input. -/
def marshalDumpsWrong : ChangeSpec := { name := "marshalDumps", fn := fun _ => fun
  | [d1, d2] => { results := [.lit (.bool false)], args := [d1, d2] }
  | _ => none }
def MarshalDumpsWrongFalsely : Prop := marshalDumpsRow.holds Tryz.pinned (OpenSpec.ofChange marshalDumpsWrong)

/-- 'cabochonlaw29.MarshalCut': WHATEVER THE INPUT: true; the input reads as it did. -/
def marshalCutSpec : ChangeSpec := { name := "marshalCut", fn := fun _ => fun
  | [d1, d2, d3] => { results := [.lit (.bool true)], args := [d1, d2, d3] }
  | _ => none }
def marshalCutRow : OpenClaim := { program := "ytgogonnnojcioaagreatdoor", sum := "5f53cdeaa9ac51cd638d1455a3da2cb82731934eafb31101e614797b232cf932", func := "cabochon/cabochonlaw29.MarshalCut", spec := "marshalCut", inPlace := ["internal/abi.NoEscape", "internal/bytealg.IndexByteString", "internal/bytealg.IndexString", "internal/bytealg.MakeNoZero"], unfollowed := true, recurses := true, named := ["unicode/utf8.first", "unicode/utf8.acceptRanges", "internal/bytealg.MaxLen"], apart := false, laid := [("unicode/utf8.acceptRanges", laid_unicode_utf8_acceptRanges), ("unicode/utf8.first", laid_unicode_utf8_first)] }
def MarshalCutSaid : Prop := marshalCutRow.holds Tryz.pinned (OpenSpec.ofChange marshalCutSpec)

/-- ITS FALSE NEIGHBOUR: 'it returns false'. Refute it at one input. -/
def marshalCutWrong : ChangeSpec := { name := "marshalCut", fn := fun _ => fun
  | [d1, d2, d3] => { results := [.lit (.bool false)], args := [d1, d2, d3] }
  | _ => none }
def MarshalCutWrongFalsely : Prop := marshalCutRow.holds Tryz.pinned (OpenSpec.ofChange marshalCutWrong)

/-- 'cabochonlaw29.MarshalFull': WHATEVER THE INPUT: true; the input reads as it did. -/
def marshalFullSpec : ChangeSpec := { name := "marshalFull", fn := fun _ => fun
  | [d] => { results := [.lit (.bool true)], args := [d] }
  | _ => none }
def marshalFullRow : OpenClaim := { program := "ytgogonnnojcioaagreatdoor", sum := "5f53cdeaa9ac51cd638d1455a3da2cb82731934eafb31101e614797b232cf932", func := "cabochon/cabochonlaw29.MarshalFull", spec := "marshalFull", inPlace := ["internal/bytealg.IndexByteString", "internal/bytealg.IndexString", "internal/abi.NoEscape", "internal/bytealg.MakeNoZero"], unfollowed := true, recurses := true, named := ["unicode/utf8.first", "unicode/utf8.acceptRanges", "internal/bytealg.MaxLen"], apart := false, laid := [("unicode/utf8.acceptRanges", laid_unicode_utf8_acceptRanges), ("unicode/utf8.first", laid_unicode_utf8_first)] }
def MarshalFullSaid : Prop := marshalFullRow.holds Tryz.pinned (OpenSpec.ofChange marshalFullSpec)

/-- ITS FALSE NEIGHBOUR: 'it returns false'. Refute it at one input. -/
def marshalFullWrong : ChangeSpec := { name := "marshalFull", fn := fun _ => fun
  | [d] => { results := [.lit (.bool false)], args := [d] }
  | _ => none }
def MarshalFullWrongFalsely : Prop := marshalFullRow.holds Tryz.pinned (OpenSpec.ofChange marshalFullWrong)

/-- 'cabochonlaw29.MarshalDeep': WHATEVER THE INPUT: true; the input reads as it did. -/
def marshalDeepSpec : ChangeSpec := { name := "marshalDeep", fn := fun _ => fun
  | [d1, d2] => { results := [.lit (.bool true)], args := [d1, d2] }
  | _ => none }
def marshalDeepRow : OpenClaim := { program := "ytgogonnnojcioaagreatdoor", sum := "5f53cdeaa9ac51cd638d1455a3da2cb82731934eafb31101e614797b232cf932", func := "cabochon/cabochonlaw29.MarshalDeep", spec := "marshalDeep", inPlace := ["internal/abi.NoEscape", "internal/bytealg.IndexByteString", "internal/bytealg.IndexString", "internal/bytealg.MakeNoZero"], unfollowed := true, recurses := true, named := ["unicode/utf8.first", "unicode/utf8.acceptRanges", "internal/bytealg.MaxLen"], apart := false, laid := [("unicode/utf8.acceptRanges", laid_unicode_utf8_acceptRanges), ("unicode/utf8.first", laid_unicode_utf8_first)] }
def MarshalDeepSaid : Prop := marshalDeepRow.holds Tryz.pinned (OpenSpec.ofChange marshalDeepSpec)

/-- ITS FALSE NEIGHBOUR: 'it returns false'. Refute it at one input. -/
def marshalDeepWrong : ChangeSpec := { name := "marshalDeep", fn := fun _ => fun
  | [d1, d2] => { results := [.lit (.bool false)], args := [d1, d2] }
  | _ => none }
def MarshalDeepWrongFalsely : Prop := marshalDeepRow.holds Tryz.pinned (OpenSpec.ofChange marshalDeepWrong)

/-- 'cabochonlaw29.MarshalShares': WHATEVER THE INPUT: true; the input reads as it did. -/
def marshalSharesSpec : ChangeSpec := { name := "marshalShares", fn := fun _ => fun
  | [d] => { results := [.lit (.bool true)], args := [d] }
  | _ => none }
def marshalSharesRow : OpenClaim := { program := "ytgogonnnojcioaagreatdoor", sum := "5f53cdeaa9ac51cd638d1455a3da2cb82731934eafb31101e614797b232cf932", func := "cabochon/cabochonlaw29.MarshalShares", spec := "marshalShares", inPlace := ["internal/abi.NoEscape", "internal/bytealg.IndexByteString", "internal/bytealg.IndexString", "internal/bytealg.MakeNoZero"], unfollowed := true, recurses := true, named := ["unicode/utf8.first", "unicode/utf8.acceptRanges", "internal/bytealg.MaxLen"], apart := false, laid := [("unicode/utf8.acceptRanges", laid_unicode_utf8_acceptRanges), ("unicode/utf8.first", laid_unicode_utf8_first)] }
def MarshalSharesSaid : Prop := marshalSharesRow.holds Tryz.pinned (OpenSpec.ofChange marshalSharesSpec)

/-- ITS FALSE NEIGHBOUR: 'it returns false'. Refute it at one input. -/
def marshalSharesWrong : ChangeSpec := { name := "marshalShares", fn := fun _ => fun
  | [d] => { results := [.lit (.bool false)], args := [d] }
  | _ => none }
def MarshalSharesWrongFalsely : Prop := marshalSharesRow.holds Tryz.pinned (OpenSpec.ofChange marshalSharesWrong)

/-- 'cabochonlaw29.MarshalLoads': WHATEVER THE INPUT: true; the input reads as it did. -/
def marshalLoadsSpec : ChangeSpec := { name := "marshalLoads", fn := fun _ => fun
  | [d] => { results := [.lit (.bool true)], args := [d] }
  | _ => none }
def marshalLoadsRow : OpenClaim := { program := "ytgogonnnojcioaagreatdoor", sum := "5f53cdeaa9ac51cd638d1455a3da2cb82731934eafb31101e614797b232cf932", func := "cabochon/cabochonlaw29.MarshalLoads", spec := "marshalLoads", inPlace := ["internal/abi.NoEscape", "internal/bytealg.IndexByteString", "internal/bytealg.IndexString", "internal/bytealg.MakeNoZero"], unfollowed := true, recurses := true, named := ["unicode/utf8.first", "unicode/utf8.acceptRanges", "internal/bytealg.MaxLen"], apart := false, laid := [("unicode/utf8.acceptRanges", laid_unicode_utf8_acceptRanges), ("unicode/utf8.first", laid_unicode_utf8_first)] }
def MarshalLoadsSaid : Prop := marshalLoadsRow.holds Tryz.pinned (OpenSpec.ofChange marshalLoadsSpec)

/-- ITS FALSE NEIGHBOUR: 'it returns false'. Refute it at one input. -/
def marshalLoadsWrong : ChangeSpec := { name := "marshalLoads", fn := fun _ => fun
  | [d] => { results := [.lit (.bool false)], args := [d] }
  | _ => none }
def MarshalLoadsWrongFalsely : Prop := marshalLoadsRow.holds Tryz.pinned (OpenSpec.ofChange marshalLoadsWrong)

/-- 'cabochonlaw29.MarshalBits': WHATEVER THE INPUT: true; the input reads as it did. -/
def marshalBitsSpec : ChangeSpec := { name := "marshalBits", fn := fun _ => fun
  | [d] => { results := [.lit (.bool true)], args := [d] }
  | _ => none }
def marshalBitsRow : OpenClaim := { program := "ytgogonnnojcioaagreatdoor", sum := "5f53cdeaa9ac51cd638d1455a3da2cb82731934eafb31101e614797b232cf932", func := "cabochon/cabochonlaw29.MarshalBits", spec := "marshalBits", inPlace := ["internal/bytealg.IndexByteString", "internal/bytealg.IndexString", "internal/abi.NoEscape", "internal/bytealg.MakeNoZero"], unfollowed := true, recurses := true, named := ["unicode/utf8.first", "unicode/utf8.acceptRanges", "internal/bytealg.MaxLen"], apart := false, laid := [("unicode/utf8.acceptRanges", laid_unicode_utf8_acceptRanges), ("unicode/utf8.first", laid_unicode_utf8_first)] }
def MarshalBitsSaid : Prop := marshalBitsRow.holds Tryz.pinned (OpenSpec.ofChange marshalBitsSpec)

/-- ITS FALSE NEIGHBOUR: 'it returns false'. Refute it at one input. -/
def marshalBitsWrong : ChangeSpec := { name := "marshalBits", fn := fun _ => fun
  | [d] => { results := [.lit (.bool false)], args := [d] }
  | _ => none }
def MarshalBitsWrongFalsely : Prop := marshalBitsRow.holds Tryz.pinned (OpenSpec.ofChange marshalBitsWrong)

/- THE SECOND FORM. 'bulk': how many values and letters a reading holds, each counted each time it is reached (what is shared counts as often as it is met; a slice's spare places count too). A statement '..UptoSaid' is the law's where the arguments, and the package variables that the reading takes, are together of bulk at most 1048576: NARROWER than '..Said'. Prove '..Said' where nothing that the law and all that it calls make is longer than what came in: it says more and counts as full. Else prove '..UptoSaid'. A law counts once. -/
mutual
def uptoBulk {H : Type} : DataW H → Nat
  | .lit (.string bytes) => bytes.length + 1
  | .lit _ => 1
  | .nil => 1
  | .ptr d => uptoBulk d + 1
  | .slice elems spare => uptoBulkAll elems + uptoBulkAll spare + 1
  | .agg parts => uptoBulkAll parts + 1
  | .iface _ d => uptoBulk d + 1
  | .map entries => uptoBulkEntries entries + 1
  | .held _ => 1
def uptoBulkAll {H : Type} : List (DataW H) → Nat
  | [] => 0
  | d :: r => uptoBulk d + uptoBulkAll r
def uptoBulkEntries {H : Type} : List (Lit × DataW H) → Nat
  | [] => 0
  | x :: r => uptoBulkEntry x + uptoBulkEntries r
def uptoBulkEntry {H : Type} : Lit × DataW H → Nat
  | (.string bytes, d) => bytes.length + uptoBulk d + 1
  | (_, d) => uptoBulk d + 1
 end
def uptoSmall : (H : Type) → List (DataW H) → Bool := fun _ ds => decide (uptoBulkAll ds ≤ 1048576)
def OpenSpec.upto (s : _root_.Go.ChangeSpec) : _root_.Go.OpenSpec := { _root_.Go.OpenSpec.ofChange s with cond := some uptoSmall }

/-- 'cabochonlaw29.MarshalChanged', WHERE WHAT IT READS IS OF BULK AT MOST 1048576: true; the input reads as it did. -/
def marshalChangedUptoRow : OpenClaim := { program := "ytgogonnnojcioaagreatdoor", sum := "5f53cdeaa9ac51cd638d1455a3da2cb82731934eafb31101e614797b232cf932", func := "cabochon/cabochonlaw29.MarshalChanged", spec := "marshalChanged", inPlace := ["internal/abi.NoEscape", "internal/bytealg.IndexByteString", "internal/bytealg.IndexString", "internal/bytealg.MakeNoZero"], unfollowed := true, recurses := true, named := ["unicode/utf8.first", "unicode/utf8.acceptRanges", "internal/bytealg.MaxLen"], apart := false, laid := [("unicode/utf8.acceptRanges", laid_unicode_utf8_acceptRanges), ("unicode/utf8.first", laid_unicode_utf8_first)], narrowed := true }
def MarshalChangedUptoSaid : Prop := marshalChangedUptoRow.holds Tryz.pinned (OpenSpec.upto marshalChangedSpec)

/-- 'cabochonlaw29.MarshalBack', WHERE WHAT IT READS IS OF BULK AT MOST 1048576: true; the input reads as it did. -/
def marshalBackUptoRow : OpenClaim := { program := "ytgogonnnojcioaagreatdoor", sum := "5f53cdeaa9ac51cd638d1455a3da2cb82731934eafb31101e614797b232cf932", func := "cabochon/cabochonlaw29.MarshalBack", spec := "marshalBack", inPlace := ["internal/abi.NoEscape", "internal/bytealg.IndexByteString", "internal/bytealg.IndexString", "internal/bytealg.MakeNoZero"], unfollowed := true, recurses := true, named := ["unicode/utf8.first", "unicode/utf8.acceptRanges", "internal/strconv.uint64pow10", "math/bits.deBruijn32tab", "math/bits.deBruijn64tab", "internal/bytealg.MaxLen"], apart := false, laid := [("math/bits.deBruijn32tab", laid_math_bits_deBruijn32tab), ("math/bits.deBruijn64tab", laid_math_bits_deBruijn64tab), ("internal/strconv.uint64pow10", laid_internal_strconv_uint64pow10), ("unicode/utf8.acceptRanges", laid_unicode_utf8_acceptRanges), ("unicode/utf8.first", laid_unicode_utf8_first)], narrowed := true }
def MarshalBackUptoSaid : Prop := marshalBackUptoRow.holds Tryz.pinned (OpenSpec.upto marshalBackSpec)

/-- 'cabochonlaw29.MarshalDumps', WHERE WHAT IT READS IS OF BULK AT MOST 1048576: true; the input reads as it did. -/
def marshalDumpsUptoRow : OpenClaim := { program := "ytgogonnnojcioaagreatdoor", sum := "5f53cdeaa9ac51cd638d1455a3da2cb82731934eafb31101e614797b232cf932", func := "cabochon/cabochonlaw29.MarshalDumps", spec := "marshalDumps", inPlace := ["internal/abi.NoEscape", "internal/bytealg.IndexByteString", "internal/bytealg.IndexString", "internal/bytealg.MakeNoZero"], unfollowed := true, recurses := true, named := ["unicode/utf8.first", "unicode/utf8.acceptRanges", "internal/bytealg.MaxLen"], apart := false, laid := [("unicode/utf8.acceptRanges", laid_unicode_utf8_acceptRanges), ("unicode/utf8.first", laid_unicode_utf8_first)], narrowed := true }
def MarshalDumpsUptoSaid : Prop := marshalDumpsUptoRow.holds Tryz.pinned (OpenSpec.upto marshalDumpsSpec)

/-- 'cabochonlaw29.MarshalCut', WHERE WHAT IT READS IS OF BULK AT MOST 1048576: true; the input reads as it did. -/
def marshalCutUptoRow : OpenClaim := { program := "ytgogonnnojcioaagreatdoor", sum := "5f53cdeaa9ac51cd638d1455a3da2cb82731934eafb31101e614797b232cf932", func := "cabochon/cabochonlaw29.MarshalCut", spec := "marshalCut", inPlace := ["internal/abi.NoEscape", "internal/bytealg.IndexByteString", "internal/bytealg.IndexString", "internal/bytealg.MakeNoZero"], unfollowed := true, recurses := true, named := ["unicode/utf8.first", "unicode/utf8.acceptRanges", "internal/bytealg.MaxLen"], apart := false, laid := [("unicode/utf8.acceptRanges", laid_unicode_utf8_acceptRanges), ("unicode/utf8.first", laid_unicode_utf8_first)], narrowed := true }
def MarshalCutUptoSaid : Prop := marshalCutUptoRow.holds Tryz.pinned (OpenSpec.upto marshalCutSpec)

/-- 'cabochonlaw29.MarshalFull', WHERE WHAT IT READS IS OF BULK AT MOST 1048576: true; the input reads as it did. -/
def marshalFullUptoRow : OpenClaim := { program := "ytgogonnnojcioaagreatdoor", sum := "5f53cdeaa9ac51cd638d1455a3da2cb82731934eafb31101e614797b232cf932", func := "cabochon/cabochonlaw29.MarshalFull", spec := "marshalFull", inPlace := ["internal/bytealg.IndexByteString", "internal/bytealg.IndexString", "internal/abi.NoEscape", "internal/bytealg.MakeNoZero"], unfollowed := true, recurses := true, named := ["unicode/utf8.first", "unicode/utf8.acceptRanges", "internal/bytealg.MaxLen"], apart := false, laid := [("unicode/utf8.acceptRanges", laid_unicode_utf8_acceptRanges), ("unicode/utf8.first", laid_unicode_utf8_first)], narrowed := true }
def MarshalFullUptoSaid : Prop := marshalFullUptoRow.holds Tryz.pinned (OpenSpec.upto marshalFullSpec)

/-- 'cabochonlaw29.MarshalDeep', WHERE WHAT IT READS IS OF BULK AT MOST 1048576: true; the input reads as it did. -/
def marshalDeepUptoRow : OpenClaim := { program := "ytgogonnnojcioaagreatdoor", sum := "5f53cdeaa9ac51cd638d1455a3da2cb82731934eafb31101e614797b232cf932", func := "cabochon/cabochonlaw29.MarshalDeep", spec := "marshalDeep", inPlace := ["internal/abi.NoEscape", "internal/bytealg.IndexByteString", "internal/bytealg.IndexString", "internal/bytealg.MakeNoZero"], unfollowed := true, recurses := true, named := ["unicode/utf8.first", "unicode/utf8.acceptRanges", "internal/bytealg.MaxLen"], apart := false, laid := [("unicode/utf8.acceptRanges", laid_unicode_utf8_acceptRanges), ("unicode/utf8.first", laid_unicode_utf8_first)], narrowed := true }
def MarshalDeepUptoSaid : Prop := marshalDeepUptoRow.holds Tryz.pinned (OpenSpec.upto marshalDeepSpec)

/-- 'cabochonlaw29.MarshalShares', WHERE WHAT IT READS IS OF BULK AT MOST 1048576: true; the input reads as it did. -/
def marshalSharesUptoRow : OpenClaim := { program := "ytgogonnnojcioaagreatdoor", sum := "5f53cdeaa9ac51cd638d1455a3da2cb82731934eafb31101e614797b232cf932", func := "cabochon/cabochonlaw29.MarshalShares", spec := "marshalShares", inPlace := ["internal/abi.NoEscape", "internal/bytealg.IndexByteString", "internal/bytealg.IndexString", "internal/bytealg.MakeNoZero"], unfollowed := true, recurses := true, named := ["unicode/utf8.first", "unicode/utf8.acceptRanges", "internal/bytealg.MaxLen"], apart := false, laid := [("unicode/utf8.acceptRanges", laid_unicode_utf8_acceptRanges), ("unicode/utf8.first", laid_unicode_utf8_first)], narrowed := true }
def MarshalSharesUptoSaid : Prop := marshalSharesUptoRow.holds Tryz.pinned (OpenSpec.upto marshalSharesSpec)

/-- 'cabochonlaw29.MarshalLoads', WHERE WHAT IT READS IS OF BULK AT MOST 1048576: true; the input reads as it did. -/
def marshalLoadsUptoRow : OpenClaim := { program := "ytgogonnnojcioaagreatdoor", sum := "5f53cdeaa9ac51cd638d1455a3da2cb82731934eafb31101e614797b232cf932", func := "cabochon/cabochonlaw29.MarshalLoads", spec := "marshalLoads", inPlace := ["internal/abi.NoEscape", "internal/bytealg.IndexByteString", "internal/bytealg.IndexString", "internal/bytealg.MakeNoZero"], unfollowed := true, recurses := true, named := ["unicode/utf8.first", "unicode/utf8.acceptRanges", "internal/bytealg.MaxLen"], apart := false, laid := [("unicode/utf8.acceptRanges", laid_unicode_utf8_acceptRanges), ("unicode/utf8.first", laid_unicode_utf8_first)], narrowed := true }
def MarshalLoadsUptoSaid : Prop := marshalLoadsUptoRow.holds Tryz.pinned (OpenSpec.upto marshalLoadsSpec)

/-- 'cabochonlaw29.MarshalBits', WHERE WHAT IT READS IS OF BULK AT MOST 1048576: true; the input reads as it did. -/
def marshalBitsUptoRow : OpenClaim := { program := "ytgogonnnojcioaagreatdoor", sum := "5f53cdeaa9ac51cd638d1455a3da2cb82731934eafb31101e614797b232cf932", func := "cabochon/cabochonlaw29.MarshalBits", spec := "marshalBits", inPlace := ["internal/bytealg.IndexByteString", "internal/bytealg.IndexString", "internal/abi.NoEscape", "internal/bytealg.MakeNoZero"], unfollowed := true, recurses := true, named := ["unicode/utf8.first", "unicode/utf8.acceptRanges", "internal/bytealg.MaxLen"], apart := false, laid := [("unicode/utf8.acceptRanges", laid_unicode_utf8_acceptRanges), ("unicode/utf8.first", laid_unicode_utf8_first)], narrowed := true }
def MarshalBitsUptoSaid : Prop := marshalBitsUptoRow.holds Tryz.pinned (OpenSpec.upto marshalBitsSpec)

end Rows
end Go.Proofs.YtgogonnnojcioaaGreatDoor

/-
  ClockGapsSaid is proved: of every row of numbers and every two numbers ClockGaps returns true and leaves its arguments as they were. No condition.
-/
import Derived.Test.YtnecdpkmmncfaaaR0
import Derived.Test.YtnecdpkmmncfaaaD7
import Derived.Test.YtnecdpkmmncfaaaAx18
namespace Go.Proofs.Ytnecdpkmmncfaaa
open Go.ChangeShapes Go.WideShapes Go.ChangeAt Go.RowKit Go.AX
set_option maxRecDepth 100000

namespace ClockGaps
theorem walk {H : Type} {enc : TypeId × Value → H} (W : World) (base : Nat) (args : Array Value) (ds : List (DataW H)) (p : List MemPlace) (k : Known enc Try.prog Try.f8 W base args ds p) : Walk Try.prog 8 args W := by
  obtain ⟨u, v, w, rfl⟩ := arr3 (trodAll_len k.trod).2
  obtain ⟨a, l, cap, rfl, hl, -⟩ := k.ints 0 rfl rfl (e := 3) (i := .i64) (by kernel_rfl) (by kernel_rfl) (by kernel_rfl) (by decide +kernel)
  obtain ⟨n, rfl⟩ := k.int (i := .i64) 1 rfl rfl (by kernel_rfl)
  obtain ⟨m, rfl⟩ := k.int (i := .i64) 2 rfl rfl (by kernel_rfl)
  refine walkH [.fact (SlAt a l.length (ints l))] (fun e he => ⟨_, List.mem_singleton.1 he, hl.2.2⟩) (Gaps_c a cap l n m ?_ ?_ _ fun w hw => hw.1)
  · exact hl.2.1.imp id List.length_eq_zero_iff.1
  · exact Nat.lt_of_le_of_lt hl.1 (by decide)

theorem lifted (os : Os) (started : os.Started) (H : Type) (enc : TypeId × Value → H) :
    ReturnsInHanded {} Try.checked os 8 .any (Rows.clockGapsSpec.pre6 enc Try.prog Try.f8 Rows.clockGapsRow.domain false) (Rows.clockGapsSpec.post enc Try.prog Try.f8 false true false false) := by
  refine lift (C := Try.checked) own started (by kernel_rfl) Try.func8
    (ChangeSpec.witness6 (enc := enc) (C := Try.checked) false ⟨#[], #[.slice none 0 0, .int .i64 0, .int .i64 0], []⟩ 8 (by kernel_rfl) (by kernel_rfl) (by kernel_rfl) (by kernel_rfl))
    laidOut rfl (t := _) rfl (by kernel_rfl) (by kernel_rfl) ?_ walk
  intro ds hd
  match ds, hd with
  | [d0, d1, d2], _ => rfl

theorem over : Rows.clockGapsRow.holds Try.pinned (OpenSpec.ofChange Rows.clockGapsSpec) :=
  OpenClaim.holds_of_wide 8 Try.f8 rfl rfl rfl rfl rfl rfl rfl ⟨rfl, rfl, rfl, rfl, rfl⟩ rfl rfl rfl rfl rfl (by kernel_rfl) Try.func8 (by kernel_rfl)
    (of_decide_eq_true (by kernel_rfl)) (by unfold Func.isWrapper; first | (rw [if_pos (by decide +kernel)]; kernel_rfl) | (rw [if_neg (by decide +kernel)]; exact ⟨rfl, rfl⟩))
    (fun os started H enc _ => lifted os started H enc)

theorem proved : Rows.ClockGapsSaid := over
#print axioms proved
end ClockGaps
end Go.Proofs.Ytnecdpkmmncfaaa

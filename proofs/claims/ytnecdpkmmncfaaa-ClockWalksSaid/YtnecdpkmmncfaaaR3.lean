/-
  ClockWalksSaid is proved: of every number ClockWalks returns true. No condition.
-/
import Derived.Test.YtnecdpkmmncfaaaR0
import Derived.Test.YtnecdpkmmncfaaaC14
namespace Go.Proofs.Ytnecdpkmmncfaaa
open Go.ChangeShapes Go.WideShapes Go.ChangeAt Go.RowKit Go.AX
set_option maxRecDepth 100000

namespace ClockWalks
theorem walk {H : Type} {enc : TypeId × Value → H} (W : World) (base : Nat) (args : Array Value) (ds : List (DataW H)) (p : List MemPlace) (k : Known enc Try.prog Try.f5 W base args ds p) : Walk Try.prog 5 args W := by
  obtain ⟨u, rfl⟩ := arr1 (trodAll_len k.trod).2
  obtain ⟨a, rfl⟩ := okWide_int Try.underlying3 (k.val 0 _ u rfl rfl)
  exact walkV (ClockWalks_c a [])

theorem lifted (os : Os) (started : os.Started) (H : Type) (enc : TypeId × Value → H) :
    ReturnsInHanded {} Try.checked os 5 .any (Rows.clockWalksSpec.pre6 enc Try.prog Try.f5 Rows.clockWalksRow.domain false) (Rows.clockWalksSpec.post enc Try.prog Try.f5 false true false false) := by
  refine lift (C := Try.checked) own started (by kernel_rfl) Try.func5
    (ChangeSpec.witness6 (enc := enc) (C := Try.checked) false ⟨#[], #[.int .i64 0], []⟩ 8 (by kernel_rfl) (by kernel_rfl) (by kernel_rfl) (by kernel_rfl))
    laidOut rfl (t := _) rfl (by kernel_rfl) (by kernel_rfl) ?_ walk
  intro ds hd
  match ds, hd with
  | [d0], _ => rfl

theorem over : Rows.clockWalksRow.holds Try.pinned (OpenSpec.ofChange Rows.clockWalksSpec) :=
  OpenClaim.holds_of_wide 5 Try.f5 rfl rfl rfl rfl rfl rfl rfl ⟨rfl, rfl, rfl, rfl, rfl⟩ rfl rfl rfl rfl rfl (by kernel_rfl) Try.func5 (by kernel_rfl)
    (of_decide_eq_true (by kernel_rfl)) (by unfold Func.isWrapper; first | (rw [if_pos (by decide +kernel)]; kernel_rfl) | (rw [if_neg (by decide +kernel)]; exact ⟨rfl, rfl⟩))
    (fun os started H enc _ => lifted os started H enc)

theorem proved : Rows.ClockWalksSaid := over
#print axioms proved
end ClockWalks
end Go.Proofs.Ytnecdpkmmncfaaa

/-
  ClockOfSaid is proved: of every three numbers ClockOf returns true. No condition.
-/
import Derived.Test.YtnecdpkmmncfaaaR0
import Derived.Test.YtnecdpkmmncfaaaC13
namespace Go.Proofs.Ytnecdpkmmncfaaa
open Go.ChangeShapes Go.WideShapes Go.ChangeAt Go.RowKit Go.AX
set_option maxRecDepth 100000

namespace ClockOf
theorem walk {H : Type} {enc : TypeId × Value → H} (W : World) (base : Nat) (args : Array Value) (ds : List (DataW H)) (p : List MemPlace) (k : Known enc Try.prog Try.f4 W base args ds p) : Walk Try.prog 4 args W := by
  obtain ⟨u, v, w, rfl⟩ := arr3 (trodAll_len k.trod).2
  obtain ⟨a, rfl⟩ := okWide_int Try.underlying3 (k.val 0 _ u rfl rfl)
  obtain ⟨b, rfl⟩ := okWide_int Try.underlying3 (k.val 1 _ v rfl rfl)
  obtain ⟨c, rfl⟩ := okWide_int Try.underlying3 (k.val 2 _ w rfl rfl)
  exact walkV (ClockOf_c a b c [])

theorem lifted (os : Os) (started : os.Started) (H : Type) (enc : TypeId × Value → H) :
    ReturnsInHanded {} Try.checked os 4 .any (Rows.clockOfSpec.pre6 enc Try.prog Try.f4 Rows.clockOfRow.domain false) (Rows.clockOfSpec.post enc Try.prog Try.f4 false true false false) := by
  refine lift (C := Try.checked) own started (by kernel_rfl) Try.func4
    (ChangeSpec.witness6 (enc := enc) (C := Try.checked) false ⟨#[], #[.int .i64 0, .int .i64 0, .int .i64 0], []⟩ 8 (by kernel_rfl) (by kernel_rfl) (by kernel_rfl) (by kernel_rfl))
    laidOut rfl (t := _) rfl (by kernel_rfl) (by kernel_rfl) ?_ walk
  intro ds hd
  match ds, hd with
  | [d0, d1, d2], _ => rfl

theorem over : Rows.clockOfRow.holds Try.pinned (OpenSpec.ofChange Rows.clockOfSpec) :=
  OpenClaim.holds_of_wide 4 Try.f4 rfl rfl rfl rfl rfl rfl rfl ⟨rfl, rfl, rfl, rfl, rfl⟩ rfl rfl rfl rfl rfl (by kernel_rfl) Try.func4 (by kernel_rfl)
    (of_decide_eq_true (by kernel_rfl)) (by unfold Func.isWrapper; first | (rw [if_pos (by decide +kernel)]; kernel_rfl) | (rw [if_neg (by decide +kernel)]; exact ⟨rfl, rfl⟩))
    (fun os started H enc _ => lifted os started H enc)

theorem proved : Rows.ClockOfSaid := over
#print axioms proved
end ClockOf
end Go.Proofs.Ytnecdpkmmncfaaa

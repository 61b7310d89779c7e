/-
  ClockBetweenSaid is proved: of every two dates and two numbers ClockBetween returns true and leaves its argument as it was. No condition.
-/
import Derived.Test.YtnecdpkmmncfaaaR0
import Derived.Test.YtnecdpkmmncfaaaC17
namespace Go.Proofs.Ytnecdpkmmncfaaa
open Go.ChangeShapes Go.WideShapes Go.ChangeAt Go.RowKit Go.AX
set_option maxRecDepth 100000

namespace ClockBetween
theorem walk {H : Type} {enc : TypeId × Value → H} (W : World) (base : Nat) (args : Array Value) (ds : List (DataW H)) (p : List MemPlace) (k : Known enc Try.prog Try.f6 W base args ds p) : Walk Try.prog 6 args W := by
  obtain ⟨v, rfl⟩ := arr1 (trodAll_len k.trod).2
  obtain ⟨l, rfl, hl⟩ := struct_ints (n := 14) Try.underlying49 (by kernel_rfl) (k.val 0 _ v rfl rfl)
  match l, hl with
  | [y, m, d, h, i, s, y', m', d', h', i', s', n, M], _ => exact walkV (ClockBetween_c y m d h i s y' m' d' h' i' s' n M [])

theorem lifted (os : Os) (started : os.Started) (H : Type) (enc : TypeId × Value → H) :
    ReturnsInHanded {} Try.checked os 6 .any (Rows.clockBetweenSpec.pre6 enc Try.prog Try.f6 Rows.clockBetweenRow.domain false) (Rows.clockBetweenSpec.post enc Try.prog Try.f6 false true false false) := by
  refine lift (C := Try.checked) own started (by kernel_rfl) Try.func6
    (ChangeSpec.witness6 (enc := enc) (C := Try.checked) false ⟨#[], #[.agg #[.int .i64 0, .int .i64 0, .int .i64 0, .int .i64 0, .int .i64 0, .int .i64 0, .int .i64 0, .int .i64 0, .int .i64 0, .int .i64 0, .int .i64 0, .int .i64 0, .int .i64 0, .int .i64 0]], []⟩ 8 (by kernel_rfl) (by kernel_rfl) (by kernel_rfl) (by kernel_rfl))
    laidOut rfl (t := _) rfl (by kernel_rfl) (by kernel_rfl) ?_ walk
  intro ds hd
  match ds, hd with
  | [d0], _ => rfl

theorem over : Rows.clockBetweenRow.holds Try.pinned (OpenSpec.ofChange Rows.clockBetweenSpec) :=
  OpenClaim.holds_of_wide 6 Try.f6 rfl rfl rfl rfl rfl rfl rfl ⟨rfl, rfl, rfl, rfl, rfl⟩ rfl rfl rfl rfl rfl (by kernel_rfl) Try.func6 (by kernel_rfl)
    (of_decide_eq_true (by kernel_rfl)) (by unfold Func.isWrapper; first | (rw [if_pos (by decide +kernel)]; kernel_rfl) | (rw [if_neg (by decide +kernel)]; exact ⟨rfl, rfl⟩))
    (fun os started H enc _ => lifted os started H enc)

theorem proved : Rows.ClockBetweenSaid := over
#print axioms proved
end ClockBetween
end Go.Proofs.Ytnecdpkmmncfaaa

/-
  Closed facts of the program that every row asks.
-/
import Derived.Test.YtfcjgklghgpddaaDoorRows
import Derived.Test.YtfcjgklghgpddaaDoorAx24
import Derived.Test.YtfcjgklghgpddaaDoorLB2
import Derived.LaidOnce
namespace Go.Proofs.YtfcjgklghgpddaaDoor
open Go.ChangeShapes Go.WideShapes Go.ChangeAt Go.RowKit Go.AX
set_option maxRecDepth 100000
theorem own : ownKnob Tryd.prog.godebug = none := by kernel_rfl
theorem laidOut : laidOutB Tryd.prog = true := by kernel_rfl
theorem max_of {W : World} (h : W.ShapedOpen Tryd.prog) : MaxF W :=
  cell_of_shapedOpen_int (g := 0) (t := 3) (zero := #[.int .i64 0]) h (of_decide_eq_true (by kernel_rfl)) (by kernel_rfl) (by kernel_rfl) (by kernel_rfl) (by kernel_rfl) (by kernel_rfl)
theorem max_imm {W : World} (h : MaxF W) : Imm (fun b => b < W.heap.size) W MaxF := by
  refine ⟨h, fun w' hw => ?_⟩
  obtain ⟨m, hm⟩ := h
  exact ⟨m, cell?_keep hm (hw _ (cell?_lt hm))⟩
end Go.Proofs.YtfcjgklghgpddaaDoor

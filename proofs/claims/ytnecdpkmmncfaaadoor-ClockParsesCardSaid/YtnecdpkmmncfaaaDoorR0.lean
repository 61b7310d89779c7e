/-
  Two closed facts of the program that every row asks.
-/
import Derived.Test.YtnecdpkmmncfaaaDoorRows
import Derived.Test.YtnecdpkmmncfaaaDoorAx13
namespace Go.Proofs.YtnecdpkmmncfaaaDoor
set_option maxRecDepth 100000
theorem own : ownKnob Tryd.prog.godebug = none := by kernel_rfl
theorem laidOut : laidOutB Tryd.prog = true := by kernel_rfl
end Go.Proofs.YtnecdpkmmncfaaaDoor

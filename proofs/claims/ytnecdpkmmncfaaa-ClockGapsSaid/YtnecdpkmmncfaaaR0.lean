/-
  Two closed facts of the program that every row asks.
-/
import Derived.Test.YtnecdpkmmncfaaaRows
import Derived.Test.YtnecdpkmmncfaaaAx13
namespace Go.Proofs.Ytnecdpkmmncfaaa
set_option maxRecDepth 100000
theorem own : ownKnob Try.prog.godebug = none := by kernel_rfl
theorem laidOut : laidOutB Try.prog = true := by kernel_rfl
end Go.Proofs.Ytnecdpkmmncfaaa

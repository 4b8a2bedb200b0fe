/-
  Facts of the program that every law's frame uses. No condition.
-/
import Derived.Test.YtjnbiacnhimkgaaRows
import Derived.Test.YtjnbiacnhimkgaaBase
namespace Go.Proofs.Ytjnbiacnhimkgaa
open Go.ChangeShapes Go.WideShapes Go.ChangeAt Go.RowKit
theorem ownKnobNone : ownKnob Try.prog.godebug = none := by kernel_rfl
theorem laidOut : laidOutB Try.prog = true := by kernel_rfl
end Go.Proofs.Ytjnbiacnhimkgaa

/-
  Facts of the program that every law's frame uses. No condition.
-/
import Derived.Test.YtifhbchlmlaanaaRows
import Derived.Test.YtifhbchlmlaanaaBase
namespace Go.Proofs.Ytifhbchlmlaanaa
open Go.ChangeShapes Go.WideShapes Go.ChangeAt Go.RowKit
theorem ownKnobNone : ownKnob Try.prog.godebug = none := by kernel_rfl
theorem laidOut : laidOutB Try.prog = true := by kernel_rfl
end Go.Proofs.Ytifhbchlmlaanaa

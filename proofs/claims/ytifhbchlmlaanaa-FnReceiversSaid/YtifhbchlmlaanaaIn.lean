/-
  Contracts of the tests of bounds. No condition.
-/
import Derived.Test.YtifhbchlmlaanaaLawKit
import Derived.Test.YtifhbchlmlaanaaNum
namespace Go.Proofs.Ytifhbchlmlaanaa
open Go.ChangeShapes Go.WideShapes Go.ChangeAt Go.RowKit
set_option linter.unusedSimpArgs false
theorem l1In_any (x lo hi : Int) (w : World) : Calls Try.prog 87 #[.int .i64 x, .int .i64 lo, .int .i64 hi] w fun e w' => e = .returned (.bool (inB lo x hi)) ∧ w = w' := by
  go_enter Try.func87, Try.ntmps87
  go_wp2
  all_goals go_ret
  all_goals (simp [inB, *]; try omega)
theorem within_any (x lo hi : Int) (w : World) : Calls Try.prog 72 #[.int .i64 x, .int .i64 lo, .int .i64 hi] w fun e w' => e = .returned (.bool (inB lo x hi)) ∧ w = w' := by
  go_enter Try.func72, Try.ntmps72
  go_wp2
  all_goals go_ret
  all_goals (simp [inB, *]; try omega)
end Go.Proofs.Ytifhbchlmlaanaa

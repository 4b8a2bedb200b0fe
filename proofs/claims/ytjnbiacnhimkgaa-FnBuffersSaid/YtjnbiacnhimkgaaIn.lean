/-
  Contracts of the tests of bounds. No condition.
-/
import Derived.Test.YtjnbiacnhimkgaaLawKit
import Derived.Test.YtjnbiacnhimkgaaNum
namespace Go.Proofs.Ytjnbiacnhimkgaa
open Go.ChangeShapes Go.WideShapes Go.ChangeAt Go.RowKit
set_option linter.unusedSimpArgs false
theorem l1In_any (x lo hi : Int) (w : World) : Calls Try.prog 54 #[.int .i64 x, .int .i64 lo, .int .i64 hi] w fun e w' => e = .returned (.bool (inB lo x hi)) ∧ w = w' := by
  go_enter Try.func54, Try.ntmps54
  go_wp2
  all_goals go_ret
  all_goals (simp [inB, *]; try omega)
theorem within_any (x lo hi : Int) (w : World) : Calls Try.prog 53 #[.int .i64 x, .int .i64 lo, .int .i64 hi] w fun e w' => e = .returned (.bool (inB lo x hi)) ∧ w = w' := by
  go_enter Try.func53, Try.ntmps53
  go_wp2
  all_goals go_ret
  all_goals (simp [inB, *]; try omega)
end Go.Proofs.Ytjnbiacnhimkgaa

/-
  Contracts of the tests whether a number is a quic integer. No condition.
-/
import Derived.Test.YtebolohnfhhmpaaLawKit
import Derived.Test.YtebolohnfhhmpaaNum
namespace Go.Proofs.Ytebolohnfhhmpaa
open Go.ChangeShapes Go.WideShapes Go.ChangeAt Go.RowKit
set_option linter.unusedSimpArgs false
theorem l4Quic_any (x : Int) (w : World) : Calls Try.prog 34 #[.int .i64 x] w fun e w' => e = .returned (.bool (inB 0 x 4611686018427387903)) ∧ w = w' := by
  go_enter Try.func34, Try.ntmps34
  go_wp2
  all_goals go_ret
  all_goals (simp [inB, *]; try omega)
theorem isQuic_any (x : Int) (w : World) : Calls Try.prog 36 #[.int .i64 x] w fun e w' => e = .returned (.bool (inB 0 x 4611686018427387903)) ∧ w = w' := by
  go_enter Try.func36, Try.ntmps36
  go_wp2
  all_goals go_ret
  all_goals (simp [inB, *]; try omega)
end Go.Proofs.Ytebolohnfhhmpaa

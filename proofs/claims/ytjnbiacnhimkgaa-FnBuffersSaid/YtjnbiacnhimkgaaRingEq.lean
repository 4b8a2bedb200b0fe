/-
  Contracts of slices.Equal over []int and of EqualRings. Conditions: the slices can be read.
-/
import Derived.Test.YtjnbiacnhimkgaaRing
namespace Go.Proofs.Ytjnbiacnhimkgaa
open Go.ChangeShapes Go.WideShapes Go.ChangeAt Go.RowKit
set_option linter.unusedSimpArgs false
/-- Are two rings equal? -/
def ringEq (z b e z2 b2 e2 : Int) (xs ys : List Int) : Bool := z == z2 && (b == b2 && (e == e2 && decide (xs = ys)))
end Go.Proofs.Ytjnbiacnhimkgaa

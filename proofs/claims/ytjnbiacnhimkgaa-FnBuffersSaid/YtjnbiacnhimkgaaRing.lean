/-
  Contracts of the laws' helpers on rings: szRing, eqRing, toRing, markRing, heldRing. Conditions: the cells can be read (written).
-/
import Derived.Test.YtjnbiacnhimkgaaInts
namespace Go.Proofs.Ytjnbiacnhimkgaa
open Go.ChangeShapes Go.WideShapes Go.ChangeAt Go.RowKit
set_option linter.unusedSimpArgs false

/-- A new ring with these numbers, whose cells hold xs. -/
def NewRingV (z b e : Int) (xs : List Int) (w : World) (en : Ending) (w' : World) : Prop :=
  ∃ (ao : Option Addr) (cap : Nat), en = .returned (.agg #[.int .i64 z, .int .i64 b, .int .i64 e, .slice ao xs.length cap]) ∧ OwnS w.heap.size w'.heap.size w' ao xs ∧ Ext w w'
end Go.Proofs.Ytjnbiacnhimkgaa

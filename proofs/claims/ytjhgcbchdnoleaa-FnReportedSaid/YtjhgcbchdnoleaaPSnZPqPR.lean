/-
  Part of the proof: SnZP.
-/
import Derived.Test.YtjhgcbchdnoleaaPSnZqPR
namespace Go.Proofs.Ytjhgcbchdnoleaa
section
open Go.ChangeShapes Go.WideShapes Go.ChangeAt Go.RowKit
set_option linter.unusedSimpArgs false
set_option linter.unusedVariables false
theorem Chg.undrew {S : Nat → Prop} {a b : World} (h : Chg S a b) : Chg S a.drew b := ⟨h.os, h.tape, h.output, h.size, h.block⟩
end
end Go.Proofs.Ytjhgcbchdnoleaa

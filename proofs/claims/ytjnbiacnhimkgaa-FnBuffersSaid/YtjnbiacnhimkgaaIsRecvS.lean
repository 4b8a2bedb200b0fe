/-
  Contract of IsReceiver of the reference. Conditions: the chunks can be read.
-/
import Derived.Test.YtjnbiacnhimkgaaIsRecv
namespace Go.Proofs.Ytjnbiacnhimkgaa
open Go.ChangeShapes Go.WideShapes Go.ChangeAt Go.RowKit
set_option linter.unusedSimpArgs false
set_option linter.unusedVariables false
end Go.Proofs.Ytjnbiacnhimkgaa

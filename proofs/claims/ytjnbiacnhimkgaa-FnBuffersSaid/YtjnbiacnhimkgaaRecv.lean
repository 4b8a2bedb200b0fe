/-
  Contracts of the laws' helpers on buffers and receivers: sz, to, eq. Conditions: the chunks can be read.
-/
import Derived.Test.YtjnbiacnhimkgaaChunkS
namespace Go.Proofs.Ytjnbiacnhimkgaa
open Go.ChangeShapes Go.WideShapes Go.ChangeAt Go.RowKit
set_option linter.unusedSimpArgs false
def NewBufV (nx : Int) (cs : List Ck) (w : World) (en : Ending) (w' : World) : Prop :=
  ∃ (ao : Option Addr) (cap : Nat), en = .returned (.agg #[.int .i64 nx, .slice ao cs.length cap]) ∧ OwnC w.heap.size w'.heap.size w' ao cs ∧ Ext w w'
def NewRecV (st nx fi hg co : Int) (cs : List Ck) (w : World) (en : Ending) (w' : World) : Prop :=
  ∃ (ao : Option Addr) (cap : Nat), en = .returned (.agg #[.int .i64 st, .int .i64 nx, .slice ao cs.length cap, .int .i64 fi, .int .i64 hg, .int .i64 co]) ∧ OwnC w.heap.size w'.heap.size w' ao cs ∧ Ext w w'
end Go.Proofs.Ytjnbiacnhimkgaa

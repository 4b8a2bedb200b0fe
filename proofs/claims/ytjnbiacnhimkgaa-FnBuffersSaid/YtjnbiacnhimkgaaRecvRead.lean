/-
  Contracts of ReadReceiver. Conditions: the chunks can be read.
-/
import Derived.Test.YtjnbiacnhimkgaaIsRecvS
import Derived.Test.YtjnbiacnhimkgaaTake
namespace Go.Proofs.Ytjnbiacnhimkgaa
open Go.ChangeShapes Go.WideShapes Go.ChangeAt Go.RowKit
set_option linter.unusedSimpArgs false
/-- A text and a receiver: the receiver's chunks in memory of the call's own. -/
def ReadRes (s : ByteArray) (st nx fi hg co : Int) (cs : List Ck) (w : World) (en : Ending) (w' : World) : Prop :=
  ∃ (ao : Option Addr) (cap : Nat), en = .returned (.tuple #[.string s, .agg #[.int .i64 st, .int .i64 nx, .slice ao cs.length cap, .int .i64 fi, .int .i64 hg, .int .i64 co]]) ∧ OwnC w.heap.size w'.heap.size w' ao cs ∧ Ext w w'
def rdGo (st nx fi hg co : Int) (cs : List Ck) : Bool := recvIs st nx fi hg co cs && !(st == 4)
def rdS (st nx fi hg co m : Int) (cs : List Ck) : ByteArray := if rdGo st nx fi hg co cs = true then takeS nx m cs else ⟨#[]⟩
def rdX (st nx fi hg co m : Int) (cs : List Ck) : Int := if rdGo st nx fi hg co cs = true then takeX nx m cs else nx
def rdC (st nx fi hg co m : Int) (cs : List Ck) : List Ck := if rdGo st nx fi hg co cs = true then takeC nx m cs else cs
def rdT (st nx fi hg co m : Int) (cs : List Ck) : Int := if recvIs st nx fi hg co cs = true then (if (st == 4) = true then 5 else if (st == 2 && takeX nx m cs == fi) = true then 3 else st) else st
theorem rdC_length (st nx fi hg co m : Int) (cs : List Ck) : (rdC st nx fi hg co m cs).length ≤ cs.length := by
  unfold rdC
  split
  · exact takeC_length _ _ _
  · exact Nat.le_refl _
end Go.Proofs.Ytjnbiacnhimkgaa

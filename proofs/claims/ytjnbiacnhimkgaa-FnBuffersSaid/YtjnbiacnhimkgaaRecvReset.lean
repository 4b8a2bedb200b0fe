/-
  Contracts of contradicts, takes, l7Final and ReceiveReset. Conditions: the chunks can be read.
-/
import Derived.Test.YtjnbiacnhimkgaaIsRecvS
import Derived.Test.YtjnbiacnhimkgaaCopyRecv
import Derived.Deep.DeepCutAuto
namespace Go.Proofs.Ytjnbiacnhimkgaa
open Go.ChangeShapes Go.WideShapes Go.ChangeAt Go.RowKit
set_option linter.unusedSimpArgs false
/-- Does an end, which is the final one if fin, contradict what is known? -/
def contra (fi hg e : Int) (fin : Bool) : Bool := (fi != -1 && decide (fi < e)) || (fin && ((fi != -1 && e != fi) || decide (e < hg)))
def finE (c : Bool) : Int := if c = true then 6 else 0
/-- A receiver and a second value: the receiver's chunks in memory of the call's own. -/
def RecvRes (st nx fi hg co : Int) (cs : List Ck) (v : Value) (w : World) (en : Ending) (w' : World) : Prop :=
  ∃ (ao : Option Addr) (cap : Nat), en = .returned (.tuple #[.agg #[.int .i64 st, .int .i64 nx, .slice ao cs.length cap, .int .i64 fi, .int .i64 hg, .int .i64 co], v]) ∧ OwnC w.heap.size w'.heap.size w' ao cs ∧ Ext w w'
theorem recvIs_st {st nx fi hg co : Int} {cs : List Ck} (h : recvIs st nx fi hg co cs = true) : 0 ≤ st ∧ st ≤ 5 := by
  simp only [recvIs, Bool.and_eq_true] at h
  have := h.2
  by_cases h0 : st = 0
  · omega
  by_cases h1 : st = 1
  · omega
  by_cases h2 : st = 2
  · omega
  by_cases h3 : st = 3
  · omega
  by_cases h4 : st = 4 ∨ st = 5
  · omega
  rw [if_neg h0, if_neg h1, if_neg h2, if_neg h3, if_neg h4] at this
  cases this
/-- Is the reset taken note of? What does it answer? -/
def rrOk (st nx fi hg co k f : Int) (cs : List Ck) : Bool := recvIs st nx fi hg co cs && (inB 0 k 4611686018427387903 && inB 0 f 4611686018427387903)
def rrE (st nx fi hg co k f : Int) (cs : List Ck) : Int := if rrOk st nx fi hg co k f cs = true then (if contra fi hg f true = true then 6 else 0) else 7
def rrGo (st nx fi hg co k f : Int) (cs : List Ck) : Bool := rrOk st nx fi hg co k f cs && (!contra fi hg f true && (st == 0 || st == 1))
end Go.Proofs.Ytjnbiacnhimkgaa

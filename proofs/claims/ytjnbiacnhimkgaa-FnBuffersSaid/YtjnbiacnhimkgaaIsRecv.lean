/-
  Contracts of readyEnd and IsReceiver. Conditions: the chunks can be read.
-/
import Derived.Test.YtjnbiacnhimkgaaEndOf
import Derived.Deep.DeepCutAuto
namespace Go.Proofs.Ytjnbiacnhimkgaa
open Go.ChangeShapes Go.WideShapes Go.ChangeAt Go.RowKit
set_option linter.unusedSimpArgs false
set_option linter.unusedVariables false
/-- The parts of a receiver agree. -/
def recvOk (nx fi hg co : Int) (cs : List Ck) : Bool := isBuf nx cs && (decide (endOf nx cs ≤ hg) && (inB 0 hg 4611686018427387903 && (inB 0 co 4611686018427387903 && (fi == -1 || inB hg fi 4611686018427387903))))
def whole (nx fi : Int) (cs : List Ck) : Bool := fi != -1 && nx + readyB nx cs == fi
def recvIs (st nx fi hg co : Int) (cs : List Ck) : Bool :=
  recvOk nx fi hg co cs && (if st = 0 then fi == -1 && co == 0 else if st = 1 then fi != -1 && (!whole nx fi cs && co == 0) else if st = 2 then whole nx fi cs && co == 0 else if st = 3 then whole nx fi cs && (co == 0 && cs.length == 0) else if st = 4 ∨ st = 5 then fi == hg && cs.length == 0 else false)
theorem recvIs_ok {st nx fi hg co : Int} {cs : List Ck} (h : recvOk nx fi hg co cs = true) : recvIs st nx fi hg co cs = (if st = 0 then fi == -1 && co == 0 else if st = 1 then fi != -1 && (!whole nx fi cs && co == 0) else if st = 2 then whole nx fi cs && co == 0 else if st = 3 then whole nx fi cs && (co == 0 && cs.length == 0) else if st = 4 ∨ st = 5 then fi == hg && cs.length == 0 else false) := by
  rw [recvIs, h, Bool.true_and]
theorem len_zero {cs : List Ck} {n : Nat} (h : cs.length = n) : (cs.length == 0) = ((n : Int) == 0) := by
  rw [h]
  rcases Nat.eq_zero_or_pos n with h | h
  · subst h; rfl
  · rw [beq_eq_false_iff_ne.2 (by omega), beq_eq_false_iff_ne.2 (by omega)]
theorem same_ext {P : Program} {f : FuncId} {args : Array Value} {w : World} {v : Value} (h : Calls P f args w fun e w' => e = .returned v ∧ w = w') : Calls P f args w fun e w' => e = .returned v ∧ Ext w w' :=
  Calls.mono h fun _ _ ⟨h1, h2⟩ => ⟨h1, by subst h2; exact Ext.refl _⟩
end Go.Proofs.Ytjnbiacnhimkgaa

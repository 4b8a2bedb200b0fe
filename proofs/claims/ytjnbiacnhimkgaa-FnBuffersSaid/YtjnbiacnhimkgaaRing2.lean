/-
  Contracts of markRing, heldRing, of the tests of a ring's size and of NewRing. Conditions: the cells can be read (written).
-/
import Derived.Test.YtjnbiacnhimkgaaRing
import Derived.Test.YtjnbiacnhimkgaaIn
namespace Go.Proofs.Ytjnbiacnhimkgaa
open Go.ChangeShapes Go.WideShapes Go.ChangeAt Go.RowKit
set_option linter.unusedSimpArgs false

/-- Is this a ring's size? -/
def ringSz (n : Int) : Bool := inB 1 n 64 && (bits .and .i64 n (n - 1) == 0)
theorem ringSz_bd {n : Int} (h : ringSz n = true) : 1 ≤ n ∧ n ≤ 64 := by
  simp only [ringSz, Bool.and_eq_true] at h
  exact inB_true h.1
/-- What NewRing gives for a good size. -/
def MadeRing (k : Nat) (w : World) (e : Ending) (w' : World) : Prop :=
  ∃ (ao : Option Addr) (cap : Nat), e = .returned (.tuple #[.agg #[.int .i64 k, .int .i64 0, .int .i64 0, .slice ao k cap], .bool true]) ∧ OwnS w.heap.size w'.heap.size w' ao (List.replicate k 0) ∧ Ext w w'
end Go.Proofs.Ytjnbiacnhimkgaa

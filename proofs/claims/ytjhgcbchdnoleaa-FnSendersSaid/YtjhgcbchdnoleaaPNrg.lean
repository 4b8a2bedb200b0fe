/-
  Part of the proof: Nrg.
-/
import Derived.Test.YtjhgcbchdnoleaaPG1
namespace Go.Proofs.Ytjhgcbchdnoleaa
section
theorem nrg : (∀ (α : Type) (l : List α) (i : Nat) (h : i < l.toArray.size), l.toArray[i]'h = l[i]'(by simpa using h)) ∧ (∀ (α : Type) (a : α) (l : List α) (h : 0 < (a :: l).length), (a :: l)[0]'h = a) ∧
    (∀ (α : Type) (a : α) (l : List α) (i : Nat) (h : i + 1 < (a :: l).length), (a :: l)[i + 1]'h = l[i]'(Nat.lt_of_succ_lt_succ h)) :=
  ⟨fun _ _ _ _ => rfl, fun _ _ _ _ => rfl, fun _ _ _ _ _ => rfl⟩
end
end Go.Proofs.Ytjhgcbchdnoleaa

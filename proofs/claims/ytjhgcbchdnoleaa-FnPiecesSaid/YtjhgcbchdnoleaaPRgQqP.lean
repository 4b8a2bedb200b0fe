/-
  Part of the proof: RgQ.
-/
import Derived.Test.YtjhgcbchdnoleaaPG1
namespace Go.Proofs.Ytjhgcbchdnoleaa
section
set_option linter.unusedSimpArgs false
set_option linter.unusedVariables false
theorem remRec_length (r : Rg) : ∀ l : List Rg, (remRec r l).length ≤ 2 * l.length
  | [] => Nat.le_refl _
  | x :: xs => by
    have e : remRec r (x :: xs) = remOne r x ++ remRec r xs := rfl
    have := remRec_length r xs
    have h : (remOne r x).length ≤ 2 := by unfold remOne; split <;> split <;> simp
    rw [e, List.length_append, List.length_cons]; omega
end
end Go.Proofs.Ytjhgcbchdnoleaa

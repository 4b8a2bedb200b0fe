/-
  Part of the proof: SnLP.
-/
import Derived.Test.YtjhgcbchdnoleaaPSnIqP
namespace Go.Proofs.Ytjhgcbchdnoleaa
section
open Go.ChangeShapes Go.WideShapes Go.ChangeAt Go.RowKit
set_option linter.unusedSimpArgs false
set_option linter.unusedVariables false
theorem seOk_y {v : Bool} {s : Sn} {o : Int} {d : ByteArray} {fin : Bool} (h1 : actV v s = true) (h2 : pieceIn s o d.size fin = true) (h3 : d.size = 0 → fin = true) (h4 : fin = true → s.fk = 1) (h5 : ¬ d.size = 0 → comR s.p (o, o + (d.size : Int)) = [(o, o + (d.size : Int))]) : seOk v s o d fin = true := by
  unfold seOk
  rw [h1, h2]
  simp only [Bool.true_and, Bool.and_eq_true, Bool.or_eq_true, Bool.not_eq_true', decide_eq_true_eq, decide_eq_false_iff_not]
  refine ⟨?_, ?_, ?_⟩
  · by_cases h : d.size = 0
    · exact Or.inr (h3 h)
    · exact Or.inl h
  · cases fin
    · exact Or.inl rfl
    · exact Or.inr (h4 rfl)
  · by_cases h : d.size = 0
    · exact Or.inl h
    · exact Or.inr (h5 h)
end
end Go.Proofs.Ytjhgcbchdnoleaa

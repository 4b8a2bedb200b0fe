/-
  Part of the proof: SnI.
-/
import Derived.Test.YtjhgcbchdnoleaaPSnPqP
import Derived.Test.YtjhgcbchdnoleaaPSnAqPS
import Derived.Test.YtjhgcbchdnoleaaPRnVqP
import Derived.Test.YtjhgcbchdnoleaaPSnIqPR
namespace Go.Proofs.Ytjhgcbchdnoleaa
section
open Go.ChangeShapes Go.WideShapes Go.ChangeAt Go.RowKit
set_option linter.unusedSimpArgs false
set_option linter.unusedVariables false
theorem sndI_fi {s : Sn} (h : sndI s = true) (h2 : s.st ≤ 2) : s.fi = if s.fk = 0 then -1 else s.e := by
  unfold sndI at h
  rw [Bool.and_eq_true] at h
  have hr : ¬ isRst s = true := by simp only [isRst, Bool.or_eq_true, decide_eq_true_eq]; omega
  rw [if_neg hr] at h
  simp only [Bool.and_eq_true, decide_eq_true_eq] at h
  exact h.2.2.2.2.2.2.1
theorem one_any (b : Bool) (w : World) : Calls Try.prog 102 #[.bool b] w fun en w' => en = .returned (.int .i64 (if b = true then 1 else 0)) ∧ Ext w w' := by
  cases b
  · go_enter Try.func102, Try.ntmps102
    go_wp2
    go_ret
    exact ⟨rfl, Ext.refl _⟩
  · go_enter Try.func102, Try.ntmps102
    go_wp2
    go_ret
    exact ⟨rfl, Ext.refl _⟩
end
end Go.Proofs.Ytjhgcbchdnoleaa

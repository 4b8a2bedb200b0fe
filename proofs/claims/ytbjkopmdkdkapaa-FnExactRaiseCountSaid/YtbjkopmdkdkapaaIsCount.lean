/-
  Contracts of IsCount, of the program and of the reference: both compute the same plain function. No condition.
-/
import Derived.Test.YtbjkopmdkdkapaaIn
namespace Go.Proofs.Ytbjkopmdkdkapaa
open Go.ChangeShapes Go.WideShapes Go.ChangeAt Go.RowKit
set_option linter.unusedSimpArgs false
theorem isCount_spec (l o b : Int) (w : World) : Calls Try.prog 9 #[.agg #[.int .i64 l, .int .i64 o, .int .i64 b]] w fun e w' => e = .returned (.bool (isCount l o b)) ∧ Ext w w' := by
  go_enter Try.func9, Try.ntmps9
  go_wp2_with (first | (go_at_call 25; refine (l1In_any _ _ _ _).mono ?_; rintro e w1 ⟨rfl, rfl⟩))
  all_goals go_ret
  all_goals (refine ⟨?_, (by repeat (first | with_reducible exact Ext.refl _ | with_reducible assumption | with_reducible refine Ext.alloc ?_ _ | with_reducible refine Ext.drew ?_ | with_reducible refine Ext.drewN ?_ _ | ((with_reducible refine Ext.set ?_ ?_ _); (focus (first | (simp; done) | (simp; omega)))) | with_reducible refine Ext.trans ?_ (by assumption)))⟩; first | (simp [isCount, *]; done) | (simp [isCount, *]; intros; exfalso; omega) | (exfalso; simp_all))
theorem isCount_impl (l o b : Int) (w : World) : Calls Try.prog 11 #[.agg #[.int .i64 l, .int .i64 o, .int .i64 b]] w fun e w' => e = .returned (.bool (isCount l o b)) ∧ Ext w w' := by
  go_enter Try.func11, Try.ntmps11
  go_wp2_with (first | (go_at_call 26; refine (within_any _ _ _ _).mono ?_; rintro e w1 ⟨rfl, rfl⟩))
  all_goals go_ret
  all_goals (refine ⟨?_, (by repeat (first | with_reducible exact Ext.refl _ | with_reducible assumption | with_reducible refine Ext.alloc ?_ _ | with_reducible refine Ext.drew ?_ | with_reducible refine Ext.drewN ?_ _ | ((with_reducible refine Ext.set ?_ ?_ _); (focus (first | (simp; done) | (simp; omega)))) | with_reducible refine Ext.trans ?_ (by assumption)))⟩; first | (simp [isCount, *]; done) | (simp [isCount, *]; intros; exfalso; omega) | (exfalso; simp_all))
end Go.Proofs.Ytbjkopmdkdkapaa

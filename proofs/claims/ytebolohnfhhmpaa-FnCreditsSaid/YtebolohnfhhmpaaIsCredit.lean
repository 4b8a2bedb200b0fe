/-
  Contracts of IsCredit, of the program and of the reference: both compute the same plain function. No condition.
-/
import Derived.Test.YtebolohnfhhmpaaIn
import Derived.Test.YtebolohnfhhmpaaQ
namespace Go.Proofs.Ytebolohnfhhmpaa
open Go.ChangeShapes Go.WideShapes Go.ChangeAt Go.RowKit
set_option linter.unusedSimpArgs false
theorem isCredit_spec (l u b t : Int) (w : World) : Calls Try.prog 12 #[.agg #[.int .i64 l, .int .i64 u, .int .i64 b, .int .i64 t]] w fun e w' => e = .returned (.bool (isCredit l u b t)) ∧ Ext w w' := by
  go_enter Try.func12, Try.ntmps12
  go_wp2_with (first | (go_at_call 35; refine (l1In_any _ _ _ _).mono ?_; rintro e w1 ⟨rfl, rfl⟩) | (go_at_call 34; refine (l4Quic_any _ _).mono ?_; rintro e w1 ⟨rfl, rfl⟩))
  all_goals go_ret
  all_goals (refine ⟨?_, (by repeat (first | with_reducible exact Ext.refl _ | with_reducible assumption | with_reducible refine Ext.alloc ?_ _ | with_reducible refine Ext.drew ?_ | with_reducible refine Ext.drewN ?_ _ | ((with_reducible refine Ext.set ?_ ?_ _); (focus (first | (simp; done) | (simp; omega)))) | with_reducible refine Ext.trans ?_ (by assumption)))⟩; first | (simp [isCredit, *]; done) | (simp [isCredit, *]; intros; exfalso; omega) | (exfalso; simp_all))
theorem isCredit_impl (l u b t : Int) (w : World) : Calls Try.prog 14 #[.agg #[.int .i64 l, .int .i64 u, .int .i64 b, .int .i64 t]] w fun e w' => e = .returned (.bool (isCredit l u b t)) ∧ Ext w w' := by
  go_enter Try.func14, Try.ntmps14
  go_wp2_with (first | (go_at_call 37; refine (within_any _ _ _ _).mono ?_; rintro e w1 ⟨rfl, rfl⟩) | (go_at_call 36; refine (isQuic_any _ _).mono ?_; rintro e w1 ⟨rfl, rfl⟩))
  all_goals go_ret
  all_goals (refine ⟨?_, (by repeat (first | with_reducible exact Ext.refl _ | with_reducible assumption | with_reducible refine Ext.alloc ?_ _ | with_reducible refine Ext.drew ?_ | with_reducible refine Ext.drewN ?_ _ | ((with_reducible refine Ext.set ?_ ?_ _); (focus (first | (simp; done) | (simp; omega)))) | with_reducible refine Ext.trans ?_ (by assumption)))⟩; first | (simp [isCredit, *]; done) | (simp [isCredit, *]; intros; exfalso; omega) | (exfalso; simp_all))
end Go.Proofs.Ytebolohnfhhmpaa

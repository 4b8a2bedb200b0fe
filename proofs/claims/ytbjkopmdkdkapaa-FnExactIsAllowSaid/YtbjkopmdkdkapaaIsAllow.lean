/-
  Contracts of IsAllow, of the program and of the reference: both compute the same plain function. No condition.
-/
import Derived.Test.YtbjkopmdkdkapaaIn
namespace Go.Proofs.Ytbjkopmdkdkapaa
open Go.ChangeShapes Go.WideShapes Go.ChangeAt Go.RowKit
set_option linter.unusedSimpArgs false
theorem isAllow_spec (m l s c : Int) (w : World) : Calls Try.prog 12 #[.agg #[.int .i64 m, .int .i64 l, .int .i64 s, .int .i64 c]] w fun e w' => e = .returned (.bool (isAllow m l s c)) ∧ Ext w w' := by
  by_cases h : (inB 0 m 1000 && inB m l 1152921504606846976 && inB 0 s l && inB 0 c s) = true
  · simp only [Bool.and_eq_true] at h
    obtain ⟨⟨⟨h1, h2⟩, h3⟩, h4⟩ := h
    obtain ⟨k1, k1'⟩ := inB_true h1
    obtain ⟨k2, k2'⟩ := inB_true h2
    obtain ⟨k3, k3'⟩ := inB_true h3
    obtain ⟨k4, k4'⟩ := inB_true h4
    go_enter Try.func12, Try.ntmps12
    go_wp2_with (first | (go_at_call 25; refine (l1In_any _ _ _ _).mono ?_; rintro e w1 ⟨rfl, rfl⟩))
    all_goals go_ret
    all_goals (refine ⟨?_, (by repeat (first | with_reducible exact Ext.refl _ | with_reducible assumption | with_reducible refine Ext.alloc ?_ _ | with_reducible refine Ext.drew ?_ | with_reducible refine Ext.drewN ?_ _ | ((with_reducible refine Ext.set ?_ ?_ _); (focus (first | (simp; done) | (simp; omega)))) | with_reducible refine Ext.trans ?_ (by assumption)))⟩; first | (simp [isAllow, *]; done) | (simp [isAllow, *]; intros; exfalso; omega) | (exfalso; simp_all))
  · go_enter Try.func12, Try.ntmps12
    go_wp2_with (first | (go_at_call 25; refine (l1In_any _ _ _ _).mono ?_; rintro e w1 ⟨rfl, rfl⟩))
    all_goals go_ret
    all_goals (refine ⟨?_, (by repeat (first | with_reducible exact Ext.refl _ | with_reducible assumption | with_reducible refine Ext.alloc ?_ _ | with_reducible refine Ext.drew ?_ | with_reducible refine Ext.drewN ?_ _ | ((with_reducible refine Ext.set ?_ ?_ _); (focus (first | (simp; done) | (simp; omega)))) | with_reducible refine Ext.trans ?_ (by assumption)))⟩; first | (simp [isAllow, *]; done) | (simp [isAllow, *]; intros; exfalso; omega) | (exfalso; simp_all))
theorem isAllow_impl (m l s c : Int) (w : World) : Calls Try.prog 14 #[.agg #[.int .i64 m, .int .i64 l, .int .i64 s, .int .i64 c]] w fun e w' => e = .returned (.bool (isAllow m l s c)) ∧ Ext w w' := by
  by_cases h : (inB 0 m 1000 && inB m l 1152921504606846976 && inB 0 s l && inB 0 c s) = true
  · simp only [Bool.and_eq_true] at h
    obtain ⟨⟨⟨h1, h2⟩, h3⟩, h4⟩ := h
    obtain ⟨k1, k1'⟩ := inB_true h1
    obtain ⟨k2, k2'⟩ := inB_true h2
    obtain ⟨k3, k3'⟩ := inB_true h3
    obtain ⟨k4, k4'⟩ := inB_true h4
    go_enter Try.func14, Try.ntmps14
    go_wp2_with (first | (go_at_call 26; refine (within_any _ _ _ _).mono ?_; rintro e w1 ⟨rfl, rfl⟩))
    all_goals go_ret
    all_goals (refine ⟨?_, (by repeat (first | with_reducible exact Ext.refl _ | with_reducible assumption | with_reducible refine Ext.alloc ?_ _ | with_reducible refine Ext.drew ?_ | with_reducible refine Ext.drewN ?_ _ | ((with_reducible refine Ext.set ?_ ?_ _); (focus (first | (simp; done) | (simp; omega)))) | with_reducible refine Ext.trans ?_ (by assumption)))⟩; first | (simp [isAllow, *]; done) | (simp [isAllow, *]; intros; exfalso; omega) | (exfalso; simp_all))
  · go_enter Try.func14, Try.ntmps14
    go_wp2_with (first | (go_at_call 26; refine (within_any _ _ _ _).mono ?_; rintro e w1 ⟨rfl, rfl⟩))
    all_goals go_ret
    all_goals (refine ⟨?_, (by repeat (first | with_reducible exact Ext.refl _ | with_reducible assumption | with_reducible refine Ext.alloc ?_ _ | with_reducible refine Ext.drew ?_ | with_reducible refine Ext.drewN ?_ _ | ((with_reducible refine Ext.set ?_ ?_ _); (focus (first | (simp; done) | (simp; omega)))) | with_reducible refine Ext.trans ?_ (by assumption)))⟩; first | (simp [isAllow, *]; done) | (simp [isAllow, *]; intros; exfalso; omega) | (exfalso; simp_all))
end Go.Proofs.Ytbjkopmdkdkapaa

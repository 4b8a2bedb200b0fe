/-
  Contracts of IsWindow, of the program and of the reference: both compute the same plain function. No condition.
-/
import Derived.Test.YtofaihmiekoikaaIn
namespace Go.Proofs.Ytofaihmiekoikaa
open Go.ChangeShapes Go.WideShapes Go.ChangeAt Go.RowKit
set_option linter.unusedSimpArgs false
theorem isWindow_spec (z m l s r t : Int) (w : World) : Calls Try.prog 11 #[.agg #[.int .i64 z, .int .i64 m, .int .i64 l, .int .i64 s, .int .i64 r, .int .i64 t]] w fun e w' => e = .returned (.bool (isWindow z m l s r t)) ∧ Ext w w' := by
  by_cases h : (inB 1 m 4096 && inB 1 z m && inB 1 l 4611686018427387903 && inB 0 s l && inB 0 r s) = true
  · simp only [Bool.and_eq_true] at h
    obtain ⟨⟨⟨⟨h1, h2⟩, h3⟩, h4⟩, h5⟩ := h
    obtain ⟨k1, k1'⟩ := inB_true h1
    obtain ⟨k2, k2'⟩ := inB_true h2
    obtain ⟨k3, k3'⟩ := inB_true h3
    obtain ⟨k4, k4'⟩ := inB_true h4
    obtain ⟨k5, k5'⟩ := inB_true h5
    go_enter Try.func11, Try.ntmps11
    go_wp2_with (first | (go_at_call 31; refine (l1In_any _ _ _ _).mono ?_; rintro e w1 ⟨rfl, rfl⟩))
    all_goals go_ret
    all_goals (refine ⟨?_, (by repeat (first | with_reducible exact Ext.refl _ | with_reducible assumption | with_reducible refine Ext.alloc ?_ _ | with_reducible refine Ext.drew ?_ | with_reducible refine Ext.drewN ?_ _ | ((with_reducible refine Ext.set ?_ ?_ _); (focus (first | (simp; done) | (simp; omega)))) | with_reducible refine Ext.trans ?_ (by assumption)))⟩; first | (simp [isWindow, *]; done) | (simp [isWindow, *]; intros; exfalso; omega) | (exfalso; simp_all))
  · go_enter Try.func11, Try.ntmps11
    go_wp2_with (first | (go_at_call 31; refine (l1In_any _ _ _ _).mono ?_; rintro e w1 ⟨rfl, rfl⟩))
    all_goals go_ret
    all_goals (refine ⟨?_, (by repeat (first | with_reducible exact Ext.refl _ | with_reducible assumption | with_reducible refine Ext.alloc ?_ _ | with_reducible refine Ext.drew ?_ | with_reducible refine Ext.drewN ?_ _ | ((with_reducible refine Ext.set ?_ ?_ _); (focus (first | (simp; done) | (simp; omega)))) | with_reducible refine Ext.trans ?_ (by assumption)))⟩; first | (simp [isWindow, *]; done) | (simp [isWindow, *]; intros; exfalso; omega) | (exfalso; simp_all))
theorem isWindow_impl (z m l s r t : Int) (w : World) : Calls Try.prog 13 #[.agg #[.int .i64 z, .int .i64 m, .int .i64 l, .int .i64 s, .int .i64 r, .int .i64 t]] w fun e w' => e = .returned (.bool (isWindow z m l s r t)) ∧ Ext w w' := by
  by_cases h : (inB 1 m 4096 && inB 1 z m && inB 1 l 4611686018427387903 && inB 0 s l && inB 0 r s) = true
  · simp only [Bool.and_eq_true] at h
    obtain ⟨⟨⟨⟨h1, h2⟩, h3⟩, h4⟩, h5⟩ := h
    obtain ⟨k1, k1'⟩ := inB_true h1
    obtain ⟨k2, k2'⟩ := inB_true h2
    obtain ⟨k3, k3'⟩ := inB_true h3
    obtain ⟨k4, k4'⟩ := inB_true h4
    obtain ⟨k5, k5'⟩ := inB_true h5
    go_enter Try.func13, Try.ntmps13
    go_wp2_with (first | (go_at_call 32; refine (within_any _ _ _ _).mono ?_; rintro e w1 ⟨rfl, rfl⟩))
    all_goals go_ret
    all_goals (refine ⟨?_, (by repeat (first | with_reducible exact Ext.refl _ | with_reducible assumption | with_reducible refine Ext.alloc ?_ _ | with_reducible refine Ext.drew ?_ | with_reducible refine Ext.drewN ?_ _ | ((with_reducible refine Ext.set ?_ ?_ _); (focus (first | (simp; done) | (simp; omega)))) | with_reducible refine Ext.trans ?_ (by assumption)))⟩; first | (simp [isWindow, *]; done) | (simp [isWindow, *]; intros; exfalso; omega) | (exfalso; simp_all))
  · go_enter Try.func13, Try.ntmps13
    go_wp2_with (first | (go_at_call 32; refine (within_any _ _ _ _).mono ?_; rintro e w1 ⟨rfl, rfl⟩))
    all_goals go_ret
    all_goals (refine ⟨?_, (by repeat (first | with_reducible exact Ext.refl _ | with_reducible assumption | with_reducible refine Ext.alloc ?_ _ | with_reducible refine Ext.drew ?_ | with_reducible refine Ext.drewN ?_ _ | ((with_reducible refine Ext.set ?_ ?_ _); (focus (first | (simp; done) | (simp; omega)))) | with_reducible refine Ext.trans ?_ (by assumption)))⟩; first | (simp [isWindow, *]; done) | (simp [isWindow, *]; intros; exfalso; omega) | (exfalso; simp_all))
end Go.Proofs.Ytofaihmiekoikaa

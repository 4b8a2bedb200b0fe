/-
  Contracts of CreditLeft, of the program and of the reference: both compute the same plain function. No condition.
-/
import Derived.Test.YtebolohnfhhmpaaIsCredit
namespace Go.Proofs.Ytebolohnfhhmpaa
open Go.ChangeShapes Go.WideShapes Go.ChangeAt Go.RowKit
set_option linter.unusedSimpArgs false
set_option maxHeartbeats 1000000 in
theorem CreditLeft_spec (l u b t : Int) (w : World) : Calls Try.prog 17 #[.agg #[.int .i64 l, .int .i64 u, .int .i64 b, .int .i64 t]] w fun e w' => e = .returned (.int .i64 (leftCr l u b t)) ∧ Ext w w' := by
  rcases Bool.eq_false_or_eq_true (isCredit l u b t) with hv | hv
  · -- yes
    have hbd := isCredit_bd hv
    obtain ⟨k1, k2, k3, k4, k5, k6, k7, k8⟩ := hbd
    go_enter Try.func17, Try.ntmps17
    go_wp2_with (first | (go_at_call 12; refine (isCredit_spec _ _ _ _ _).mono ?_; rintro e w1 ⟨rfl, hb1⟩; have hk0 := hb1.more (k := w.heap.size) (by first | assumption | (simp; done) | (simp; omega) | omega); obtain ⟨hc0, hf0⟩ := hb1.row (k := w.heap.size) (by first | assumption | (simp; done) | (simp; omega) | omega)))
    go_ret
    exact ⟨(by first | (simp [leftCr, *]; done) | (simp [leftCr, *]; omega) | (simp [leftCr, *]; split <;> first | (exfalso; omega) | (simp; done) | (simp; omega))), (by repeat (first | with_reducible exact Ext.refl _ | with_reducible assumption | with_reducible refine Ext.alloc ?_ _ | with_reducible refine Ext.drew ?_ | with_reducible refine Ext.drewN ?_ _ | ((with_reducible refine Ext.set ?_ ?_ _); (focus (first | (simp; done) | (simp; omega)))) | with_reducible refine Ext.trans ?_ (by assumption)))⟩
  · -- no
    go_enter Try.func17, Try.ntmps17
    go_wp2_with (first | (go_at_call 12; refine (isCredit_spec _ _ _ _ _).mono ?_; rintro e w1 ⟨rfl, hb1⟩; have hk0 := hb1.more (k := w.heap.size) (by first | assumption | (simp; done) | (simp; omega) | omega); obtain ⟨hc0, hf0⟩ := hb1.row (k := w.heap.size) (by first | assumption | (simp; done) | (simp; omega) | omega)))
    go_ret
    exact ⟨(by first | (simp [leftCr, *]; done) | (simp [leftCr, *]; omega) | (simp [leftCr, *]; split <;> first | (exfalso; omega) | (simp; done) | (simp; omega))), (by repeat (first | with_reducible exact Ext.refl _ | with_reducible assumption | with_reducible refine Ext.alloc ?_ _ | with_reducible refine Ext.drew ?_ | with_reducible refine Ext.drewN ?_ _ | ((with_reducible refine Ext.set ?_ ?_ _); (focus (first | (simp; done) | (simp; omega)))) | with_reducible refine Ext.trans ?_ (by assumption)))⟩
set_option maxHeartbeats 1000000 in
theorem CreditLeft_impl (l u b t : Int) (w : World) : Calls Try.prog 18 #[.agg #[.int .i64 l, .int .i64 u, .int .i64 b, .int .i64 t]] w fun e w' => e = .returned (.int .i64 (leftCr l u b t)) ∧ Ext w w' := by
  rcases Bool.eq_false_or_eq_true (isCredit l u b t) with hv | hv
  · -- yes
    have hbd := isCredit_bd hv
    obtain ⟨k1, k2, k3, k4, k5, k6, k7, k8⟩ := hbd
    go_enter Try.func18, Try.ntmps18
    go_wp2_with (first | (go_at_call 14; refine (isCredit_impl _ _ _ _ _).mono ?_; rintro e w1 ⟨rfl, hb1⟩; have hk0 := hb1.more (k := w.heap.size) (by first | assumption | (simp; done) | (simp; omega) | omega); obtain ⟨hc0, hf0⟩ := hb1.row (k := w.heap.size) (by first | assumption | (simp; done) | (simp; omega) | omega)))
    go_ret
    exact ⟨(by first | (simp [leftCr, *]; done) | (simp [leftCr, *]; omega) | (simp [leftCr, *]; split <;> first | (exfalso; omega) | (simp; done) | (simp; omega))), (by repeat (first | with_reducible exact Ext.refl _ | with_reducible assumption | with_reducible refine Ext.alloc ?_ _ | with_reducible refine Ext.drew ?_ | with_reducible refine Ext.drewN ?_ _ | ((with_reducible refine Ext.set ?_ ?_ _); (focus (first | (simp; done) | (simp; omega)))) | with_reducible refine Ext.trans ?_ (by assumption)))⟩
  · -- no
    go_enter Try.func18, Try.ntmps18
    go_wp2_with (first | (go_at_call 14; refine (isCredit_impl _ _ _ _ _).mono ?_; rintro e w1 ⟨rfl, hb1⟩; have hk0 := hb1.more (k := w.heap.size) (by first | assumption | (simp; done) | (simp; omega) | omega); obtain ⟨hc0, hf0⟩ := hb1.row (k := w.heap.size) (by first | assumption | (simp; done) | (simp; omega) | omega)))
    go_ret
    exact ⟨(by first | (simp [leftCr, *]; done) | (simp [leftCr, *]; omega) | (simp [leftCr, *]; split <;> first | (exfalso; omega) | (simp; done) | (simp; omega))), (by repeat (first | with_reducible exact Ext.refl _ | with_reducible assumption | with_reducible refine Ext.alloc ?_ _ | with_reducible refine Ext.drew ?_ | with_reducible refine Ext.drewN ?_ _ | ((with_reducible refine Ext.set ?_ ?_ _); (focus (first | (simp; done) | (simp; omega)))) | with_reducible refine Ext.trans ?_ (by assumption)))⟩
end Go.Proofs.Ytebolohnfhhmpaa

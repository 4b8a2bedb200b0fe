/-
  Contracts of MustTell, of the program and of the reference: both compute the same plain function. No condition.
-/
import Derived.Test.YtebolohnfhhmpaaIsCredit
namespace Go.Proofs.Ytebolohnfhhmpaa
open Go.ChangeShapes Go.WideShapes Go.ChangeAt Go.RowKit
set_option linter.unusedSimpArgs false
set_option maxHeartbeats 1000000 in
theorem MustTell_spec (l u b t : Int) (w : World) : Calls Try.prog 15 #[.agg #[.int .i64 l, .int .i64 u, .int .i64 b, .int .i64 t]] w fun e w' => e = .returned (.bool (tellCr l u b t)) ∧ Ext w w' := by
  rcases Bool.eq_false_or_eq_true (isCredit l u b t) with hv | hv
  · -- yes
    by_cases h0 : b = l
    · -- equal
      have h0e : (b == l) = true := by simp [h0]
      have h0n : (b != l) = false := by simp [h0]
      have h0H := hide h0
      clear h0
      go_enter Try.func15, Try.ntmps15
      go_wp2_with (first | (go_at_call 12; refine (isCredit_spec _ _ _ _ _).mono ?_; rintro e w1 ⟨rfl, hb1⟩; have hk0 := hb1.more (k := w.heap.size) (by first | assumption | (simp; done) | (simp; omega) | omega); obtain ⟨hc0, hf0⟩ := hb1.row (k := w.heap.size) (by first | assumption | (simp; done) | (simp; omega) | omega)))
      go_ret
      exact ⟨(by first | (simp [tellCr, *]; done) | (simp [tellCr, *]; omega) | (simp [tellCr, *]; split <;> first | (exfalso; omega) | (simp; done) | (simp; omega))), (by repeat (first | with_reducible exact Ext.refl _ | with_reducible assumption | with_reducible refine Ext.alloc ?_ _ | with_reducible refine Ext.drew ?_ | with_reducible refine Ext.drewN ?_ _ | ((with_reducible refine Ext.set ?_ ?_ _); (focus (first | (simp; done) | (simp; omega)))) | with_reducible refine Ext.trans ?_ (by assumption)))⟩
    · -- other
      have h0e : (b == l) = false := by simp [h0]
      have h0n : (b != l) = true := by simp [h0]
      have h0H := hide h0
      clear h0
      go_enter Try.func15, Try.ntmps15
      go_wp2_with (first | (go_at_call 12; refine (isCredit_spec _ _ _ _ _).mono ?_; rintro e w1 ⟨rfl, hb1⟩; have hk0 := hb1.more (k := w.heap.size) (by first | assumption | (simp; done) | (simp; omega) | omega); obtain ⟨hc0, hf0⟩ := hb1.row (k := w.heap.size) (by first | assumption | (simp; done) | (simp; omega) | omega)))
      go_ret
      exact ⟨(by first | (simp [tellCr, *]; done) | (simp [tellCr, *]; omega) | (simp [tellCr, *]; split <;> first | (exfalso; omega) | (simp; done) | (simp; omega))), (by repeat (first | with_reducible exact Ext.refl _ | with_reducible assumption | with_reducible refine Ext.alloc ?_ _ | with_reducible refine Ext.drew ?_ | with_reducible refine Ext.drewN ?_ _ | ((with_reducible refine Ext.set ?_ ?_ _); (focus (first | (simp; done) | (simp; omega)))) | with_reducible refine Ext.trans ?_ (by assumption)))⟩
  · -- no
    go_enter Try.func15, Try.ntmps15
    go_wp2_with (first | (go_at_call 12; refine (isCredit_spec _ _ _ _ _).mono ?_; rintro e w1 ⟨rfl, hb1⟩; have hk0 := hb1.more (k := w.heap.size) (by first | assumption | (simp; done) | (simp; omega) | omega); obtain ⟨hc0, hf0⟩ := hb1.row (k := w.heap.size) (by first | assumption | (simp; done) | (simp; omega) | omega)))
    go_ret
    exact ⟨(by first | (simp [tellCr, *]; done) | (simp [tellCr, *]; omega) | (simp [tellCr, *]; split <;> first | (exfalso; omega) | (simp; done) | (simp; omega))), (by repeat (first | with_reducible exact Ext.refl _ | with_reducible assumption | with_reducible refine Ext.alloc ?_ _ | with_reducible refine Ext.drew ?_ | with_reducible refine Ext.drewN ?_ _ | ((with_reducible refine Ext.set ?_ ?_ _); (focus (first | (simp; done) | (simp; omega)))) | with_reducible refine Ext.trans ?_ (by assumption)))⟩
set_option maxHeartbeats 1000000 in
theorem MustTell_impl (l u b t : Int) (w : World) : Calls Try.prog 16 #[.agg #[.int .i64 l, .int .i64 u, .int .i64 b, .int .i64 t]] w fun e w' => e = .returned (.bool (tellCr l u b t)) ∧ Ext w w' := by
  rcases Bool.eq_false_or_eq_true (isCredit l u b t) with hv | hv
  · -- yes
    by_cases h0 : b = l
    · -- equal
      have h0e : (b == l) = true := by simp [h0]
      have h0n : (b != l) = false := by simp [h0]
      have h0H := hide h0
      clear h0
      go_enter Try.func16, Try.ntmps16
      go_wp2_with (first | (go_at_call 14; refine (isCredit_impl _ _ _ _ _).mono ?_; rintro e w1 ⟨rfl, hb1⟩; have hk0 := hb1.more (k := w.heap.size) (by first | assumption | (simp; done) | (simp; omega) | omega); obtain ⟨hc0, hf0⟩ := hb1.row (k := w.heap.size) (by first | assumption | (simp; done) | (simp; omega) | omega)))
      go_ret
      exact ⟨(by first | (simp [tellCr, *]; done) | (simp [tellCr, *]; omega) | (simp [tellCr, *]; split <;> first | (exfalso; omega) | (simp; done) | (simp; omega))), (by repeat (first | with_reducible exact Ext.refl _ | with_reducible assumption | with_reducible refine Ext.alloc ?_ _ | with_reducible refine Ext.drew ?_ | with_reducible refine Ext.drewN ?_ _ | ((with_reducible refine Ext.set ?_ ?_ _); (focus (first | (simp; done) | (simp; omega)))) | with_reducible refine Ext.trans ?_ (by assumption)))⟩
    · -- other
      have h0e : (b == l) = false := by simp [h0]
      have h0n : (b != l) = true := by simp [h0]
      have h0H := hide h0
      clear h0
      go_enter Try.func16, Try.ntmps16
      go_wp2_with (first | (go_at_call 14; refine (isCredit_impl _ _ _ _ _).mono ?_; rintro e w1 ⟨rfl, hb1⟩; have hk0 := hb1.more (k := w.heap.size) (by first | assumption | (simp; done) | (simp; omega) | omega); obtain ⟨hc0, hf0⟩ := hb1.row (k := w.heap.size) (by first | assumption | (simp; done) | (simp; omega) | omega)))
      go_ret
      exact ⟨(by first | (simp [tellCr, *]; done) | (simp [tellCr, *]; omega) | (simp [tellCr, *]; split <;> first | (exfalso; omega) | (simp; done) | (simp; omega))), (by repeat (first | with_reducible exact Ext.refl _ | with_reducible assumption | with_reducible refine Ext.alloc ?_ _ | with_reducible refine Ext.drew ?_ | with_reducible refine Ext.drewN ?_ _ | ((with_reducible refine Ext.set ?_ ?_ _); (focus (first | (simp; done) | (simp; omega)))) | with_reducible refine Ext.trans ?_ (by assumption)))⟩
  · -- no
    go_enter Try.func16, Try.ntmps16
    go_wp2_with (first | (go_at_call 14; refine (isCredit_impl _ _ _ _ _).mono ?_; rintro e w1 ⟨rfl, hb1⟩; have hk0 := hb1.more (k := w.heap.size) (by first | assumption | (simp; done) | (simp; omega) | omega); obtain ⟨hc0, hf0⟩ := hb1.row (k := w.heap.size) (by first | assumption | (simp; done) | (simp; omega) | omega)))
    go_ret
    exact ⟨(by first | (simp [tellCr, *]; done) | (simp [tellCr, *]; omega) | (simp [tellCr, *]; split <;> first | (exfalso; omega) | (simp; done) | (simp; omega))), (by repeat (first | with_reducible exact Ext.refl _ | with_reducible assumption | with_reducible refine Ext.alloc ?_ _ | with_reducible refine Ext.drew ?_ | with_reducible refine Ext.drewN ?_ _ | ((with_reducible refine Ext.set ?_ ?_ _); (focus (first | (simp; done) | (simp; omega)))) | with_reducible refine Ext.trans ?_ (by assumption)))⟩
end Go.Proofs.Ytebolohnfhhmpaa

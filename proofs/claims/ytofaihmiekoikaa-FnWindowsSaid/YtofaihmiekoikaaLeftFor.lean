/-
  Contracts of LeftFor, of the program and of the reference: both compute the same plain function. No condition.
-/
import Derived.Test.YtofaihmiekoikaaIsWindow
namespace Go.Proofs.Ytofaihmiekoikaa
open Go.ChangeShapes Go.WideShapes Go.ChangeAt Go.RowKit
set_option linter.unusedSimpArgs false
set_option maxHeartbeats 1000000 in
theorem LeftFor_spec (z m l s r t : Int) (w : World) : Calls Try.prog 16 #[.agg #[.int .i64 z, .int .i64 m, .int .i64 l, .int .i64 s, .int .i64 r, .int .i64 t]] w fun e w' => e = .returned (.int .i64 (leftWn z m l s r t)) ∧ Ext w w' := by
  rcases Bool.eq_false_or_eq_true (isWindow z m l s r t) with hv | hv
  · -- yes
    have hbd := isWindow_bd hv
    obtain ⟨k1, k2, k3, k4, k5, k6, k7, k8, k9, k10, k11, k12, k13⟩ := hbd
    go_enter Try.func16, Try.ntmps16
    go_wp2_with (first | (go_at_call 11; refine (isWindow_spec _ _ _ _ _ _ _).mono ?_; rintro e w1 ⟨rfl, hb1⟩; have hk0 := hb1.more (k := w.heap.size) (by first | assumption | (simp; done) | (simp; omega) | omega); obtain ⟨hc0, hf0⟩ := hb1.row (k := w.heap.size) (by first | assumption | (simp; done) | (simp; omega) | omega)))
    go_ret
    exact ⟨(by first | (simp [leftWn, *]; done) | (simp [leftWn, *]; omega) | (simp [leftWn, *]; split <;> first | (exfalso; omega) | (simp; done) | (simp; omega))), (by repeat (first | with_reducible exact Ext.refl _ | with_reducible assumption | with_reducible refine Ext.alloc ?_ _ | with_reducible refine Ext.drew ?_ | with_reducible refine Ext.drewN ?_ _ | ((with_reducible refine Ext.set ?_ ?_ _); (focus (first | (simp; done) | (simp; omega)))) | with_reducible refine Ext.trans ?_ (by assumption)))⟩
  · -- no
    go_enter Try.func16, Try.ntmps16
    go_wp2_with (first | (go_at_call 11; refine (isWindow_spec _ _ _ _ _ _ _).mono ?_; rintro e w1 ⟨rfl, hb1⟩; have hk0 := hb1.more (k := w.heap.size) (by first | assumption | (simp; done) | (simp; omega) | omega); obtain ⟨hc0, hf0⟩ := hb1.row (k := w.heap.size) (by first | assumption | (simp; done) | (simp; omega) | omega)))
    go_ret
    exact ⟨(by first | (simp [leftWn, *]; done) | (simp [leftWn, *]; omega) | (simp [leftWn, *]; split <;> first | (exfalso; omega) | (simp; done) | (simp; omega))), (by repeat (first | with_reducible exact Ext.refl _ | with_reducible assumption | with_reducible refine Ext.alloc ?_ _ | with_reducible refine Ext.drew ?_ | with_reducible refine Ext.drewN ?_ _ | ((with_reducible refine Ext.set ?_ ?_ _); (focus (first | (simp; done) | (simp; omega)))) | with_reducible refine Ext.trans ?_ (by assumption)))⟩
set_option maxHeartbeats 1000000 in
theorem LeftFor_impl (z m l s r t : Int) (w : World) : Calls Try.prog 17 #[.agg #[.int .i64 z, .int .i64 m, .int .i64 l, .int .i64 s, .int .i64 r, .int .i64 t]] w fun e w' => e = .returned (.int .i64 (leftWn z m l s r t)) ∧ Ext w w' := by
  rcases Bool.eq_false_or_eq_true (isWindow z m l s r t) with hv | hv
  · -- yes
    have hbd := isWindow_bd hv
    obtain ⟨k1, k2, k3, k4, k5, k6, k7, k8, k9, k10, k11, k12, k13⟩ := hbd
    go_enter Try.func17, Try.ntmps17
    go_wp2_with (first | (go_at_call 13; refine (isWindow_impl _ _ _ _ _ _ _).mono ?_; rintro e w1 ⟨rfl, hb1⟩; have hk0 := hb1.more (k := w.heap.size) (by first | assumption | (simp; done) | (simp; omega) | omega); obtain ⟨hc0, hf0⟩ := hb1.row (k := w.heap.size) (by first | assumption | (simp; done) | (simp; omega) | omega)))
    go_ret
    exact ⟨(by first | (simp [leftWn, *]; done) | (simp [leftWn, *]; omega) | (simp [leftWn, *]; split <;> first | (exfalso; omega) | (simp; done) | (simp; omega))), (by repeat (first | with_reducible exact Ext.refl _ | with_reducible assumption | with_reducible refine Ext.alloc ?_ _ | with_reducible refine Ext.drew ?_ | with_reducible refine Ext.drewN ?_ _ | ((with_reducible refine Ext.set ?_ ?_ _); (focus (first | (simp; done) | (simp; omega)))) | with_reducible refine Ext.trans ?_ (by assumption)))⟩
  · -- no
    go_enter Try.func17, Try.ntmps17
    go_wp2_with (first | (go_at_call 13; refine (isWindow_impl _ _ _ _ _ _ _).mono ?_; rintro e w1 ⟨rfl, hb1⟩; have hk0 := hb1.more (k := w.heap.size) (by first | assumption | (simp; done) | (simp; omega) | omega); obtain ⟨hc0, hf0⟩ := hb1.row (k := w.heap.size) (by first | assumption | (simp; done) | (simp; omega) | omega)))
    go_ret
    exact ⟨(by first | (simp [leftWn, *]; done) | (simp [leftWn, *]; omega) | (simp [leftWn, *]; split <;> first | (exfalso; omega) | (simp; done) | (simp; omega))), (by repeat (first | with_reducible exact Ext.refl _ | with_reducible assumption | with_reducible refine Ext.alloc ?_ _ | with_reducible refine Ext.drew ?_ | with_reducible refine Ext.drewN ?_ _ | ((with_reducible refine Ext.set ?_ ?_ _); (focus (first | (simp; done) | (simp; omega)))) | with_reducible refine Ext.trans ?_ (by assumption)))⟩
end Go.Proofs.Ytofaihmiekoikaa

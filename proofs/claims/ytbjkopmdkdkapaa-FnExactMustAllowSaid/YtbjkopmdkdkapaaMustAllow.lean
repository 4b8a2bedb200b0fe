/-
  Contracts of MustAllow, of the program and of the reference: both compute the same plain function. No condition.
-/
import Derived.Test.YtbjkopmdkdkapaaIsAllow
namespace Go.Proofs.Ytbjkopmdkdkapaa
open Go.ChangeShapes Go.WideShapes Go.ChangeAt Go.RowKit
set_option linter.unusedSimpArgs false
set_option maxHeartbeats 1000000 in
theorem MustAllow_spec (m l s c : Int) (w : World) : Calls Try.prog 15 #[.agg #[.int .i64 m, .int .i64 l, .int .i64 s, .int .i64 c]] w fun e w' => e = .returned (.bool (mustAw m l s c)) ∧ Ext w w' := by
  rcases Bool.eq_false_or_eq_true (isAllow m l s c) with hv | hv
  · -- yes
    have hbd := isAllow_bd hv
    obtain ⟨k1, k2, k3, k4, k5, k6, k7, k8, k9⟩ := hbd
    by_cases h0 : 0 < m
    · -- yes
      by_cases h1 : (m + 1) / 2 ≤ c + m - l
      · -- yes
        go_enter Try.func15, Try.ntmps15
        go_wp2_with (first | (go_at_call 12; refine (isAllow_spec _ _ _ _ _).mono ?_; rintro e w1 ⟨rfl, hb1⟩; have hk0 := hb1.more (k := w.heap.size) (by first | assumption | (simp; done) | (simp; omega) | omega); obtain ⟨hc0, hf0⟩ := hb1.row (k := w.heap.size) (by first | assumption | (simp; done) | (simp; omega) | omega)))
        go_ret
        exact ⟨(by first | (simp [mustAw, *]; done) | (simp [mustAw, *]; omega) | (simp [mustAw, *]; split <;> first | (exfalso; omega) | (simp; done) | (simp; omega))), (by repeat (first | with_reducible exact Ext.refl _ | with_reducible assumption | with_reducible refine Ext.alloc ?_ _ | with_reducible refine Ext.drew ?_ | with_reducible refine Ext.drewN ?_ _ | ((with_reducible refine Ext.set ?_ ?_ _); (focus (first | (simp; done) | (simp; omega)))) | with_reducible refine Ext.trans ?_ (by assumption)))⟩
      · -- no
        have h1x : ¬ ((m + 1) / 2 ≤ c + m - l) := h1
        have h1d : decide ((m + 1) / 2 ≤ c + m - l) = false := decide_eq_false h1x
        replace h1 : c + m - l < (m + 1) / 2 := by omega
        go_enter Try.func15, Try.ntmps15
        go_wp2_with (first | (go_at_call 12; refine (isAllow_spec _ _ _ _ _).mono ?_; rintro e w1 ⟨rfl, hb1⟩; have hk0 := hb1.more (k := w.heap.size) (by first | assumption | (simp; done) | (simp; omega) | omega); obtain ⟨hc0, hf0⟩ := hb1.row (k := w.heap.size) (by first | assumption | (simp; done) | (simp; omega) | omega)))
        go_ret
        exact ⟨(by first | (simp [mustAw, *]; done) | (simp [mustAw, *]; omega) | (simp [mustAw, *]; split <;> first | (exfalso; omega) | (simp; done) | (simp; omega))), (by repeat (first | with_reducible exact Ext.refl _ | with_reducible assumption | with_reducible refine Ext.alloc ?_ _ | with_reducible refine Ext.drew ?_ | with_reducible refine Ext.drewN ?_ _ | ((with_reducible refine Ext.set ?_ ?_ _); (focus (first | (simp; done) | (simp; omega)))) | with_reducible refine Ext.trans ?_ (by assumption)))⟩
    · -- no
      have h0x : ¬ (0 < m) := h0
      have h0d : decide (0 < m) = false := decide_eq_false h0x
      replace h0 : m ≤ 0 := by omega
      by_cases h1 : (m + 1) / 2 ≤ c + m - l
      · -- yes
        go_enter Try.func15, Try.ntmps15
        go_wp2_with (first | (go_at_call 12; refine (isAllow_spec _ _ _ _ _).mono ?_; rintro e w1 ⟨rfl, hb1⟩; have hk0 := hb1.more (k := w.heap.size) (by first | assumption | (simp; done) | (simp; omega) | omega); obtain ⟨hc0, hf0⟩ := hb1.row (k := w.heap.size) (by first | assumption | (simp; done) | (simp; omega) | omega)))
        go_ret
        exact ⟨(by first | (simp [mustAw, *]; done) | (simp [mustAw, *]; omega) | (simp [mustAw, *]; split <;> first | (exfalso; omega) | (simp; done) | (simp; omega))), (by repeat (first | with_reducible exact Ext.refl _ | with_reducible assumption | with_reducible refine Ext.alloc ?_ _ | with_reducible refine Ext.drew ?_ | with_reducible refine Ext.drewN ?_ _ | ((with_reducible refine Ext.set ?_ ?_ _); (focus (first | (simp; done) | (simp; omega)))) | with_reducible refine Ext.trans ?_ (by assumption)))⟩
      · -- no
        have h1x : ¬ ((m + 1) / 2 ≤ c + m - l) := h1
        have h1d : decide ((m + 1) / 2 ≤ c + m - l) = false := decide_eq_false h1x
        replace h1 : c + m - l < (m + 1) / 2 := by omega
        exfalso
        omega
  · -- no
    go_enter Try.func15, Try.ntmps15
    go_wp2_with (first | (go_at_call 12; refine (isAllow_spec _ _ _ _ _).mono ?_; rintro e w1 ⟨rfl, hb1⟩; have hk0 := hb1.more (k := w.heap.size) (by first | assumption | (simp; done) | (simp; omega) | omega); obtain ⟨hc0, hf0⟩ := hb1.row (k := w.heap.size) (by first | assumption | (simp; done) | (simp; omega) | omega)))
    go_ret
    exact ⟨(by first | (simp [mustAw, *]; done) | (simp [mustAw, *]; omega) | (simp [mustAw, *]; split <;> first | (exfalso; omega) | (simp; done) | (simp; omega))), (by repeat (first | with_reducible exact Ext.refl _ | with_reducible assumption | with_reducible refine Ext.alloc ?_ _ | with_reducible refine Ext.drew ?_ | with_reducible refine Ext.drewN ?_ _ | ((with_reducible refine Ext.set ?_ ?_ _); (focus (first | (simp; done) | (simp; omega)))) | with_reducible refine Ext.trans ?_ (by assumption)))⟩
set_option maxHeartbeats 1000000 in
theorem MustAllow_impl (m l s c : Int) (w : World) : Calls Try.prog 16 #[.agg #[.int .i64 m, .int .i64 l, .int .i64 s, .int .i64 c]] w fun e w' => e = .returned (.bool (mustAw m l s c)) ∧ Ext w w' := by
  rcases Bool.eq_false_or_eq_true (isAllow m l s c) with hv | hv
  · -- yes
    have hbd := isAllow_bd hv
    obtain ⟨k1, k2, k3, k4, k5, k6, k7, k8, k9⟩ := hbd
    by_cases h0 : 0 < m
    · -- yes
      by_cases h1 : (m + 1) / 2 ≤ c + m - l
      · -- yes
        go_enter Try.func16, Try.ntmps16
        go_wp2_with (first | (go_at_call 14; refine (isAllow_impl _ _ _ _ _).mono ?_; rintro e w1 ⟨rfl, hb1⟩; have hk0 := hb1.more (k := w.heap.size) (by first | assumption | (simp; done) | (simp; omega) | omega); obtain ⟨hc0, hf0⟩ := hb1.row (k := w.heap.size) (by first | assumption | (simp; done) | (simp; omega) | omega)))
        go_ret
        exact ⟨(by first | (simp [mustAw, *]; done) | (simp [mustAw, *]; omega) | (simp [mustAw, *]; split <;> first | (exfalso; omega) | (simp; done) | (simp; omega))), (by repeat (first | with_reducible exact Ext.refl _ | with_reducible assumption | with_reducible refine Ext.alloc ?_ _ | with_reducible refine Ext.drew ?_ | with_reducible refine Ext.drewN ?_ _ | ((with_reducible refine Ext.set ?_ ?_ _); (focus (first | (simp; done) | (simp; omega)))) | with_reducible refine Ext.trans ?_ (by assumption)))⟩
      · -- no
        have h1x : ¬ ((m + 1) / 2 ≤ c + m - l) := h1
        have h1d : decide ((m + 1) / 2 ≤ c + m - l) = false := decide_eq_false h1x
        replace h1 : c + m - l < (m + 1) / 2 := by omega
        go_enter Try.func16, Try.ntmps16
        go_wp2_with (first | (go_at_call 14; refine (isAllow_impl _ _ _ _ _).mono ?_; rintro e w1 ⟨rfl, hb1⟩; have hk0 := hb1.more (k := w.heap.size) (by first | assumption | (simp; done) | (simp; omega) | omega); obtain ⟨hc0, hf0⟩ := hb1.row (k := w.heap.size) (by first | assumption | (simp; done) | (simp; omega) | omega)))
        go_ret
        exact ⟨(by first | (simp [mustAw, *]; done) | (simp [mustAw, *]; omega) | (simp [mustAw, *]; split <;> first | (exfalso; omega) | (simp; done) | (simp; omega))), (by repeat (first | with_reducible exact Ext.refl _ | with_reducible assumption | with_reducible refine Ext.alloc ?_ _ | with_reducible refine Ext.drew ?_ | with_reducible refine Ext.drewN ?_ _ | ((with_reducible refine Ext.set ?_ ?_ _); (focus (first | (simp; done) | (simp; omega)))) | with_reducible refine Ext.trans ?_ (by assumption)))⟩
    · -- no
      have h0x : ¬ (0 < m) := h0
      have h0d : decide (0 < m) = false := decide_eq_false h0x
      replace h0 : m ≤ 0 := by omega
      by_cases h1 : (m + 1) / 2 ≤ c + m - l
      · -- yes
        go_enter Try.func16, Try.ntmps16
        go_wp2_with (first | (go_at_call 14; refine (isAllow_impl _ _ _ _ _).mono ?_; rintro e w1 ⟨rfl, hb1⟩; have hk0 := hb1.more (k := w.heap.size) (by first | assumption | (simp; done) | (simp; omega) | omega); obtain ⟨hc0, hf0⟩ := hb1.row (k := w.heap.size) (by first | assumption | (simp; done) | (simp; omega) | omega)))
        go_ret
        exact ⟨(by first | (simp [mustAw, *]; done) | (simp [mustAw, *]; omega) | (simp [mustAw, *]; split <;> first | (exfalso; omega) | (simp; done) | (simp; omega))), (by repeat (first | with_reducible exact Ext.refl _ | with_reducible assumption | with_reducible refine Ext.alloc ?_ _ | with_reducible refine Ext.drew ?_ | with_reducible refine Ext.drewN ?_ _ | ((with_reducible refine Ext.set ?_ ?_ _); (focus (first | (simp; done) | (simp; omega)))) | with_reducible refine Ext.trans ?_ (by assumption)))⟩
      · -- no
        have h1x : ¬ ((m + 1) / 2 ≤ c + m - l) := h1
        have h1d : decide ((m + 1) / 2 ≤ c + m - l) = false := decide_eq_false h1x
        replace h1 : c + m - l < (m + 1) / 2 := by omega
        exfalso
        omega
  · -- no
    go_enter Try.func16, Try.ntmps16
    go_wp2_with (first | (go_at_call 14; refine (isAllow_impl _ _ _ _ _).mono ?_; rintro e w1 ⟨rfl, hb1⟩; have hk0 := hb1.more (k := w.heap.size) (by first | assumption | (simp; done) | (simp; omega) | omega); obtain ⟨hc0, hf0⟩ := hb1.row (k := w.heap.size) (by first | assumption | (simp; done) | (simp; omega) | omega)))
    go_ret
    exact ⟨(by first | (simp [mustAw, *]; done) | (simp [mustAw, *]; omega) | (simp [mustAw, *]; split <;> first | (exfalso; omega) | (simp; done) | (simp; omega))), (by repeat (first | with_reducible exact Ext.refl _ | with_reducible assumption | with_reducible refine Ext.alloc ?_ _ | with_reducible refine Ext.drew ?_ | with_reducible refine Ext.drewN ?_ _ | ((with_reducible refine Ext.set ?_ ?_ _); (focus (first | (simp; done) | (simp; omega)))) | with_reducible refine Ext.trans ?_ (by assumption)))⟩
end Go.Proofs.Ytbjkopmdkdkapaa

/-
  Contracts of MustRaise, of the program and of the reference: both compute the same plain function. No condition.
-/
import Derived.Test.YtofaihmiekoikaaIsWindow
namespace Go.Proofs.Ytofaihmiekoikaa
open Go.ChangeShapes Go.WideShapes Go.ChangeAt Go.RowKit
set_option linter.unusedSimpArgs false
set_option maxHeartbeats 1000000 in
theorem MustRaise_spec (z m l s r t : Int) (w : World) : Calls Try.prog 14 #[.agg #[.int .i64 z, .int .i64 m, .int .i64 l, .int .i64 s, .int .i64 r, .int .i64 t]] w fun e w' => e = .returned (.bool (mustWn z m l s r t)) ∧ Ext w w' := by
  rcases Bool.eq_false_or_eq_true (isWindow z m l s r t) with hv | hv
  · -- yes
    have hbd := isWindow_bd hv
    obtain ⟨k1, k2, k3, k4, k5, k6, k7, k8, k9, k10, k11, k12, k13⟩ := hbd
    by_cases h0 : l < 4611686018427387903
    · -- yes
      by_cases h1 : (z + 1) / 2 ≤ r + z - l
      · -- yes
        go_enter Try.func14, Try.ntmps14
        go_wp2_with (first | (go_at_call 11; refine (isWindow_spec _ _ _ _ _ _ _).mono ?_; rintro e w1 ⟨rfl, hb1⟩; have hk0 := hb1.more (k := w.heap.size) (by first | assumption | (simp; done) | (simp; omega) | omega); obtain ⟨hc0, hf0⟩ := hb1.row (k := w.heap.size) (by first | assumption | (simp; done) | (simp; omega) | omega)))
        go_ret
        exact ⟨(by first | (simp [mustWn, *]; done) | (simp [mustWn, *]; omega) | (simp [mustWn, *]; split <;> first | (exfalso; omega) | (simp; done) | (simp; omega))), (by repeat (first | with_reducible exact Ext.refl _ | with_reducible assumption | with_reducible refine Ext.alloc ?_ _ | with_reducible refine Ext.drew ?_ | with_reducible refine Ext.drewN ?_ _ | ((with_reducible refine Ext.set ?_ ?_ _); (focus (first | (simp; done) | (simp; omega)))) | with_reducible refine Ext.trans ?_ (by assumption)))⟩
      · -- no
        have h1x : ¬ ((z + 1) / 2 ≤ r + z - l) := h1
        have h1d : decide ((z + 1) / 2 ≤ r + z - l) = false := decide_eq_false h1x
        replace h1 : r + z - l < (z + 1) / 2 := by omega
        go_enter Try.func14, Try.ntmps14
        go_wp2_with (first | (go_at_call 11; refine (isWindow_spec _ _ _ _ _ _ _).mono ?_; rintro e w1 ⟨rfl, hb1⟩; have hk0 := hb1.more (k := w.heap.size) (by first | assumption | (simp; done) | (simp; omega) | omega); obtain ⟨hc0, hf0⟩ := hb1.row (k := w.heap.size) (by first | assumption | (simp; done) | (simp; omega) | omega)))
        go_ret
        exact ⟨(by first | (simp [mustWn, *]; done) | (simp [mustWn, *]; omega) | (simp [mustWn, *]; split <;> first | (exfalso; omega) | (simp; done) | (simp; omega))), (by repeat (first | with_reducible exact Ext.refl _ | with_reducible assumption | with_reducible refine Ext.alloc ?_ _ | with_reducible refine Ext.drew ?_ | with_reducible refine Ext.drewN ?_ _ | ((with_reducible refine Ext.set ?_ ?_ _); (focus (first | (simp; done) | (simp; omega)))) | with_reducible refine Ext.trans ?_ (by assumption)))⟩
    · -- no
      have h0x : ¬ (l < 4611686018427387903) := h0
      have h0d : decide (l < 4611686018427387903) = false := decide_eq_false h0x
      replace h0 : 4611686018427387903 ≤ l := by omega
      go_enter Try.func14, Try.ntmps14
      go_wp2_with (first | (go_at_call 11; refine (isWindow_spec _ _ _ _ _ _ _).mono ?_; rintro e w1 ⟨rfl, hb1⟩; have hk0 := hb1.more (k := w.heap.size) (by first | assumption | (simp; done) | (simp; omega) | omega); obtain ⟨hc0, hf0⟩ := hb1.row (k := w.heap.size) (by first | assumption | (simp; done) | (simp; omega) | omega)))
      go_ret
      exact ⟨(by first | (simp [mustWn, *]; done) | (simp [mustWn, *]; omega) | (simp [mustWn, *]; split <;> first | (exfalso; omega) | (simp; done) | (simp; omega))), (by repeat (first | with_reducible exact Ext.refl _ | with_reducible assumption | with_reducible refine Ext.alloc ?_ _ | with_reducible refine Ext.drew ?_ | with_reducible refine Ext.drewN ?_ _ | ((with_reducible refine Ext.set ?_ ?_ _); (focus (first | (simp; done) | (simp; omega)))) | with_reducible refine Ext.trans ?_ (by assumption)))⟩
  · -- no
    go_enter Try.func14, Try.ntmps14
    go_wp2_with (first | (go_at_call 11; refine (isWindow_spec _ _ _ _ _ _ _).mono ?_; rintro e w1 ⟨rfl, hb1⟩; have hk0 := hb1.more (k := w.heap.size) (by first | assumption | (simp; done) | (simp; omega) | omega); obtain ⟨hc0, hf0⟩ := hb1.row (k := w.heap.size) (by first | assumption | (simp; done) | (simp; omega) | omega)))
    go_ret
    exact ⟨(by first | (simp [mustWn, *]; done) | (simp [mustWn, *]; omega) | (simp [mustWn, *]; split <;> first | (exfalso; omega) | (simp; done) | (simp; omega))), (by repeat (first | with_reducible exact Ext.refl _ | with_reducible assumption | with_reducible refine Ext.alloc ?_ _ | with_reducible refine Ext.drew ?_ | with_reducible refine Ext.drewN ?_ _ | ((with_reducible refine Ext.set ?_ ?_ _); (focus (first | (simp; done) | (simp; omega)))) | with_reducible refine Ext.trans ?_ (by assumption)))⟩
set_option maxHeartbeats 1000000 in
theorem MustRaise_impl (z m l s r t : Int) (w : World) : Calls Try.prog 15 #[.agg #[.int .i64 z, .int .i64 m, .int .i64 l, .int .i64 s, .int .i64 r, .int .i64 t]] w fun e w' => e = .returned (.bool (mustWn z m l s r t)) ∧ Ext w w' := by
  rcases Bool.eq_false_or_eq_true (isWindow z m l s r t) with hv | hv
  · -- yes
    have hbd := isWindow_bd hv
    obtain ⟨k1, k2, k3, k4, k5, k6, k7, k8, k9, k10, k11, k12, k13⟩ := hbd
    by_cases h0 : l < 4611686018427387903
    · -- yes
      by_cases h1 : (z + 1) / 2 ≤ r + z - l
      · -- yes
        go_enter Try.func15, Try.ntmps15
        go_wp2_with (first | (go_at_call 13; refine (isWindow_impl _ _ _ _ _ _ _).mono ?_; rintro e w1 ⟨rfl, hb1⟩; have hk0 := hb1.more (k := w.heap.size) (by first | assumption | (simp; done) | (simp; omega) | omega); obtain ⟨hc0, hf0⟩ := hb1.row (k := w.heap.size) (by first | assumption | (simp; done) | (simp; omega) | omega)))
        go_ret
        exact ⟨(by first | (simp [mustWn, *]; done) | (simp [mustWn, *]; omega) | (simp [mustWn, *]; split <;> first | (exfalso; omega) | (simp; done) | (simp; omega))), (by repeat (first | with_reducible exact Ext.refl _ | with_reducible assumption | with_reducible refine Ext.alloc ?_ _ | with_reducible refine Ext.drew ?_ | with_reducible refine Ext.drewN ?_ _ | ((with_reducible refine Ext.set ?_ ?_ _); (focus (first | (simp; done) | (simp; omega)))) | with_reducible refine Ext.trans ?_ (by assumption)))⟩
      · -- no
        have h1x : ¬ ((z + 1) / 2 ≤ r + z - l) := h1
        have h1d : decide ((z + 1) / 2 ≤ r + z - l) = false := decide_eq_false h1x
        replace h1 : r + z - l < (z + 1) / 2 := by omega
        go_enter Try.func15, Try.ntmps15
        go_wp2_with (first | (go_at_call 13; refine (isWindow_impl _ _ _ _ _ _ _).mono ?_; rintro e w1 ⟨rfl, hb1⟩; have hk0 := hb1.more (k := w.heap.size) (by first | assumption | (simp; done) | (simp; omega) | omega); obtain ⟨hc0, hf0⟩ := hb1.row (k := w.heap.size) (by first | assumption | (simp; done) | (simp; omega) | omega)))
        go_ret
        exact ⟨(by first | (simp [mustWn, *]; done) | (simp [mustWn, *]; omega) | (simp [mustWn, *]; split <;> first | (exfalso; omega) | (simp; done) | (simp; omega))), (by repeat (first | with_reducible exact Ext.refl _ | with_reducible assumption | with_reducible refine Ext.alloc ?_ _ | with_reducible refine Ext.drew ?_ | with_reducible refine Ext.drewN ?_ _ | ((with_reducible refine Ext.set ?_ ?_ _); (focus (first | (simp; done) | (simp; omega)))) | with_reducible refine Ext.trans ?_ (by assumption)))⟩
    · -- no
      have h0x : ¬ (l < 4611686018427387903) := h0
      have h0d : decide (l < 4611686018427387903) = false := decide_eq_false h0x
      replace h0 : 4611686018427387903 ≤ l := by omega
      go_enter Try.func15, Try.ntmps15
      go_wp2_with (first | (go_at_call 13; refine (isWindow_impl _ _ _ _ _ _ _).mono ?_; rintro e w1 ⟨rfl, hb1⟩; have hk0 := hb1.more (k := w.heap.size) (by first | assumption | (simp; done) | (simp; omega) | omega); obtain ⟨hc0, hf0⟩ := hb1.row (k := w.heap.size) (by first | assumption | (simp; done) | (simp; omega) | omega)))
      go_ret
      exact ⟨(by first | (simp [mustWn, *]; done) | (simp [mustWn, *]; omega) | (simp [mustWn, *]; split <;> first | (exfalso; omega) | (simp; done) | (simp; omega))), (by repeat (first | with_reducible exact Ext.refl _ | with_reducible assumption | with_reducible refine Ext.alloc ?_ _ | with_reducible refine Ext.drew ?_ | with_reducible refine Ext.drewN ?_ _ | ((with_reducible refine Ext.set ?_ ?_ _); (focus (first | (simp; done) | (simp; omega)))) | with_reducible refine Ext.trans ?_ (by assumption)))⟩
  · -- no
    go_enter Try.func15, Try.ntmps15
    go_wp2_with (first | (go_at_call 13; refine (isWindow_impl _ _ _ _ _ _ _).mono ?_; rintro e w1 ⟨rfl, hb1⟩; have hk0 := hb1.more (k := w.heap.size) (by first | assumption | (simp; done) | (simp; omega) | omega); obtain ⟨hc0, hf0⟩ := hb1.row (k := w.heap.size) (by first | assumption | (simp; done) | (simp; omega) | omega)))
    go_ret
    exact ⟨(by first | (simp [mustWn, *]; done) | (simp [mustWn, *]; omega) | (simp [mustWn, *]; split <;> first | (exfalso; omega) | (simp; done) | (simp; omega))), (by repeat (first | with_reducible exact Ext.refl _ | with_reducible assumption | with_reducible refine Ext.alloc ?_ _ | with_reducible refine Ext.drew ?_ | with_reducible refine Ext.drewN ?_ _ | ((with_reducible refine Ext.set ?_ ?_ _); (focus (first | (simp; done) | (simp; omega)))) | with_reducible refine Ext.trans ?_ (by assumption)))⟩
end Go.Proofs.Ytofaihmiekoikaa

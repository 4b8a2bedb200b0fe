/-
  Contracts of RaiseCount, of the program and of the reference: both compute the same plain function. No condition.
-/
import Derived.Test.YtbjkopmdkdkapaaIsCount
namespace Go.Proofs.Ytbjkopmdkdkapaa
open Go.ChangeShapes Go.WideShapes Go.ChangeAt Go.RowKit
set_option linter.unusedSimpArgs false
set_option maxHeartbeats 1000000 in
theorem RaiseCount_spec (l o b n : Int) (w : World) : Calls Try.prog 23 #[.agg #[.int .i64 l, .int .i64 o, .int .i64 b], .int .i64 n] w fun e w' => e = .returned (.agg #[.int .i64 (raiseCt l o b n).l, .int .i64 (raiseCt l o b n).o, .int .i64 (raiseCt l o b n).b]) ∧ Ext w w' := by
  rcases Bool.eq_false_or_eq_true (isCount l o b) with hv | hv
  · -- yes
    have hbd := isCount_bd hv
    obtain ⟨k1, k2, k3, k4, k5, k6⟩ := hbd
    by_cases h0 : l < n
    · -- yes
      by_cases h1 : n ≤ 1152921504606846976
      · -- yes
        go_enter Try.func23, Try.ntmps23
        go_wp2_with (first | (go_at_call 9; refine (isCount_spec _ _ _ _).mono ?_; rintro e w1 ⟨rfl, hb1⟩; have hk0 := hb1.more (k := w.heap.size) (by first | assumption | (simp; done) | (simp; omega) | omega); obtain ⟨hc0, hf0⟩ := hb1.row (k := w.heap.size) (by first | assumption | (simp; done) | (simp; omega) | omega); have hk1 := hb1.more (k := w.heap.size + 1) (by first | assumption | (simp; done) | (simp; omega) | omega); obtain ⟨hc1, hf1⟩ := hb1.row (k := w.heap.size + 1) (by first | assumption | (simp; done) | (simp; omega) | omega)))
        exact bodyPost_ret (v := .agg #[.int .i64 n, .int .i64 o, .int .i64 (-1)]) (by simp [results, Try.results23, go_sem, *]) rfl ⟨(by first | (simp [raiseCt, raiseCtOk, *]; done) | (simp [raiseCt, raiseCtOk, *]; omega) | (simp [raiseCt, raiseCtOk, *]; split <;> first | (exfalso; omega) | (simp; done) | (simp; omega))), (by repeat (first | with_reducible exact Ext.refl _ | with_reducible assumption | with_reducible refine Ext.alloc ?_ _ | with_reducible refine Ext.drew ?_ | with_reducible refine Ext.drewN ?_ _ | ((with_reducible refine Ext.set ?_ ?_ _); (focus (first | (simp; done) | (simp; omega)))) | with_reducible refine Ext.trans ?_ (by assumption)))⟩
      · -- no
        have h1x : ¬ (n ≤ 1152921504606846976) := h1
        have h1d : decide (n ≤ 1152921504606846976) = false := decide_eq_false h1x
        replace h1 : 1152921504606846976 < n := by omega
        go_enter Try.func23, Try.ntmps23
        go_wp2_with (first | (go_at_call 9; refine (isCount_spec _ _ _ _).mono ?_; rintro e w1 ⟨rfl, hb1⟩; have hk0 := hb1.more (k := w.heap.size) (by first | assumption | (simp; done) | (simp; omega) | omega); obtain ⟨hc0, hf0⟩ := hb1.row (k := w.heap.size) (by first | assumption | (simp; done) | (simp; omega) | omega); have hk1 := hb1.more (k := w.heap.size + 1) (by first | assumption | (simp; done) | (simp; omega) | omega); obtain ⟨hc1, hf1⟩ := hb1.row (k := w.heap.size + 1) (by first | assumption | (simp; done) | (simp; omega) | omega)))
        exact bodyPost_ret (v := .agg #[.int .i64 l, .int .i64 o, .int .i64 b]) (by simp [results, Try.results23, go_sem, *]) rfl ⟨(by first | (simp [raiseCt, raiseCtOk, *]; done) | (simp [raiseCt, raiseCtOk, *]; omega) | (simp [raiseCt, raiseCtOk, *]; split <;> first | (exfalso; omega) | (simp; done) | (simp; omega))), (by repeat (first | with_reducible exact Ext.refl _ | with_reducible assumption | with_reducible refine Ext.alloc ?_ _ | with_reducible refine Ext.drew ?_ | with_reducible refine Ext.drewN ?_ _ | ((with_reducible refine Ext.set ?_ ?_ _); (focus (first | (simp; done) | (simp; omega)))) | with_reducible refine Ext.trans ?_ (by assumption)))⟩
    · -- no
      have h0x : ¬ (l < n) := h0
      have h0d : decide (l < n) = false := decide_eq_false h0x
      replace h0 : n ≤ l := by omega
      go_enter Try.func23, Try.ntmps23
      go_wp2_with (first | (go_at_call 9; refine (isCount_spec _ _ _ _).mono ?_; rintro e w1 ⟨rfl, hb1⟩; have hk0 := hb1.more (k := w.heap.size) (by first | assumption | (simp; done) | (simp; omega) | omega); obtain ⟨hc0, hf0⟩ := hb1.row (k := w.heap.size) (by first | assumption | (simp; done) | (simp; omega) | omega); have hk1 := hb1.more (k := w.heap.size + 1) (by first | assumption | (simp; done) | (simp; omega) | omega); obtain ⟨hc1, hf1⟩ := hb1.row (k := w.heap.size + 1) (by first | assumption | (simp; done) | (simp; omega) | omega)))
      exact bodyPost_ret (v := .agg #[.int .i64 l, .int .i64 o, .int .i64 b]) (by simp [results, Try.results23, go_sem, *]) rfl ⟨(by first | (simp [raiseCt, raiseCtOk, *]; done) | (simp [raiseCt, raiseCtOk, *]; omega) | (simp [raiseCt, raiseCtOk, *]; split <;> first | (exfalso; omega) | (simp; done) | (simp; omega))), (by repeat (first | with_reducible exact Ext.refl _ | with_reducible assumption | with_reducible refine Ext.alloc ?_ _ | with_reducible refine Ext.drew ?_ | with_reducible refine Ext.drewN ?_ _ | ((with_reducible refine Ext.set ?_ ?_ _); (focus (first | (simp; done) | (simp; omega)))) | with_reducible refine Ext.trans ?_ (by assumption)))⟩
  · -- no
    go_enter Try.func23, Try.ntmps23
    go_wp2_with (first | (go_at_call 9; refine (isCount_spec _ _ _ _).mono ?_; rintro e w1 ⟨rfl, hb1⟩; have hk0 := hb1.more (k := w.heap.size) (by first | assumption | (simp; done) | (simp; omega) | omega); obtain ⟨hc0, hf0⟩ := hb1.row (k := w.heap.size) (by first | assumption | (simp; done) | (simp; omega) | omega); have hk1 := hb1.more (k := w.heap.size + 1) (by first | assumption | (simp; done) | (simp; omega) | omega); obtain ⟨hc1, hf1⟩ := hb1.row (k := w.heap.size + 1) (by first | assumption | (simp; done) | (simp; omega) | omega)))
    exact bodyPost_ret (v := .agg #[.int .i64 l, .int .i64 o, .int .i64 b]) (by simp [results, Try.results23, go_sem, *]) rfl ⟨(by first | (simp [raiseCt, raiseCtOk, *]; done) | (simp [raiseCt, raiseCtOk, *]; omega) | (simp [raiseCt, raiseCtOk, *]; split <;> first | (exfalso; omega) | (simp; done) | (simp; omega))), (by repeat (first | with_reducible exact Ext.refl _ | with_reducible assumption | with_reducible refine Ext.alloc ?_ _ | with_reducible refine Ext.drew ?_ | with_reducible refine Ext.drewN ?_ _ | ((with_reducible refine Ext.set ?_ ?_ _); (focus (first | (simp; done) | (simp; omega)))) | with_reducible refine Ext.trans ?_ (by assumption)))⟩
set_option maxHeartbeats 1000000 in
theorem RaiseCount_impl (l o b n : Int) (w : World) : Calls Try.prog 24 #[.agg #[.int .i64 l, .int .i64 o, .int .i64 b], .int .i64 n] w fun e w' => e = .returned (.agg #[.int .i64 (raiseCt l o b n).l, .int .i64 (raiseCt l o b n).o, .int .i64 (raiseCt l o b n).b]) ∧ Ext w w' := by
  rcases Bool.eq_false_or_eq_true (isCount l o b) with hv | hv
  · -- yes
    have hbd := isCount_bd hv
    obtain ⟨k1, k2, k3, k4, k5, k6⟩ := hbd
    by_cases h0 : l < n
    · -- yes
      by_cases h1 : n ≤ 1152921504606846976
      · -- yes
        go_enter Try.func24, Try.ntmps24
        go_wp2_with (first | (go_at_call 11; refine (isCount_impl _ _ _ _).mono ?_; rintro e w1 ⟨rfl, hb1⟩; have hk0 := hb1.more (k := w.heap.size) (by first | assumption | (simp; done) | (simp; omega) | omega); obtain ⟨hc0, hf0⟩ := hb1.row (k := w.heap.size) (by first | assumption | (simp; done) | (simp; omega) | omega); have hk1 := hb1.more (k := w.heap.size + 1) (by first | assumption | (simp; done) | (simp; omega) | omega); obtain ⟨hc1, hf1⟩ := hb1.row (k := w.heap.size + 1) (by first | assumption | (simp; done) | (simp; omega) | omega)))
        exact bodyPost_ret (v := .agg #[.int .i64 n, .int .i64 o, .int .i64 (-1)]) (by simp [results, Try.results24, go_sem, *]) rfl ⟨(by first | (simp [raiseCt, raiseCtOk, *]; done) | (simp [raiseCt, raiseCtOk, *]; omega) | (simp [raiseCt, raiseCtOk, *]; split <;> first | (exfalso; omega) | (simp; done) | (simp; omega))), (by repeat (first | with_reducible exact Ext.refl _ | with_reducible assumption | with_reducible refine Ext.alloc ?_ _ | with_reducible refine Ext.drew ?_ | with_reducible refine Ext.drewN ?_ _ | ((with_reducible refine Ext.set ?_ ?_ _); (focus (first | (simp; done) | (simp; omega)))) | with_reducible refine Ext.trans ?_ (by assumption)))⟩
      · -- no
        have h1x : ¬ (n ≤ 1152921504606846976) := h1
        have h1d : decide (n ≤ 1152921504606846976) = false := decide_eq_false h1x
        replace h1 : 1152921504606846976 < n := by omega
        go_enter Try.func24, Try.ntmps24
        go_wp2_with (first | (go_at_call 11; refine (isCount_impl _ _ _ _).mono ?_; rintro e w1 ⟨rfl, hb1⟩; have hk0 := hb1.more (k := w.heap.size) (by first | assumption | (simp; done) | (simp; omega) | omega); obtain ⟨hc0, hf0⟩ := hb1.row (k := w.heap.size) (by first | assumption | (simp; done) | (simp; omega) | omega); have hk1 := hb1.more (k := w.heap.size + 1) (by first | assumption | (simp; done) | (simp; omega) | omega); obtain ⟨hc1, hf1⟩ := hb1.row (k := w.heap.size + 1) (by first | assumption | (simp; done) | (simp; omega) | omega)))
        exact bodyPost_ret (v := .agg #[.int .i64 l, .int .i64 o, .int .i64 b]) (by simp [results, Try.results24, go_sem, *]) rfl ⟨(by first | (simp [raiseCt, raiseCtOk, *]; done) | (simp [raiseCt, raiseCtOk, *]; omega) | (simp [raiseCt, raiseCtOk, *]; split <;> first | (exfalso; omega) | (simp; done) | (simp; omega))), (by repeat (first | with_reducible exact Ext.refl _ | with_reducible assumption | with_reducible refine Ext.alloc ?_ _ | with_reducible refine Ext.drew ?_ | with_reducible refine Ext.drewN ?_ _ | ((with_reducible refine Ext.set ?_ ?_ _); (focus (first | (simp; done) | (simp; omega)))) | with_reducible refine Ext.trans ?_ (by assumption)))⟩
    · -- no
      have h0x : ¬ (l < n) := h0
      have h0d : decide (l < n) = false := decide_eq_false h0x
      replace h0 : n ≤ l := by omega
      go_enter Try.func24, Try.ntmps24
      go_wp2_with (first | (go_at_call 11; refine (isCount_impl _ _ _ _).mono ?_; rintro e w1 ⟨rfl, hb1⟩; have hk0 := hb1.more (k := w.heap.size) (by first | assumption | (simp; done) | (simp; omega) | omega); obtain ⟨hc0, hf0⟩ := hb1.row (k := w.heap.size) (by first | assumption | (simp; done) | (simp; omega) | omega); have hk1 := hb1.more (k := w.heap.size + 1) (by first | assumption | (simp; done) | (simp; omega) | omega); obtain ⟨hc1, hf1⟩ := hb1.row (k := w.heap.size + 1) (by first | assumption | (simp; done) | (simp; omega) | omega)))
      exact bodyPost_ret (v := .agg #[.int .i64 l, .int .i64 o, .int .i64 b]) (by simp [results, Try.results24, go_sem, *]) rfl ⟨(by first | (simp [raiseCt, raiseCtOk, *]; done) | (simp [raiseCt, raiseCtOk, *]; omega) | (simp [raiseCt, raiseCtOk, *]; split <;> first | (exfalso; omega) | (simp; done) | (simp; omega))), (by repeat (first | with_reducible exact Ext.refl _ | with_reducible assumption | with_reducible refine Ext.alloc ?_ _ | with_reducible refine Ext.drew ?_ | with_reducible refine Ext.drewN ?_ _ | ((with_reducible refine Ext.set ?_ ?_ _); (focus (first | (simp; done) | (simp; omega)))) | with_reducible refine Ext.trans ?_ (by assumption)))⟩
  · -- no
    go_enter Try.func24, Try.ntmps24
    go_wp2_with (first | (go_at_call 11; refine (isCount_impl _ _ _ _).mono ?_; rintro e w1 ⟨rfl, hb1⟩; have hk0 := hb1.more (k := w.heap.size) (by first | assumption | (simp; done) | (simp; omega) | omega); obtain ⟨hc0, hf0⟩ := hb1.row (k := w.heap.size) (by first | assumption | (simp; done) | (simp; omega) | omega); have hk1 := hb1.more (k := w.heap.size + 1) (by first | assumption | (simp; done) | (simp; omega) | omega); obtain ⟨hc1, hf1⟩ := hb1.row (k := w.heap.size + 1) (by first | assumption | (simp; done) | (simp; omega) | omega)))
    exact bodyPost_ret (v := .agg #[.int .i64 l, .int .i64 o, .int .i64 b]) (by simp [results, Try.results24, go_sem, *]) rfl ⟨(by first | (simp [raiseCt, raiseCtOk, *]; done) | (simp [raiseCt, raiseCtOk, *]; omega) | (simp [raiseCt, raiseCtOk, *]; split <;> first | (exfalso; omega) | (simp; done) | (simp; omega))), (by repeat (first | with_reducible exact Ext.refl _ | with_reducible assumption | with_reducible refine Ext.alloc ?_ _ | with_reducible refine Ext.drew ?_ | with_reducible refine Ext.drewN ?_ _ | ((with_reducible refine Ext.set ?_ ?_ _); (focus (first | (simp; done) | (simp; omega)))) | with_reducible refine Ext.trans ?_ (by assumption)))⟩
end Go.Proofs.Ytbjkopmdkdkapaa

/-
  Contracts of UseCredit, of the program and of the reference: both compute the same plain function. No condition.
-/
import Derived.Test.YtebolohnfhhmpaaIsCredit
namespace Go.Proofs.Ytebolohnfhhmpaa
open Go.ChangeShapes Go.WideShapes Go.ChangeAt Go.RowKit
set_option linter.unusedSimpArgs false
set_option maxHeartbeats 1000000 in
theorem UseCredit_spec (l u b t n : Int) (w : World) : Calls Try.prog 28 #[.agg #[.int .i64 l, .int .i64 u, .int .i64 b, .int .i64 t], .int .i64 n] w fun e w' => e = .returned (.tuple #[.agg #[.int .i64 (useCr l u b t n).l, .int .i64 (useCr l u b t n).u, .int .i64 (useCr l u b t n).b, .int .i64 (useCr l u b t n).t], .bool (useOk l u b t n)]) ∧ Ext w w' := by
  rcases Bool.eq_false_or_eq_true (isCredit l u b t) with hv | hv
  · -- yes
    have hbd := isCredit_bd hv
    obtain ⟨k1, k2, k3, k4, k5, k6, k7, k8⟩ := hbd
    by_cases h0 : 0 ≤ n
    · -- yes
      by_cases h1 : n ≤ l - u
      · -- yes
        have hn : inB 0 n (l - u) = true := inB_mk h0 h1
        go_enter Try.func28, Try.ntmps28
        go_wp2_with (first | (go_at_call 12; refine (isCredit_spec _ _ _ _ _).mono ?_; rintro e w1 ⟨rfl, hb1⟩; have hk0 := hb1.more (k := w.heap.size) (by first | assumption | (simp; done) | (simp; omega) | omega); obtain ⟨hc0, hf0⟩ := hb1.row (k := w.heap.size) (by first | assumption | (simp; done) | (simp; omega) | omega); have hk1 := hb1.more (k := w.heap.size + 1) (by first | assumption | (simp; done) | (simp; omega) | omega); obtain ⟨hc1, hf1⟩ := hb1.row (k := w.heap.size + 1) (by first | assumption | (simp; done) | (simp; omega) | omega)) | (go_at_call 35; refine (l1In_any _ _ _ _).mono ?_; rintro e w1 ⟨rfl, rfl⟩))
        exact bodyPost_ret (v := .tuple #[.agg #[.int .i64 l, .int .i64 (u + n), .int .i64 b, .int .i64 t], .bool true]) (by simp [results, Try.results28, go_sem, *]) rfl ⟨(by first | (simp [useCr, useOk, *]; done) | (simp [useCr, useOk, *]; omega) | (simp [useCr, useOk, *]; split <;> first | (exfalso; omega) | (simp; done) | (simp; omega))), (by repeat (first | with_reducible exact Ext.refl _ | with_reducible assumption | with_reducible refine Ext.alloc ?_ _ | with_reducible refine Ext.drew ?_ | with_reducible refine Ext.drewN ?_ _ | ((with_reducible refine Ext.set ?_ ?_ _); (focus (first | (simp; done) | (simp; omega)))) | with_reducible refine Ext.trans ?_ (by assumption)))⟩
      · -- no
        have h1x : ¬ (n ≤ l - u) := h1
        have h1d : decide (n ≤ l - u) = false := decide_eq_false h1x
        replace h1 : l - u < n := by omega
        have hn : inB 0 n (l - u) = false := inB_no (by omega)
        go_enter Try.func28, Try.ntmps28
        go_wp2_with (first | (go_at_call 12; refine (isCredit_spec _ _ _ _ _).mono ?_; rintro e w1 ⟨rfl, hb1⟩; have hk0 := hb1.more (k := w.heap.size) (by first | assumption | (simp; done) | (simp; omega) | omega); obtain ⟨hc0, hf0⟩ := hb1.row (k := w.heap.size) (by first | assumption | (simp; done) | (simp; omega) | omega); have hk1 := hb1.more (k := w.heap.size + 1) (by first | assumption | (simp; done) | (simp; omega) | omega); obtain ⟨hc1, hf1⟩ := hb1.row (k := w.heap.size + 1) (by first | assumption | (simp; done) | (simp; omega) | omega)) | (go_at_call 35; refine (l1In_any _ _ _ _).mono ?_; rintro e w1 ⟨rfl, rfl⟩))
        exact bodyPost_ret (v := .tuple #[.agg #[.int .i64 l, .int .i64 u, .int .i64 b, .int .i64 t], .bool false]) (by simp [results, Try.results28, go_sem, *]) rfl ⟨(by first | (simp [useCr, useOk, *]; done) | (simp [useCr, useOk, *]; omega) | (simp [useCr, useOk, *]; split <;> first | (exfalso; omega) | (simp; done) | (simp; omega))), (by repeat (first | with_reducible exact Ext.refl _ | with_reducible assumption | with_reducible refine Ext.alloc ?_ _ | with_reducible refine Ext.drew ?_ | with_reducible refine Ext.drewN ?_ _ | ((with_reducible refine Ext.set ?_ ?_ _); (focus (first | (simp; done) | (simp; omega)))) | with_reducible refine Ext.trans ?_ (by assumption)))⟩
    · -- no
      have h0x : ¬ (0 ≤ n) := h0
      have h0d : decide (0 ≤ n) = false := decide_eq_false h0x
      replace h0 : n < 0 := by omega
      have hn : inB 0 n (l - u) = false := inB_no (by omega)
      go_enter Try.func28, Try.ntmps28
      go_wp2_with (first | (go_at_call 12; refine (isCredit_spec _ _ _ _ _).mono ?_; rintro e w1 ⟨rfl, hb1⟩; have hk0 := hb1.more (k := w.heap.size) (by first | assumption | (simp; done) | (simp; omega) | omega); obtain ⟨hc0, hf0⟩ := hb1.row (k := w.heap.size) (by first | assumption | (simp; done) | (simp; omega) | omega); have hk1 := hb1.more (k := w.heap.size + 1) (by first | assumption | (simp; done) | (simp; omega) | omega); obtain ⟨hc1, hf1⟩ := hb1.row (k := w.heap.size + 1) (by first | assumption | (simp; done) | (simp; omega) | omega)) | (go_at_call 35; refine (l1In_any _ _ _ _).mono ?_; rintro e w1 ⟨rfl, rfl⟩))
      exact bodyPost_ret (v := .tuple #[.agg #[.int .i64 l, .int .i64 u, .int .i64 b, .int .i64 t], .bool false]) (by simp [results, Try.results28, go_sem, *]) rfl ⟨(by first | (simp [useCr, useOk, *]; done) | (simp [useCr, useOk, *]; omega) | (simp [useCr, useOk, *]; split <;> first | (exfalso; omega) | (simp; done) | (simp; omega))), (by repeat (first | with_reducible exact Ext.refl _ | with_reducible assumption | with_reducible refine Ext.alloc ?_ _ | with_reducible refine Ext.drew ?_ | with_reducible refine Ext.drewN ?_ _ | ((with_reducible refine Ext.set ?_ ?_ _); (focus (first | (simp; done) | (simp; omega)))) | with_reducible refine Ext.trans ?_ (by assumption)))⟩
  · -- no
    go_enter Try.func28, Try.ntmps28
    go_wp2_with (first | (go_at_call 12; refine (isCredit_spec _ _ _ _ _).mono ?_; rintro e w1 ⟨rfl, hb1⟩; have hk0 := hb1.more (k := w.heap.size) (by first | assumption | (simp; done) | (simp; omega) | omega); obtain ⟨hc0, hf0⟩ := hb1.row (k := w.heap.size) (by first | assumption | (simp; done) | (simp; omega) | omega); have hk1 := hb1.more (k := w.heap.size + 1) (by first | assumption | (simp; done) | (simp; omega) | omega); obtain ⟨hc1, hf1⟩ := hb1.row (k := w.heap.size + 1) (by first | assumption | (simp; done) | (simp; omega) | omega)) | (go_at_call 35; refine (l1In_any _ _ _ _).mono ?_; rintro e w1 ⟨rfl, rfl⟩))
    exact bodyPost_ret (v := .tuple #[.agg #[.int .i64 l, .int .i64 u, .int .i64 b, .int .i64 t], .bool false]) (by simp [results, Try.results28, go_sem, *]) rfl ⟨(by first | (simp [useCr, useOk, *]; done) | (simp [useCr, useOk, *]; omega) | (simp [useCr, useOk, *]; split <;> first | (exfalso; omega) | (simp; done) | (simp; omega))), (by repeat (first | with_reducible exact Ext.refl _ | with_reducible assumption | with_reducible refine Ext.alloc ?_ _ | with_reducible refine Ext.drew ?_ | with_reducible refine Ext.drewN ?_ _ | ((with_reducible refine Ext.set ?_ ?_ _); (focus (first | (simp; done) | (simp; omega)))) | with_reducible refine Ext.trans ?_ (by assumption)))⟩
set_option maxHeartbeats 1000000 in
theorem UseCredit_impl (l u b t n : Int) (w : World) : Calls Try.prog 29 #[.agg #[.int .i64 l, .int .i64 u, .int .i64 b, .int .i64 t], .int .i64 n] w fun e w' => e = .returned (.tuple #[.agg #[.int .i64 (useCr l u b t n).l, .int .i64 (useCr l u b t n).u, .int .i64 (useCr l u b t n).b, .int .i64 (useCr l u b t n).t], .bool (useOk l u b t n)]) ∧ Ext w w' := by
  rcases Bool.eq_false_or_eq_true (isCredit l u b t) with hv | hv
  · -- yes
    have hbd := isCredit_bd hv
    obtain ⟨k1, k2, k3, k4, k5, k6, k7, k8⟩ := hbd
    by_cases h0 : 0 ≤ n
    · -- yes
      by_cases h1 : n ≤ l - u
      · -- yes
        have hn : inB 0 n (l - u) = true := inB_mk h0 h1
        go_enter Try.func29, Try.ntmps29
        go_wp2_with (first | (go_at_call 14; refine (isCredit_impl _ _ _ _ _).mono ?_; rintro e w1 ⟨rfl, hb1⟩; have hk0 := hb1.more (k := w.heap.size) (by first | assumption | (simp; done) | (simp; omega) | omega); obtain ⟨hc0, hf0⟩ := hb1.row (k := w.heap.size) (by first | assumption | (simp; done) | (simp; omega) | omega); have hk1 := hb1.more (k := w.heap.size + 1) (by first | assumption | (simp; done) | (simp; omega) | omega); obtain ⟨hc1, hf1⟩ := hb1.row (k := w.heap.size + 1) (by first | assumption | (simp; done) | (simp; omega) | omega)) | (go_at_call 37; refine (within_any _ _ _ _).mono ?_; rintro e w1 ⟨rfl, rfl⟩))
        exact bodyPost_ret (v := .tuple #[.agg #[.int .i64 l, .int .i64 (u + n), .int .i64 b, .int .i64 t], .bool true]) (by simp [results, Try.results29, go_sem, *]) rfl ⟨(by first | (simp [useCr, useOk, *]; done) | (simp [useCr, useOk, *]; omega) | (simp [useCr, useOk, *]; split <;> first | (exfalso; omega) | (simp; done) | (simp; omega))), (by repeat (first | with_reducible exact Ext.refl _ | with_reducible assumption | with_reducible refine Ext.alloc ?_ _ | with_reducible refine Ext.drew ?_ | with_reducible refine Ext.drewN ?_ _ | ((with_reducible refine Ext.set ?_ ?_ _); (focus (first | (simp; done) | (simp; omega)))) | with_reducible refine Ext.trans ?_ (by assumption)))⟩
      · -- no
        have h1x : ¬ (n ≤ l - u) := h1
        have h1d : decide (n ≤ l - u) = false := decide_eq_false h1x
        replace h1 : l - u < n := by omega
        have hn : inB 0 n (l - u) = false := inB_no (by omega)
        go_enter Try.func29, Try.ntmps29
        go_wp2_with (first | (go_at_call 14; refine (isCredit_impl _ _ _ _ _).mono ?_; rintro e w1 ⟨rfl, hb1⟩; have hk0 := hb1.more (k := w.heap.size) (by first | assumption | (simp; done) | (simp; omega) | omega); obtain ⟨hc0, hf0⟩ := hb1.row (k := w.heap.size) (by first | assumption | (simp; done) | (simp; omega) | omega); have hk1 := hb1.more (k := w.heap.size + 1) (by first | assumption | (simp; done) | (simp; omega) | omega); obtain ⟨hc1, hf1⟩ := hb1.row (k := w.heap.size + 1) (by first | assumption | (simp; done) | (simp; omega) | omega)) | (go_at_call 37; refine (within_any _ _ _ _).mono ?_; rintro e w1 ⟨rfl, rfl⟩))
        exact bodyPost_ret (v := .tuple #[.agg #[.int .i64 l, .int .i64 u, .int .i64 b, .int .i64 t], .bool false]) (by simp [results, Try.results29, go_sem, *]) rfl ⟨(by first | (simp [useCr, useOk, *]; done) | (simp [useCr, useOk, *]; omega) | (simp [useCr, useOk, *]; split <;> first | (exfalso; omega) | (simp; done) | (simp; omega))), (by repeat (first | with_reducible exact Ext.refl _ | with_reducible assumption | with_reducible refine Ext.alloc ?_ _ | with_reducible refine Ext.drew ?_ | with_reducible refine Ext.drewN ?_ _ | ((with_reducible refine Ext.set ?_ ?_ _); (focus (first | (simp; done) | (simp; omega)))) | with_reducible refine Ext.trans ?_ (by assumption)))⟩
    · -- no
      have h0x : ¬ (0 ≤ n) := h0
      have h0d : decide (0 ≤ n) = false := decide_eq_false h0x
      replace h0 : n < 0 := by omega
      have hn : inB 0 n (l - u) = false := inB_no (by omega)
      go_enter Try.func29, Try.ntmps29
      go_wp2_with (first | (go_at_call 14; refine (isCredit_impl _ _ _ _ _).mono ?_; rintro e w1 ⟨rfl, hb1⟩; have hk0 := hb1.more (k := w.heap.size) (by first | assumption | (simp; done) | (simp; omega) | omega); obtain ⟨hc0, hf0⟩ := hb1.row (k := w.heap.size) (by first | assumption | (simp; done) | (simp; omega) | omega); have hk1 := hb1.more (k := w.heap.size + 1) (by first | assumption | (simp; done) | (simp; omega) | omega); obtain ⟨hc1, hf1⟩ := hb1.row (k := w.heap.size + 1) (by first | assumption | (simp; done) | (simp; omega) | omega)) | (go_at_call 37; refine (within_any _ _ _ _).mono ?_; rintro e w1 ⟨rfl, rfl⟩))
      exact bodyPost_ret (v := .tuple #[.agg #[.int .i64 l, .int .i64 u, .int .i64 b, .int .i64 t], .bool false]) (by simp [results, Try.results29, go_sem, *]) rfl ⟨(by first | (simp [useCr, useOk, *]; done) | (simp [useCr, useOk, *]; omega) | (simp [useCr, useOk, *]; split <;> first | (exfalso; omega) | (simp; done) | (simp; omega))), (by repeat (first | with_reducible exact Ext.refl _ | with_reducible assumption | with_reducible refine Ext.alloc ?_ _ | with_reducible refine Ext.drew ?_ | with_reducible refine Ext.drewN ?_ _ | ((with_reducible refine Ext.set ?_ ?_ _); (focus (first | (simp; done) | (simp; omega)))) | with_reducible refine Ext.trans ?_ (by assumption)))⟩
  · -- no
    go_enter Try.func29, Try.ntmps29
    go_wp2_with (first | (go_at_call 14; refine (isCredit_impl _ _ _ _ _).mono ?_; rintro e w1 ⟨rfl, hb1⟩; have hk0 := hb1.more (k := w.heap.size) (by first | assumption | (simp; done) | (simp; omega) | omega); obtain ⟨hc0, hf0⟩ := hb1.row (k := w.heap.size) (by first | assumption | (simp; done) | (simp; omega) | omega); have hk1 := hb1.more (k := w.heap.size + 1) (by first | assumption | (simp; done) | (simp; omega) | omega); obtain ⟨hc1, hf1⟩ := hb1.row (k := w.heap.size + 1) (by first | assumption | (simp; done) | (simp; omega) | omega)) | (go_at_call 37; refine (within_any _ _ _ _).mono ?_; rintro e w1 ⟨rfl, rfl⟩))
    exact bodyPost_ret (v := .tuple #[.agg #[.int .i64 l, .int .i64 u, .int .i64 b, .int .i64 t], .bool false]) (by simp [results, Try.results29, go_sem, *]) rfl ⟨(by first | (simp [useCr, useOk, *]; done) | (simp [useCr, useOk, *]; omega) | (simp [useCr, useOk, *]; split <;> first | (exfalso; omega) | (simp; done) | (simp; omega))), (by repeat (first | with_reducible exact Ext.refl _ | with_reducible assumption | with_reducible refine Ext.alloc ?_ _ | with_reducible refine Ext.drew ?_ | with_reducible refine Ext.drewN ?_ _ | ((with_reducible refine Ext.set ?_ ?_ _); (focus (first | (simp; done) | (simp; omega)))) | with_reducible refine Ext.trans ?_ (by assumption)))⟩
end Go.Proofs.Ytebolohnfhhmpaa

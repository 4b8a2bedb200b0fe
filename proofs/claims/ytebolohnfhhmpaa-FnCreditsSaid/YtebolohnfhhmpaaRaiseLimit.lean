/-
  Contracts of RaiseLimit, of the program and of the reference: both compute the same plain function. No condition.
-/
import Derived.Test.YtebolohnfhhmpaaIsCredit
namespace Go.Proofs.Ytebolohnfhhmpaa
open Go.ChangeShapes Go.WideShapes Go.ChangeAt Go.RowKit
set_option linter.unusedSimpArgs false
set_option maxHeartbeats 1000000 in
theorem RaiseLimit_spec (l u b t n : Int) (w : World) : Calls Try.prog 26 #[.agg #[.int .i64 l, .int .i64 u, .int .i64 b, .int .i64 t], .int .i64 n] w fun e w' => e = .returned (.agg #[.int .i64 (raiseCr l u b t n).l, .int .i64 (raiseCr l u b t n).u, .int .i64 (raiseCr l u b t n).b, .int .i64 (raiseCr l u b t n).t]) ∧ Ext w w' := by
  rcases Bool.eq_false_or_eq_true (isCredit l u b t) with hv | hv
  · -- yes
    have hbd := isCredit_bd hv
    obtain ⟨k1, k2, k3, k4, k5, k6, k7, k8⟩ := hbd
    by_cases h0 : l < n
    · -- yes
      by_cases h1 : n ≤ 4611686018427387903
      · -- yes
        have hq : inB 0 n 4611686018427387903 = true := inB_mk (by omega) (by omega)
        go_enter Try.func26, Try.ntmps26
        go_wp2_with (first | (go_at_call 12; refine (isCredit_spec _ _ _ _ _).mono ?_; rintro e w1 ⟨rfl, hb1⟩; have hk0 := hb1.more (k := w.heap.size) (by first | assumption | (simp; done) | (simp; omega) | omega); obtain ⟨hc0, hf0⟩ := hb1.row (k := w.heap.size) (by first | assumption | (simp; done) | (simp; omega) | omega); have hk1 := hb1.more (k := w.heap.size + 1) (by first | assumption | (simp; done) | (simp; omega) | omega); obtain ⟨hc1, hf1⟩ := hb1.row (k := w.heap.size + 1) (by first | assumption | (simp; done) | (simp; omega) | omega)) | (go_at_call 34; refine (l4Quic_any _ _).mono ?_; rintro e w1 ⟨rfl, rfl⟩))
        exact bodyPost_ret (v := .agg #[.int .i64 n, .int .i64 u, .int .i64 (-1), .int .i64 t]) (by simp [results, Try.results26, go_sem, *]) rfl ⟨(by first | (simp [raiseCr, raiseOk, *]; done) | (simp [raiseCr, raiseOk, *]; omega) | (simp [raiseCr, raiseOk, *]; split <;> first | (exfalso; omega) | (simp; done) | (simp; omega))), (by repeat (first | with_reducible exact Ext.refl _ | with_reducible assumption | with_reducible refine Ext.alloc ?_ _ | with_reducible refine Ext.drew ?_ | with_reducible refine Ext.drewN ?_ _ | ((with_reducible refine Ext.set ?_ ?_ _); (focus (first | (simp; done) | (simp; omega)))) | with_reducible refine Ext.trans ?_ (by assumption)))⟩
      · -- no
        have h1x : ¬ (n ≤ 4611686018427387903) := h1
        have h1d : decide (n ≤ 4611686018427387903) = false := decide_eq_false h1x
        replace h1 : 4611686018427387903 < n := by omega
        have hq : inB 0 n 4611686018427387903 = false := inB_no (by omega)
        go_enter Try.func26, Try.ntmps26
        go_wp2_with (first | (go_at_call 12; refine (isCredit_spec _ _ _ _ _).mono ?_; rintro e w1 ⟨rfl, hb1⟩; have hk0 := hb1.more (k := w.heap.size) (by first | assumption | (simp; done) | (simp; omega) | omega); obtain ⟨hc0, hf0⟩ := hb1.row (k := w.heap.size) (by first | assumption | (simp; done) | (simp; omega) | omega); have hk1 := hb1.more (k := w.heap.size + 1) (by first | assumption | (simp; done) | (simp; omega) | omega); obtain ⟨hc1, hf1⟩ := hb1.row (k := w.heap.size + 1) (by first | assumption | (simp; done) | (simp; omega) | omega)) | (go_at_call 34; refine (l4Quic_any _ _).mono ?_; rintro e w1 ⟨rfl, rfl⟩))
        exact bodyPost_ret (v := .agg #[.int .i64 l, .int .i64 u, .int .i64 b, .int .i64 t]) (by simp [results, Try.results26, go_sem, *]) rfl ⟨(by first | (simp [raiseCr, raiseOk, *]; done) | (simp [raiseCr, raiseOk, *]; omega) | (simp [raiseCr, raiseOk, *]; split <;> first | (exfalso; omega) | (simp; done) | (simp; omega))), (by repeat (first | with_reducible exact Ext.refl _ | with_reducible assumption | with_reducible refine Ext.alloc ?_ _ | with_reducible refine Ext.drew ?_ | with_reducible refine Ext.drewN ?_ _ | ((with_reducible refine Ext.set ?_ ?_ _); (focus (first | (simp; done) | (simp; omega)))) | with_reducible refine Ext.trans ?_ (by assumption)))⟩
    · -- no
      have h0x : ¬ (l < n) := h0
      have h0d : decide (l < n) = false := decide_eq_false h0x
      replace h0 : n ≤ l := by omega
      by_cases h2 : 0 ≤ n
      · -- yes
        have hq : inB 0 n 4611686018427387903 = true := inB_mk (by omega) (by omega)
        go_enter Try.func26, Try.ntmps26
        go_wp2_with (first | (go_at_call 12; refine (isCredit_spec _ _ _ _ _).mono ?_; rintro e w1 ⟨rfl, hb1⟩; have hk0 := hb1.more (k := w.heap.size) (by first | assumption | (simp; done) | (simp; omega) | omega); obtain ⟨hc0, hf0⟩ := hb1.row (k := w.heap.size) (by first | assumption | (simp; done) | (simp; omega) | omega); have hk1 := hb1.more (k := w.heap.size + 1) (by first | assumption | (simp; done) | (simp; omega) | omega); obtain ⟨hc1, hf1⟩ := hb1.row (k := w.heap.size + 1) (by first | assumption | (simp; done) | (simp; omega) | omega)) | (go_at_call 34; refine (l4Quic_any _ _).mono ?_; rintro e w1 ⟨rfl, rfl⟩))
        exact bodyPost_ret (v := .agg #[.int .i64 l, .int .i64 u, .int .i64 b, .int .i64 t]) (by simp [results, Try.results26, go_sem, *]) rfl ⟨(by first | (simp [raiseCr, raiseOk, *]; done) | (simp [raiseCr, raiseOk, *]; omega) | (simp [raiseCr, raiseOk, *]; split <;> first | (exfalso; omega) | (simp; done) | (simp; omega))), (by repeat (first | with_reducible exact Ext.refl _ | with_reducible assumption | with_reducible refine Ext.alloc ?_ _ | with_reducible refine Ext.drew ?_ | with_reducible refine Ext.drewN ?_ _ | ((with_reducible refine Ext.set ?_ ?_ _); (focus (first | (simp; done) | (simp; omega)))) | with_reducible refine Ext.trans ?_ (by assumption)))⟩
      · -- no
        have h2x : ¬ (0 ≤ n) := h2
        have h2d : decide (0 ≤ n) = false := decide_eq_false h2x
        replace h2 : n < 0 := by omega
        have hq : inB 0 n 4611686018427387903 = false := inB_no (by omega)
        go_enter Try.func26, Try.ntmps26
        go_wp2_with (first | (go_at_call 12; refine (isCredit_spec _ _ _ _ _).mono ?_; rintro e w1 ⟨rfl, hb1⟩; have hk0 := hb1.more (k := w.heap.size) (by first | assumption | (simp; done) | (simp; omega) | omega); obtain ⟨hc0, hf0⟩ := hb1.row (k := w.heap.size) (by first | assumption | (simp; done) | (simp; omega) | omega); have hk1 := hb1.more (k := w.heap.size + 1) (by first | assumption | (simp; done) | (simp; omega) | omega); obtain ⟨hc1, hf1⟩ := hb1.row (k := w.heap.size + 1) (by first | assumption | (simp; done) | (simp; omega) | omega)) | (go_at_call 34; refine (l4Quic_any _ _).mono ?_; rintro e w1 ⟨rfl, rfl⟩))
        exact bodyPost_ret (v := .agg #[.int .i64 l, .int .i64 u, .int .i64 b, .int .i64 t]) (by simp [results, Try.results26, go_sem, *]) rfl ⟨(by first | (simp [raiseCr, raiseOk, *]; done) | (simp [raiseCr, raiseOk, *]; omega) | (simp [raiseCr, raiseOk, *]; split <;> first | (exfalso; omega) | (simp; done) | (simp; omega))), (by repeat (first | with_reducible exact Ext.refl _ | with_reducible assumption | with_reducible refine Ext.alloc ?_ _ | with_reducible refine Ext.drew ?_ | with_reducible refine Ext.drewN ?_ _ | ((with_reducible refine Ext.set ?_ ?_ _); (focus (first | (simp; done) | (simp; omega)))) | with_reducible refine Ext.trans ?_ (by assumption)))⟩
  · -- no
    go_enter Try.func26, Try.ntmps26
    go_wp2_with (first | (go_at_call 12; refine (isCredit_spec _ _ _ _ _).mono ?_; rintro e w1 ⟨rfl, hb1⟩; have hk0 := hb1.more (k := w.heap.size) (by first | assumption | (simp; done) | (simp; omega) | omega); obtain ⟨hc0, hf0⟩ := hb1.row (k := w.heap.size) (by first | assumption | (simp; done) | (simp; omega) | omega); have hk1 := hb1.more (k := w.heap.size + 1) (by first | assumption | (simp; done) | (simp; omega) | omega); obtain ⟨hc1, hf1⟩ := hb1.row (k := w.heap.size + 1) (by first | assumption | (simp; done) | (simp; omega) | omega)) | (go_at_call 34; refine (l4Quic_any _ _).mono ?_; rintro e w1 ⟨rfl, rfl⟩))
    exact bodyPost_ret (v := .agg #[.int .i64 l, .int .i64 u, .int .i64 b, .int .i64 t]) (by simp [results, Try.results26, go_sem, *]) rfl ⟨(by first | (simp [raiseCr, raiseOk, *]; done) | (simp [raiseCr, raiseOk, *]; omega) | (simp [raiseCr, raiseOk, *]; split <;> first | (exfalso; omega) | (simp; done) | (simp; omega))), (by repeat (first | with_reducible exact Ext.refl _ | with_reducible assumption | with_reducible refine Ext.alloc ?_ _ | with_reducible refine Ext.drew ?_ | with_reducible refine Ext.drewN ?_ _ | ((with_reducible refine Ext.set ?_ ?_ _); (focus (first | (simp; done) | (simp; omega)))) | with_reducible refine Ext.trans ?_ (by assumption)))⟩
set_option maxHeartbeats 1000000 in
theorem RaiseLimit_impl (l u b t n : Int) (w : World) : Calls Try.prog 27 #[.agg #[.int .i64 l, .int .i64 u, .int .i64 b, .int .i64 t], .int .i64 n] w fun e w' => e = .returned (.agg #[.int .i64 (raiseCr l u b t n).l, .int .i64 (raiseCr l u b t n).u, .int .i64 (raiseCr l u b t n).b, .int .i64 (raiseCr l u b t n).t]) ∧ Ext w w' := by
  rcases Bool.eq_false_or_eq_true (isCredit l u b t) with hv | hv
  · -- yes
    have hbd := isCredit_bd hv
    obtain ⟨k1, k2, k3, k4, k5, k6, k7, k8⟩ := hbd
    by_cases h0 : l < n
    · -- yes
      by_cases h1 : n ≤ 4611686018427387903
      · -- yes
        have hq : inB 0 n 4611686018427387903 = true := inB_mk (by omega) (by omega)
        go_enter Try.func27, Try.ntmps27
        go_wp2_with (first | (go_at_call 14; refine (isCredit_impl _ _ _ _ _).mono ?_; rintro e w1 ⟨rfl, hb1⟩; have hk0 := hb1.more (k := w.heap.size) (by first | assumption | (simp; done) | (simp; omega) | omega); obtain ⟨hc0, hf0⟩ := hb1.row (k := w.heap.size) (by first | assumption | (simp; done) | (simp; omega) | omega); have hk1 := hb1.more (k := w.heap.size + 1) (by first | assumption | (simp; done) | (simp; omega) | omega); obtain ⟨hc1, hf1⟩ := hb1.row (k := w.heap.size + 1) (by first | assumption | (simp; done) | (simp; omega) | omega)) | (go_at_call 36; refine (isQuic_any _ _).mono ?_; rintro e w1 ⟨rfl, rfl⟩))
        exact bodyPost_ret (v := .agg #[.int .i64 n, .int .i64 u, .int .i64 (-1), .int .i64 t]) (by simp [results, Try.results27, go_sem, *]) rfl ⟨(by first | (simp [raiseCr, raiseOk, *]; done) | (simp [raiseCr, raiseOk, *]; omega) | (simp [raiseCr, raiseOk, *]; split <;> first | (exfalso; omega) | (simp; done) | (simp; omega))), (by repeat (first | with_reducible exact Ext.refl _ | with_reducible assumption | with_reducible refine Ext.alloc ?_ _ | with_reducible refine Ext.drew ?_ | with_reducible refine Ext.drewN ?_ _ | ((with_reducible refine Ext.set ?_ ?_ _); (focus (first | (simp; done) | (simp; omega)))) | with_reducible refine Ext.trans ?_ (by assumption)))⟩
      · -- no
        have h1x : ¬ (n ≤ 4611686018427387903) := h1
        have h1d : decide (n ≤ 4611686018427387903) = false := decide_eq_false h1x
        replace h1 : 4611686018427387903 < n := by omega
        have hq : inB 0 n 4611686018427387903 = false := inB_no (by omega)
        go_enter Try.func27, Try.ntmps27
        go_wp2_with (first | (go_at_call 14; refine (isCredit_impl _ _ _ _ _).mono ?_; rintro e w1 ⟨rfl, hb1⟩; have hk0 := hb1.more (k := w.heap.size) (by first | assumption | (simp; done) | (simp; omega) | omega); obtain ⟨hc0, hf0⟩ := hb1.row (k := w.heap.size) (by first | assumption | (simp; done) | (simp; omega) | omega); have hk1 := hb1.more (k := w.heap.size + 1) (by first | assumption | (simp; done) | (simp; omega) | omega); obtain ⟨hc1, hf1⟩ := hb1.row (k := w.heap.size + 1) (by first | assumption | (simp; done) | (simp; omega) | omega)) | (go_at_call 36; refine (isQuic_any _ _).mono ?_; rintro e w1 ⟨rfl, rfl⟩))
        exact bodyPost_ret (v := .agg #[.int .i64 l, .int .i64 u, .int .i64 b, .int .i64 t]) (by simp [results, Try.results27, go_sem, *]) rfl ⟨(by first | (simp [raiseCr, raiseOk, *]; done) | (simp [raiseCr, raiseOk, *]; omega) | (simp [raiseCr, raiseOk, *]; split <;> first | (exfalso; omega) | (simp; done) | (simp; omega))), (by repeat (first | with_reducible exact Ext.refl _ | with_reducible assumption | with_reducible refine Ext.alloc ?_ _ | with_reducible refine Ext.drew ?_ | with_reducible refine Ext.drewN ?_ _ | ((with_reducible refine Ext.set ?_ ?_ _); (focus (first | (simp; done) | (simp; omega)))) | with_reducible refine Ext.trans ?_ (by assumption)))⟩
    · -- no
      have h0x : ¬ (l < n) := h0
      have h0d : decide (l < n) = false := decide_eq_false h0x
      replace h0 : n ≤ l := by omega
      by_cases h2 : 0 ≤ n
      · -- yes
        have hq : inB 0 n 4611686018427387903 = true := inB_mk (by omega) (by omega)
        go_enter Try.func27, Try.ntmps27
        go_wp2_with (first | (go_at_call 14; refine (isCredit_impl _ _ _ _ _).mono ?_; rintro e w1 ⟨rfl, hb1⟩; have hk0 := hb1.more (k := w.heap.size) (by first | assumption | (simp; done) | (simp; omega) | omega); obtain ⟨hc0, hf0⟩ := hb1.row (k := w.heap.size) (by first | assumption | (simp; done) | (simp; omega) | omega); have hk1 := hb1.more (k := w.heap.size + 1) (by first | assumption | (simp; done) | (simp; omega) | omega); obtain ⟨hc1, hf1⟩ := hb1.row (k := w.heap.size + 1) (by first | assumption | (simp; done) | (simp; omega) | omega)) | (go_at_call 36; refine (isQuic_any _ _).mono ?_; rintro e w1 ⟨rfl, rfl⟩))
        exact bodyPost_ret (v := .agg #[.int .i64 l, .int .i64 u, .int .i64 b, .int .i64 t]) (by simp [results, Try.results27, go_sem, *]) rfl ⟨(by first | (simp [raiseCr, raiseOk, *]; done) | (simp [raiseCr, raiseOk, *]; omega) | (simp [raiseCr, raiseOk, *]; split <;> first | (exfalso; omega) | (simp; done) | (simp; omega))), (by repeat (first | with_reducible exact Ext.refl _ | with_reducible assumption | with_reducible refine Ext.alloc ?_ _ | with_reducible refine Ext.drew ?_ | with_reducible refine Ext.drewN ?_ _ | ((with_reducible refine Ext.set ?_ ?_ _); (focus (first | (simp; done) | (simp; omega)))) | with_reducible refine Ext.trans ?_ (by assumption)))⟩
      · -- no
        have h2x : ¬ (0 ≤ n) := h2
        have h2d : decide (0 ≤ n) = false := decide_eq_false h2x
        replace h2 : n < 0 := by omega
        have hq : inB 0 n 4611686018427387903 = false := inB_no (by omega)
        go_enter Try.func27, Try.ntmps27
        go_wp2_with (first | (go_at_call 14; refine (isCredit_impl _ _ _ _ _).mono ?_; rintro e w1 ⟨rfl, hb1⟩; have hk0 := hb1.more (k := w.heap.size) (by first | assumption | (simp; done) | (simp; omega) | omega); obtain ⟨hc0, hf0⟩ := hb1.row (k := w.heap.size) (by first | assumption | (simp; done) | (simp; omega) | omega); have hk1 := hb1.more (k := w.heap.size + 1) (by first | assumption | (simp; done) | (simp; omega) | omega); obtain ⟨hc1, hf1⟩ := hb1.row (k := w.heap.size + 1) (by first | assumption | (simp; done) | (simp; omega) | omega)) | (go_at_call 36; refine (isQuic_any _ _).mono ?_; rintro e w1 ⟨rfl, rfl⟩))
        exact bodyPost_ret (v := .agg #[.int .i64 l, .int .i64 u, .int .i64 b, .int .i64 t]) (by simp [results, Try.results27, go_sem, *]) rfl ⟨(by first | (simp [raiseCr, raiseOk, *]; done) | (simp [raiseCr, raiseOk, *]; omega) | (simp [raiseCr, raiseOk, *]; split <;> first | (exfalso; omega) | (simp; done) | (simp; omega))), (by repeat (first | with_reducible exact Ext.refl _ | with_reducible assumption | with_reducible refine Ext.alloc ?_ _ | with_reducible refine Ext.drew ?_ | with_reducible refine Ext.drewN ?_ _ | ((with_reducible refine Ext.set ?_ ?_ _); (focus (first | (simp; done) | (simp; omega)))) | with_reducible refine Ext.trans ?_ (by assumption)))⟩
  · -- no
    go_enter Try.func27, Try.ntmps27
    go_wp2_with (first | (go_at_call 14; refine (isCredit_impl _ _ _ _ _).mono ?_; rintro e w1 ⟨rfl, hb1⟩; have hk0 := hb1.more (k := w.heap.size) (by first | assumption | (simp; done) | (simp; omega) | omega); obtain ⟨hc0, hf0⟩ := hb1.row (k := w.heap.size) (by first | assumption | (simp; done) | (simp; omega) | omega); have hk1 := hb1.more (k := w.heap.size + 1) (by first | assumption | (simp; done) | (simp; omega) | omega); obtain ⟨hc1, hf1⟩ := hb1.row (k := w.heap.size + 1) (by first | assumption | (simp; done) | (simp; omega) | omega)) | (go_at_call 36; refine (isQuic_any _ _).mono ?_; rintro e w1 ⟨rfl, rfl⟩))
    exact bodyPost_ret (v := .agg #[.int .i64 l, .int .i64 u, .int .i64 b, .int .i64 t]) (by simp [results, Try.results27, go_sem, *]) rfl ⟨(by first | (simp [raiseCr, raiseOk, *]; done) | (simp [raiseCr, raiseOk, *]; omega) | (simp [raiseCr, raiseOk, *]; split <;> first | (exfalso; omega) | (simp; done) | (simp; omega))), (by repeat (first | with_reducible exact Ext.refl _ | with_reducible assumption | with_reducible refine Ext.alloc ?_ _ | with_reducible refine Ext.drew ?_ | with_reducible refine Ext.drewN ?_ _ | ((with_reducible refine Ext.set ?_ ?_ _); (focus (first | (simp; done) | (simp; omega)))) | with_reducible refine Ext.trans ?_ (by assumption)))⟩
end Go.Proofs.Ytebolohnfhhmpaa

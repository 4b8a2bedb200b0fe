/-
  Contracts of SeeBytes, of the program and of the reference: both compute the same plain function. No condition.
-/
import Derived.Test.YtofaihmiekoikaaIsWindow
namespace Go.Proofs.Ytofaihmiekoikaa
open Go.ChangeShapes Go.WideShapes Go.ChangeAt Go.RowKit
set_option linter.unusedSimpArgs false
set_option maxHeartbeats 1000000 in
theorem SeeBytes_spec (z m l s r t n : Int) (w : World) : Calls Try.prog 23 #[.agg #[.int .i64 z, .int .i64 m, .int .i64 l, .int .i64 s, .int .i64 r, .int .i64 t], .int .i64 n] w fun e w' => e = .returned (.tuple #[.agg #[.int .i64 (seeWn z m l s r t n).z, .int .i64 (seeWn z m l s r t n).m, .int .i64 (seeWn z m l s r t n).l, .int .i64 (seeWn z m l s r t n).s, .int .i64 (seeWn z m l s r t n).r, .int .i64 (seeWn z m l s r t n).t], .bool (seeOk z m l s r t n)]) ∧ Ext w w' := by
  rcases Bool.eq_false_or_eq_true (isWindow z m l s r t) with hv | hv
  · -- yes
    have hbd := isWindow_bd hv
    obtain ⟨k1, k2, k3, k4, k5, k6, k7, k8, k9, k10, k11, k12, k13⟩ := hbd
    by_cases h0 : 0 ≤ n
    · -- yes
      by_cases h1 : n ≤ l - s
      · -- yes
        have hn : inB 0 n (l - s) = true := inB_mk h0 h1
        go_enter Try.func23, Try.ntmps23
        go_wp2_with (first | (go_at_call 11; refine (isWindow_spec _ _ _ _ _ _ _).mono ?_; rintro e w1 ⟨rfl, hb1⟩; have hk0 := hb1.more (k := w.heap.size) (by first | assumption | (simp; done) | (simp; omega) | omega); obtain ⟨hc0, hf0⟩ := hb1.row (k := w.heap.size) (by first | assumption | (simp; done) | (simp; omega) | omega); have hk1 := hb1.more (k := w.heap.size + 1) (by first | assumption | (simp; done) | (simp; omega) | omega); obtain ⟨hc1, hf1⟩ := hb1.row (k := w.heap.size + 1) (by first | assumption | (simp; done) | (simp; omega) | omega)) | (go_at_call 31; refine (l1In_any _ _ _ _).mono ?_; rintro e w1 ⟨rfl, rfl⟩))
        exact bodyPost_ret (v := .tuple #[.agg #[.int .i64 z, .int .i64 m, .int .i64 l, .int .i64 (s + n), .int .i64 r, .int .i64 t], .bool true]) (by simp [results, Try.results23, go_sem, *]) rfl ⟨(by first | (simp [seeWn, seeOk, *]; done) | (simp [seeWn, seeOk, *]; omega) | (simp [seeWn, seeOk, *]; split <;> first | (exfalso; omega) | (simp; done) | (simp; omega))), (by repeat (first | with_reducible exact Ext.refl _ | with_reducible assumption | with_reducible refine Ext.alloc ?_ _ | with_reducible refine Ext.drew ?_ | with_reducible refine Ext.drewN ?_ _ | ((with_reducible refine Ext.set ?_ ?_ _); (focus (first | (simp; done) | (simp; omega)))) | with_reducible refine Ext.trans ?_ (by assumption)))⟩
      · -- no
        have h1x : ¬ (n ≤ l - s) := h1
        have h1d : decide (n ≤ l - s) = false := decide_eq_false h1x
        replace h1 : l - s < n := by omega
        have hn : inB 0 n (l - s) = false := inB_no (by omega)
        go_enter Try.func23, Try.ntmps23
        go_wp2_with (first | (go_at_call 11; refine (isWindow_spec _ _ _ _ _ _ _).mono ?_; rintro e w1 ⟨rfl, hb1⟩; have hk0 := hb1.more (k := w.heap.size) (by first | assumption | (simp; done) | (simp; omega) | omega); obtain ⟨hc0, hf0⟩ := hb1.row (k := w.heap.size) (by first | assumption | (simp; done) | (simp; omega) | omega); have hk1 := hb1.more (k := w.heap.size + 1) (by first | assumption | (simp; done) | (simp; omega) | omega); obtain ⟨hc1, hf1⟩ := hb1.row (k := w.heap.size + 1) (by first | assumption | (simp; done) | (simp; omega) | omega)) | (go_at_call 31; refine (l1In_any _ _ _ _).mono ?_; rintro e w1 ⟨rfl, rfl⟩))
        exact bodyPost_ret (v := .tuple #[.agg #[.int .i64 z, .int .i64 m, .int .i64 l, .int .i64 s, .int .i64 r, .int .i64 t], .bool false]) (by simp [results, Try.results23, go_sem, *]) rfl ⟨(by first | (simp [seeWn, seeOk, *]; done) | (simp [seeWn, seeOk, *]; omega) | (simp [seeWn, seeOk, *]; split <;> first | (exfalso; omega) | (simp; done) | (simp; omega))), (by repeat (first | with_reducible exact Ext.refl _ | with_reducible assumption | with_reducible refine Ext.alloc ?_ _ | with_reducible refine Ext.drew ?_ | with_reducible refine Ext.drewN ?_ _ | ((with_reducible refine Ext.set ?_ ?_ _); (focus (first | (simp; done) | (simp; omega)))) | with_reducible refine Ext.trans ?_ (by assumption)))⟩
    · -- no
      have h0x : ¬ (0 ≤ n) := h0
      have h0d : decide (0 ≤ n) = false := decide_eq_false h0x
      replace h0 : n < 0 := by omega
      have hn : inB 0 n (l - s) = false := inB_no (by omega)
      go_enter Try.func23, Try.ntmps23
      go_wp2_with (first | (go_at_call 11; refine (isWindow_spec _ _ _ _ _ _ _).mono ?_; rintro e w1 ⟨rfl, hb1⟩; have hk0 := hb1.more (k := w.heap.size) (by first | assumption | (simp; done) | (simp; omega) | omega); obtain ⟨hc0, hf0⟩ := hb1.row (k := w.heap.size) (by first | assumption | (simp; done) | (simp; omega) | omega); have hk1 := hb1.more (k := w.heap.size + 1) (by first | assumption | (simp; done) | (simp; omega) | omega); obtain ⟨hc1, hf1⟩ := hb1.row (k := w.heap.size + 1) (by first | assumption | (simp; done) | (simp; omega) | omega)) | (go_at_call 31; refine (l1In_any _ _ _ _).mono ?_; rintro e w1 ⟨rfl, rfl⟩))
      exact bodyPost_ret (v := .tuple #[.agg #[.int .i64 z, .int .i64 m, .int .i64 l, .int .i64 s, .int .i64 r, .int .i64 t], .bool false]) (by simp [results, Try.results23, go_sem, *]) rfl ⟨(by first | (simp [seeWn, seeOk, *]; done) | (simp [seeWn, seeOk, *]; omega) | (simp [seeWn, seeOk, *]; split <;> first | (exfalso; omega) | (simp; done) | (simp; omega))), (by repeat (first | with_reducible exact Ext.refl _ | with_reducible assumption | with_reducible refine Ext.alloc ?_ _ | with_reducible refine Ext.drew ?_ | with_reducible refine Ext.drewN ?_ _ | ((with_reducible refine Ext.set ?_ ?_ _); (focus (first | (simp; done) | (simp; omega)))) | with_reducible refine Ext.trans ?_ (by assumption)))⟩
  · -- no
    go_enter Try.func23, Try.ntmps23
    go_wp2_with (first | (go_at_call 11; refine (isWindow_spec _ _ _ _ _ _ _).mono ?_; rintro e w1 ⟨rfl, hb1⟩; have hk0 := hb1.more (k := w.heap.size) (by first | assumption | (simp; done) | (simp; omega) | omega); obtain ⟨hc0, hf0⟩ := hb1.row (k := w.heap.size) (by first | assumption | (simp; done) | (simp; omega) | omega); have hk1 := hb1.more (k := w.heap.size + 1) (by first | assumption | (simp; done) | (simp; omega) | omega); obtain ⟨hc1, hf1⟩ := hb1.row (k := w.heap.size + 1) (by first | assumption | (simp; done) | (simp; omega) | omega)) | (go_at_call 31; refine (l1In_any _ _ _ _).mono ?_; rintro e w1 ⟨rfl, rfl⟩))
    exact bodyPost_ret (v := .tuple #[.agg #[.int .i64 z, .int .i64 m, .int .i64 l, .int .i64 s, .int .i64 r, .int .i64 t], .bool false]) (by simp [results, Try.results23, go_sem, *]) rfl ⟨(by first | (simp [seeWn, seeOk, *]; done) | (simp [seeWn, seeOk, *]; omega) | (simp [seeWn, seeOk, *]; split <;> first | (exfalso; omega) | (simp; done) | (simp; omega))), (by repeat (first | with_reducible exact Ext.refl _ | with_reducible assumption | with_reducible refine Ext.alloc ?_ _ | with_reducible refine Ext.drew ?_ | with_reducible refine Ext.drewN ?_ _ | ((with_reducible refine Ext.set ?_ ?_ _); (focus (first | (simp; done) | (simp; omega)))) | with_reducible refine Ext.trans ?_ (by assumption)))⟩
set_option maxHeartbeats 1000000 in
theorem SeeBytes_impl (z m l s r t n : Int) (w : World) : Calls Try.prog 24 #[.agg #[.int .i64 z, .int .i64 m, .int .i64 l, .int .i64 s, .int .i64 r, .int .i64 t], .int .i64 n] w fun e w' => e = .returned (.tuple #[.agg #[.int .i64 (seeWn z m l s r t n).z, .int .i64 (seeWn z m l s r t n).m, .int .i64 (seeWn z m l s r t n).l, .int .i64 (seeWn z m l s r t n).s, .int .i64 (seeWn z m l s r t n).r, .int .i64 (seeWn z m l s r t n).t], .bool (seeOk z m l s r t n)]) ∧ Ext w w' := by
  rcases Bool.eq_false_or_eq_true (isWindow z m l s r t) with hv | hv
  · -- yes
    have hbd := isWindow_bd hv
    obtain ⟨k1, k2, k3, k4, k5, k6, k7, k8, k9, k10, k11, k12, k13⟩ := hbd
    by_cases h0 : 0 ≤ n
    · -- yes
      by_cases h1 : n ≤ l - s
      · -- yes
        have hn : inB 0 n (l - s) = true := inB_mk h0 h1
        go_enter Try.func24, Try.ntmps24
        go_wp2_with (first | (go_at_call 13; refine (isWindow_impl _ _ _ _ _ _ _).mono ?_; rintro e w1 ⟨rfl, hb1⟩; have hk0 := hb1.more (k := w.heap.size) (by first | assumption | (simp; done) | (simp; omega) | omega); obtain ⟨hc0, hf0⟩ := hb1.row (k := w.heap.size) (by first | assumption | (simp; done) | (simp; omega) | omega); have hk1 := hb1.more (k := w.heap.size + 1) (by first | assumption | (simp; done) | (simp; omega) | omega); obtain ⟨hc1, hf1⟩ := hb1.row (k := w.heap.size + 1) (by first | assumption | (simp; done) | (simp; omega) | omega)) | (go_at_call 32; refine (within_any _ _ _ _).mono ?_; rintro e w1 ⟨rfl, rfl⟩))
        exact bodyPost_ret (v := .tuple #[.agg #[.int .i64 z, .int .i64 m, .int .i64 l, .int .i64 (s + n), .int .i64 r, .int .i64 t], .bool true]) (by simp [results, Try.results24, go_sem, *]) rfl ⟨(by first | (simp [seeWn, seeOk, *]; done) | (simp [seeWn, seeOk, *]; omega) | (simp [seeWn, seeOk, *]; split <;> first | (exfalso; omega) | (simp; done) | (simp; omega))), (by repeat (first | with_reducible exact Ext.refl _ | with_reducible assumption | with_reducible refine Ext.alloc ?_ _ | with_reducible refine Ext.drew ?_ | with_reducible refine Ext.drewN ?_ _ | ((with_reducible refine Ext.set ?_ ?_ _); (focus (first | (simp; done) | (simp; omega)))) | with_reducible refine Ext.trans ?_ (by assumption)))⟩
      · -- no
        have h1x : ¬ (n ≤ l - s) := h1
        have h1d : decide (n ≤ l - s) = false := decide_eq_false h1x
        replace h1 : l - s < n := by omega
        have hn : inB 0 n (l - s) = false := inB_no (by omega)
        go_enter Try.func24, Try.ntmps24
        go_wp2_with (first | (go_at_call 13; refine (isWindow_impl _ _ _ _ _ _ _).mono ?_; rintro e w1 ⟨rfl, hb1⟩; have hk0 := hb1.more (k := w.heap.size) (by first | assumption | (simp; done) | (simp; omega) | omega); obtain ⟨hc0, hf0⟩ := hb1.row (k := w.heap.size) (by first | assumption | (simp; done) | (simp; omega) | omega); have hk1 := hb1.more (k := w.heap.size + 1) (by first | assumption | (simp; done) | (simp; omega) | omega); obtain ⟨hc1, hf1⟩ := hb1.row (k := w.heap.size + 1) (by first | assumption | (simp; done) | (simp; omega) | omega)) | (go_at_call 32; refine (within_any _ _ _ _).mono ?_; rintro e w1 ⟨rfl, rfl⟩))
        exact bodyPost_ret (v := .tuple #[.agg #[.int .i64 z, .int .i64 m, .int .i64 l, .int .i64 s, .int .i64 r, .int .i64 t], .bool false]) (by simp [results, Try.results24, go_sem, *]) rfl ⟨(by first | (simp [seeWn, seeOk, *]; done) | (simp [seeWn, seeOk, *]; omega) | (simp [seeWn, seeOk, *]; split <;> first | (exfalso; omega) | (simp; done) | (simp; omega))), (by repeat (first | with_reducible exact Ext.refl _ | with_reducible assumption | with_reducible refine Ext.alloc ?_ _ | with_reducible refine Ext.drew ?_ | with_reducible refine Ext.drewN ?_ _ | ((with_reducible refine Ext.set ?_ ?_ _); (focus (first | (simp; done) | (simp; omega)))) | with_reducible refine Ext.trans ?_ (by assumption)))⟩
    · -- no
      have h0x : ¬ (0 ≤ n) := h0
      have h0d : decide (0 ≤ n) = false := decide_eq_false h0x
      replace h0 : n < 0 := by omega
      have hn : inB 0 n (l - s) = false := inB_no (by omega)
      go_enter Try.func24, Try.ntmps24
      go_wp2_with (first | (go_at_call 13; refine (isWindow_impl _ _ _ _ _ _ _).mono ?_; rintro e w1 ⟨rfl, hb1⟩; have hk0 := hb1.more (k := w.heap.size) (by first | assumption | (simp; done) | (simp; omega) | omega); obtain ⟨hc0, hf0⟩ := hb1.row (k := w.heap.size) (by first | assumption | (simp; done) | (simp; omega) | omega); have hk1 := hb1.more (k := w.heap.size + 1) (by first | assumption | (simp; done) | (simp; omega) | omega); obtain ⟨hc1, hf1⟩ := hb1.row (k := w.heap.size + 1) (by first | assumption | (simp; done) | (simp; omega) | omega)) | (go_at_call 32; refine (within_any _ _ _ _).mono ?_; rintro e w1 ⟨rfl, rfl⟩))
      exact bodyPost_ret (v := .tuple #[.agg #[.int .i64 z, .int .i64 m, .int .i64 l, .int .i64 s, .int .i64 r, .int .i64 t], .bool false]) (by simp [results, Try.results24, go_sem, *]) rfl ⟨(by first | (simp [seeWn, seeOk, *]; done) | (simp [seeWn, seeOk, *]; omega) | (simp [seeWn, seeOk, *]; split <;> first | (exfalso; omega) | (simp; done) | (simp; omega))), (by repeat (first | with_reducible exact Ext.refl _ | with_reducible assumption | with_reducible refine Ext.alloc ?_ _ | with_reducible refine Ext.drew ?_ | with_reducible refine Ext.drewN ?_ _ | ((with_reducible refine Ext.set ?_ ?_ _); (focus (first | (simp; done) | (simp; omega)))) | with_reducible refine Ext.trans ?_ (by assumption)))⟩
  · -- no
    go_enter Try.func24, Try.ntmps24
    go_wp2_with (first | (go_at_call 13; refine (isWindow_impl _ _ _ _ _ _ _).mono ?_; rintro e w1 ⟨rfl, hb1⟩; have hk0 := hb1.more (k := w.heap.size) (by first | assumption | (simp; done) | (simp; omega) | omega); obtain ⟨hc0, hf0⟩ := hb1.row (k := w.heap.size) (by first | assumption | (simp; done) | (simp; omega) | omega); have hk1 := hb1.more (k := w.heap.size + 1) (by first | assumption | (simp; done) | (simp; omega) | omega); obtain ⟨hc1, hf1⟩ := hb1.row (k := w.heap.size + 1) (by first | assumption | (simp; done) | (simp; omega) | omega)) | (go_at_call 32; refine (within_any _ _ _ _).mono ?_; rintro e w1 ⟨rfl, rfl⟩))
    exact bodyPost_ret (v := .tuple #[.agg #[.int .i64 z, .int .i64 m, .int .i64 l, .int .i64 s, .int .i64 r, .int .i64 t], .bool false]) (by simp [results, Try.results24, go_sem, *]) rfl ⟨(by first | (simp [seeWn, seeOk, *]; done) | (simp [seeWn, seeOk, *]; omega) | (simp [seeWn, seeOk, *]; split <;> first | (exfalso; omega) | (simp; done) | (simp; omega))), (by repeat (first | with_reducible exact Ext.refl _ | with_reducible assumption | with_reducible refine Ext.alloc ?_ _ | with_reducible refine Ext.drew ?_ | with_reducible refine Ext.drewN ?_ _ | ((with_reducible refine Ext.set ?_ ?_ _); (focus (first | (simp; done) | (simp; omega)))) | with_reducible refine Ext.trans ?_ (by assumption)))⟩
end Go.Proofs.Ytofaihmiekoikaa

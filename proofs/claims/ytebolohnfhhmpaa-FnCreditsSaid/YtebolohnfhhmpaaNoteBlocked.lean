/-
  Contracts of NoteBlocked, of the program and of the reference: both compute the same plain function. No condition.
-/
import Derived.Test.YtebolohnfhhmpaaIsCredit
namespace Go.Proofs.Ytebolohnfhhmpaa
open Go.ChangeShapes Go.WideShapes Go.ChangeAt Go.RowKit
set_option linter.unusedSimpArgs false
set_option maxHeartbeats 1000000 in
theorem NoteBlocked_spec (l u b t : Int) (w : World) : Calls Try.prog 22 #[.agg #[.int .i64 l, .int .i64 u, .int .i64 b, .int .i64 t]] w fun e w' => e = .returned (.agg #[.int .i64 (noteCr l u b t).l, .int .i64 (noteCr l u b t).u, .int .i64 (noteCr l u b t).b, .int .i64 (noteCr l u b t).t]) ∧ Ext w w' := by
  rcases Bool.eq_false_or_eq_true (isCredit l u b t) with hv | hv
  · -- yes
    by_cases h0 : u = l
    · -- equal
      have h0e : (u == l) = true := by simp [h0]
      have h0n : (u != l) = false := by simp [h0]
      have h0H := hide h0
      clear h0
      by_cases h1 : b = -1
      · -- equal
        have h1e : (b == -1) = true := by simp [h1]
        have h1n : (b != -1) = false := by simp [h1]
        have h1H := hide h1
        clear h1
        by_cases h2 : t = l
        · -- equal
          have h2e : (t == l) = true := by simp [h2]
          have h2n : (t != l) = false := by simp [h2]
          have h2H := hide h2
          clear h2
          go_enter Try.func22, Try.ntmps22
          go_wp2_with (first | (go_at_call 12; refine (isCredit_spec _ _ _ _ _).mono ?_; rintro e w1 ⟨rfl, hb1⟩; have hk0 := hb1.more (k := w.heap.size) (by first | assumption | (simp; done) | (simp; omega) | omega); obtain ⟨hc0, hf0⟩ := hb1.row (k := w.heap.size) (by first | assumption | (simp; done) | (simp; omega) | omega); have hk1 := hb1.more (k := w.heap.size + 1) (by first | assumption | (simp; done) | (simp; omega) | omega); obtain ⟨hc1, hf1⟩ := hb1.row (k := w.heap.size + 1) (by first | assumption | (simp; done) | (simp; omega) | omega)))
          exact bodyPost_ret (v := .agg #[.int .i64 l, .int .i64 u, .int .i64 b, .int .i64 t]) (by simp [results, Try.results22, go_sem, *]) rfl ⟨(by first | (simp [noteCr, noteOk, *]; done) | (simp [noteCr, noteOk, *]; omega) | (simp [noteCr, noteOk, *]; split <;> first | (exfalso; omega) | (simp; done) | (simp; omega))), (by repeat (first | with_reducible exact Ext.refl _ | with_reducible assumption | with_reducible refine Ext.alloc ?_ _ | with_reducible refine Ext.drew ?_ | with_reducible refine Ext.drewN ?_ _ | ((with_reducible refine Ext.set ?_ ?_ _); (focus (first | (simp; done) | (simp; omega)))) | with_reducible refine Ext.trans ?_ (by assumption)))⟩
        · -- other
          have h2e : (t == l) = false := by simp [h2]
          have h2n : (t != l) = true := by simp [h2]
          have h2H := hide h2
          clear h2
          go_enter Try.func22, Try.ntmps22
          go_wp2_with (first | (go_at_call 12; refine (isCredit_spec _ _ _ _ _).mono ?_; rintro e w1 ⟨rfl, hb1⟩; have hk0 := hb1.more (k := w.heap.size) (by first | assumption | (simp; done) | (simp; omega) | omega); obtain ⟨hc0, hf0⟩ := hb1.row (k := w.heap.size) (by first | assumption | (simp; done) | (simp; omega) | omega); have hk1 := hb1.more (k := w.heap.size + 1) (by first | assumption | (simp; done) | (simp; omega) | omega); obtain ⟨hc1, hf1⟩ := hb1.row (k := w.heap.size + 1) (by first | assumption | (simp; done) | (simp; omega) | omega)))
          exact bodyPost_ret (v := .agg #[.int .i64 l, .int .i64 u, .int .i64 l, .int .i64 t]) (by simp [results, Try.results22, go_sem, *]) rfl ⟨(by first | (simp [noteCr, noteOk, *]; done) | (simp [noteCr, noteOk, *]; omega) | (simp [noteCr, noteOk, *]; split <;> first | (exfalso; omega) | (simp; done) | (simp; omega))), (by repeat (first | with_reducible exact Ext.refl _ | with_reducible assumption | with_reducible refine Ext.alloc ?_ _ | with_reducible refine Ext.drew ?_ | with_reducible refine Ext.drewN ?_ _ | ((with_reducible refine Ext.set ?_ ?_ _); (focus (first | (simp; done) | (simp; omega)))) | with_reducible refine Ext.trans ?_ (by assumption)))⟩
      · -- other
        have h1e : (b == -1) = false := by simp [h1]
        have h1n : (b != -1) = true := by simp [h1]
        have h1H := hide h1
        clear h1
        go_enter Try.func22, Try.ntmps22
        go_wp2_with (first | (go_at_call 12; refine (isCredit_spec _ _ _ _ _).mono ?_; rintro e w1 ⟨rfl, hb1⟩; have hk0 := hb1.more (k := w.heap.size) (by first | assumption | (simp; done) | (simp; omega) | omega); obtain ⟨hc0, hf0⟩ := hb1.row (k := w.heap.size) (by first | assumption | (simp; done) | (simp; omega) | omega); have hk1 := hb1.more (k := w.heap.size + 1) (by first | assumption | (simp; done) | (simp; omega) | omega); obtain ⟨hc1, hf1⟩ := hb1.row (k := w.heap.size + 1) (by first | assumption | (simp; done) | (simp; omega) | omega)))
        exact bodyPost_ret (v := .agg #[.int .i64 l, .int .i64 u, .int .i64 b, .int .i64 t]) (by simp [results, Try.results22, go_sem, *]) rfl ⟨(by first | (simp [noteCr, noteOk, *]; done) | (simp [noteCr, noteOk, *]; omega) | (simp [noteCr, noteOk, *]; split <;> first | (exfalso; omega) | (simp; done) | (simp; omega))), (by repeat (first | with_reducible exact Ext.refl _ | with_reducible assumption | with_reducible refine Ext.alloc ?_ _ | with_reducible refine Ext.drew ?_ | with_reducible refine Ext.drewN ?_ _ | ((with_reducible refine Ext.set ?_ ?_ _); (focus (first | (simp; done) | (simp; omega)))) | with_reducible refine Ext.trans ?_ (by assumption)))⟩
    · -- other
      have h0e : (u == l) = false := by simp [h0]
      have h0n : (u != l) = true := by simp [h0]
      have h0H := hide h0
      clear h0
      go_enter Try.func22, Try.ntmps22
      go_wp2_with (first | (go_at_call 12; refine (isCredit_spec _ _ _ _ _).mono ?_; rintro e w1 ⟨rfl, hb1⟩; have hk0 := hb1.more (k := w.heap.size) (by first | assumption | (simp; done) | (simp; omega) | omega); obtain ⟨hc0, hf0⟩ := hb1.row (k := w.heap.size) (by first | assumption | (simp; done) | (simp; omega) | omega); have hk1 := hb1.more (k := w.heap.size + 1) (by first | assumption | (simp; done) | (simp; omega) | omega); obtain ⟨hc1, hf1⟩ := hb1.row (k := w.heap.size + 1) (by first | assumption | (simp; done) | (simp; omega) | omega)))
      exact bodyPost_ret (v := .agg #[.int .i64 l, .int .i64 u, .int .i64 b, .int .i64 t]) (by simp [results, Try.results22, go_sem, *]) rfl ⟨(by first | (simp [noteCr, noteOk, *]; done) | (simp [noteCr, noteOk, *]; omega) | (simp [noteCr, noteOk, *]; split <;> first | (exfalso; omega) | (simp; done) | (simp; omega))), (by repeat (first | with_reducible exact Ext.refl _ | with_reducible assumption | with_reducible refine Ext.alloc ?_ _ | with_reducible refine Ext.drew ?_ | with_reducible refine Ext.drewN ?_ _ | ((with_reducible refine Ext.set ?_ ?_ _); (focus (first | (simp; done) | (simp; omega)))) | with_reducible refine Ext.trans ?_ (by assumption)))⟩
  · -- no
    go_enter Try.func22, Try.ntmps22
    go_wp2_with (first | (go_at_call 12; refine (isCredit_spec _ _ _ _ _).mono ?_; rintro e w1 ⟨rfl, hb1⟩; have hk0 := hb1.more (k := w.heap.size) (by first | assumption | (simp; done) | (simp; omega) | omega); obtain ⟨hc0, hf0⟩ := hb1.row (k := w.heap.size) (by first | assumption | (simp; done) | (simp; omega) | omega); have hk1 := hb1.more (k := w.heap.size + 1) (by first | assumption | (simp; done) | (simp; omega) | omega); obtain ⟨hc1, hf1⟩ := hb1.row (k := w.heap.size + 1) (by first | assumption | (simp; done) | (simp; omega) | omega)))
    exact bodyPost_ret (v := .agg #[.int .i64 l, .int .i64 u, .int .i64 b, .int .i64 t]) (by simp [results, Try.results22, go_sem, *]) rfl ⟨(by first | (simp [noteCr, noteOk, *]; done) | (simp [noteCr, noteOk, *]; omega) | (simp [noteCr, noteOk, *]; split <;> first | (exfalso; omega) | (simp; done) | (simp; omega))), (by repeat (first | with_reducible exact Ext.refl _ | with_reducible assumption | with_reducible refine Ext.alloc ?_ _ | with_reducible refine Ext.drew ?_ | with_reducible refine Ext.drewN ?_ _ | ((with_reducible refine Ext.set ?_ ?_ _); (focus (first | (simp; done) | (simp; omega)))) | with_reducible refine Ext.trans ?_ (by assumption)))⟩
set_option maxHeartbeats 1000000 in
theorem NoteBlocked_impl (l u b t : Int) (w : World) : Calls Try.prog 23 #[.agg #[.int .i64 l, .int .i64 u, .int .i64 b, .int .i64 t]] w fun e w' => e = .returned (.agg #[.int .i64 (noteCr l u b t).l, .int .i64 (noteCr l u b t).u, .int .i64 (noteCr l u b t).b, .int .i64 (noteCr l u b t).t]) ∧ Ext w w' := by
  rcases Bool.eq_false_or_eq_true (isCredit l u b t) with hv | hv
  · -- yes
    by_cases h0 : u = l
    · -- equal
      have h0e : (u == l) = true := by simp [h0]
      have h0n : (u != l) = false := by simp [h0]
      have h0H := hide h0
      clear h0
      by_cases h1 : b = -1
      · -- equal
        have h1e : (b == -1) = true := by simp [h1]
        have h1n : (b != -1) = false := by simp [h1]
        have h1H := hide h1
        clear h1
        by_cases h2 : t = l
        · -- equal
          have h2e : (t == l) = true := by simp [h2]
          have h2n : (t != l) = false := by simp [h2]
          have h2H := hide h2
          clear h2
          go_enter Try.func23, Try.ntmps23
          go_wp2_with (first | (go_at_call 14; refine (isCredit_impl _ _ _ _ _).mono ?_; rintro e w1 ⟨rfl, hb1⟩; have hk0 := hb1.more (k := w.heap.size) (by first | assumption | (simp; done) | (simp; omega) | omega); obtain ⟨hc0, hf0⟩ := hb1.row (k := w.heap.size) (by first | assumption | (simp; done) | (simp; omega) | omega); have hk1 := hb1.more (k := w.heap.size + 1) (by first | assumption | (simp; done) | (simp; omega) | omega); obtain ⟨hc1, hf1⟩ := hb1.row (k := w.heap.size + 1) (by first | assumption | (simp; done) | (simp; omega) | omega)))
          exact bodyPost_ret (v := .agg #[.int .i64 l, .int .i64 u, .int .i64 b, .int .i64 t]) (by simp [results, Try.results23, go_sem, *]) rfl ⟨(by first | (simp [noteCr, noteOk, *]; done) | (simp [noteCr, noteOk, *]; omega) | (simp [noteCr, noteOk, *]; split <;> first | (exfalso; omega) | (simp; done) | (simp; omega))), (by repeat (first | with_reducible exact Ext.refl _ | with_reducible assumption | with_reducible refine Ext.alloc ?_ _ | with_reducible refine Ext.drew ?_ | with_reducible refine Ext.drewN ?_ _ | ((with_reducible refine Ext.set ?_ ?_ _); (focus (first | (simp; done) | (simp; omega)))) | with_reducible refine Ext.trans ?_ (by assumption)))⟩
        · -- other
          have h2e : (t == l) = false := by simp [h2]
          have h2n : (t != l) = true := by simp [h2]
          have h2H := hide h2
          clear h2
          go_enter Try.func23, Try.ntmps23
          go_wp2_with (first | (go_at_call 14; refine (isCredit_impl _ _ _ _ _).mono ?_; rintro e w1 ⟨rfl, hb1⟩; have hk0 := hb1.more (k := w.heap.size) (by first | assumption | (simp; done) | (simp; omega) | omega); obtain ⟨hc0, hf0⟩ := hb1.row (k := w.heap.size) (by first | assumption | (simp; done) | (simp; omega) | omega); have hk1 := hb1.more (k := w.heap.size + 1) (by first | assumption | (simp; done) | (simp; omega) | omega); obtain ⟨hc1, hf1⟩ := hb1.row (k := w.heap.size + 1) (by first | assumption | (simp; done) | (simp; omega) | omega)))
          exact bodyPost_ret (v := .agg #[.int .i64 l, .int .i64 u, .int .i64 l, .int .i64 t]) (by simp [results, Try.results23, go_sem, *]) rfl ⟨(by first | (simp [noteCr, noteOk, *]; done) | (simp [noteCr, noteOk, *]; omega) | (simp [noteCr, noteOk, *]; split <;> first | (exfalso; omega) | (simp; done) | (simp; omega))), (by repeat (first | with_reducible exact Ext.refl _ | with_reducible assumption | with_reducible refine Ext.alloc ?_ _ | with_reducible refine Ext.drew ?_ | with_reducible refine Ext.drewN ?_ _ | ((with_reducible refine Ext.set ?_ ?_ _); (focus (first | (simp; done) | (simp; omega)))) | with_reducible refine Ext.trans ?_ (by assumption)))⟩
      · -- other
        have h1e : (b == -1) = false := by simp [h1]
        have h1n : (b != -1) = true := by simp [h1]
        have h1H := hide h1
        clear h1
        go_enter Try.func23, Try.ntmps23
        go_wp2_with (first | (go_at_call 14; refine (isCredit_impl _ _ _ _ _).mono ?_; rintro e w1 ⟨rfl, hb1⟩; have hk0 := hb1.more (k := w.heap.size) (by first | assumption | (simp; done) | (simp; omega) | omega); obtain ⟨hc0, hf0⟩ := hb1.row (k := w.heap.size) (by first | assumption | (simp; done) | (simp; omega) | omega); have hk1 := hb1.more (k := w.heap.size + 1) (by first | assumption | (simp; done) | (simp; omega) | omega); obtain ⟨hc1, hf1⟩ := hb1.row (k := w.heap.size + 1) (by first | assumption | (simp; done) | (simp; omega) | omega)))
        exact bodyPost_ret (v := .agg #[.int .i64 l, .int .i64 u, .int .i64 b, .int .i64 t]) (by simp [results, Try.results23, go_sem, *]) rfl ⟨(by first | (simp [noteCr, noteOk, *]; done) | (simp [noteCr, noteOk, *]; omega) | (simp [noteCr, noteOk, *]; split <;> first | (exfalso; omega) | (simp; done) | (simp; omega))), (by repeat (first | with_reducible exact Ext.refl _ | with_reducible assumption | with_reducible refine Ext.alloc ?_ _ | with_reducible refine Ext.drew ?_ | with_reducible refine Ext.drewN ?_ _ | ((with_reducible refine Ext.set ?_ ?_ _); (focus (first | (simp; done) | (simp; omega)))) | with_reducible refine Ext.trans ?_ (by assumption)))⟩
    · -- other
      have h0e : (u == l) = false := by simp [h0]
      have h0n : (u != l) = true := by simp [h0]
      have h0H := hide h0
      clear h0
      go_enter Try.func23, Try.ntmps23
      go_wp2_with (first | (go_at_call 14; refine (isCredit_impl _ _ _ _ _).mono ?_; rintro e w1 ⟨rfl, hb1⟩; have hk0 := hb1.more (k := w.heap.size) (by first | assumption | (simp; done) | (simp; omega) | omega); obtain ⟨hc0, hf0⟩ := hb1.row (k := w.heap.size) (by first | assumption | (simp; done) | (simp; omega) | omega); have hk1 := hb1.more (k := w.heap.size + 1) (by first | assumption | (simp; done) | (simp; omega) | omega); obtain ⟨hc1, hf1⟩ := hb1.row (k := w.heap.size + 1) (by first | assumption | (simp; done) | (simp; omega) | omega)))
      exact bodyPost_ret (v := .agg #[.int .i64 l, .int .i64 u, .int .i64 b, .int .i64 t]) (by simp [results, Try.results23, go_sem, *]) rfl ⟨(by first | (simp [noteCr, noteOk, *]; done) | (simp [noteCr, noteOk, *]; omega) | (simp [noteCr, noteOk, *]; split <;> first | (exfalso; omega) | (simp; done) | (simp; omega))), (by repeat (first | with_reducible exact Ext.refl _ | with_reducible assumption | with_reducible refine Ext.alloc ?_ _ | with_reducible refine Ext.drew ?_ | with_reducible refine Ext.drewN ?_ _ | ((with_reducible refine Ext.set ?_ ?_ _); (focus (first | (simp; done) | (simp; omega)))) | with_reducible refine Ext.trans ?_ (by assumption)))⟩
  · -- no
    go_enter Try.func23, Try.ntmps23
    go_wp2_with (first | (go_at_call 14; refine (isCredit_impl _ _ _ _ _).mono ?_; rintro e w1 ⟨rfl, hb1⟩; have hk0 := hb1.more (k := w.heap.size) (by first | assumption | (simp; done) | (simp; omega) | omega); obtain ⟨hc0, hf0⟩ := hb1.row (k := w.heap.size) (by first | assumption | (simp; done) | (simp; omega) | omega); have hk1 := hb1.more (k := w.heap.size + 1) (by first | assumption | (simp; done) | (simp; omega) | omega); obtain ⟨hc1, hf1⟩ := hb1.row (k := w.heap.size + 1) (by first | assumption | (simp; done) | (simp; omega) | omega)))
    exact bodyPost_ret (v := .agg #[.int .i64 l, .int .i64 u, .int .i64 b, .int .i64 t]) (by simp [results, Try.results23, go_sem, *]) rfl ⟨(by first | (simp [noteCr, noteOk, *]; done) | (simp [noteCr, noteOk, *]; omega) | (simp [noteCr, noteOk, *]; split <;> first | (exfalso; omega) | (simp; done) | (simp; omega))), (by repeat (first | with_reducible exact Ext.refl _ | with_reducible assumption | with_reducible refine Ext.alloc ?_ _ | with_reducible refine Ext.drew ?_ | with_reducible refine Ext.drewN ?_ _ | ((with_reducible refine Ext.set ?_ ?_ _); (focus (first | (simp; done) | (simp; omega)))) | with_reducible refine Ext.trans ?_ (by assumption)))⟩
end Go.Proofs.Ytebolohnfhhmpaa

/-
  Contracts of NewWindow, of the program and of the reference: both compute the same plain function. No condition.
-/
import Derived.Test.YtofaihmiekoikaaIsWindow
namespace Go.Proofs.Ytofaihmiekoikaa
open Go.ChangeShapes Go.WideShapes Go.ChangeAt Go.RowKit
set_option linter.unusedSimpArgs false
set_option maxHeartbeats 1000000 in
theorem NewWindow_spec (z m : Int) (w : World) : Calls Try.prog 18 #[.int .i64 z, .int .i64 m] w fun e w' => e = .returned (.tuple #[.agg #[.int .i64 (newWn z m).z, .int .i64 (newWn z m).m, .int .i64 (newWn z m).l, .int .i64 (newWn z m).s, .int .i64 (newWn z m).r, .int .i64 (newWn z m).t], .bool (newWnOk z m)]) ∧ Ext w w' := by
  rcases Bool.eq_false_or_eq_true (inB 1 m 4096) with hv | hv
  · -- yes
    rcases Bool.eq_false_or_eq_true (inB 1 z m) with hw | hw
    · -- yes
      go_enter Try.func18, Try.ntmps18
      go_wp2_with (first | (go_at_call 31; refine (l1In_any _ _ _ _).mono ?_; rintro e w1 ⟨rfl, rfl⟩))
      exact bodyPost_ret (v := .tuple #[.agg #[.int .i64 z, .int .i64 m, .int .i64 z, .int .i64 0, .int .i64 0, .int .i64 0], .bool true]) (by simp [results, Try.results18, go_sem, *]) rfl ⟨(by first | (simp [newWn, newWnOk, *]; done) | (simp [newWn, newWnOk, *]; omega) | (simp [newWn, newWnOk, *]; split <;> first | (exfalso; omega) | (simp; done) | (simp; omega))), (by repeat (first | with_reducible exact Ext.refl _ | with_reducible assumption | with_reducible refine Ext.alloc ?_ _ | with_reducible refine Ext.drew ?_ | with_reducible refine Ext.drewN ?_ _ | ((with_reducible refine Ext.set ?_ ?_ _); (focus (first | (simp; done) | (simp; omega)))) | with_reducible refine Ext.trans ?_ (by assumption)))⟩
    · -- no
      go_enter Try.func18, Try.ntmps18
      go_wp2_with (first | (go_at_call 31; refine (l1In_any _ _ _ _).mono ?_; rintro e w1 ⟨rfl, rfl⟩))
      exact bodyPost_ret (v := .tuple #[.agg #[.int .i64 0, .int .i64 0, .int .i64 0, .int .i64 0, .int .i64 0, .int .i64 0], .bool false]) (by simp [results, Try.results18, go_sem, *]) rfl ⟨(by first | (simp [newWn, newWnOk, *]; done) | (simp [newWn, newWnOk, *]; omega) | (simp [newWn, newWnOk, *]; split <;> first | (exfalso; omega) | (simp; done) | (simp; omega))), (by repeat (first | with_reducible exact Ext.refl _ | with_reducible assumption | with_reducible refine Ext.alloc ?_ _ | with_reducible refine Ext.drew ?_ | with_reducible refine Ext.drewN ?_ _ | ((with_reducible refine Ext.set ?_ ?_ _); (focus (first | (simp; done) | (simp; omega)))) | with_reducible refine Ext.trans ?_ (by assumption)))⟩
  · -- no
    go_enter Try.func18, Try.ntmps18
    go_wp2_with (first | (go_at_call 31; refine (l1In_any _ _ _ _).mono ?_; rintro e w1 ⟨rfl, rfl⟩))
    exact bodyPost_ret (v := .tuple #[.agg #[.int .i64 0, .int .i64 0, .int .i64 0, .int .i64 0, .int .i64 0, .int .i64 0], .bool false]) (by simp [results, Try.results18, go_sem, *]) rfl ⟨(by first | (simp [newWn, newWnOk, *]; done) | (simp [newWn, newWnOk, *]; omega) | (simp [newWn, newWnOk, *]; split <;> first | (exfalso; omega) | (simp; done) | (simp; omega))), (by repeat (first | with_reducible exact Ext.refl _ | with_reducible assumption | with_reducible refine Ext.alloc ?_ _ | with_reducible refine Ext.drew ?_ | with_reducible refine Ext.drewN ?_ _ | ((with_reducible refine Ext.set ?_ ?_ _); (focus (first | (simp; done) | (simp; omega)))) | with_reducible refine Ext.trans ?_ (by assumption)))⟩
set_option maxHeartbeats 1000000 in
theorem NewWindow_impl (z m : Int) (w : World) : Calls Try.prog 19 #[.int .i64 z, .int .i64 m] w fun e w' => e = .returned (.tuple #[.agg #[.int .i64 (newWn z m).z, .int .i64 (newWn z m).m, .int .i64 (newWn z m).l, .int .i64 (newWn z m).s, .int .i64 (newWn z m).r, .int .i64 (newWn z m).t], .bool (newWnOk z m)]) ∧ Ext w w' := by
  rcases Bool.eq_false_or_eq_true (inB 1 m 4096) with hv | hv
  · -- yes
    rcases Bool.eq_false_or_eq_true (inB 1 z m) with hw | hw
    · -- yes
      go_enter Try.func19, Try.ntmps19
      go_wp2_with (first | (go_at_call 32; refine (within_any _ _ _ _).mono ?_; rintro e w1 ⟨rfl, rfl⟩))
      exact bodyPost_ret (v := .tuple #[.agg #[.int .i64 z, .int .i64 m, .int .i64 z, .int .i64 0, .int .i64 0, .int .i64 0], .bool true]) (by simp [results, Try.results19, go_sem, *]) rfl ⟨(by first | (simp [newWn, newWnOk, *]; done) | (simp [newWn, newWnOk, *]; omega) | (simp [newWn, newWnOk, *]; split <;> first | (exfalso; omega) | (simp; done) | (simp; omega))), (by repeat (first | with_reducible exact Ext.refl _ | with_reducible assumption | with_reducible refine Ext.alloc ?_ _ | with_reducible refine Ext.drew ?_ | with_reducible refine Ext.drewN ?_ _ | ((with_reducible refine Ext.set ?_ ?_ _); (focus (first | (simp; done) | (simp; omega)))) | with_reducible refine Ext.trans ?_ (by assumption)))⟩
    · -- no
      go_enter Try.func19, Try.ntmps19
      go_wp2_with (first | (go_at_call 32; refine (within_any _ _ _ _).mono ?_; rintro e w1 ⟨rfl, rfl⟩))
      exact bodyPost_ret (v := .tuple #[.agg #[.int .i64 0, .int .i64 0, .int .i64 0, .int .i64 0, .int .i64 0, .int .i64 0], .bool false]) (by simp [results, Try.results19, go_sem, *]) rfl ⟨(by first | (simp [newWn, newWnOk, *]; done) | (simp [newWn, newWnOk, *]; omega) | (simp [newWn, newWnOk, *]; split <;> first | (exfalso; omega) | (simp; done) | (simp; omega))), (by repeat (first | with_reducible exact Ext.refl _ | with_reducible assumption | with_reducible refine Ext.alloc ?_ _ | with_reducible refine Ext.drew ?_ | with_reducible refine Ext.drewN ?_ _ | ((with_reducible refine Ext.set ?_ ?_ _); (focus (first | (simp; done) | (simp; omega)))) | with_reducible refine Ext.trans ?_ (by assumption)))⟩
  · -- no
    go_enter Try.func19, Try.ntmps19
    go_wp2_with (first | (go_at_call 32; refine (within_any _ _ _ _).mono ?_; rintro e w1 ⟨rfl, rfl⟩))
    exact bodyPost_ret (v := .tuple #[.agg #[.int .i64 0, .int .i64 0, .int .i64 0, .int .i64 0, .int .i64 0, .int .i64 0], .bool false]) (by simp [results, Try.results19, go_sem, *]) rfl ⟨(by first | (simp [newWn, newWnOk, *]; done) | (simp [newWn, newWnOk, *]; omega) | (simp [newWn, newWnOk, *]; split <;> first | (exfalso; omega) | (simp; done) | (simp; omega))), (by repeat (first | with_reducible exact Ext.refl _ | with_reducible assumption | with_reducible refine Ext.alloc ?_ _ | with_reducible refine Ext.drew ?_ | with_reducible refine Ext.drewN ?_ _ | ((with_reducible refine Ext.set ?_ ?_ _); (focus (first | (simp; done) | (simp; omega)))) | with_reducible refine Ext.trans ?_ (by assumption)))⟩
end Go.Proofs.Ytofaihmiekoikaa

/-
  Contracts of NewAllow, of the program and of the reference: both compute the same plain function. No condition.
-/
import Derived.Test.YtbjkopmdkdkapaaIsAllow
namespace Go.Proofs.Ytbjkopmdkdkapaa
open Go.ChangeShapes Go.WideShapes Go.ChangeAt Go.RowKit
set_option linter.unusedSimpArgs false
set_option maxHeartbeats 1000000 in
theorem NewAllow_spec (n : Int) (w : World) : Calls Try.prog 20 #[.int .i64 n] w fun e w' => e = .returned (.tuple #[.agg #[.int .i64 (newAw n).m, .int .i64 (newAw n).l, .int .i64 (newAw n).s, .int .i64 (newAw n).c], .bool (inB 0 n 1000)]) ∧ Ext w w' := by
  rcases Bool.eq_false_or_eq_true (inB 0 n 1000) with hv | hv
  · -- yes
    go_enter Try.func20, Try.ntmps20
    go_wp2_with (first | (go_at_call 25; refine (l1In_any _ _ _ _).mono ?_; rintro e w1 ⟨rfl, rfl⟩))
    exact bodyPost_ret (v := .tuple #[.agg #[.int .i64 n, .int .i64 n, .int .i64 0, .int .i64 0], .bool true]) (by simp [results, Try.results20, go_sem, *]) rfl ⟨(by first | (simp [newAw, *]; done) | (simp [newAw, *]; omega) | (simp [newAw, *]; split <;> first | (exfalso; omega) | (simp; done) | (simp; omega))), (by repeat (first | with_reducible exact Ext.refl _ | with_reducible assumption | with_reducible refine Ext.alloc ?_ _ | with_reducible refine Ext.drew ?_ | with_reducible refine Ext.drewN ?_ _ | ((with_reducible refine Ext.set ?_ ?_ _); (focus (first | (simp; done) | (simp; omega)))) | with_reducible refine Ext.trans ?_ (by assumption)))⟩
  · -- no
    go_enter Try.func20, Try.ntmps20
    go_wp2_with (first | (go_at_call 25; refine (l1In_any _ _ _ _).mono ?_; rintro e w1 ⟨rfl, rfl⟩))
    exact bodyPost_ret (v := .tuple #[.agg #[.int .i64 0, .int .i64 0, .int .i64 0, .int .i64 0], .bool false]) (by simp [results, Try.results20, go_sem, *]) rfl ⟨(by first | (simp [newAw, *]; done) | (simp [newAw, *]; omega) | (simp [newAw, *]; split <;> first | (exfalso; omega) | (simp; done) | (simp; omega))), (by repeat (first | with_reducible exact Ext.refl _ | with_reducible assumption | with_reducible refine Ext.alloc ?_ _ | with_reducible refine Ext.drew ?_ | with_reducible refine Ext.drewN ?_ _ | ((with_reducible refine Ext.set ?_ ?_ _); (focus (first | (simp; done) | (simp; omega)))) | with_reducible refine Ext.trans ?_ (by assumption)))⟩
set_option maxHeartbeats 1000000 in
theorem NewAllow_impl (n : Int) (w : World) : Calls Try.prog 21 #[.int .i64 n] w fun e w' => e = .returned (.tuple #[.agg #[.int .i64 (newAw n).m, .int .i64 (newAw n).l, .int .i64 (newAw n).s, .int .i64 (newAw n).c], .bool (inB 0 n 1000)]) ∧ Ext w w' := by
  rcases Bool.eq_false_or_eq_true (inB 0 n 1000) with hv | hv
  · -- yes
    go_enter Try.func21, Try.ntmps21
    go_wp2_with (first | (go_at_call 26; refine (within_any _ _ _ _).mono ?_; rintro e w1 ⟨rfl, rfl⟩))
    exact bodyPost_ret (v := .tuple #[.agg #[.int .i64 n, .int .i64 n, .int .i64 0, .int .i64 0], .bool true]) (by simp [results, Try.results21, go_sem, *]) rfl ⟨(by first | (simp [newAw, *]; done) | (simp [newAw, *]; omega) | (simp [newAw, *]; split <;> first | (exfalso; omega) | (simp; done) | (simp; omega))), (by repeat (first | with_reducible exact Ext.refl _ | with_reducible assumption | with_reducible refine Ext.alloc ?_ _ | with_reducible refine Ext.drew ?_ | with_reducible refine Ext.drewN ?_ _ | ((with_reducible refine Ext.set ?_ ?_ _); (focus (first | (simp; done) | (simp; omega)))) | with_reducible refine Ext.trans ?_ (by assumption)))⟩
  · -- no
    go_enter Try.func21, Try.ntmps21
    go_wp2_with (first | (go_at_call 26; refine (within_any _ _ _ _).mono ?_; rintro e w1 ⟨rfl, rfl⟩))
    exact bodyPost_ret (v := .tuple #[.agg #[.int .i64 0, .int .i64 0, .int .i64 0, .int .i64 0], .bool false]) (by simp [results, Try.results21, go_sem, *]) rfl ⟨(by first | (simp [newAw, *]; done) | (simp [newAw, *]; omega) | (simp [newAw, *]; split <;> first | (exfalso; omega) | (simp; done) | (simp; omega))), (by repeat (first | with_reducible exact Ext.refl _ | with_reducible assumption | with_reducible refine Ext.alloc ?_ _ | with_reducible refine Ext.drew ?_ | with_reducible refine Ext.drewN ?_ _ | ((with_reducible refine Ext.set ?_ ?_ _); (focus (first | (simp; done) | (simp; omega)))) | with_reducible refine Ext.trans ?_ (by assumption)))⟩
end Go.Proofs.Ytbjkopmdkdkapaa

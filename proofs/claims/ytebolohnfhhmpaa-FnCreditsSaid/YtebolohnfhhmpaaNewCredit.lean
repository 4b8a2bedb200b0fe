/-
  Contracts of NewCredit, of the program and of the reference: both compute the same plain function. No condition.
-/
import Derived.Test.YtebolohnfhhmpaaIsCredit
namespace Go.Proofs.Ytebolohnfhhmpaa
open Go.ChangeShapes Go.WideShapes Go.ChangeAt Go.RowKit
set_option linter.unusedSimpArgs false
set_option maxHeartbeats 1000000 in
theorem NewCredit_spec (n : Int) (w : World) : Calls Try.prog 19 #[.int .i64 n] w fun e w' => e = .returned (.tuple #[.agg #[.int .i64 (newCr n).l, .int .i64 (newCr n).u, .int .i64 (newCr n).b, .int .i64 (newCr n).t], .bool (inB 0 n 4611686018427387903)]) ∧ Ext w w' := by
  rcases Bool.eq_false_or_eq_true (inB 0 n 4611686018427387903) with hv | hv
  · -- yes
    go_enter Try.func19, Try.ntmps19
    go_wp2_with (first | (go_at_call 34; refine (l4Quic_any _ _).mono ?_; rintro e w1 ⟨rfl, rfl⟩))
    exact bodyPost_ret (v := .tuple #[.agg #[.int .i64 n, .int .i64 0, .int .i64 (-1), .int .i64 (-1)], .bool true]) (by simp [results, Try.results19, go_sem, *]) rfl ⟨(by first | (simp [newCr, *]; done) | (simp [newCr, *]; omega) | (simp [newCr, *]; split <;> first | (exfalso; omega) | (simp; done) | (simp; omega))), (by repeat (first | with_reducible exact Ext.refl _ | with_reducible assumption | with_reducible refine Ext.alloc ?_ _ | with_reducible refine Ext.drew ?_ | with_reducible refine Ext.drewN ?_ _ | ((with_reducible refine Ext.set ?_ ?_ _); (focus (first | (simp; done) | (simp; omega)))) | with_reducible refine Ext.trans ?_ (by assumption)))⟩
  · -- no
    go_enter Try.func19, Try.ntmps19
    go_wp2_with (first | (go_at_call 34; refine (l4Quic_any _ _).mono ?_; rintro e w1 ⟨rfl, rfl⟩))
    exact bodyPost_ret (v := .tuple #[.agg #[.int .i64 0, .int .i64 0, .int .i64 0, .int .i64 0], .bool false]) (by simp [results, Try.results19, go_sem, *]) rfl ⟨(by first | (simp [newCr, *]; done) | (simp [newCr, *]; omega) | (simp [newCr, *]; split <;> first | (exfalso; omega) | (simp; done) | (simp; omega))), (by repeat (first | with_reducible exact Ext.refl _ | with_reducible assumption | with_reducible refine Ext.alloc ?_ _ | with_reducible refine Ext.drew ?_ | with_reducible refine Ext.drewN ?_ _ | ((with_reducible refine Ext.set ?_ ?_ _); (focus (first | (simp; done) | (simp; omega)))) | with_reducible refine Ext.trans ?_ (by assumption)))⟩
set_option maxHeartbeats 1000000 in
theorem NewCredit_impl (n : Int) (w : World) : Calls Try.prog 20 #[.int .i64 n] w fun e w' => e = .returned (.tuple #[.agg #[.int .i64 (newCr n).l, .int .i64 (newCr n).u, .int .i64 (newCr n).b, .int .i64 (newCr n).t], .bool (inB 0 n 4611686018427387903)]) ∧ Ext w w' := by
  rcases Bool.eq_false_or_eq_true (inB 0 n 4611686018427387903) with hv | hv
  · -- yes
    go_enter Try.func20, Try.ntmps20
    go_wp2_with (first | (go_at_call 36; refine (isQuic_any _ _).mono ?_; rintro e w1 ⟨rfl, rfl⟩))
    exact bodyPost_ret (v := .tuple #[.agg #[.int .i64 n, .int .i64 0, .int .i64 (-1), .int .i64 (-1)], .bool true]) (by simp [results, Try.results20, go_sem, *]) rfl ⟨(by first | (simp [newCr, *]; done) | (simp [newCr, *]; omega) | (simp [newCr, *]; split <;> first | (exfalso; omega) | (simp; done) | (simp; omega))), (by repeat (first | with_reducible exact Ext.refl _ | with_reducible assumption | with_reducible refine Ext.alloc ?_ _ | with_reducible refine Ext.drew ?_ | with_reducible refine Ext.drewN ?_ _ | ((with_reducible refine Ext.set ?_ ?_ _); (focus (first | (simp; done) | (simp; omega)))) | with_reducible refine Ext.trans ?_ (by assumption)))⟩
  · -- no
    go_enter Try.func20, Try.ntmps20
    go_wp2_with (first | (go_at_call 36; refine (isQuic_any _ _).mono ?_; rintro e w1 ⟨rfl, rfl⟩))
    exact bodyPost_ret (v := .tuple #[.agg #[.int .i64 0, .int .i64 0, .int .i64 0, .int .i64 0], .bool false]) (by simp [results, Try.results20, go_sem, *]) rfl ⟨(by first | (simp [newCr, *]; done) | (simp [newCr, *]; omega) | (simp [newCr, *]; split <;> first | (exfalso; omega) | (simp; done) | (simp; omega))), (by repeat (first | with_reducible exact Ext.refl _ | with_reducible assumption | with_reducible refine Ext.alloc ?_ _ | with_reducible refine Ext.drew ?_ | with_reducible refine Ext.drewN ?_ _ | ((with_reducible refine Ext.set ?_ ?_ _); (focus (first | (simp; done) | (simp; omega)))) | with_reducible refine Ext.trans ?_ (by assumption)))⟩
end Go.Proofs.Ytebolohnfhhmpaa

/-
  Contracts of the copy of the laws' struct and of the comparison. No condition.
-/
import Derived.Test.YtbjkopmdkdkapaaLawKit
import Derived.Test.YtbjkopmdkdkapaaNum
namespace Go.Proofs.Ytbjkopmdkdkapaa
open Go.ChangeShapes Go.WideShapes Go.ChangeAt Go.RowKit
set_option linter.unusedSimpArgs false
theorem toCount_any (l o b : Int) (w : World) : Calls Try.prog 10 #[.agg #[.int .i64 l, .int .i64 o, .int .i64 b]] w fun e w' => e = .returned (.agg #[.int .i64 l, .int .i64 o, .int .i64 b]) ∧ Ext w w' := by
  go_enter Try.func10, Try.ntmps10
  go_wp2
  exact bodyPost_ret (v := .agg #[.int .i64 l, .int .i64 o, .int .i64 b]) (by simp [results, Try.results10, go_sem]) rfl ⟨rfl, (by repeat (first | with_reducible exact Ext.refl _ | with_reducible assumption | with_reducible refine Ext.alloc ?_ _ | with_reducible refine Ext.drew ?_ | with_reducible refine Ext.drewN ?_ _ | ((with_reducible refine Ext.set ?_ ?_ _); (focus (first | (simp; done) | (simp; omega)))) | with_reducible refine Ext.trans ?_ (by assumption)))⟩
theorem eqCount_any (l o b : Int) (w : World) : Calls Try.prog 19 #[.agg #[.int .i64 l, .int .i64 o, .int .i64 b], .agg #[.int .i64 l, .int .i64 o, .int .i64 b]] w fun e w' => e = .returned (.bool true) ∧ Ext w w' := by
  go_enter Try.func19, Try.ntmps19
  go_wp2
  go_ret
  exact ⟨rfl, (by repeat (first | with_reducible exact Ext.refl _ | with_reducible assumption | with_reducible refine Ext.alloc ?_ _ | with_reducible refine Ext.drew ?_ | with_reducible refine Ext.drewN ?_ _ | ((with_reducible refine Ext.set ?_ ?_ _); (focus (first | (simp; done) | (simp; omega)))) | with_reducible refine Ext.trans ?_ (by assumption)))⟩
end Go.Proofs.Ytbjkopmdkdkapaa

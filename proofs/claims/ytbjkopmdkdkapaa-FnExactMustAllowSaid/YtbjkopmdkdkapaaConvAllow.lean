/-
  Contracts of the copy of the laws' struct and of the comparison. No condition.
-/
import Derived.Test.YtbjkopmdkdkapaaLawKit
import Derived.Test.YtbjkopmdkdkapaaNum
namespace Go.Proofs.Ytbjkopmdkdkapaa
open Go.ChangeShapes Go.WideShapes Go.ChangeAt Go.RowKit
set_option linter.unusedSimpArgs false
theorem toAllow_any (m l s c : Int) (w : World) : Calls Try.prog 13 #[.agg #[.int .i64 m, .int .i64 l, .int .i64 s, .int .i64 c]] w fun e w' => e = .returned (.agg #[.int .i64 m, .int .i64 l, .int .i64 s, .int .i64 c]) ∧ Ext w w' := by
  go_enter Try.func13, Try.ntmps13
  go_wp2
  exact bodyPost_ret (v := .agg #[.int .i64 m, .int .i64 l, .int .i64 s, .int .i64 c]) (by simp [results, Try.results13, go_sem]) rfl ⟨rfl, (by repeat (first | with_reducible exact Ext.refl _ | with_reducible assumption | with_reducible refine Ext.alloc ?_ _ | with_reducible refine Ext.drew ?_ | with_reducible refine Ext.drewN ?_ _ | ((with_reducible refine Ext.set ?_ ?_ _); (focus (first | (simp; done) | (simp; omega)))) | with_reducible refine Ext.trans ?_ (by assumption)))⟩
theorem eqAllow_any (m l s c : Int) (w : World) : Calls Try.prog 22 #[.agg #[.int .i64 m, .int .i64 l, .int .i64 s, .int .i64 c], .agg #[.int .i64 m, .int .i64 l, .int .i64 s, .int .i64 c]] w fun e w' => e = .returned (.bool true) ∧ Ext w w' := by
  go_enter Try.func22, Try.ntmps22
  go_wp2
  go_ret
  exact ⟨rfl, (by repeat (first | with_reducible exact Ext.refl _ | with_reducible assumption | with_reducible refine Ext.alloc ?_ _ | with_reducible refine Ext.drew ?_ | with_reducible refine Ext.drewN ?_ _ | ((with_reducible refine Ext.set ?_ ?_ _); (focus (first | (simp; done) | (simp; omega)))) | with_reducible refine Ext.trans ?_ (by assumption)))⟩
end Go.Proofs.Ytbjkopmdkdkapaa

/-
  The law FnExactNewAllow holds of every argument: the program's function and the reference's give the same. No condition.
-/
import Derived.Test.YtbjkopmdkdkapaaNewAllow
import Derived.Test.YtbjkopmdkdkapaaConvAllow
import Derived.Test.YtbjkopmdkdkapaaLawKit
namespace Go.Proofs.Ytbjkopmdkdkapaa
open Go.ChangeShapes Go.WideShapes Go.ChangeAt Go.RowKit
set_option linter.unusedSimpArgs false
set_option maxHeartbeats 1000000 in
theorem newAllow_walk (n : Int) (w : World) : Calls Try.prog 7 #[.int .i64 n] w fun e w' => e = .returned (.bool true) ∧ Ext w w' := by
  go_enter Try.func7, Try.ntmps7
  go_wp2_with fail
  refine (NewAllow_spec _ _).mono ?_
  rintro e w1 ⟨rfl, hb1⟩
  go_wp2_with fail
  refine (NewAllow_impl _ _).mono ?_
  rintro e w2 ⟨rfl, hb2⟩
  have k2_0 := hb2.more (k := w1.heap.size) (by first | assumption | (simp; done) | (simp; omega) | omega)
  obtain ⟨c2_0, f2_0⟩ := hb2.row (k := w1.heap.size) (by first | assumption | (simp; done) | (simp; omega) | omega)
  go_wp2_with fail
  refine (eqAllow_any _ _ _ _ _).mono ?_
  rintro e w3 ⟨rfl, hb3⟩
  have k3_0 := hb3.more (k := w1.heap.size) (by first | assumption | (simp; done) | (simp; omega) | omega)
  obtain ⟨c3_0, f3_0⟩ := hb3.row (k := w1.heap.size) (by first | assumption | (simp; done) | (simp; omega) | omega)
  have k3_1 := hb3.more (k := w2.heap.size) (by first | assumption | (simp; done) | (simp; omega) | omega)
  obtain ⟨c3_1, f3_1⟩ := hb3.row (k := w2.heap.size) (by first | assumption | (simp; done) | (simp; omega) | omega)
  go_wp2
  go_ret
  exact ⟨rfl, (by repeat (first | with_reducible exact Ext.refl _ | with_reducible assumption | with_reducible refine Ext.alloc ?_ _ | with_reducible refine Ext.drew ?_ | with_reducible refine Ext.drewN ?_ _ | ((with_reducible refine Ext.set ?_ ?_ _); (focus (first | (simp; done) | (simp; omega)))) | with_reducible refine Ext.trans ?_ (by assumption)))⟩
/-! ### the row of FnExactNewAllow -/
theorem newAllow_reads : ∀ t ∈ Try.f7.params.toList, Try.prog.readableRec t = true ∧ t < Try.prog.types.size := by
  rw [Try.params7]
  intro t ht
  simp only [List.mem_cons, List.not_mem_nil, or_false] at ht
  subst ht
  exact ⟨by kernel_rfl, of_decide_eq_true (by kernel_rfl)⟩
set_option maxRecDepth 100000 in
theorem newAllow_lifted (os : Os) (started : os.Started) (H : Type) (enc : TypeId × Value → H) :
    ReturnsInHanded {} Try.checked os 7 .any (Rows.fnExactNewAllowSpec.pre6 enc Try.prog Try.f7 Rows.fnExactNewAllowRow.domain false) (Rows.fnExactNewAllowSpec.post enc Try.prog Try.f7 false true false false) := by
  refine returnsInHanded_of_change (C := Try.checked) ownKnobNone started (by kernel_rfl) Try.func7
    (ChangeSpec.witness6 (enc := enc) (C := Try.checked) false ⟨#[], #[.int .i64 0], []⟩ 8 (by kernel_rfl) (by kernel_rfl) (by kernel_rfl) (by kernel_rfl)) ?_
  intro W base args ds gs before hval0 hW hcnd _
  have hval : ∀ (j : Nat) t v, Try.f7.params[j]? = some t → args[j]? = some v → Value.okWide Try.prog W .any base t v := hval0
  have hW' := hW
  obtain ⟨p, q, hA0, hV, rfl, hfz, hnd⟩ := hW
  have hA : DataW.TrodAll enc Try.prog W 0 (fun _ => true) true Try.f7.params.toList args.toList ds p := hA0
  rw [Try.params7] at hA hval
  obtain ⟨v0, vs0, d0, ds0, p0, q0, hargs, rfl, rfl, h0, r0⟩ := trodAll_cons hA
  obtain ⟨rfl, rfl, rfl⟩ := trodAll_nil r0
  obtain rfl : args = #[v0] := by cases args; simp_all
  obtain ⟨n, rfl, -, -, wi0⟩ := open_int Try.underlying3 (hval 0 3 v0 rfl rfl) h0
  refine (newAllow_walk n W).mono fun e W' ⟨he, hg⟩ => ?_
  subst he
  exact ⟨_, rfl, law_post laidOut newAllow_reads rfl rfl Try.underlying4 hW' (fun gs h => by subst h; rfl) hg⟩
theorem newAllow_over : Rows.fnExactNewAllowRow.holds Try.pinned (OpenSpec.ofChange Rows.fnExactNewAllowSpec) :=
  OpenClaim.holds_of_wide 7 Try.f7 rfl rfl rfl rfl rfl rfl rfl ⟨rfl, rfl, rfl, rfl, rfl⟩ rfl rfl rfl rfl rfl (by kernel_rfl) Try.func7 (by kernel_rfl)
    (of_decide_eq_true (by kernel_rfl)) (by unfold Func.isWrapper; first | (rw [if_pos (by decide +kernel)]; kernel_rfl) | (rw [if_neg (by decide +kernel)]; exact ⟨rfl, rfl⟩))
    (fun os started H enc _ => newAllow_lifted os started H enc)
/-- The statement. -/
theorem newAllow_holds : Rows.FnExactNewAllowSaid := newAllow_over
#print axioms newAllow_holds
end Go.Proofs.Ytbjkopmdkdkapaa

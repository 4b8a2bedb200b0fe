/-
  The law FnExactIsAllow holds of every argument: the program's function and the reference's give the same. No condition.
-/
import Derived.Test.YtbjkopmdkdkapaaIsAllow
import Derived.Test.YtbjkopmdkdkapaaConvAllow
import Derived.Test.YtbjkopmdkdkapaaLawKit
namespace Go.Proofs.Ytbjkopmdkdkapaa
open Go.ChangeShapes Go.WideShapes Go.ChangeAt Go.RowKit
set_option linter.unusedSimpArgs false
set_option maxHeartbeats 1000000 in
theorem isAllow_walk (m l s c : Int) (w : World) : Calls Try.prog 4 #[.agg #[.int .i64 m, .int .i64 l, .int .i64 s, .int .i64 c]] w fun e w' => e = .returned (.bool true) ∧ Ext w w' := by
  go_enter Try.func4, Try.ntmps4
  go_wp2_with fail
  refine (toAllow_any _ _ _ _ _).mono ?_
  rintro e w1 ⟨rfl, hb1⟩
  have k1_0 := hb1.more (k := w.heap.size) (by first | assumption | (simp; done) | (simp; omega) | omega)
  obtain ⟨c1_0, f1_0⟩ := hb1.row (k := w.heap.size) (by first | assumption | (simp; done) | (simp; omega) | omega)
  go_wp2_with fail
  refine (isAllow_spec _ _ _ _ _).mono ?_
  rintro e w2 ⟨rfl, hb2⟩
  have k2_0 := hb2.more (k := w.heap.size) (by first | assumption | (simp; done) | (simp; omega) | omega)
  obtain ⟨c2_0, f2_0⟩ := hb2.row (k := w.heap.size) (by first | assumption | (simp; done) | (simp; omega) | omega)
  go_wp2_with fail
  refine (toAllow_any _ _ _ _ _).mono ?_
  rintro e w3 ⟨rfl, hb3⟩
  have k3_0 := hb3.more (k := w.heap.size) (by first | assumption | (simp; done) | (simp; omega) | omega)
  obtain ⟨c3_0, f3_0⟩ := hb3.row (k := w.heap.size) (by first | assumption | (simp; done) | (simp; omega) | omega)
  go_wp2_with fail
  refine (isAllow_impl _ _ _ _ _).mono ?_
  rintro e w4 ⟨rfl, hb4⟩
  have k4_0 := hb4.more (k := w.heap.size) (by first | assumption | (simp; done) | (simp; omega) | omega)
  obtain ⟨c4_0, f4_0⟩ := hb4.row (k := w.heap.size) (by first | assumption | (simp; done) | (simp; omega) | omega)
  go_wp2
  go_ret
  exact ⟨rfl, (by repeat (first | with_reducible exact Ext.refl _ | with_reducible assumption | with_reducible refine Ext.alloc ?_ _ | with_reducible refine Ext.drew ?_ | with_reducible refine Ext.drewN ?_ _ | ((with_reducible refine Ext.set ?_ ?_ _); (focus (first | (simp; done) | (simp; omega)))) | with_reducible refine Ext.trans ?_ (by assumption)))⟩
/-! ### the row of FnExactIsAllow -/
theorem isAllow_reads : ∀ t ∈ Try.f4.params.toList, Try.prog.readableRec t = true ∧ t < Try.prog.types.size := by
  rw [Try.params4]
  intro t ht
  simp only [List.mem_cons, List.not_mem_nil, or_false] at ht
  subst ht
  exact ⟨by kernel_rfl, of_decide_eq_true (by kernel_rfl)⟩
set_option maxRecDepth 100000 in
theorem isAllow_lifted (os : Os) (started : os.Started) (H : Type) (enc : TypeId × Value → H) :
    ReturnsInHanded {} Try.checked os 4 .any (Rows.fnExactIsAllowSpec.pre6 enc Try.prog Try.f4 Rows.fnExactIsAllowRow.domain false) (Rows.fnExactIsAllowSpec.post enc Try.prog Try.f4 false true false false) := by
  refine returnsInHanded_of_change (C := Try.checked) ownKnobNone started (by kernel_rfl) Try.func4
    (ChangeSpec.witness6 (enc := enc) (C := Try.checked) false ⟨#[], #[.agg #[.int .i64 0, .int .i64 0, .int .i64 0, .int .i64 0]], []⟩ 8 (by kernel_rfl) (by kernel_rfl) (by kernel_rfl) (by kernel_rfl)) ?_
  intro W base args ds gs before hval0 hW hcnd _
  have hval : ∀ (j : Nat) t v, Try.f4.params[j]? = some t → args[j]? = some v → Value.okWide Try.prog W .any base t v := hval0
  have hW' := hW
  obtain ⟨p, q, hA0, hV, rfl, hfz, hnd⟩ := hW
  have hA : DataW.TrodAll enc Try.prog W 0 (fun _ => true) true Try.f4.params.toList args.toList ds p := hA0
  rw [Try.params4] at hA hval
  obtain ⟨v0, vs0, d0, ds0, p0, q0, hargs, rfl, rfl, h0, r0⟩ := trodAll_cons hA
  obtain ⟨rfl, rfl, rfl⟩ := trodAll_nil r0
  obtain rfl : args = #[v0] := by cases args; simp_all
  obtain ⟨l0, hl0, rfl, hw0⟩ := open_agg_ints (t := 29) Try.underlying29 (by kernel_rfl) (by intro i f h; match i, h with | 0, h => (obtain rfl := Option.some.inj h; exact ⟨Try.underlying3, rfl, by kernel_rfl⟩) | 1, h => (obtain rfl := Option.some.inj h; exact ⟨Try.underlying3, rfl, by kernel_rfl⟩) | 2, h => (obtain rfl := Option.some.inj h; exact ⟨Try.underlying3, rfl, by kernel_rfl⟩) | 3, h => (obtain rfl := Option.some.inj h; exact ⟨Try.underlying3, rfl, by kernel_rfl⟩) | n+4, h => exact absurd h (by simp)) (hval 0 29 v0 rfl rfl) h0
  obtain ⟨m, l, s, c, rfl⟩ := len4 hl0 rfl
  refine (isAllow_walk m l s c W).mono fun e W' ⟨he, hg⟩ => ?_
  subst he
  exact ⟨_, rfl, law_post laidOut isAllow_reads rfl rfl Try.underlying4 hW' (fun gs h => by subst h; rfl) hg⟩
theorem isAllow_over : Rows.fnExactIsAllowRow.holds Try.pinned (OpenSpec.ofChange Rows.fnExactIsAllowSpec) :=
  OpenClaim.holds_of_wide 4 Try.f4 rfl rfl rfl rfl rfl rfl rfl ⟨rfl, rfl, rfl, rfl, rfl⟩ rfl rfl rfl rfl rfl (by kernel_rfl) Try.func4 (by kernel_rfl)
    (of_decide_eq_true (by kernel_rfl)) (by unfold Func.isWrapper; first | (rw [if_pos (by decide +kernel)]; kernel_rfl) | (rw [if_neg (by decide +kernel)]; exact ⟨rfl, rfl⟩))
    (fun os started H enc _ => isAllow_lifted os started H enc)
/-- The statement. -/
theorem isAllow_holds : Rows.FnExactIsAllowSaid := isAllow_over
#print axioms isAllow_holds
end Go.Proofs.Ytbjkopmdkdkapaa

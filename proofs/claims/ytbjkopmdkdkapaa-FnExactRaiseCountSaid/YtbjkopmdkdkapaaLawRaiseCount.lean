/-
  The law FnExactRaiseCount holds of every argument: the program's function and the reference's give the same. No condition.
-/
import Derived.Test.YtbjkopmdkdkapaaRaiseCount
import Derived.Test.YtbjkopmdkdkapaaConvCount
import Derived.Test.YtbjkopmdkdkapaaLawKit
namespace Go.Proofs.Ytbjkopmdkdkapaa
open Go.ChangeShapes Go.WideShapes Go.ChangeAt Go.RowKit
set_option linter.unusedSimpArgs false
set_option maxHeartbeats 1000000 in
theorem raiseCount_walk (l o b n : Int) (w : World) : Calls Try.prog 8 #[.agg #[.int .i64 l, .int .i64 o, .int .i64 b], .int .i64 n] w fun e w' => e = .returned (.bool true) ∧ Ext w w' := by
  go_enter Try.func8, Try.ntmps8
  go_wp2_with fail
  refine (toCount_any _ _ _ _).mono ?_
  rintro e w1 ⟨rfl, hb1⟩
  have k1_0 := hb1.more (k := w.heap.size) (by first | assumption | (simp; done) | (simp; omega) | omega)
  obtain ⟨c1_0, f1_0⟩ := hb1.row (k := w.heap.size) (by first | assumption | (simp; done) | (simp; omega) | omega)
  go_wp2_with fail
  refine (RaiseCount_spec _ _ _ _ _).mono ?_
  rintro e w2 ⟨rfl, hb2⟩
  have k2_0 := hb2.more (k := w.heap.size) (by first | assumption | (simp; done) | (simp; omega) | omega)
  obtain ⟨c2_0, f2_0⟩ := hb2.row (k := w.heap.size) (by first | assumption | (simp; done) | (simp; omega) | omega)
  go_wp2_with fail
  refine (toCount_any _ _ _ _).mono ?_
  rintro e w3 ⟨rfl, hb3⟩
  have k3_0 := hb3.more (k := w.heap.size) (by first | assumption | (simp; done) | (simp; omega) | omega)
  obtain ⟨c3_0, f3_0⟩ := hb3.row (k := w.heap.size) (by first | assumption | (simp; done) | (simp; omega) | omega)
  have k3_1 := hb3.more (k := w2.heap.size) (by first | assumption | (simp; done) | (simp; omega) | omega)
  obtain ⟨c3_1, f3_1⟩ := hb3.row (k := w2.heap.size) (by first | assumption | (simp; done) | (simp; omega) | omega)
  go_wp2_with fail
  refine (RaiseCount_impl _ _ _ _ _).mono ?_
  rintro e w4 ⟨rfl, hb4⟩
  have k4_0 := hb4.more (k := w.heap.size) (by first | assumption | (simp; done) | (simp; omega) | omega)
  obtain ⟨c4_0, f4_0⟩ := hb4.row (k := w.heap.size) (by first | assumption | (simp; done) | (simp; omega) | omega)
  have k4_1 := hb4.more (k := w2.heap.size) (by first | assumption | (simp; done) | (simp; omega) | omega)
  obtain ⟨c4_1, f4_1⟩ := hb4.row (k := w2.heap.size) (by first | assumption | (simp; done) | (simp; omega) | omega)
  go_wp2_with fail
  refine (eqCount_any _ _ _ _).mono ?_
  rintro e w5 ⟨rfl, hb5⟩
  have k5_0 := hb5.more (k := w.heap.size) (by first | assumption | (simp; done) | (simp; omega) | omega)
  obtain ⟨c5_0, f5_0⟩ := hb5.row (k := w.heap.size) (by first | assumption | (simp; done) | (simp; omega) | omega)
  have k5_1 := hb5.more (k := w2.heap.size) (by first | assumption | (simp; done) | (simp; omega) | omega)
  obtain ⟨c5_1, f5_1⟩ := hb5.row (k := w2.heap.size) (by first | assumption | (simp; done) | (simp; omega) | omega)
  have k5_2 := hb5.more (k := w4.heap.size) (by first | assumption | (simp; done) | (simp; omega) | omega)
  obtain ⟨c5_2, f5_2⟩ := hb5.row (k := w4.heap.size) (by first | assumption | (simp; done) | (simp; omega) | omega)
  go_wp2
  go_ret
  exact ⟨rfl, (by repeat (first | with_reducible exact Ext.refl _ | with_reducible assumption | with_reducible refine Ext.alloc ?_ _ | with_reducible refine Ext.drew ?_ | with_reducible refine Ext.drewN ?_ _ | ((with_reducible refine Ext.set ?_ ?_ _); (focus (first | (simp; done) | (simp; omega)))) | with_reducible refine Ext.trans ?_ (by assumption)))⟩
/-! ### the row of FnExactRaiseCount -/
theorem raiseCount_reads : ∀ t ∈ Try.f8.params.toList, Try.prog.readableRec t = true ∧ t < Try.prog.types.size := by
  rw [Try.params8]
  intro t ht
  simp only [List.mem_cons, List.not_mem_nil, or_false] at ht
  rcases ht with rfl | rfl
  all_goals exact ⟨by kernel_rfl, of_decide_eq_true (by kernel_rfl)⟩
set_option maxRecDepth 100000 in
theorem raiseCount_lifted (os : Os) (started : os.Started) (H : Type) (enc : TypeId × Value → H) :
    ReturnsInHanded {} Try.checked os 8 .any (Rows.fnExactRaiseCountSpec.pre6 enc Try.prog Try.f8 Rows.fnExactRaiseCountRow.domain false) (Rows.fnExactRaiseCountSpec.post enc Try.prog Try.f8 false true false false) := by
  refine returnsInHanded_of_change (C := Try.checked) ownKnobNone started (by kernel_rfl) Try.func8
    (ChangeSpec.witness6 (enc := enc) (C := Try.checked) false ⟨#[], #[.agg #[.int .i64 0, .int .i64 0, .int .i64 0], .int .i64 0], []⟩ 8 (by kernel_rfl) (by kernel_rfl) (by kernel_rfl) (by kernel_rfl)) ?_
  intro W base args ds gs before hval0 hW hcnd _
  have hval : ∀ (j : Nat) t v, Try.f8.params[j]? = some t → args[j]? = some v → Value.okWide Try.prog W .any base t v := hval0
  have hW' := hW
  obtain ⟨p, q, hA0, hV, rfl, hfz, hnd⟩ := hW
  have hA : DataW.TrodAll enc Try.prog W 0 (fun _ => true) true Try.f8.params.toList args.toList ds p := hA0
  rw [Try.params8] at hA hval
  obtain ⟨v0, vs0, d0, ds0, p0, q0, hargs, rfl, rfl, h0, r0⟩ := trodAll_cons hA
  obtain ⟨v1, vs1, d1, ds1, p1, q1, rfl, rfl, rfl, h1, r1⟩ := trodAll_cons r0
  obtain ⟨rfl, rfl, rfl⟩ := trodAll_nil r1
  obtain rfl : args = #[v0, v1] := by cases args; simp_all
  obtain ⟨l0, hl0, rfl, hw0⟩ := open_agg_ints (t := 23) Try.underlying23 (by kernel_rfl) (by intro i f h; match i, h with | 0, h => (obtain rfl := Option.some.inj h; exact ⟨Try.underlying3, rfl, by kernel_rfl⟩) | 1, h => (obtain rfl := Option.some.inj h; exact ⟨Try.underlying3, rfl, by kernel_rfl⟩) | 2, h => (obtain rfl := Option.some.inj h; exact ⟨Try.underlying3, rfl, by kernel_rfl⟩) | n+3, h => exact absurd h (by simp)) (hval 0 23 v0 rfl rfl) h0
  obtain ⟨l, o, b, rfl⟩ := len3 hl0 rfl
  obtain ⟨n, rfl, -, -, wi1⟩ := open_int Try.underlying3 (hval 1 3 v1 rfl rfl) h1
  refine (raiseCount_walk l o b n W).mono fun e W' ⟨he, hg⟩ => ?_
  subst he
  exact ⟨_, rfl, law_post laidOut raiseCount_reads rfl rfl Try.underlying4 hW' (fun gs h => by subst h; rfl) hg⟩
theorem raiseCount_over : Rows.fnExactRaiseCountRow.holds Try.pinned (OpenSpec.ofChange Rows.fnExactRaiseCountSpec) :=
  OpenClaim.holds_of_wide 8 Try.f8 rfl rfl rfl rfl rfl rfl rfl ⟨rfl, rfl, rfl, rfl, rfl⟩ rfl rfl rfl rfl rfl (by kernel_rfl) Try.func8 (by kernel_rfl)
    (of_decide_eq_true (by kernel_rfl)) (by unfold Func.isWrapper; first | (rw [if_pos (by decide +kernel)]; kernel_rfl) | (rw [if_neg (by decide +kernel)]; exact ⟨rfl, rfl⟩))
    (fun os started H enc _ => raiseCount_lifted os started H enc)
/-- The statement. -/
theorem raiseCount_holds : Rows.FnExactRaiseCountSaid := raiseCount_over
#print axioms raiseCount_holds
end Go.Proofs.Ytbjkopmdkdkapaa

/-
  The law FnExactNewRing holds of every argument. No condition.
-/
import Derived.Test.YteebkiochnhnhaaRing2
import Derived.Test.YteebkiochnhnhaaLawKit
namespace Go.Proofs.Yteebkiochnhnhaa
open Go.ChangeShapes Go.WideShapes Go.ChangeAt Go.RowKit
set_option linter.unusedSimpArgs false
set_option maxHeartbeats 2000000 in
theorem newRing_walk (z : Int) (w : World) : Calls Try.prog 3 #[.int .i64 z] w fun e w' => e = .returned (.bool true) ∧ Ext w w' := by
  rcases Bool.eq_false_or_eq_true (ringSz z) with h | h
  · -- yes
    have hbd := ringSz_bd h
    obtain ⟨k, rfl⟩ : ∃ k : Nat, z = k := ⟨z.toNat, by omega⟩
    have hk0 : 1 ≤ k := by omega
    have hk1 : k ≤ 64 := by omega
    clear hbd
    go_enter Try.func3, Try.ntmps3
    go_wp2_with fail
    refine (NewRing_spec_yes k _ h).mono ?_
    rintro e w1 ⟨ao1, cap1, rfl, ho1, hb1⟩
    have ho1' := hide ho1
    clear ho1
    go_wp2_with fail
    refine (NewRing_impl_yes k _ h).mono ?_
    rintro e w2 ⟨ao2, cap2, rfl, ho2, hb2⟩
    have ho2' := hide ho2
    clear ho2
    have k2_0 := hb2.more (k := w1.heap.size) (by first | assumption | (simp; done) | (simp; omega) | omega)
    obtain ⟨c2_0, f2_0⟩ := hb2.row (k := w1.heap.size) (by first | assumption | (simp; done) | (simp; omega) | omega)
    go_wp2_with fail
    refine (eqRing_any _ _ _ _ _ _ _ _ _ (List.replicate k 0) (List.replicate k 0) _ ?hx3 ?hy3 (by simp) (by simp) (by omega)).mono ?_
    case hx3 => exact ho2'.out.read.ext (by repeat (first | with_reducible exact Ext.refl _ | with_reducible assumption | with_reducible refine Ext.alloc ?_ _ | with_reducible refine Ext.drew ?_ | with_reducible refine Ext.drewN ?_ _ | ((with_reducible refine Ext.set ?_ ?_ _); (focus (first | (simp; done) | (simp; omega)))) | with_reducible refine Ext.trans ?_ (by assumption)))
    case hy3 => exact ho1'.out.read.ext (by repeat (first | with_reducible exact Ext.refl _ | with_reducible assumption | with_reducible refine Ext.alloc ?_ _ | with_reducible refine Ext.drew ?_ | with_reducible refine Ext.drewN ?_ _ | ((with_reducible refine Ext.set ?_ ?_ _); (focus (first | (simp; done) | (simp; omega)))) | with_reducible refine Ext.trans ?_ (by assumption)))
    rintro e w3 ⟨rfl, hb3⟩
    have k3_0 := hb3.more (k := w1.heap.size) (by first | assumption | (simp; done) | (simp; omega) | omega)
    obtain ⟨c3_0, f3_0⟩ := hb3.row (k := w1.heap.size) (by first | assumption | (simp; done) | (simp; omega) | omega)
    have k3_1 := hb3.more (k := w2.heap.size) (by first | assumption | (simp; done) | (simp; omega) | omega)
    obtain ⟨c3_1, f3_1⟩ := hb3.row (k := w2.heap.size) (by first | assumption | (simp; done) | (simp; omega) | omega)
    go_wp2_with fail
    refine (markRing_any (w1.heap.size + 1) w2.heap.size _ _ _ _ _ _ (List.replicate k 0) _ _ ?hm (by simp) (by omega) (by omega) (by omega)).mono ?_
    case hm => exact (ho2'.out.chg (Ext.chg (S := fun _ => False) (a := w2) (by repeat (first | with_reducible exact Ext.refl _ | with_reducible assumption | with_reducible refine Ext.alloc ?_ _ | with_reducible refine Ext.drew ?_ | with_reducible refine Ext.drewN ?_ _ | ((with_reducible refine Ext.set ?_ ?_ _); (focus (first | (simp; done) | (simp; omega)))) | with_reducible refine Ext.trans ?_ (by assumption)))) (fun _ _ _ h => h)).mono (by simp) (by simp)
    rintro e w4 ⟨rfl, hm4, hg4⟩
    have hm4' := hide hm4
    clear hm4
    have k4_0 := hg4.more (k := w1.heap.size) (by first | assumption | (simp; done) | (simp; omega) | omega)
    obtain ⟨c4_0, f4_0⟩ := hg4.row (k := w1.heap.size) (by first | assumption | (simp; done) | (simp; omega) | omega) (by first | (simp; done) | (simp; omega) | omega)
    have k4_1 := hg4.more (k := w2.heap.size) (by first | assumption | (simp; done) | (simp; omega) | omega)
    obtain ⟨c4_1, f4_1⟩ := hg4.row (k := w2.heap.size) (by first | assumption | (simp; done) | (simp; omega) | omega) (by first | (simp; done) | (simp; omega) | omega)
    have hE : Ext w w4 := (Chg.ext (Chg.trans (Ext.chg (S := fun b => w1.heap.size + 1 ≤ b ∧ b < w2.heap.size) (b := w3) (by repeat (first | with_reducible exact Ext.refl _ | with_reducible assumption | with_reducible refine Ext.alloc ?_ _ | with_reducible refine Ext.drew ?_ | with_reducible refine Ext.drewN ?_ _ | ((with_reducible refine Ext.set ?_ ?_ _); (focus (first | (simp; done) | (simp; omega)))) | with_reducible refine Ext.trans ?_ (by assumption)))) hg4) (fun k hk hS => by have := hb1.size; omega))
    go_wp2_with fail
    refine (heldRing_any _ _ _ _ k _ _ _ hm4'.out.read (by omega) (by omega) (by omega)).mono ?_
    rintro e w5 ⟨rfl, hb5⟩
    have k5_0 := hb5.more (k := w1.heap.size) (by first | assumption | (simp; done) | (simp; omega) | omega)
    obtain ⟨c5_0, f5_0⟩ := hb5.row (k := w1.heap.size) (by first | assumption | (simp; done) | (simp; omega) | omega)
    have k5_1 := hb5.more (k := w2.heap.size) (by first | assumption | (simp; done) | (simp; omega) | omega)
    obtain ⟨c5_1, f5_1⟩ := hb5.row (k := w2.heap.size) (by first | assumption | (simp; done) | (simp; omega) | omega)
    have hneg : decide (1 + (k : Int) < 0) = false := by simp; omega
    go_wp2_with fail
    refine (NewRing_impl_yes k _ h).mono ?_
    rintro e w6 ⟨ao6, cap6, rfl, ho6, hb6⟩
    have ho6' := hide ho6
    clear ho6
    have k6_0 := hb6.more (k := w1.heap.size) (by first | assumption | (simp; done) | (simp; omega) | omega)
    obtain ⟨c6_0, f6_0⟩ := hb6.row (k := w1.heap.size) (by first | assumption | (simp; done) | (simp; omega) | omega)
    have k6_1 := hb6.more (k := w2.heap.size) (by first | assumption | (simp; done) | (simp; omega) | omega)
    obtain ⟨c6_1, f6_1⟩ := hb6.row (k := w2.heap.size) (by first | assumption | (simp; done) | (simp; omega) | omega)
    have hr1 : Hid (OwnS w.heap.size w1.heap.size w6 ao1 (List.replicate k 0)) := hide ((((ho1'.out.chg (Ext.chg (b := w3) (by repeat (first | with_reducible exact Ext.refl _ | with_reducible assumption | with_reducible refine Ext.alloc ?_ _ | with_reducible refine Ext.drew ?_ | with_reducible refine Ext.drewN ?_ _ | ((with_reducible refine Ext.set ?_ ?_ _); (focus (first | (simp; done) | (simp; omega)))) | with_reducible refine Ext.trans ?_ (by assumption))) _) (fun _ _ _ h => h)).chg hg4 (fun b h1 h2 h3 => by omega)).chg (Ext.chg (b := w6) (by repeat (first | with_reducible exact Ext.refl _ | with_reducible assumption | with_reducible refine Ext.alloc ?_ _ | with_reducible refine Ext.drew ?_ | with_reducible refine Ext.drewN ?_ _ | ((with_reducible refine Ext.set ?_ ?_ _); (focus (first | (simp; done) | (simp; omega)))) | with_reducible refine Ext.trans ?_ (by assumption))) _) (fun _ _ _ h => h)))
    go_wp2_with fail
    refine (eqRing_any _ _ _ _ _ _ _ _ _ (List.replicate k 0) (List.replicate k 0) _ ?hx7 ?hy7 (by simp) (by simp) (by omega)).mono ?_
    case hx7 => exact ho6'.out.read.ext (by repeat (first | with_reducible exact Ext.refl _ | with_reducible assumption | with_reducible refine Ext.alloc ?_ _ | with_reducible refine Ext.drew ?_ | with_reducible refine Ext.drewN ?_ _ | ((with_reducible refine Ext.set ?_ ?_ _); (focus (first | (simp; done) | (simp; omega)))) | with_reducible refine Ext.trans ?_ (by assumption)))
    case hy7 => exact hr1.out.read.ext (by repeat (first | with_reducible exact Ext.refl _ | with_reducible assumption | with_reducible refine Ext.alloc ?_ _ | with_reducible refine Ext.drew ?_ | with_reducible refine Ext.drewN ?_ _ | ((with_reducible refine Ext.set ?_ ?_ _); (focus (first | (simp; done) | (simp; omega)))) | with_reducible refine Ext.trans ?_ (by assumption)))
    rintro e w7 ⟨rfl, hb7⟩
    have k7_0 := hb7.more (k := w1.heap.size) (by first | assumption | (simp; done) | (simp; omega) | omega)
    obtain ⟨c7_0, f7_0⟩ := hb7.row (k := w1.heap.size) (by first | assumption | (simp; done) | (simp; omega) | omega)
    have k7_1 := hb7.more (k := w2.heap.size) (by first | assumption | (simp; done) | (simp; omega) | omega)
    obtain ⟨c7_1, f7_1⟩ := hb7.row (k := w2.heap.size) (by first | assumption | (simp; done) | (simp; omega) | omega)
    have k7_2 := hb7.more (k := w6.heap.size) (by first | assumption | (simp; done) | (simp; omega) | omega)
    obtain ⟨c7_2, f7_2⟩ := hb7.row (k := w6.heap.size) (by first | assumption | (simp; done) | (simp; omega) | omega)
    go_wp2_with fail
    refine (heldRing_any _ _ _ _ k _ _ _ (hm4'.out.read.ext (by repeat (first | with_reducible exact Ext.refl _ | with_reducible assumption | with_reducible refine Ext.alloc ?_ _ | with_reducible refine Ext.drew ?_ | with_reducible refine Ext.drewN ?_ _ | ((with_reducible refine Ext.set ?_ ?_ _); (focus (first | (simp; done) | (simp; omega)))) | with_reducible refine Ext.trans ?_ (by assumption)))) (by omega) (by omega) (by omega)).mono ?_
    rintro e w8 ⟨rfl, hb8⟩
    go_wp2
    go_ret
    exact ⟨rfl, (by repeat (first | with_reducible exact Ext.refl _ | with_reducible assumption | with_reducible refine Ext.alloc ?_ _ | with_reducible refine Ext.drew ?_ | with_reducible refine Ext.drewN ?_ _ | ((with_reducible refine Ext.set ?_ ?_ _); (focus (first | (simp; done) | (simp; omega)))) | with_reducible refine Ext.trans ?_ (by assumption)))⟩
  · -- no
    go_enter Try.func3, Try.ntmps3
    go_wp2_with fail
    refine (NewRing_spec_no z _ h).mono ?_
    rintro e w1 ⟨rfl, hb1⟩
    go_wp2_with fail
    refine (NewRing_impl_no z _ h).mono ?_
    rintro e w2 ⟨rfl, hb2⟩
    have k2_0 := hb2.more (k := w1.heap.size) (by first | assumption | (simp; done) | (simp; omega) | omega)
    obtain ⟨c2_0, f2_0⟩ := hb2.row (k := w1.heap.size) (by first | assumption | (simp; done) | (simp; omega) | omega)
    go_wp2_with fail
    refine (eqRing_any _ _ _ _ _ _ _ _ _ [] [] _ (Or.inl rfl) (Or.inl rfl) rfl rfl (by simp)).mono ?_
    rintro e w3 ⟨rfl, hb3⟩
    have k3_0 := hb3.more (k := w1.heap.size) (by first | assumption | (simp; done) | (simp; omega) | omega)
    obtain ⟨c3_0, f3_0⟩ := hb3.row (k := w1.heap.size) (by first | assumption | (simp; done) | (simp; omega) | omega)
    have k3_1 := hb3.more (k := w2.heap.size) (by first | assumption | (simp; done) | (simp; omega) | omega)
    obtain ⟨c3_1, f3_1⟩ := hb3.row (k := w2.heap.size) (by first | assumption | (simp; done) | (simp; omega) | omega)
    go_wp2_with fail
    refine (markRing_any 0 0 _ _ _ _ _ _ [] _ _ (Or.inl rfl) (by simp) (by omega) (by omega) (by omega)).mono ?_
    rintro e w4 ⟨rfl, -, hg4⟩
    have hb4 : Ext w3 w4 := hg4.ext (fun k hk hS => by omega)
    clear hg4
    have k4_0 := hb4.more (k := w1.heap.size) (by first | assumption | (simp; done) | (simp; omega) | omega)
    obtain ⟨c4_0, f4_0⟩ := hb4.row (k := w1.heap.size) (by first | assumption | (simp; done) | (simp; omega) | omega)
    have k4_1 := hb4.more (k := w2.heap.size) (by first | assumption | (simp; done) | (simp; omega) | omega)
    obtain ⟨c4_1, f4_1⟩ := hb4.row (k := w2.heap.size) (by first | assumption | (simp; done) | (simp; omega) | omega)
    go_wp2_with fail
    refine (heldRing_any _ _ _ _ 0 _ _ _ (Or.inl rfl) (by omega) (by omega) (by omega)).mono ?_
    rintro e w5 ⟨rfl, hb5⟩
    have k5_0 := hb5.more (k := w1.heap.size) (by first | assumption | (simp; done) | (simp; omega) | omega)
    obtain ⟨c5_0, f5_0⟩ := hb5.row (k := w1.heap.size) (by first | assumption | (simp; done) | (simp; omega) | omega)
    have k5_1 := hb5.more (k := w2.heap.size) (by first | assumption | (simp; done) | (simp; omega) | omega)
    obtain ⟨c5_1, f5_1⟩ := hb5.row (k := w2.heap.size) (by first | assumption | (simp; done) | (simp; omega) | omega)
    go_wp2_with fail
    refine (NewRing_impl_no z _ h).mono ?_
    rintro e w6 ⟨rfl, hb6⟩
    have k6_0 := hb6.more (k := w1.heap.size) (by first | assumption | (simp; done) | (simp; omega) | omega)
    obtain ⟨c6_0, f6_0⟩ := hb6.row (k := w1.heap.size) (by first | assumption | (simp; done) | (simp; omega) | omega)
    have k6_1 := hb6.more (k := w2.heap.size) (by first | assumption | (simp; done) | (simp; omega) | omega)
    obtain ⟨c6_1, f6_1⟩ := hb6.row (k := w2.heap.size) (by first | assumption | (simp; done) | (simp; omega) | omega)
    go_wp2_with fail
    refine (eqRing_any _ _ _ _ _ _ _ _ _ [] [] _ (Or.inl rfl) (Or.inl rfl) rfl rfl (by simp)).mono ?_
    rintro e w7 ⟨rfl, hb7⟩
    have k7_0 := hb7.more (k := w1.heap.size) (by first | assumption | (simp; done) | (simp; omega) | omega)
    obtain ⟨c7_0, f7_0⟩ := hb7.row (k := w1.heap.size) (by first | assumption | (simp; done) | (simp; omega) | omega)
    have k7_1 := hb7.more (k := w2.heap.size) (by first | assumption | (simp; done) | (simp; omega) | omega)
    obtain ⟨c7_1, f7_1⟩ := hb7.row (k := w2.heap.size) (by first | assumption | (simp; done) | (simp; omega) | omega)
    have k7_2 := hb7.more (k := w6.heap.size) (by first | assumption | (simp; done) | (simp; omega) | omega)
    obtain ⟨c7_2, f7_2⟩ := hb7.row (k := w6.heap.size) (by first | assumption | (simp; done) | (simp; omega) | omega)
    go_wp2_with fail
    refine (heldRing_any _ _ _ _ 0 _ _ _ (Or.inl rfl) (by omega) (by omega) (by omega)).mono ?_
    rintro e w8 ⟨rfl, hb8⟩
    go_wp2
    go_ret
    exact ⟨rfl, (by repeat (first | with_reducible exact Ext.refl _ | with_reducible assumption | with_reducible refine Ext.alloc ?_ _ | with_reducible refine Ext.drew ?_ | with_reducible refine Ext.drewN ?_ _ | ((with_reducible refine Ext.set ?_ ?_ _); (focus (first | (simp; done) | (simp; omega)))) | with_reducible refine Ext.trans ?_ (by assumption)))⟩
/-! ### the row of FnExactNewRing -/
theorem newRing_reads : ∀ t ∈ Try.f3.params.toList, Try.prog.readableRec t = true ∧ t < Try.prog.types.size := by
  rw [Try.params3]
  intro t ht
  simp only [List.mem_cons, List.not_mem_nil, or_false] at ht
  subst ht
  exact ⟨by kernel_rfl, of_decide_eq_true (by kernel_rfl)⟩
set_option maxRecDepth 100000 in
theorem newRing_lifted (os : Os) (started : os.Started) (H : Type) (enc : TypeId × Value → H) :
    ReturnsInHanded {} Try.checked os 3 .any (Rows.fnExactNewRingSpec.pre6 enc Try.prog Try.f3 Rows.fnExactNewRingRow.domain false) (Rows.fnExactNewRingSpec.post enc Try.prog Try.f3 false true false false) := by
  refine returnsInHanded_of_change (C := Try.checked) ownKnobNone started (by kernel_rfl) Try.func3
    (ChangeSpec.witness6 (enc := enc) (C := Try.checked) false ⟨#[], #[.int .i64 0], []⟩ 8 (by kernel_rfl) (by kernel_rfl) (by kernel_rfl) (by kernel_rfl)) ?_
  intro W base args ds gs before hval0 hW hcnd _
  have hval : ∀ (j : Nat) t v, Try.f3.params[j]? = some t → args[j]? = some v → Value.okWide Try.prog W .any base t v := hval0
  have hW' := hW
  obtain ⟨p, q, hA0, hV, rfl, hfz, hnd⟩ := hW
  have hA : DataW.TrodAll enc Try.prog W 0 (fun _ => true) true Try.f3.params.toList args.toList ds p := hA0
  rw [Try.params3] at hA hval
  obtain ⟨v0, vs0, d0, ds0, p0, q0, hargs, rfl, rfl, h0, r0⟩ := trodAll_cons hA
  obtain ⟨rfl, rfl, rfl⟩ := trodAll_nil r0
  obtain rfl : args = #[v0] := by cases args; simp_all
  obtain ⟨z, rfl, -, -, wi0⟩ := open_int Try.underlying3 (hval 0 3 v0 rfl rfl) h0
  refine (newRing_walk z W).mono fun e W' ⟨he, hg⟩ => ?_
  subst he
  exact ⟨_, rfl, law_post laidOut newRing_reads rfl rfl Try.underlying4 hW' (fun gs h => by subst h; rfl) hg⟩
theorem newRing_over : Rows.fnExactNewRingRow.holds Try.pinned (OpenSpec.ofChange Rows.fnExactNewRingSpec) :=
  OpenClaim.holds_of_wide 3 Try.f3 rfl rfl rfl rfl rfl rfl rfl ⟨rfl, rfl, rfl, rfl, rfl⟩ rfl rfl rfl rfl rfl (by kernel_rfl) Try.func3 (by kernel_rfl)
    (of_decide_eq_true (by kernel_rfl)) (by unfold Func.isWrapper; first | (rw [if_pos (by decide +kernel)]; kernel_rfl) | (rw [if_neg (by decide +kernel)]; exact ⟨rfl, rfl⟩))
    (fun os started H enc _ => newRing_lifted os started H enc)
/-- The statement. -/
theorem newRing_holds : Rows.FnExactNewRingSaid := newRing_over
#print axioms newRing_holds
end Go.Proofs.Yteebkiochnhnhaa

/-
  The law FnExactNewReceiver holds. No condition.
-/
import Derived.Test.YtifhbchlmlaanaaRecv
import Derived.Test.YtifhbchlmlaanaaLawKit
namespace Go.Proofs.Ytifhbchlmlaanaa
open Go.ChangeShapes Go.WideShapes Go.ChangeAt Go.RowKit
set_option linter.unusedSimpArgs false
theorem NewReceiver_impl (w : World) : Calls Try.prog 16 #[] w fun en w' => en = .returned (.agg #[.int .i64 0, .int .i64 0, .slice none 0 0, .int .i64 (-1), .int .i64 0, .int .i64 0]) ∧ Ext w w' := by
  go_enter Try.func16, Try.ntmps16
  go_wp2
  exact bodyPost_ret (v := .agg #[.int .i64 0, .int .i64 0, .slice none 0 0, .int .i64 (-1), .int .i64 0, .int .i64 0]) (by simp [results, Try.results16, go_sem, *]) rfl ⟨rfl, (by repeat (first | with_reducible exact Ext.refl _ | with_reducible assumption | with_reducible refine Ext.alloc ?_ _ | with_reducible refine Ext.drew ?_ | with_reducible refine Ext.drewN ?_ _ | ((with_reducible refine Ext.set ?_ ?_ _); (focus (first | (simp; done) | (simp; omega)))) | with_reducible refine Ext.trans ?_ (by assumption)))⟩
theorem NewReceiver_spec (w : World) : Calls Try.prog 15 #[] w fun en w' => en = .returned (.agg #[.int .i64 0, .int .i64 0, .slice none 0 0, .int .i64 (-1), .int .i64 0, .int .i64 0]) ∧ Ext w w' := by
  go_enter Try.func15, Try.ntmps15
  go_wp2
  exact bodyPost_ret (v := .agg #[.int .i64 0, .int .i64 0, .slice none 0 0, .int .i64 (-1), .int .i64 0, .int .i64 0]) (by simp [results, Try.results15, go_sem, *]) rfl ⟨rfl, (by repeat (first | with_reducible exact Ext.refl _ | with_reducible assumption | with_reducible refine Ext.alloc ?_ _ | with_reducible refine Ext.drew ?_ | with_reducible refine Ext.drewN ?_ _ | ((with_reducible refine Ext.set ?_ ?_ _); (focus (first | (simp; done) | (simp; omega)))) | with_reducible refine Ext.trans ?_ (by assumption)))⟩
theorem markChunkS_nil (ao : Option Addr) (ca : Nat) (k0 : Int) (w : World) (h0 : 0 ≤ k0) : Calls Try.prog 101 #[.slice ao 0 ca, .int .i64 k0] w fun en w' => en = .returned (.int .i64 k0) ∧ Ext w w' := by
  have hd : decide (k0 < 0) = false := by simp; omega
  go_enter Try.func101, Try.ntmps101
  go_wp2
  go_loop [1, 5] (fun k i => k = .int .i64 k0 ∧ i = .int .i64 0) (fun _ _ => 0)
  case atStart => exact ⟨rfl, rfl⟩
  case round =>
    obtain ⟨rfl, rfl⟩ := hrel
    go_wp2
    go_ret
    exact ⟨rfl, Ext.refl _⟩
theorem markBuffer_nil (nx : Int) (ao : Option Addr) (ca : Nat) (k0 : Int) (w : World) (h0 : 0 ≤ k0) : Calls Try.prog 66 #[.agg #[.int .i64 nx, .slice ao 0 ca], .int .i64 k0] w fun en w' => en = .returned (.int .i64 k0) ∧ Ext w w' := by
  have hd : decide (k0 < 0) = false := by simp; omega
  go_enter Try.func66, Try.ntmps66
  go_wp2_with fail
  refine (markChunkS_nil ao ca k0 _ h0).mono ?_
  rintro en w1 ⟨rfl, hb⟩
  go_wp2
  go_ret
  exact ⟨rfl, (by repeat (first | with_reducible exact Ext.refl _ | with_reducible assumption | with_reducible refine Ext.alloc ?_ _ | with_reducible refine Ext.drew ?_ | with_reducible refine Ext.drewN ?_ _ | ((with_reducible refine Ext.set ?_ ?_ _); (focus (first | (simp; done) | (simp; omega)))) | with_reducible refine Ext.trans ?_ (by assumption)))⟩
theorem markReceiver_nil (st nx fi hg co : Int) (ao : Option Addr) (ca : Nat) (k0 : Int) (w : World) (h0 : 0 ≤ k0) : Calls Try.prog 18 #[.agg #[.int .i64 st, .int .i64 nx, .slice ao 0 ca, .int .i64 fi, .int .i64 hg, .int .i64 co], .int .i64 k0] w fun en w' => en = .returned (.int .i64 k0) ∧ Ext w w' := by
  have hd : decide (k0 < 0) = false := by simp; omega
  go_enter Try.func18, Try.ntmps18
  go_wp2_with fail
  refine (markBuffer_nil nx ao ca k0 _ h0).mono ?_
  rintro en w1 ⟨rfl, hb⟩
  go_wp2
  go_ret
  exact ⟨rfl, (by repeat (first | with_reducible exact Ext.refl _ | with_reducible assumption | with_reducible refine Ext.alloc ?_ _ | with_reducible refine Ext.drew ?_ | with_reducible refine Ext.drewN ?_ _ | ((with_reducible refine Ext.set ?_ ?_ _); (focus (first | (simp; done) | (simp; omega)))) | with_reducible refine Ext.trans ?_ (by assumption)))⟩
theorem heldChunkS_nil (ao : Option Addr) (ca : Nat) (k0 : Int) (w : World) (h0 : 0 ≤ k0) : Calls Try.prog 102 #[.slice ao 0 ca, .int .i64 k0] w fun en w' => en = .returned (.int .i64 k0) ∧ Ext w w' := by
  have hd : decide (k0 < 0) = false := by simp; omega
  go_enter Try.func102, Try.ntmps102
  go_wp2
  go_loop [1, 5] (fun k i => k = .int .i64 k0 ∧ i = .int .i64 0) (fun _ _ => 0)
  case atStart => exact ⟨rfl, rfl⟩
  case round =>
    obtain ⟨rfl, rfl⟩ := hrel
    go_wp2
    go_ret
    exact ⟨rfl, Ext.refl _⟩
theorem heldBuffer_nil (nx : Int) (ao : Option Addr) (ca : Nat) (k0 : Int) (w : World) (h0 : 0 ≤ k0) : Calls Try.prog 67 #[.agg #[.int .i64 nx, .slice ao 0 ca], .int .i64 k0] w fun en w' => en = .returned (.int .i64 k0) ∧ Ext w w' := by
  have hd : decide (k0 < 0) = false := by simp; omega
  go_enter Try.func67, Try.ntmps67
  go_wp2_with fail
  refine (heldChunkS_nil ao ca k0 _ h0).mono ?_
  rintro en w1 ⟨rfl, hb⟩
  go_wp2
  go_ret
  exact ⟨rfl, (by repeat (first | with_reducible exact Ext.refl _ | with_reducible assumption | with_reducible refine Ext.alloc ?_ _ | with_reducible refine Ext.drew ?_ | with_reducible refine Ext.drewN ?_ _ | ((with_reducible refine Ext.set ?_ ?_ _); (focus (first | (simp; done) | (simp; omega)))) | with_reducible refine Ext.trans ?_ (by assumption)))⟩
theorem heldReceiver_nil (st nx fi hg co : Int) (ao : Option Addr) (ca : Nat) (k0 : Int) (w : World) (h0 : 0 ≤ k0) : Calls Try.prog 19 #[.agg #[.int .i64 st, .int .i64 nx, .slice ao 0 ca, .int .i64 fi, .int .i64 hg, .int .i64 co], .int .i64 k0] w fun en w' => en = .returned (.int .i64 k0) ∧ Ext w w' := by
  have hd : decide (k0 < 0) = false := by simp; omega
  go_enter Try.func19, Try.ntmps19
  go_wp2_with fail
  refine (heldBuffer_nil nx ao ca k0 _ h0).mono ?_
  rintro en w1 ⟨rfl, hb⟩
  go_wp2
  go_ret
  exact ⟨rfl, (by repeat (first | with_reducible exact Ext.refl _ | with_reducible assumption | with_reducible refine Ext.alloc ?_ _ | with_reducible refine Ext.drew ?_ | with_reducible refine Ext.drewN ?_ _ | ((with_reducible refine Ext.set ?_ ?_ _); (focus (first | (simp; done) | (simp; omega)))) | with_reducible refine Ext.trans ?_ (by assumption)))⟩
set_option maxHeartbeats 1000000 in
theorem newReceiver_walk (w : World) : Calls Try.prog 3 #[] w fun en w' => en = .returned (.bool true) ∧ Ext w w' := by
  go_enter Try.func3, Try.ntmps3
  go_wp2_with fail
  refine (NewReceiver_spec _).mono ?_
  rintro en w1 ⟨rfl, hw1⟩
  have xw1 : Ext w w1 := (by repeat (first | with_reducible exact Ext.refl _ | with_reducible assumption | with_reducible refine Ext.alloc ?_ _ | with_reducible refine Ext.drew ?_ | with_reducible refine Ext.drewN ?_ _ | ((with_reducible refine Ext.set ?_ ?_ _); (focus (first | (simp; done) | (simp; omega)))) | with_reducible refine Ext.trans ?_ (by assumption)))
  go_wp2_with fail
  refine (NewReceiver_impl _).mono ?_
  rintro en w2 ⟨rfl, hw2⟩
  have xw2 : Ext w w2 := (by repeat (first | with_reducible exact Ext.refl _ | with_reducible assumption | with_reducible refine Ext.alloc ?_ _ | with_reducible refine Ext.drew ?_ | with_reducible refine Ext.drewN ?_ _ | ((with_reducible refine Ext.set ?_ ?_ _); (focus (first | (simp; done) | (simp; omega)))) | with_reducible refine Ext.trans ?_ (by assumption)))
  have kw2_0 := hw2.more (k := w1.heap.size) (by first | assumption | (simp; done) | (simp; omega) | omega)
  obtain ⟨cw2_0, fw2_0⟩ := hw2.row (k := w1.heap.size) (by first | assumption | (simp; done) | (simp; omega) | omega)
  go_wp2_with fail
  refine (eqReceiver_any 0 0 (-1) 0 0 none none 0 0 0 0 [] [] _ (Or.inl rfl) (Or.inl rfl) rfl rfl (by omega)).mono ?_
  rintro en w3 ⟨rfl, hw3⟩
  have xw3 : Ext w w3 := (by repeat (first | with_reducible exact Ext.refl _ | with_reducible assumption | with_reducible refine Ext.alloc ?_ _ | with_reducible refine Ext.drew ?_ | with_reducible refine Ext.drewN ?_ _ | ((with_reducible refine Ext.set ?_ ?_ _); (focus (first | (simp; done) | (simp; omega)))) | with_reducible refine Ext.trans ?_ (by assumption)))
  have kw3_0 := hw3.more (k := w1.heap.size) (by first | assumption | (simp; done) | (simp; omega) | omega)
  obtain ⟨cw3_0, fw3_0⟩ := hw3.row (k := w1.heap.size) (by first | assumption | (simp; done) | (simp; omega) | omega)
  have kw3_1 := hw3.more (k := w2.heap.size) (by first | assumption | (simp; done) | (simp; omega) | omega)
  obtain ⟨cw3_1, fw3_1⟩ := hw3.row (k := w2.heap.size) (by first | assumption | (simp; done) | (simp; omega) | omega)
  go_wp2_with fail
  refine (markReceiver_nil 0 0 (-1) 0 0 none 0 1 _ (by omega)).mono ?_
  rintro en w4 ⟨rfl, hw4⟩
  have xw4 : Ext w w4 := (by repeat (first | with_reducible exact Ext.refl _ | with_reducible assumption | with_reducible refine Ext.alloc ?_ _ | with_reducible refine Ext.drew ?_ | with_reducible refine Ext.drewN ?_ _ | ((with_reducible refine Ext.set ?_ ?_ _); (focus (first | (simp; done) | (simp; omega)))) | with_reducible refine Ext.trans ?_ (by assumption)))
  have kw4_0 := hw4.more (k := w1.heap.size) (by first | assumption | (simp; done) | (simp; omega) | omega)
  obtain ⟨cw4_0, fw4_0⟩ := hw4.row (k := w1.heap.size) (by first | assumption | (simp; done) | (simp; omega) | omega)
  have kw4_1 := hw4.more (k := w2.heap.size) (by first | assumption | (simp; done) | (simp; omega) | omega)
  obtain ⟨cw4_1, fw4_1⟩ := hw4.row (k := w2.heap.size) (by first | assumption | (simp; done) | (simp; omega) | omega)
  go_wp2_with fail
  refine (heldReceiver_nil 0 0 (-1) 0 0 none 0 1 _ (by omega)).mono ?_
  rintro en w5 ⟨rfl, hw5⟩
  have xw5 : Ext w w5 := (by repeat (first | with_reducible exact Ext.refl _ | with_reducible assumption | with_reducible refine Ext.alloc ?_ _ | with_reducible refine Ext.drew ?_ | with_reducible refine Ext.drewN ?_ _ | ((with_reducible refine Ext.set ?_ ?_ _); (focus (first | (simp; done) | (simp; omega)))) | with_reducible refine Ext.trans ?_ (by assumption)))
  have kw5_0 := hw5.more (k := w1.heap.size) (by first | assumption | (simp; done) | (simp; omega) | omega)
  obtain ⟨cw5_0, fw5_0⟩ := hw5.row (k := w1.heap.size) (by first | assumption | (simp; done) | (simp; omega) | omega)
  have kw5_1 := hw5.more (k := w2.heap.size) (by first | assumption | (simp; done) | (simp; omega) | omega)
  obtain ⟨cw5_1, fw5_1⟩ := hw5.row (k := w2.heap.size) (by first | assumption | (simp; done) | (simp; omega) | omega)
  go_wp2_with fail
  refine (NewReceiver_impl _).mono ?_
  rintro en w6 ⟨rfl, hw6⟩
  have xw6 : Ext w w6 := (by repeat (first | with_reducible exact Ext.refl _ | with_reducible assumption | with_reducible refine Ext.alloc ?_ _ | with_reducible refine Ext.drew ?_ | with_reducible refine Ext.drewN ?_ _ | ((with_reducible refine Ext.set ?_ ?_ _); (focus (first | (simp; done) | (simp; omega)))) | with_reducible refine Ext.trans ?_ (by assumption)))
  have kw6_0 := hw6.more (k := w1.heap.size) (by first | assumption | (simp; done) | (simp; omega) | omega)
  obtain ⟨cw6_0, fw6_0⟩ := hw6.row (k := w1.heap.size) (by first | assumption | (simp; done) | (simp; omega) | omega)
  have kw6_1 := hw6.more (k := w2.heap.size) (by first | assumption | (simp; done) | (simp; omega) | omega)
  obtain ⟨cw6_1, fw6_1⟩ := hw6.row (k := w2.heap.size) (by first | assumption | (simp; done) | (simp; omega) | omega)
  go_wp2_with fail
  refine (eqReceiver_any 0 0 (-1) 0 0 none none 0 0 0 0 [] [] _ (Or.inl rfl) (Or.inl rfl) rfl rfl (by omega)).mono ?_
  rintro en w7 ⟨rfl, hw7⟩
  have xw7 : Ext w w7 := (by repeat (first | with_reducible exact Ext.refl _ | with_reducible assumption | with_reducible refine Ext.alloc ?_ _ | with_reducible refine Ext.drew ?_ | with_reducible refine Ext.drewN ?_ _ | ((with_reducible refine Ext.set ?_ ?_ _); (focus (first | (simp; done) | (simp; omega)))) | with_reducible refine Ext.trans ?_ (by assumption)))
  have kw7_0 := hw7.more (k := w1.heap.size) (by first | assumption | (simp; done) | (simp; omega) | omega)
  obtain ⟨cw7_0, fw7_0⟩ := hw7.row (k := w1.heap.size) (by first | assumption | (simp; done) | (simp; omega) | omega)
  have kw7_1 := hw7.more (k := w2.heap.size) (by first | assumption | (simp; done) | (simp; omega) | omega)
  obtain ⟨cw7_1, fw7_1⟩ := hw7.row (k := w2.heap.size) (by first | assumption | (simp; done) | (simp; omega) | omega)
  have kw7_2 := hw7.more (k := w6.heap.size) (by first | assumption | (simp; done) | (simp; omega) | omega)
  obtain ⟨cw7_2, fw7_2⟩ := hw7.row (k := w6.heap.size) (by first | assumption | (simp; done) | (simp; omega) | omega)
  go_wp2_with fail
  refine (heldReceiver_nil 0 0 (-1) 0 0 none 0 1 _ (by omega)).mono ?_
  rintro en w8 ⟨rfl, hw8⟩
  have xw8 : Ext w w8 := (by repeat (first | with_reducible exact Ext.refl _ | with_reducible assumption | with_reducible refine Ext.alloc ?_ _ | with_reducible refine Ext.drew ?_ | with_reducible refine Ext.drewN ?_ _ | ((with_reducible refine Ext.set ?_ ?_ _); (focus (first | (simp; done) | (simp; omega)))) | with_reducible refine Ext.trans ?_ (by assumption)))
  have kw8_0 := hw8.more (k := w1.heap.size) (by first | assumption | (simp; done) | (simp; omega) | omega)
  obtain ⟨cw8_0, fw8_0⟩ := hw8.row (k := w1.heap.size) (by first | assumption | (simp; done) | (simp; omega) | omega)
  have kw8_1 := hw8.more (k := w2.heap.size) (by first | assumption | (simp; done) | (simp; omega) | omega)
  obtain ⟨cw8_1, fw8_1⟩ := hw8.row (k := w2.heap.size) (by first | assumption | (simp; done) | (simp; omega) | omega)
  have kw8_2 := hw8.more (k := w6.heap.size) (by first | assumption | (simp; done) | (simp; omega) | omega)
  obtain ⟨cw8_2, fw8_2⟩ := hw8.row (k := w6.heap.size) (by first | assumption | (simp; done) | (simp; omega) | omega)
  go_wp2
  go_ret
  exact ⟨rfl, (by repeat (first | with_reducible exact Ext.refl _ | with_reducible assumption | with_reducible refine Ext.alloc ?_ _ | with_reducible refine Ext.drew ?_ | with_reducible refine Ext.drewN ?_ _ | ((with_reducible refine Ext.set ?_ ?_ _); (focus (first | (simp; done) | (simp; omega)))) | with_reducible refine Ext.trans ?_ (by assumption)))⟩
/-! ### the row of FnExactNewReceiver -/
theorem newReceiver_reads : ∀ t ∈ Try.f3.params.toList, Try.prog.readableRec t = true ∧ t < Try.prog.types.size := by
  rw [Try.params3]
  intro t ht
  simp at ht
set_option maxRecDepth 100000 in
theorem newReceiver_lifted (os : Os) (started : os.Started) (H : Type) (enc : TypeId × Value → H) :
    ReturnsInHanded {} Try.checked os 3 .any (Rows.fnExactNewReceiverSpec.pre6 enc Try.prog Try.f3 Rows.fnExactNewReceiverRow.domain false) (Rows.fnExactNewReceiverSpec.post enc Try.prog Try.f3 false true false false) := by
  refine returnsInHanded_of_change (C := Try.checked) ownKnobNone started (by kernel_rfl) Try.func3
    (ChangeSpec.witness6 (enc := enc) (C := Try.checked) false ⟨#[], #[], []⟩ 8 (by kernel_rfl) (by kernel_rfl) (by kernel_rfl) (by kernel_rfl)) ?_
  intro W base args ds gs before hval0 hW hcnd _
  have hval : ∀ (j : Nat) t v, Try.f3.params[j]? = some t → args[j]? = some v → Value.okWide Try.prog W .any base t v := hval0
  have hW' := hW
  obtain ⟨p, q, hA0, hV, rfl, hfz, hnd⟩ := hW
  have hA : DataW.TrodAll enc Try.prog W 0 (fun _ => true) true Try.f3.params.toList args.toList ds p := hA0
  rw [Try.params3] at hA hval
  obtain ⟨hargs, rfl, rfl⟩ := trodAll_nil hA
  obtain rfl : args = #[] := by cases args; simp_all
  refine (newReceiver_walk W).mono fun e W' ⟨he, hg⟩ => ?_
  subst he
  exact ⟨_, rfl, law_post laidOut newReceiver_reads rfl rfl Try.underlying4 hW' (fun gs h => by subst h; rfl) hg⟩
theorem newReceiver_over : Rows.fnExactNewReceiverRow.holds Try.pinned (OpenSpec.ofChange Rows.fnExactNewReceiverSpec) :=
  OpenClaim.holds_of_wide 3 Try.f3 rfl rfl rfl rfl rfl rfl rfl ⟨rfl, rfl, rfl, rfl, rfl⟩ rfl rfl rfl rfl rfl (by kernel_rfl) Try.func3 (by kernel_rfl)
    (of_decide_eq_true (by kernel_rfl)) (by unfold Func.isWrapper; first | (rw [if_pos (by decide +kernel)]; kernel_rfl) | (rw [if_neg (by decide +kernel)]; exact ⟨rfl, rfl⟩))
    (fun os started H enc _ => newReceiver_lifted os started H enc)
/-- The statement. -/
theorem newReceiver_holds : Rows.FnExactNewReceiverSaid := newReceiver_over
#print axioms newReceiver_holds
end Go.Proofs.Ytifhbchlmlaanaa

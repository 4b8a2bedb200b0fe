/-
  The law FnReceivers holds of every code. No condition.
-/
import Derived.Test.YtifhbchlmlaanaaRvN
import Derived.Test.YtifhbchlmlaanaaDrawM
import Derived.Test.YtifhbchlmlaanaaSteady
import Derived.Deep.DeepCutAuto
namespace Go.Proofs.Ytifhbchlmlaanaa
open Go.ChangeShapes Go.WideShapes Go.ChangeAt Go.RowKit
set_option linter.unusedSimpArgs false
set_option linter.unusedVariables false
set_option maxHeartbeats 4000000 in
set_option maxRecDepth 100000 in
theorem receivers_walk (ao : Option Addr) (len cap : Nat) (w : World) (hc : len ≤ 1048576 → CodeAt w w.heap.size (.slice ao len cap)) :
    Calls Try.prog 13 #[.slice ao len cap] w fun e w' => e = .returned (.bool true) ∧ Ext w w' := by
  by_cases hbig : (1048576 : Int) < len
  · have hbd : decide ((1048576 : Int) < len) = true := decide_eq_true hbig
    go_enter Try.func13, Try.ntmps13
    go_wp2_with fail
    refine (big_any ao len cap _).mono ?_
    rintro e _ ⟨rfl, rfl⟩
    go_wp2
    go_ret
    exact ⟨rfl, Ext.refl _⟩
  have hbd : decide ((1048576 : Int) < len) = false := decide_eq_false hbig
  replace hc := hc (by omega)
  clear hbig
  go_enter Try.func13, Try.ntmps13
  go_wp2_with fail
  refine (big_any ao len cap _).mono ?_
  rintro e _ ⟨rfl, rfl⟩
  go_wp2_with fail
  refine (DrawReceiveData_any _ _ hc).mono ?_
  rintro en w1 ⟨r, ar, cr, off, data, fin, rfl, hoff, hds, okr, own, hw1⟩
  have xw1 : Ext w w1 := (by repeat (first | with_reducible exact Ext.refl _ | with_reducible assumption | with_reducible refine Ext.alloc ?_ _ | with_reducible refine Ext.drew ?_ | with_reducible refine Ext.drewN ?_ _ | ((with_reducible refine Ext.set ?_ ?_ _); (focus (first | (simp; done) | (simp; omega)))) | with_reducible refine Ext.trans ?_ (by assumption)))
  have hr := hide own.read
  clear own
  go_wp2_with fail
  refine (rda_impl 6 r off data fin ar cr _ ?_ okr (by omega) (by omega) (by omega)).mono ?_
  · exact hr.out.ext (by repeat (first | with_reducible exact Ext.refl _ | with_reducible assumption | with_reducible refine Ext.alloc ?_ _ | with_reducible refine Ext.drew ?_ | ((with_reducible refine Ext.set ?_ ?_ _); (focus (first | (simp; done) | (simp; omega) | omega))) | with_reducible refine Ext.trans ?_ hw1))
  rintro en w2 ⟨ax, cx, rfl, ownx, hw2⟩
  have xw2 : Ext w w2 := (by repeat (first | with_reducible exact Ext.refl _ | with_reducible assumption | with_reducible refine Ext.alloc ?_ _ | with_reducible refine Ext.drew ?_ | with_reducible refine Ext.drewN ?_ _ | ((with_reducible refine Ext.set ?_ ?_ _); (focus (first | (simp; done) | (simp; omega)))) | with_reducible refine Ext.trans ?_ (by assumption)))
  have kw2_0 := hw2.more (k := w1.heap.size) (by first | assumption | (simp; done) | (simp; omega) | omega)
  obtain ⟨cw2_0, fw2_0⟩ := hw2.row (k := w1.heap.size) (by first | assumption | (simp; done) | (simp; omega) | omega)
  have hx := hide ownx.read
  clear ownx
  go_wp2_with fail
  refine (rda_spec 6 r off data fin ar cr _ ?_ okr (by omega) (by omega) (by omega)).mono ?_
  · exact hr.out.ext (by repeat (first | with_reducible exact Ext.refl _ | with_reducible assumption | with_reducible refine Ext.alloc ?_ _ | with_reducible refine Ext.drew ?_ | ((with_reducible refine Ext.set ?_ ?_ _); (focus (first | (simp; done) | (simp; omega) | omega))) | with_reducible refine Ext.trans ?_ hw2 | with_reducible refine Ext.trans ?_ hw1))
  rintro en w3 ⟨ay, cy, rfl, owny, hw3⟩
  have xw3 : Ext w w3 := (by repeat (first | with_reducible exact Ext.refl _ | with_reducible assumption | with_reducible refine Ext.alloc ?_ _ | with_reducible refine Ext.drew ?_ | with_reducible refine Ext.drewN ?_ _ | ((with_reducible refine Ext.set ?_ ?_ _); (focus (first | (simp; done) | (simp; omega)))) | with_reducible refine Ext.trans ?_ (by assumption)))
  have kw3_0 := hw3.more (k := w1.heap.size) (by first | assumption | (simp; done) | (simp; omega) | omega)
  obtain ⟨cw3_0, fw3_0⟩ := hw3.row (k := w1.heap.size) (by first | assumption | (simp; done) | (simp; omega) | omega)
  have kw3_1 := hw3.more (k := w2.heap.size) (by first | assumption | (simp; done) | (simp; omega) | omega)
  obtain ⟨cw3_1, fw3_1⟩ := hw3.row (k := w2.heap.size) (by first | assumption | (simp; done) | (simp; omega) | omega)
  have hy := hide owny.read
  clear owny
  have okx : RecOk 7 (rdaV r off data fin) := rdaV_ok okr
  have sca_0 := fun (ws : World) (hws : Ext w3 ws) => eqr_same (rdaV r off data fin) ax ay cx cy ws (hx.out.ext (Ext.trans (by repeat (first | with_reducible exact Ext.refl _ | with_reducible assumption | with_reducible refine Ext.alloc ?_ _ | with_reducible refine Ext.drew ?_ | ((with_reducible refine Ext.set ?_ ?_ _); (focus (first | (simp; done) | (simp; omega) | omega))) | with_reducible refine Ext.trans ?_ hw3 | with_reducible refine Ext.trans ?_ hw2 | with_reducible refine Ext.trans ?_ hw1)) hws)) (hy.out.ext (Ext.trans (by repeat (first | with_reducible exact Ext.refl _ | with_reducible assumption | with_reducible refine Ext.alloc ?_ _ | with_reducible refine Ext.drew ?_ | ((with_reducible refine Ext.set ?_ ?_ _); (focus (first | (simp; done) | (simp; omega) | omega))) | with_reducible refine Ext.trans ?_ hw3 | with_reducible refine Ext.trans ?_ hw2 | with_reducible refine Ext.trans ?_ hw1)) hws)) okx (by omega)
  have sca_1 := fun (ws : World) (hws : Ext w3 ws) => isr_impl r ar cr ws (hr.out.ext (Ext.trans (by repeat (first | with_reducible exact Ext.refl _ | with_reducible assumption | with_reducible refine Ext.alloc ?_ _ | with_reducible refine Ext.drew ?_ | ((with_reducible refine Ext.set ?_ ?_ _); (focus (first | (simp; done) | (simp; omega) | omega))) | with_reducible refine Ext.trans ?_ hw3 | with_reducible refine Ext.trans ?_ hw2 | with_reducible refine Ext.trans ?_ hw1)) hws)) okr (by omega)
  have sca_2 := fun (ws : World) (hws : Ext w3 ws) => isr_spec r ar cr ws (hr.out.ext (Ext.trans (by repeat (first | with_reducible exact Ext.refl _ | with_reducible assumption | with_reducible refine Ext.alloc ?_ _ | with_reducible refine Ext.drew ?_ | ((with_reducible refine Ext.set ?_ ?_ _); (focus (first | (simp; done) | (simp; omega) | omega))) | with_reducible refine Ext.trans ?_ hw3 | with_reducible refine Ext.trans ?_ hw2 | with_reducible refine Ext.trans ?_ hw1)) hws)) okr (by omega)
  go_wp2_with fail
  refine wp_region_seq (Ext _) (by kernel_rfl) (by kernel_rfl) ((Ext.refl _).drew) ?_
  (refine wpSeqS_plain (v := ?_) rfl (by rfl) ?_ ?_; rotate_left; (focus (intro ws hws; go_simp; (try with_reducible rfl); done)))
  try simp only [Act.put, List.getElem_toArray, List.getElem_cons_zero, List.getElem_cons_succ, List.setIfInBounds_toArray, List.set_cons_zero, List.set_cons_succ]
  (refine wpSeqS_plain (v := ?_) rfl (by rfl) ?_ ?_; rotate_left; (focus (intro ws hws; go_simp; (try with_reducible rfl); done)))
  try simp only [Act.put, List.getElem_toArray, List.getElem_cons_zero, List.getElem_cons_succ, List.setIfInBounds_toArray, List.set_cons_zero, List.set_cons_succ]
  (refine wpSeqS_plain (v := ?_) rfl (by rfl) ?_ ?_; rotate_left; (focus (intro ws hws; go_simp; (try with_reducible rfl); done)))
  try simp only [Act.put, List.getElem_toArray, List.getElem_cons_zero, List.getElem_cons_succ, List.setIfInBounds_toArray, List.set_cons_zero, List.set_cons_succ]
  (refine wpSeqS_plain (v := ?_) rfl (by rfl) ?_ ?_; rotate_left; (focus (intro ws hws; go_simp; (try with_reducible rfl); done)))
  try simp only [Act.put, List.getElem_toArray, List.getElem_cons_zero, List.getElem_cons_succ, List.setIfInBounds_toArray, List.set_cons_zero, List.set_cons_succ]
  (refine wpSeqS_plain (v := ?_) rfl (by rfl) ?_ ?_; rotate_left; (focus (intro ws hws; obtain ⟨q0, p0⟩ := hws.row (k := w2.heap.size) (by first | assumption | (simp; done) | (simp; omega) | omega); go_simp; (try with_reducible rfl); done)))
  try simp only [Act.put, List.getElem_toArray, List.getElem_cons_zero, List.getElem_cons_succ, List.setIfInBounds_toArray, List.set_cons_zero, List.set_cons_succ]
  (refine wpSeqS_plain (v := ?_) rfl (by rfl) ?_ ?_; rotate_left; (focus (intro ws hws; obtain ⟨q0, p0⟩ := hws.row (k := w3.heap.size) (by first | assumption | (simp; done) | (simp; omega) | omega); go_simp; (try with_reducible rfl); done)))
  try simp only [Act.put, List.getElem_toArray, List.getElem_cons_zero, List.getElem_cons_succ, List.setIfInBounds_toArray, List.set_cons_zero, List.set_cons_succ]
  (refine wpSeqS_call (v := ?_) 21 ?_ rfl (by rfl) ?_ ?_ ?_; rotate_left; rotate_left; (focus (intro ws hws; go_simp; (try with_reducible rfl); done)); (focus (intro ws hws; refine (sca_0 ws (Ext.trans (by repeat (first | with_reducible exact Ext.refl _ | with_reducible assumption | with_reducible refine Ext.alloc ?_ _ | with_reducible refine Ext.drew ?_ | ((with_reducible refine Ext.set ?_ ?_ _); (focus (first | (simp; done) | (simp; omega) | omega))))) hws)).mono ?_; rintro e w' ⟨rfl, h2⟩; refine ⟨?_, hws.trans h2⟩; (try simp only [*]); (try with_reducible rfl); done)))
  try simp only [Act.put, List.getElem_toArray, List.getElem_cons_zero, List.getElem_cons_succ, List.setIfInBounds_toArray, List.set_cons_zero, List.set_cons_succ]
  (refine wpSeqS_plain (v := ?_) rfl (by rfl) ?_ ?_; rotate_left; (focus (intro ws hws; go_simp; (try with_reducible rfl); done)))
  try simp only [Act.put, List.getElem_toArray, List.getElem_cons_zero, List.getElem_cons_succ, List.setIfInBounds_toArray, List.set_cons_zero, List.set_cons_succ]
  (refine wpSeqS_plain (v := ?_) rfl (by rfl) ?_ ?_; rotate_left; (focus (intro ws hws; go_simp; (try with_reducible rfl); done)))
  try simp only [Act.put, List.getElem_toArray, List.getElem_cons_zero, List.getElem_cons_succ, List.setIfInBounds_toArray, List.set_cons_zero, List.set_cons_succ]
  (refine wpSeqS_plain (v := ?_) rfl (by rfl) ?_ ?_; rotate_left; (focus (intro ws hws; go_simp; (try with_reducible rfl); done)))
  try simp only [Act.put, List.getElem_toArray, List.getElem_cons_zero, List.getElem_cons_succ, List.setIfInBounds_toArray, List.set_cons_zero, List.set_cons_succ]
  (refine wpSeqS_plain (v := ?_) rfl (by rfl) ?_ ?_; rotate_left; (focus (intro ws hws; obtain ⟨q0, p0⟩ := hws.row (k := w1.heap.size) (by first | assumption | (simp; done) | (simp; omega) | omega); go_simp; (try with_reducible rfl); done)))
  try simp only [Act.put, List.getElem_toArray, List.getElem_cons_zero, List.getElem_cons_succ, List.setIfInBounds_toArray, List.set_cons_zero, List.set_cons_succ]
  (refine wpSeqS_call (v := ?_) 25 ?_ rfl (by rfl) ?_ ?_ ?_; rotate_left; rotate_left; (focus (intro ws hws; go_simp; (try with_reducible rfl); done)); (focus (intro ws hws; refine (sca_1 ws (Ext.trans (by repeat (first | with_reducible exact Ext.refl _ | with_reducible assumption | with_reducible refine Ext.alloc ?_ _ | with_reducible refine Ext.drew ?_ | ((with_reducible refine Ext.set ?_ ?_ _); (focus (first | (simp; done) | (simp; omega) | omega))))) hws)).mono ?_; rintro e w' ⟨rfl, h2⟩; refine ⟨?_, hws.trans h2⟩; (try simp only [*]); (try with_reducible rfl); done)))
  try simp only [Act.put, List.getElem_toArray, List.getElem_cons_zero, List.getElem_cons_succ, List.setIfInBounds_toArray, List.set_cons_zero, List.set_cons_succ]
  (refine wpSeqS_plain (v := ?_) rfl (by rfl) ?_ ?_; rotate_left; (focus (intro ws hws; obtain ⟨q0, p0⟩ := hws.row (k := w1.heap.size) (by first | assumption | (simp; done) | (simp; omega) | omega); go_simp; (try with_reducible rfl); done)))
  try simp only [Act.put, List.getElem_toArray, List.getElem_cons_zero, List.getElem_cons_succ, List.setIfInBounds_toArray, List.set_cons_zero, List.set_cons_succ]
  (refine wpSeqS_call (v := ?_) 24 ?_ rfl (by rfl) ?_ ?_ ?_; rotate_left; rotate_left; (focus (intro ws hws; go_simp; (try with_reducible rfl); done)); (focus (intro ws hws; refine (sca_2 ws (Ext.trans (by repeat (first | with_reducible exact Ext.refl _ | with_reducible assumption | with_reducible refine Ext.alloc ?_ _ | with_reducible refine Ext.drew ?_ | ((with_reducible refine Ext.set ?_ ?_ _); (focus (first | (simp; done) | (simp; omega) | omega))))) hws)).mono ?_; rintro e w' ⟨rfl, h2⟩; refine ⟨?_, hws.trans h2⟩; (try simp only [*]); (try with_reducible rfl); done)))
  try simp only [Act.put, List.getElem_toArray, List.getElem_cons_zero, List.getElem_cons_succ, List.setIfInBounds_toArray, List.set_cons_zero, List.set_cons_succ]
  (refine wpSeqS_plain (v := ?_) rfl (by rfl) ?_ ?_; rotate_left; (focus (intro ws hws; go_simp; (try with_reducible rfl); done)))
  try simp only [Act.put, List.getElem_toArray, List.getElem_cons_zero, List.getElem_cons_succ, List.setIfInBounds_toArray, List.set_cons_zero, List.set_cons_succ]
  (refine wpSeqS_plain (v := ?_) rfl (by rfl) ?_ ?_; rotate_left; (focus (intro ws hws; go_simp; (try with_reducible rfl); done)))
  try simp only [Act.put, List.getElem_toArray, List.getElem_cons_zero, List.getElem_cons_succ, List.setIfInBounds_toArray, List.set_cons_zero, List.set_cons_succ]
  refine wpSeqS_done (by kernel_rfl) (fun wa hwa => ?_)
  have xwa : Ext w wa := (by repeat (first | with_reducible exact Ext.refl _ | with_reducible assumption | with_reducible refine Ext.alloc ?_ _ | with_reducible refine Ext.drew ?_ | ((with_reducible refine Ext.set ?_ ?_ _); (focus (first | (simp; done) | (simp; omega) | omega))) | with_reducible refine Ext.trans ?_ hwa | with_reducible refine Ext.trans ?_ hw3 | with_reducible refine Ext.trans ?_ hw2 | with_reducible refine Ext.trans ?_ hw1))
  have kwa_0 := hwa.more (k := w1.heap.size) (by first | assumption | (simp; done) | (simp; omega) | omega)
  obtain ⟨cwa_0, fwa_0⟩ := hwa.row (k := w1.heap.size) (by first | assumption | (simp; done) | (simp; omega) | omega)
  have kwa_1 := hwa.more (k := w2.heap.size) (by first | assumption | (simp; done) | (simp; omega) | omega)
  obtain ⟨cwa_1, fwa_1⟩ := hwa.row (k := w2.heap.size) (by first | assumption | (simp; done) | (simp; omega) | omega)
  have kwa_2 := hwa.more (k := w3.heap.size) (by first | assumption | (simp; done) | (simp; omega) | omega)
  obtain ⟨cwa_2, fwa_2⟩ := hwa.row (k := w3.heap.size) (by first | assumption | (simp; done) | (simp; omega) | omega)
  have hwS : IntKind.i64.wrap (4611686018427387903 - (data.size : Int)) = 4611686018427387903 - (data.size : Int) := IntWalk.i64_in _ (by omega)
  have hwE : IntKind.i64.wrap (off + (data.size : Int)) = (off + (data.size : Int)) ∨ True := Or.inr trivial
  clear hwE
  go_upto_region 8 with fail
  go_cut [73] (fun s73 wx => s73 = .bool (inQ r off data) ∧ Ext wa wx)
  case first => as_aux_lemma =>
    rcases Bool.eq_false_or_eq_true (rvIs r) with hI | hI
    rotate_left
    · skip
      skip
      go_wp2_with fail
      refine (isr_spec r ar cr _ ?_ okr (by omega)).mono ?_
      · exact hr.out.ext (by repeat (first | with_reducible exact Ext.refl _ | with_reducible assumption | with_reducible refine Ext.alloc ?_ _ | with_reducible refine Ext.drew ?_ | ((with_reducible refine Ext.set ?_ ?_ _); (focus (first | (simp; done) | (simp; omega) | omega))) | with_reducible refine Ext.trans ?_ hwa | with_reducible refine Ext.trans ?_ hw3 | with_reducible refine Ext.trans ?_ hw2 | with_reducible refine Ext.trans ?_ hw1))
      rintro en w4 ⟨rfl, hw4⟩
      have xw4 : Ext w w4 := (by repeat (first | with_reducible exact Ext.refl _ | with_reducible assumption | with_reducible refine Ext.alloc ?_ _ | with_reducible refine Ext.drew ?_ | with_reducible refine Ext.drewN ?_ _ | ((with_reducible refine Ext.set ?_ ?_ _); (focus (first | (simp; done) | (simp; omega)))) | with_reducible refine Ext.trans ?_ (by assumption)))
      have kw4_0 := hw4.more (k := w1.heap.size) (by first | assumption | (simp; done) | (simp; omega) | omega)
      obtain ⟨cw4_0, fw4_0⟩ := hw4.row (k := w1.heap.size) (by first | assumption | (simp; done) | (simp; omega) | omega)
      have kw4_1 := hw4.more (k := w2.heap.size) (by first | assumption | (simp; done) | (simp; omega) | omega)
      obtain ⟨cw4_1, fw4_1⟩ := hw4.row (k := w2.heap.size) (by first | assumption | (simp; done) | (simp; omega) | omega)
      have kw4_2 := hw4.more (k := w3.heap.size) (by first | assumption | (simp; done) | (simp; omega) | omega)
      obtain ⟨cw4_2, fw4_2⟩ := hw4.row (k := w3.heap.size) (by first | assumption | (simp; done) | (simp; omega) | omega)
      go_wp2_with fail
      go_meet
      exact ⟨by simp [inQ, *], (by repeat (first | with_reducible exact Ext.refl _ | with_reducible assumption | with_reducible refine Ext.alloc ?_ _ | with_reducible refine Ext.drew ?_ | ((with_reducible refine Ext.set ?_ ?_ _); (focus (first | (simp; done) | (simp; omega) | omega))) | with_reducible refine Ext.trans ?_ hw4))⟩
    by_cases h0 : 0 ≤ off
    rotate_left
    · skip
      have g1 : decide (0 ≤ off) = false := decide_eq_false h0
      have g2 : decide (off ≥ 0) = false := decide_eq_false h0
      clear h0
      go_wp2_with fail
      refine (isr_spec r ar cr _ ?_ okr (by omega)).mono ?_
      · exact hr.out.ext (by repeat (first | with_reducible exact Ext.refl _ | with_reducible assumption | with_reducible refine Ext.alloc ?_ _ | with_reducible refine Ext.drew ?_ | ((with_reducible refine Ext.set ?_ ?_ _); (focus (first | (simp; done) | (simp; omega) | omega))) | with_reducible refine Ext.trans ?_ hwa | with_reducible refine Ext.trans ?_ hw3 | with_reducible refine Ext.trans ?_ hw2 | with_reducible refine Ext.trans ?_ hw1))
      rintro en w4 ⟨rfl, hw4⟩
      have xw4 : Ext w w4 := (by repeat (first | with_reducible exact Ext.refl _ | with_reducible assumption | with_reducible refine Ext.alloc ?_ _ | with_reducible refine Ext.drew ?_ | with_reducible refine Ext.drewN ?_ _ | ((with_reducible refine Ext.set ?_ ?_ _); (focus (first | (simp; done) | (simp; omega)))) | with_reducible refine Ext.trans ?_ (by assumption)))
      have kw4_0 := hw4.more (k := w1.heap.size) (by first | assumption | (simp; done) | (simp; omega) | omega)
      obtain ⟨cw4_0, fw4_0⟩ := hw4.row (k := w1.heap.size) (by first | assumption | (simp; done) | (simp; omega) | omega)
      have kw4_1 := hw4.more (k := w2.heap.size) (by first | assumption | (simp; done) | (simp; omega) | omega)
      obtain ⟨cw4_1, fw4_1⟩ := hw4.row (k := w2.heap.size) (by first | assumption | (simp; done) | (simp; omega) | omega)
      have kw4_2 := hw4.more (k := w3.heap.size) (by first | assumption | (simp; done) | (simp; omega) | omega)
      obtain ⟨cw4_2, fw4_2⟩ := hw4.row (k := w3.heap.size) (by first | assumption | (simp; done) | (simp; omega) | omega)
      go_wp2_with fail
      go_meet
      exact ⟨by simp [inQ, *], (by repeat (first | with_reducible exact Ext.refl _ | with_reducible assumption | with_reducible refine Ext.alloc ?_ _ | with_reducible refine Ext.drew ?_ | ((with_reducible refine Ext.set ?_ ?_ _); (focus (first | (simp; done) | (simp; omega) | omega))) | with_reducible refine Ext.trans ?_ hw4))⟩
    have g1 : decide (0 ≤ off) = true := decide_eq_true h0
    have g2 : decide (off ≥ 0) = true := decide_eq_true h0
    by_cases h1 : (off + (data.size : Int)) ≤ 4611686018427387903
    · skip
      have g3 : decide ((off + (data.size : Int)) ≤ 4611686018427387903) = true := decide_eq_true h1
      have g4 : decide (off ≤ 4611686018427387903 - (data.size : Int)) = true := decide_eq_true (by omega)
      clear h0 h1
      go_wp2_with fail
      refine (isr_spec r ar cr _ ?_ okr (by omega)).mono ?_
      · exact hr.out.ext (by repeat (first | with_reducible exact Ext.refl _ | with_reducible assumption | with_reducible refine Ext.alloc ?_ _ | with_reducible refine Ext.drew ?_ | ((with_reducible refine Ext.set ?_ ?_ _); (focus (first | (simp; done) | (simp; omega) | omega))) | with_reducible refine Ext.trans ?_ hwa | with_reducible refine Ext.trans ?_ hw3 | with_reducible refine Ext.trans ?_ hw2 | with_reducible refine Ext.trans ?_ hw1))
      rintro en w4 ⟨rfl, hw4⟩
      have xw4 : Ext w w4 := (by repeat (first | with_reducible exact Ext.refl _ | with_reducible assumption | with_reducible refine Ext.alloc ?_ _ | with_reducible refine Ext.drew ?_ | with_reducible refine Ext.drewN ?_ _ | ((with_reducible refine Ext.set ?_ ?_ _); (focus (first | (simp; done) | (simp; omega)))) | with_reducible refine Ext.trans ?_ (by assumption)))
      have kw4_0 := hw4.more (k := w1.heap.size) (by first | assumption | (simp; done) | (simp; omega) | omega)
      obtain ⟨cw4_0, fw4_0⟩ := hw4.row (k := w1.heap.size) (by first | assumption | (simp; done) | (simp; omega) | omega)
      have kw4_1 := hw4.more (k := w2.heap.size) (by first | assumption | (simp; done) | (simp; omega) | omega)
      obtain ⟨cw4_1, fw4_1⟩ := hw4.row (k := w2.heap.size) (by first | assumption | (simp; done) | (simp; omega) | omega)
      have kw4_2 := hw4.more (k := w3.heap.size) (by first | assumption | (simp; done) | (simp; omega) | omega)
      obtain ⟨cw4_2, fw4_2⟩ := hw4.row (k := w3.heap.size) (by first | assumption | (simp; done) | (simp; omega) | omega)
      go_wp2_with fail
      go_meet
      exact ⟨by simp [inQ, *], (by repeat (first | with_reducible exact Ext.refl _ | with_reducible assumption | with_reducible refine Ext.alloc ?_ _ | with_reducible refine Ext.drew ?_ | ((with_reducible refine Ext.set ?_ ?_ _); (focus (first | (simp; done) | (simp; omega) | omega))) | with_reducible refine Ext.trans ?_ hw4))⟩
    · skip
      have g3 : decide ((off + (data.size : Int)) ≤ 4611686018427387903) = false := decide_eq_false h1
      have g4 : decide (off ≤ 4611686018427387903 - (data.size : Int)) = false := decide_eq_false (by omega)
      clear h0 h1
      go_wp2_with fail
      refine (isr_spec r ar cr _ ?_ okr (by omega)).mono ?_
      · exact hr.out.ext (by repeat (first | with_reducible exact Ext.refl _ | with_reducible assumption | with_reducible refine Ext.alloc ?_ _ | with_reducible refine Ext.drew ?_ | ((with_reducible refine Ext.set ?_ ?_ _); (focus (first | (simp; done) | (simp; omega) | omega))) | with_reducible refine Ext.trans ?_ hwa | with_reducible refine Ext.trans ?_ hw3 | with_reducible refine Ext.trans ?_ hw2 | with_reducible refine Ext.trans ?_ hw1))
      rintro en w4 ⟨rfl, hw4⟩
      have xw4 : Ext w w4 := (by repeat (first | with_reducible exact Ext.refl _ | with_reducible assumption | with_reducible refine Ext.alloc ?_ _ | with_reducible refine Ext.drew ?_ | with_reducible refine Ext.drewN ?_ _ | ((with_reducible refine Ext.set ?_ ?_ _); (focus (first | (simp; done) | (simp; omega)))) | with_reducible refine Ext.trans ?_ (by assumption)))
      have kw4_0 := hw4.more (k := w1.heap.size) (by first | assumption | (simp; done) | (simp; omega) | omega)
      obtain ⟨cw4_0, fw4_0⟩ := hw4.row (k := w1.heap.size) (by first | assumption | (simp; done) | (simp; omega) | omega)
      have kw4_1 := hw4.more (k := w2.heap.size) (by first | assumption | (simp; done) | (simp; omega) | omega)
      obtain ⟨cw4_1, fw4_1⟩ := hw4.row (k := w2.heap.size) (by first | assumption | (simp; done) | (simp; omega) | omega)
      have kw4_2 := hw4.more (k := w3.heap.size) (by first | assumption | (simp; done) | (simp; omega) | omega)
      obtain ⟨cw4_2, fw4_2⟩ := hw4.row (k := w3.heap.size) (by first | assumption | (simp; done) | (simp; omega) | omega)
      go_wp2_with fail
      go_meet
      exact ⟨by simp [inQ, *], (by repeat (first | with_reducible exact Ext.refl _ | with_reducible assumption | with_reducible refine Ext.alloc ?_ _ | with_reducible refine Ext.drew ?_ | ((with_reducible refine Ext.set ?_ ?_ _); (focus (first | (simp; done) | (simp; omega) | omega))) | with_reducible refine Ext.trans ?_ hw4))⟩
  case rest =>
    obtain ⟨rfl, hwb⟩ := hcut
    obtain ⟨wb, rfl⟩ : ∃ x, x = wc := ⟨_, rfl⟩
    have xwb : Ext w wb := xwa.trans hwb
    have kwb_0 := hwb.more (k := w1.heap.size) (by first | assumption | (simp; done) | (simp; omega) | omega)
    obtain ⟨cwb_0, fwb_0⟩ := hwb.row (k := w1.heap.size) (by first | assumption | (simp; done) | (simp; omega) | omega)
    have kwb_1 := hwb.more (k := w2.heap.size) (by first | assumption | (simp; done) | (simp; omega) | omega)
    obtain ⟨cwb_1, fwb_1⟩ := hwb.row (k := w2.heap.size) (by first | assumption | (simp; done) | (simp; omega) | omega)
    have kwb_2 := hwb.more (k := w3.heap.size) (by first | assumption | (simp; done) | (simp; omega) | omega)
    obtain ⟨cwb_2, fwb_2⟩ := hwb.row (k := w3.heap.size) (by first | assumption | (simp; done) | (simp; omega) | omega)
    generalize hgq : inQ r off data = qb
    replace hgq := hide hgq
    go_upto_if 73 with fail
    go_cut [] (fun wx => Ext w wx)
    case first => as_aux_lemma =>
      cases qb
      · go_wp2_with fail
        go_meet
        exact xwb
      obtain ⟨hI, h0, h1⟩ : rvIs r = true ∧ 0 ≤ off ∧ (off + (data.size : Int)) ≤ 4611686018427387903 := by
        have h := hgq.out
        simp only [inQ, Bool.and_eq_true, decide_eq_true_eq] at h
        exact h
      have hwE : IntKind.i64.wrap (off + (data.size : Int)) = (off + (data.size : Int)) := IntWalk.i64_in _ (by omega)
      go_upto_region 10 with fail
      go_cut [12] (fun s12 wx => s12 = .bool (contra r.fi r.hg (off + (data.size : Int)) fin) ∧ Ext wb wx)
      case first => as_aux_lemma =>
        by_cases ha : r.fi = -1
        · cases fin
          · have a1 : (r.fi != -1) = false := by simp [ha]
            clear ha
            clear hI h0 h1
            go_wp2_with fail
            go_meet
            exact ⟨by simp [contra, *], Ext.refl _⟩
          · by_cases hdd : (off + (data.size : Int)) < r.hg
            · have a1 : (r.fi != -1) = false := by simp [ha]
              have d1 : decide ((off + (data.size : Int)) < r.hg) = true := decide_eq_true hdd
              clear ha hdd
              clear hI h0 h1
              go_wp2_with fail
              go_meet
              exact ⟨by simp [contra, *], Ext.refl _⟩
            · have a1 : (r.fi != -1) = false := by simp [ha]
              have d1 : decide ((off + (data.size : Int)) < r.hg) = false := decide_eq_false hdd
              clear ha hdd
              clear hI h0 h1
              go_wp2_with fail
              go_meet
              exact ⟨by simp [contra, *], Ext.refl _⟩
        · by_cases hbb : r.fi < (off + (data.size : Int))
          · have a1 : (r.fi != -1) = true := by simp [ha]
            have b1 : decide (r.fi < (off + (data.size : Int))) = true := decide_eq_true hbb
            have b2 : decide ((off + (data.size : Int)) > r.fi) = true := decide_eq_true hbb
            clear ha hbb
            clear hI h0 h1
            go_wp2_with fail
            go_meet
            exact ⟨by simp [contra, *], Ext.refl _⟩
          · cases fin
            · have a1 : (r.fi != -1) = true := by simp [ha]
              have b1 : decide (r.fi < (off + (data.size : Int))) = false := decide_eq_false hbb
              have b2 : decide ((off + (data.size : Int)) > r.fi) = false := decide_eq_false hbb
              clear ha hbb
              clear hI h0 h1
              go_wp2_with fail
              go_meet
              exact ⟨by simp [contra, *], Ext.refl _⟩
            · by_cases hcc : (off + (data.size : Int)) = r.fi
              · by_cases hdd : (off + (data.size : Int)) < r.hg
                · have a1 : (r.fi != -1) = true := by simp [ha]
                  have b1 : decide (r.fi < (off + (data.size : Int))) = false := decide_eq_false hbb
                  have b2 : decide ((off + (data.size : Int)) > r.fi) = false := decide_eq_false hbb
                  have c1 : ((off + (data.size : Int)) != r.fi) = false := by simp [hcc]
                  have d1 : decide ((off + (data.size : Int)) < r.hg) = true := decide_eq_true hdd
                  clear ha hbb hcc hdd
                  clear hI h0 h1
                  go_wp2_with fail
                  go_meet
                  exact ⟨by simp [contra, *], Ext.refl _⟩
                · have a1 : (r.fi != -1) = true := by simp [ha]
                  have b1 : decide (r.fi < (off + (data.size : Int))) = false := decide_eq_false hbb
                  have b2 : decide ((off + (data.size : Int)) > r.fi) = false := decide_eq_false hbb
                  have c1 : ((off + (data.size : Int)) != r.fi) = false := by simp [hcc]
                  have d1 : decide ((off + (data.size : Int)) < r.hg) = false := decide_eq_false hdd
                  clear ha hbb hcc hdd
                  clear hI h0 h1
                  go_wp2_with fail
                  go_meet
                  exact ⟨by simp [contra, *], Ext.refl _⟩
              · have a1 : (r.fi != -1) = true := by simp [ha]
                have b1 : decide (r.fi < (off + (data.size : Int))) = false := decide_eq_false hbb
                have b2 : decide ((off + (data.size : Int)) > r.fi) = false := decide_eq_false hbb
                have c1 : ((off + (data.size : Int)) != r.fi) = true := by simp [hcc]
                clear ha hbb hcc
                clear hI h0 h1
                go_wp2_with fail
                go_meet
                exact ⟨by simp [contra, *], Ext.refl _⟩
      case rest =>
        obtain ⟨rfl, hwd⟩ := hcut
        obtain ⟨wd, rfl⟩ : ∃ x, x = wc := ⟨_, rfl⟩
        have xwd : Ext w wd := xwb.trans hwd
        have kwd_0 := hwd.more (k := w1.heap.size) (by first | assumption | (simp; done) | (simp; omega) | omega)
        obtain ⟨cwd_0, fwd_0⟩ := hwd.row (k := w1.heap.size) (by first | assumption | (simp; done) | (simp; omega) | omega)
        have kwd_1 := hwd.more (k := w2.heap.size) (by first | assumption | (simp; done) | (simp; omega) | omega)
        obtain ⟨cwd_1, fwd_1⟩ := hwd.row (k := w2.heap.size) (by first | assumption | (simp; done) | (simp; omega) | omega)
        have kwd_2 := hwd.more (k := w3.heap.size) (by first | assumption | (simp; done) | (simp; omega) | omega)
        obtain ⟨cwd_2, fwd_2⟩ := hwd.row (k := w3.heap.size) (by first | assumption | (simp; done) | (simp; omega) | omega)
        generalize hgc : contra r.fi r.hg (off + (data.size : Int)) fin = cb
        replace hgc := hide hgc
        cases cb
        rotate_left
        · skip
          obtain ⟨dW, dV⟩ := data_bad hI h0 h1 hgc.out
          have e6 : ((rdaW r off data fin) == 6) = true := by simp [dW]
          have e7 : ((rdaW r off data fin) == 7) = false := by simp [dW]
          have hEq : rvEq (rdaV r off data fin) r = true := by rw [dV]; exact rvEq_refl r
          have hIY : rvIs (rdaV r off data fin) = true := by rw [dV]; exact hI
          clear dW dV hI h0 h1
          go_wp2_with fail
          refine (eqr_spec (rdaV r off data fin) r ax ar cx cr _ ?_ ?_ okx (by omega)).mono ?_
          · exact hx.out.ext (by repeat (first | with_reducible exact Ext.refl _ | with_reducible assumption | with_reducible refine Ext.alloc ?_ _ | with_reducible refine Ext.drew ?_ | ((with_reducible refine Ext.set ?_ ?_ _); (focus (first | (simp; done) | (simp; omega) | omega))) | with_reducible refine Ext.trans ?_ hwd | with_reducible refine Ext.trans ?_ hwb | with_reducible refine Ext.trans ?_ hwa | with_reducible refine Ext.trans ?_ hw3 | with_reducible refine Ext.trans ?_ hw2 | with_reducible refine Ext.trans ?_ hw1))
          · exact hr.out.ext (by repeat (first | with_reducible exact Ext.refl _ | with_reducible assumption | with_reducible refine Ext.alloc ?_ _ | with_reducible refine Ext.drew ?_ | ((with_reducible refine Ext.set ?_ ?_ _); (focus (first | (simp; done) | (simp; omega) | omega))) | with_reducible refine Ext.trans ?_ hwd | with_reducible refine Ext.trans ?_ hwb | with_reducible refine Ext.trans ?_ hwa | with_reducible refine Ext.trans ?_ hw3 | with_reducible refine Ext.trans ?_ hw2 | with_reducible refine Ext.trans ?_ hw1))
          rintro en we ⟨rfl, hwe⟩
          have xwe : Ext w we := (by repeat (first | with_reducible exact Ext.refl _ | with_reducible assumption | with_reducible refine Ext.alloc ?_ _ | with_reducible refine Ext.drew ?_ | with_reducible refine Ext.drewN ?_ _ | ((with_reducible refine Ext.set ?_ ?_ _); (focus (first | (simp; done) | (simp; omega)))) | with_reducible refine Ext.trans ?_ (by assumption)))
          have kwe_0 := hwe.more (k := w1.heap.size) (by first | assumption | (simp; done) | (simp; omega) | omega)
          obtain ⟨cwe_0, fwe_0⟩ := hwe.row (k := w1.heap.size) (by first | assumption | (simp; done) | (simp; omega) | omega)
          have kwe_1 := hwe.more (k := w2.heap.size) (by first | assumption | (simp; done) | (simp; omega) | omega)
          obtain ⟨cwe_1, fwe_1⟩ := hwe.row (k := w2.heap.size) (by first | assumption | (simp; done) | (simp; omega) | omega)
          have kwe_2 := hwe.more (k := w3.heap.size) (by first | assumption | (simp; done) | (simp; omega) | omega)
          obtain ⟨cwe_2, fwe_2⟩ := hwe.row (k := w3.heap.size) (by first | assumption | (simp; done) | (simp; omega) | omega)
          go_wp2_with fail
          refine (isr_impl (rdaV r off data fin) ay cy _ ?_ okx (by omega)).mono ?_
          · exact hy.out.ext (by repeat (first | with_reducible exact Ext.refl _ | with_reducible assumption | with_reducible refine Ext.alloc ?_ _ | with_reducible refine Ext.drew ?_ | ((with_reducible refine Ext.set ?_ ?_ _); (focus (first | (simp; done) | (simp; omega) | omega))) | with_reducible refine Ext.trans ?_ hwe | with_reducible refine Ext.trans ?_ hwd | with_reducible refine Ext.trans ?_ hwb | with_reducible refine Ext.trans ?_ hwa | with_reducible refine Ext.trans ?_ hw3 | with_reducible refine Ext.trans ?_ hw2 | with_reducible refine Ext.trans ?_ hw1))
          rintro en wf ⟨rfl, hwf⟩
          have xwf : Ext w wf := (by repeat (first | with_reducible exact Ext.refl _ | with_reducible assumption | with_reducible refine Ext.alloc ?_ _ | with_reducible refine Ext.drew ?_ | with_reducible refine Ext.drewN ?_ _ | ((with_reducible refine Ext.set ?_ ?_ _); (focus (first | (simp; done) | (simp; omega)))) | with_reducible refine Ext.trans ?_ (by assumption)))
          have kwf_0 := hwf.more (k := w1.heap.size) (by first | assumption | (simp; done) | (simp; omega) | omega)
          obtain ⟨cwf_0, fwf_0⟩ := hwf.row (k := w1.heap.size) (by first | assumption | (simp; done) | (simp; omega) | omega)
          have kwf_1 := hwf.more (k := w2.heap.size) (by first | assumption | (simp; done) | (simp; omega) | omega)
          obtain ⟨cwf_1, fwf_1⟩ := hwf.row (k := w2.heap.size) (by first | assumption | (simp; done) | (simp; omega) | omega)
          have kwf_2 := hwf.more (k := w3.heap.size) (by first | assumption | (simp; done) | (simp; omega) | omega)
          obtain ⟨cwf_2, fwf_2⟩ := hwf.row (k := w3.heap.size) (by first | assumption | (simp; done) | (simp; omega) | omega)
          go_wp2_with fail
          refine (rda_impl 7 (rdaV r off data fin) off data fin ay cy _ ?_ okx (by omega) (by omega) (by omega)).mono ?_
          · exact hy.out.ext (by repeat (first | with_reducible exact Ext.refl _ | with_reducible assumption | with_reducible refine Ext.alloc ?_ _ | with_reducible refine Ext.drew ?_ | ((with_reducible refine Ext.set ?_ ?_ _); (focus (first | (simp; done) | (simp; omega) | omega))) | with_reducible refine Ext.trans ?_ hwf | with_reducible refine Ext.trans ?_ hwe | with_reducible refine Ext.trans ?_ hwd | with_reducible refine Ext.trans ?_ hwb | with_reducible refine Ext.trans ?_ hwa | with_reducible refine Ext.trans ?_ hw3 | with_reducible refine Ext.trans ?_ hw2 | with_reducible refine Ext.trans ?_ hw1))
          rintro en wg ⟨az, cz, rfl, ownz, hwg⟩
          have xwg : Ext w wg := (by repeat (first | with_reducible exact Ext.refl _ | with_reducible assumption | with_reducible refine Ext.alloc ?_ _ | with_reducible refine Ext.drew ?_ | with_reducible refine Ext.drewN ?_ _ | ((with_reducible refine Ext.set ?_ ?_ _); (focus (first | (simp; done) | (simp; omega)))) | with_reducible refine Ext.trans ?_ (by assumption)))
          have kwg_0 := hwg.more (k := w1.heap.size) (by first | assumption | (simp; done) | (simp; omega) | omega)
          obtain ⟨cwg_0, fwg_0⟩ := hwg.row (k := w1.heap.size) (by first | assumption | (simp; done) | (simp; omega) | omega)
          have kwg_1 := hwg.more (k := w2.heap.size) (by first | assumption | (simp; done) | (simp; omega) | omega)
          obtain ⟨cwg_1, fwg_1⟩ := hwg.row (k := w2.heap.size) (by first | assumption | (simp; done) | (simp; omega) | omega)
          have kwg_2 := hwg.more (k := w3.heap.size) (by first | assumption | (simp; done) | (simp; omega) | omega)
          obtain ⟨cwg_2, fwg_2⟩ := hwg.row (k := w3.heap.size) (by first | assumption | (simp; done) | (simp; omega) | omega)
          clear ownz
          go_wp2_with fail
          go_meet
          exact (by repeat (first | with_reducible exact Ext.refl _ | with_reducible assumption | with_reducible refine Ext.alloc ?_ _ | with_reducible refine Ext.drew ?_ | with_reducible refine Ext.drewN ?_ _ | ((with_reducible refine Ext.set ?_ ?_ _); (focus (first | (simp; done) | (simp; omega)))) | with_reducible refine Ext.trans ?_ (by assumption)))
        · skip
          obtain ⟨hIY, hcY, hVY, hgY⟩ := data_ok hI h0 h1 hgc.out
          have dW := data_zero hI h0 h1 hgc.out
          have e6 : ((rdaW r off data fin) == 6) = false := by simp [dW]
          have e7 : ((rdaW r off data fin) == 7) = false := by simp [dW]
          have dWY := data_zero hIY h0 h1 hcY
          have e8 : (rdaW (rdaV r off data fin) off data fin != 0) = false := by simp [dWY]
          have hEq : rvEq (rdaV (rdaV r off data fin) off data fin) (rdaV r off data fin) = true := by rw [hVY]; exact rvEq_refl _
          replace hgY := hide hgY
          clear dW dWY hVY hI h0 h1 hcY
          go_wp2_with fail
          refine (isr_impl (rdaV r off data fin) ay cy _ ?_ okx (by omega)).mono ?_
          · exact hy.out.ext (by repeat (first | with_reducible exact Ext.refl _ | with_reducible assumption | with_reducible refine Ext.alloc ?_ _ | with_reducible refine Ext.drew ?_ | ((with_reducible refine Ext.set ?_ ?_ _); (focus (first | (simp; done) | (simp; omega) | omega))) | with_reducible refine Ext.trans ?_ hwd | with_reducible refine Ext.trans ?_ hwb | with_reducible refine Ext.trans ?_ hwa | with_reducible refine Ext.trans ?_ hw3 | with_reducible refine Ext.trans ?_ hw2 | with_reducible refine Ext.trans ?_ hw1))
          rintro en wf ⟨rfl, hwf⟩
          have xwf : Ext w wf := (by repeat (first | with_reducible exact Ext.refl _ | with_reducible assumption | with_reducible refine Ext.alloc ?_ _ | with_reducible refine Ext.drew ?_ | with_reducible refine Ext.drewN ?_ _ | ((with_reducible refine Ext.set ?_ ?_ _); (focus (first | (simp; done) | (simp; omega)))) | with_reducible refine Ext.trans ?_ (by assumption)))
          have kwf_0 := hwf.more (k := w1.heap.size) (by first | assumption | (simp; done) | (simp; omega) | omega)
          obtain ⟨cwf_0, fwf_0⟩ := hwf.row (k := w1.heap.size) (by first | assumption | (simp; done) | (simp; omega) | omega)
          have kwf_1 := hwf.more (k := w2.heap.size) (by first | assumption | (simp; done) | (simp; omega) | omega)
          obtain ⟨cwf_1, fwf_1⟩ := hwf.row (k := w2.heap.size) (by first | assumption | (simp; done) | (simp; omega) | omega)
          have kwf_2 := hwf.more (k := w3.heap.size) (by first | assumption | (simp; done) | (simp; omega) | omega)
          obtain ⟨cwf_2, fwf_2⟩ := hwf.row (k := w3.heap.size) (by first | assumption | (simp; done) | (simp; omega) | omega)
          go_wp2_with fail
          refine (rda_impl 7 (rdaV r off data fin) off data fin ay cy _ ?_ okx (by omega) (by omega) (by omega)).mono ?_
          · exact hy.out.ext (by repeat (first | with_reducible exact Ext.refl _ | with_reducible assumption | with_reducible refine Ext.alloc ?_ _ | with_reducible refine Ext.drew ?_ | ((with_reducible refine Ext.set ?_ ?_ _); (focus (first | (simp; done) | (simp; omega) | omega))) | with_reducible refine Ext.trans ?_ hwf | with_reducible refine Ext.trans ?_ hwd | with_reducible refine Ext.trans ?_ hwb | with_reducible refine Ext.trans ?_ hwa | with_reducible refine Ext.trans ?_ hw3 | with_reducible refine Ext.trans ?_ hw2 | with_reducible refine Ext.trans ?_ hw1))
          rintro en wg ⟨az, cz, rfl, ownz, hwg⟩
          have xwg : Ext w wg := (by repeat (first | with_reducible exact Ext.refl _ | with_reducible assumption | with_reducible refine Ext.alloc ?_ _ | with_reducible refine Ext.drew ?_ | with_reducible refine Ext.drewN ?_ _ | ((with_reducible refine Ext.set ?_ ?_ _); (focus (first | (simp; done) | (simp; omega)))) | with_reducible refine Ext.trans ?_ (by assumption)))
          have kwg_0 := hwg.more (k := w1.heap.size) (by first | assumption | (simp; done) | (simp; omega) | omega)
          obtain ⟨cwg_0, fwg_0⟩ := hwg.row (k := w1.heap.size) (by first | assumption | (simp; done) | (simp; omega) | omega)
          have kwg_1 := hwg.more (k := w2.heap.size) (by first | assumption | (simp; done) | (simp; omega) | omega)
          obtain ⟨cwg_1, fwg_1⟩ := hwg.row (k := w2.heap.size) (by first | assumption | (simp; done) | (simp; omega) | omega)
          have kwg_2 := hwg.more (k := w3.heap.size) (by first | assumption | (simp; done) | (simp; omega) | omega)
          obtain ⟨cwg_2, fwg_2⟩ := hwg.row (k := w3.heap.size) (by first | assumption | (simp; done) | (simp; omega) | omega)
          have hz := hide ownz.read
          clear ownz
          have okz : RecOk 8 (rdaV (rdaV r off data fin) off data fin) := rdaV_ok okx
          go_wp2_with fail
          refine (eqr_spec (rdaV (rdaV r off data fin) off data fin) (rdaV r off data fin) az ay cz cy _ ?_ ?_ okz (by omega)).mono ?_
          · exact hz.out.ext (by repeat (first | with_reducible exact Ext.refl _ | with_reducible assumption | with_reducible refine Ext.alloc ?_ _ | with_reducible refine Ext.drew ?_ | ((with_reducible refine Ext.set ?_ ?_ _); (focus (first | (simp; done) | (simp; omega) | omega))) | with_reducible refine Ext.trans ?_ hwg | with_reducible refine Ext.trans ?_ hwf | with_reducible refine Ext.trans ?_ hwd | with_reducible refine Ext.trans ?_ hwb | with_reducible refine Ext.trans ?_ hwa | with_reducible refine Ext.trans ?_ hw3 | with_reducible refine Ext.trans ?_ hw2 | with_reducible refine Ext.trans ?_ hw1))
          · exact hy.out.ext (by repeat (first | with_reducible exact Ext.refl _ | with_reducible assumption | with_reducible refine Ext.alloc ?_ _ | with_reducible refine Ext.drew ?_ | ((with_reducible refine Ext.set ?_ ?_ _); (focus (first | (simp; done) | (simp; omega) | omega))) | with_reducible refine Ext.trans ?_ hwg | with_reducible refine Ext.trans ?_ hwf | with_reducible refine Ext.trans ?_ hwd | with_reducible refine Ext.trans ?_ hwb | with_reducible refine Ext.trans ?_ hwa | with_reducible refine Ext.trans ?_ hw3 | with_reducible refine Ext.trans ?_ hw2 | with_reducible refine Ext.trans ?_ hw1))
          rintro en wh ⟨rfl, hwh⟩
          have xwh : Ext w wh := (by repeat (first | with_reducible exact Ext.refl _ | with_reducible assumption | with_reducible refine Ext.alloc ?_ _ | with_reducible refine Ext.drew ?_ | with_reducible refine Ext.drewN ?_ _ | ((with_reducible refine Ext.set ?_ ?_ _); (focus (first | (simp; done) | (simp; omega)))) | with_reducible refine Ext.trans ?_ (by assumption)))
          have kwh_0 := hwh.more (k := w1.heap.size) (by first | assumption | (simp; done) | (simp; omega) | omega)
          obtain ⟨cwh_0, fwh_0⟩ := hwh.row (k := w1.heap.size) (by first | assumption | (simp; done) | (simp; omega) | omega)
          have kwh_1 := hwh.more (k := w2.heap.size) (by first | assumption | (simp; done) | (simp; omega) | omega)
          obtain ⟨cwh_1, fwh_1⟩ := hwh.row (k := w2.heap.size) (by first | assumption | (simp; done) | (simp; omega) | omega)
          have kwh_2 := hwh.more (k := w3.heap.size) (by first | assumption | (simp; done) | (simp; omega) | omega)
          obtain ⟨cwh_2, fwh_2⟩ := hwh.row (k := w3.heap.size) (by first | assumption | (simp; done) | (simp; omega) | omega)
          have kwh_3 := hwh.more (k := wg.heap.size) (by first | assumption | (simp; done) | (simp; omega) | omega)
          obtain ⟨cwh_3, fwh_3⟩ := hwh.row (k := wg.heap.size) (by first | assumption | (simp; done) | (simp; omega) | omega)
          go_wp2_with fail
          refine (nwb_zero (rdaV r off data fin) (off + (data.size : Int)) hgY.out ay cy _ ?_ okx (by omega)).mono ?_
          · exact hy.out.ext (by repeat (first | with_reducible exact Ext.refl _ | with_reducible assumption | with_reducible refine Ext.alloc ?_ _ | with_reducible refine Ext.drew ?_ | ((with_reducible refine Ext.set ?_ ?_ _); (focus (first | (simp; done) | (simp; omega) | omega))) | with_reducible refine Ext.trans ?_ hwh | with_reducible refine Ext.trans ?_ hwg | with_reducible refine Ext.trans ?_ hwf | with_reducible refine Ext.trans ?_ hwd | with_reducible refine Ext.trans ?_ hwb | with_reducible refine Ext.trans ?_ hwa | with_reducible refine Ext.trans ?_ hw3 | with_reducible refine Ext.trans ?_ hw2 | with_reducible refine Ext.trans ?_ hw1))
          rintro en wi ⟨rfl, hwi⟩
          have xwi : Ext w wi := (by repeat (first | with_reducible exact Ext.refl _ | with_reducible assumption | with_reducible refine Ext.alloc ?_ _ | with_reducible refine Ext.drew ?_ | with_reducible refine Ext.drewN ?_ _ | ((with_reducible refine Ext.set ?_ ?_ _); (focus (first | (simp; done) | (simp; omega)))) | with_reducible refine Ext.trans ?_ (by assumption)))
          have kwi_0 := hwi.more (k := w1.heap.size) (by first | assumption | (simp; done) | (simp; omega) | omega)
          obtain ⟨cwi_0, fwi_0⟩ := hwi.row (k := w1.heap.size) (by first | assumption | (simp; done) | (simp; omega) | omega)
          have kwi_1 := hwi.more (k := w2.heap.size) (by first | assumption | (simp; done) | (simp; omega) | omega)
          obtain ⟨cwi_1, fwi_1⟩ := hwi.row (k := w2.heap.size) (by first | assumption | (simp; done) | (simp; omega) | omega)
          have kwi_2 := hwi.more (k := w3.heap.size) (by first | assumption | (simp; done) | (simp; omega) | omega)
          obtain ⟨cwi_2, fwi_2⟩ := hwi.row (k := w3.heap.size) (by first | assumption | (simp; done) | (simp; omega) | omega)
          have kwi_3 := hwi.more (k := wg.heap.size) (by first | assumption | (simp; done) | (simp; omega) | omega)
          obtain ⟨cwi_3, fwi_3⟩ := hwi.row (k := wg.heap.size) (by first | assumption | (simp; done) | (simp; omega) | omega)
          go_wp2_with fail
          go_meet
          exact (by repeat (first | with_reducible exact Ext.refl _ | with_reducible assumption | with_reducible refine Ext.alloc ?_ _ | with_reducible refine Ext.drew ?_ | with_reducible refine Ext.drewN ?_ _ | ((with_reducible refine Ext.set ?_ ?_ _); (focus (first | (simp; done) | (simp; omega)))) | with_reducible refine Ext.trans ?_ (by assumption)))
    case rest =>
      clear hwb xwb hwa hr hx hy okx okr cwb_0 fwb_0 kwb_0 cwa_0 fwa_0 kwa_0 cwb_1 fwb_1 kwb_1 cwa_1 fwa_1 kwa_1 cwb_2 fwb_2 kwb_2 cwa_2 fwa_2 kwa_2
      go_wp2_with fail
      refine (DrawNewBytes_any _ _ (hc.grown hcut)).mono ?_
      rintro en w11 ⟨u, au, cu, nb, rfl, hnb, oku, ownu, hw11⟩
      have xw11 : Ext w w11 := (by repeat (first | with_reducible exact Ext.refl _ | with_reducible assumption | with_reducible refine Ext.alloc ?_ _ | with_reducible refine Ext.drew ?_ | with_reducible refine Ext.drewN ?_ _ | ((with_reducible refine Ext.set ?_ ?_ _); (focus (first | (simp; done) | (simp; omega)))) | with_reducible refine Ext.trans ?_ (by assumption)))
      have hu := hide ownu.read
      clear ownu
      go_wp2_with fail
      refine (DrawEqualReceivers_any _ _ (hc.grown (Ext.alloc xw11 _))).mono ?_
      rintro en w12 ⟨p, ap, cp, q, aq, cq, rfl, okp, okq, ownp, ownq, hw12⟩
      have xw12 : Ext w w12 := (by repeat (first | with_reducible exact Ext.refl _ | with_reducible assumption | with_reducible refine Ext.alloc ?_ _ | with_reducible refine Ext.drew ?_ | with_reducible refine Ext.drewN ?_ _ | ((with_reducible refine Ext.set ?_ ?_ _); (focus (first | (simp; done) | (simp; omega)))) | with_reducible refine Ext.trans ?_ (by assumption)))
      have kw12_0 := hw12.more (k := w11.heap.size) (by first | assumption | (simp; done) | (simp; omega) | omega)
      obtain ⟨cw12_0, fw12_0⟩ := hw12.row (k := w11.heap.size) (by first | assumption | (simp; done) | (simp; omega) | omega)
      have hp := hide ownp.read
      have hq := hide ownq.read
      clear ownp ownq
      go_wp2_with fail
      refine (DrawRecvName_any _ _ (hc.grown (Ext.alloc (Ext.alloc xw12 _) _))).mono ?_
      rintro en w13 ⟨k, rfl, hw13⟩
      have xw13 : Ext w w13 := (by repeat (first | with_reducible exact Ext.refl _ | with_reducible assumption | with_reducible refine Ext.alloc ?_ _ | with_reducible refine Ext.drew ?_ | with_reducible refine Ext.drewN ?_ _ | ((with_reducible refine Ext.set ?_ ?_ _); (focus (first | (simp; done) | (simp; omega)))) | with_reducible refine Ext.trans ?_ (by assumption)))
      have kw13_0 := hw13.more (k := w11.heap.size) (by first | assumption | (simp; done) | (simp; omega) | omega)
      obtain ⟨cw13_0, fw13_0⟩ := hw13.row (k := w11.heap.size) (by first | assumption | (simp; done) | (simp; omega) | omega)
      have kw13_1 := hw13.more (k := w12.heap.size) (by first | assumption | (simp; done) | (simp; omega) | omega)
      obtain ⟨cw13_1, fw13_1⟩ := hw13.row (k := w12.heap.size) (by first | assumption | (simp; done) | (simp; omega) | omega)
      have kw13_2 := hw13.more (k := w12.heap.size + 1) (by first | assumption | (simp; done) | (simp; omega) | omega)
      obtain ⟨cw13_2, fw13_2⟩ := hw13.row (k := w12.heap.size + 1) (by first | assumption | (simp; done) | (simp; omega) | omega)
      have scz_0 := fun (ws : World) (hws : Ext w13 ws) => eqr_spec p q ap aq cp cq ws (hp.out.ext (Ext.trans (by repeat (first | with_reducible exact Ext.refl _ | with_reducible assumption | with_reducible refine Ext.alloc ?_ _ | with_reducible refine Ext.drew ?_ | ((with_reducible refine Ext.set ?_ ?_ _); (focus (first | (simp; done) | (simp; omega) | omega))) | with_reducible refine Ext.trans ?_ hw13 | with_reducible refine Ext.trans ?_ hw12 | with_reducible refine Ext.trans ?_ hw11 | with_reducible refine Ext.trans ?_ hcut)) hws)) (hq.out.ext (Ext.trans (by repeat (first | with_reducible exact Ext.refl _ | with_reducible assumption | with_reducible refine Ext.alloc ?_ _ | with_reducible refine Ext.drew ?_ | ((with_reducible refine Ext.set ?_ ?_ _); (focus (first | (simp; done) | (simp; omega) | omega))) | with_reducible refine Ext.trans ?_ hw13 | with_reducible refine Ext.trans ?_ hw12 | with_reducible refine Ext.trans ?_ hw11 | with_reducible refine Ext.trans ?_ hcut)) hws)) okp (by omega)
      have scz_1 := fun (ws : World) (hws : Ext w13 ws) => eqr_new ws
      have scz_2 := fun (ws : World) (hws : Ext w13 ws) => eqr_impl p q ap aq cp cq ws (hp.out.ext (Ext.trans (by repeat (first | with_reducible exact Ext.refl _ | with_reducible assumption | with_reducible refine Ext.alloc ?_ _ | with_reducible refine Ext.drew ?_ | ((with_reducible refine Ext.set ?_ ?_ _); (focus (first | (simp; done) | (simp; omega) | omega))) | with_reducible refine Ext.trans ?_ hw13 | with_reducible refine Ext.trans ?_ hw12 | with_reducible refine Ext.trans ?_ hw11 | with_reducible refine Ext.trans ?_ hcut)) hws)) (hq.out.ext (Ext.trans (by repeat (first | with_reducible exact Ext.refl _ | with_reducible assumption | with_reducible refine Ext.alloc ?_ _ | with_reducible refine Ext.drew ?_ | ((with_reducible refine Ext.set ?_ ?_ _); (focus (first | (simp; done) | (simp; omega) | omega))) | with_reducible refine Ext.trans ?_ hw13 | with_reducible refine Ext.trans ?_ hw12 | with_reducible refine Ext.trans ?_ hw11 | with_reducible refine Ext.trans ?_ hcut)) hws)) okp (by omega)
      have scz_3 := fun (ws : World) (hws : Ext w13 ws) => NewReceiver_impl ws
      have scz_4 := fun (ws : World) (hws : Ext w13 ws) => NewReceiver_spec ws
      have scz_5 := fun (ws : World) (hws : Ext w13 ws) => RecvName_impl k ws
      have scz_6 := fun (ws : World) (hws : Ext w13 ws) => RecvName_spec k ws
      have scz_7 := fun (ws : World) (hws : Ext w13 ws) => nwb_impl u nb au cu ws (hu.out.ext (Ext.trans (by repeat (first | with_reducible exact Ext.refl _ | with_reducible assumption | with_reducible refine Ext.alloc ?_ _ | with_reducible refine Ext.drew ?_ | ((with_reducible refine Ext.set ?_ ?_ _); (focus (first | (simp; done) | (simp; omega) | omega))) | with_reducible refine Ext.trans ?_ hw13 | with_reducible refine Ext.trans ?_ hw12 | with_reducible refine Ext.trans ?_ hw11 | with_reducible refine Ext.trans ?_ hcut)) hws)) oku (by omega)
      have scz_8 := fun (ws : World) (hws : Ext w13 ws) => isd_impl u au cu ws (hu.out.ext (Ext.trans (by repeat (first | with_reducible exact Ext.refl _ | with_reducible assumption | with_reducible refine Ext.alloc ?_ _ | with_reducible refine Ext.drew ?_ | ((with_reducible refine Ext.set ?_ ?_ _); (focus (first | (simp; done) | (simp; omega) | omega))) | with_reducible refine Ext.trans ?_ hw13 | with_reducible refine Ext.trans ?_ hw12 | with_reducible refine Ext.trans ?_ hw11 | with_reducible refine Ext.trans ?_ hcut)) hws)) oku (by omega)
      have scz_9 := fun (ws : World) (hws : Ext w13 ws) => nwb_spec u nb au cu ws (hu.out.ext (Ext.trans (by repeat (first | with_reducible exact Ext.refl _ | with_reducible assumption | with_reducible refine Ext.alloc ?_ _ | with_reducible refine Ext.drew ?_ | ((with_reducible refine Ext.set ?_ ?_ _); (focus (first | (simp; done) | (simp; omega) | omega))) | with_reducible refine Ext.trans ?_ hw13 | with_reducible refine Ext.trans ?_ hw12 | with_reducible refine Ext.trans ?_ hw11 | with_reducible refine Ext.trans ?_ hcut)) hws)) oku (by omega)
      have scz_10 := fun (ws : World) (hws : Ext w13 ws) => isd_spec u au cu ws (hu.out.ext (Ext.trans (by repeat (first | with_reducible exact Ext.refl _ | with_reducible assumption | with_reducible refine Ext.alloc ?_ _ | with_reducible refine Ext.drew ?_ | ((with_reducible refine Ext.set ?_ ?_ _); (focus (first | (simp; done) | (simp; omega) | omega))) | with_reducible refine Ext.trans ?_ hw13 | with_reducible refine Ext.trans ?_ hw12 | with_reducible refine Ext.trans ?_ hw11 | with_reducible refine Ext.trans ?_ hcut)) hws)) oku (by omega)
      go_wp2_with fail
      refine wp_region_seq (Ext _) (by kernel_rfl) (by kernel_rfl) ((Ext.refl _).drew) ?_
      (refine wpSeqS_plain (v := ?_) rfl (by rfl) ?_ ?_; rotate_left; (focus (intro ws hws; obtain ⟨q0, p0⟩ := hws.row (k := w11.heap.size) (by first | assumption | (simp; done) | (simp; omega) | omega); go_simp; (try with_reducible rfl); done)))
      try simp only [Act.put, List.getElem_toArray, List.getElem_cons_zero, List.getElem_cons_succ, List.setIfInBounds_toArray, List.set_cons_zero, List.set_cons_succ]
      (refine wpSeqS_plain (v := ?_) rfl (by rfl) ?_ ?_; rotate_left; (focus (intro ws hws; go_simp; (try with_reducible rfl); done)))
      try simp only [Act.put, List.getElem_toArray, List.getElem_cons_zero, List.getElem_cons_succ, List.setIfInBounds_toArray, List.set_cons_zero, List.set_cons_succ]
      (refine wpSeqS_call (v := ?_) 29 ?_ rfl (by rfl) ?_ ?_ ?_; rotate_left; rotate_left; (focus (intro ws hws; go_simp; (try with_reducible rfl); done)); (focus (intro ws hws; refine (scz_7 ws (Ext.trans (by repeat (first | with_reducible exact Ext.refl _ | with_reducible assumption | with_reducible refine Ext.alloc ?_ _ | with_reducible refine Ext.drew ?_ | ((with_reducible refine Ext.set ?_ ?_ _); (focus (first | (simp; done) | (simp; omega) | omega))))) hws)).mono ?_; rintro e w' ⟨rfl, h2⟩; refine ⟨?_, hws.trans h2⟩; (try simp only [*]); (try with_reducible rfl); done)))
      try simp only [Act.put, List.getElem_toArray, List.getElem_cons_zero, List.getElem_cons_succ, List.setIfInBounds_toArray, List.set_cons_zero, List.set_cons_succ]
      (refine wpSeqS_plain (v := ?_) rfl (by rfl) ?_ ?_; rotate_left; (focus (intro ws hws; obtain ⟨q0, p0⟩ := hws.row (k := w11.heap.size) (by first | assumption | (simp; done) | (simp; omega) | omega); go_simp; (try with_reducible rfl); done)))
      try simp only [Act.put, List.getElem_toArray, List.getElem_cons_zero, List.getElem_cons_succ, List.setIfInBounds_toArray, List.set_cons_zero, List.set_cons_succ]
      (refine wpSeqS_plain (v := ?_) rfl (by rfl) ?_ ?_; rotate_left; (focus (intro ws hws; go_simp; (try with_reducible rfl); done)))
      try simp only [Act.put, List.getElem_toArray, List.getElem_cons_zero, List.getElem_cons_succ, List.setIfInBounds_toArray, List.set_cons_zero, List.set_cons_succ]
      (refine wpSeqS_call (v := ?_) 28 ?_ rfl (by rfl) ?_ ?_ ?_; rotate_left; rotate_left; (focus (intro ws hws; go_simp; (try with_reducible rfl); done)); (focus (intro ws hws; refine (scz_9 ws (Ext.trans (by repeat (first | with_reducible exact Ext.refl _ | with_reducible assumption | with_reducible refine Ext.alloc ?_ _ | with_reducible refine Ext.drew ?_ | ((with_reducible refine Ext.set ?_ ?_ _); (focus (first | (simp; done) | (simp; omega) | omega))))) hws)).mono ?_; rintro e w' ⟨rfl, h2⟩; refine ⟨?_, hws.trans h2⟩; (try simp only [*]); (try with_reducible rfl); done)))
      try simp only [Act.put, List.getElem_toArray, List.getElem_cons_zero, List.getElem_cons_succ, List.setIfInBounds_toArray, List.set_cons_zero, List.set_cons_succ]
      (refine wpSeqS_plain (v := ?_) rfl (by rfl) ?_ ?_; rotate_left; (focus (intro ws hws; go_simp; (try with_reducible rfl); done)))
      try simp only [Act.put, List.getElem_toArray, List.getElem_cons_zero, List.getElem_cons_succ, List.setIfInBounds_toArray, List.set_cons_zero, List.set_cons_succ]
      (refine wpSeqS_plain (v := ?_) rfl (by rfl) ?_ ?_; rotate_left; (focus (intro ws hws; go_simp; (try with_reducible rfl); done)))
      try simp only [Act.put, List.getElem_toArray, List.getElem_cons_zero, List.getElem_cons_succ, List.setIfInBounds_toArray, List.set_cons_zero, List.set_cons_succ]
      (refine wpSeqS_plain (v := ?_) rfl (by rfl) ?_ ?_; rotate_left; (focus (intro ws hws; obtain ⟨q0, p0⟩ := hws.row (k := w12.heap.size) (by first | assumption | (simp; done) | (simp; omega) | omega); go_simp; (try with_reducible rfl); done)))
      try simp only [Act.put, List.getElem_toArray, List.getElem_cons_zero, List.getElem_cons_succ, List.setIfInBounds_toArray, List.set_cons_zero, List.set_cons_succ]
      (refine wpSeqS_plain (v := ?_) rfl (by rfl) ?_ ?_; rotate_left; (focus (intro ws hws; obtain ⟨q0, p0⟩ := hws.row (k := w12.heap.size + 1) (by first | assumption | (simp; done) | (simp; omega) | omega); go_simp; (try with_reducible rfl); done)))
      try simp only [Act.put, List.getElem_toArray, List.getElem_cons_zero, List.getElem_cons_succ, List.setIfInBounds_toArray, List.set_cons_zero, List.set_cons_succ]
      (refine wpSeqS_call (v := ?_) 23 ?_ rfl (by rfl) ?_ ?_ ?_; rotate_left; rotate_left; (focus (intro ws hws; go_simp; (try with_reducible rfl); done)); (focus (intro ws hws; refine (scz_2 ws (Ext.trans (by repeat (first | with_reducible exact Ext.refl _ | with_reducible assumption | with_reducible refine Ext.alloc ?_ _ | with_reducible refine Ext.drew ?_ | ((with_reducible refine Ext.set ?_ ?_ _); (focus (first | (simp; done) | (simp; omega) | omega))))) hws)).mono ?_; rintro e w' ⟨rfl, h2⟩; refine ⟨?_, hws.trans h2⟩; (try simp only [*]); (try with_reducible rfl); done)))
      try simp only [Act.put, List.getElem_toArray, List.getElem_cons_zero, List.getElem_cons_succ, List.setIfInBounds_toArray, List.set_cons_zero, List.set_cons_succ]
      (refine wpSeqS_plain (v := ?_) rfl (by rfl) ?_ ?_; rotate_left; (focus (intro ws hws; obtain ⟨q0, p0⟩ := hws.row (k := w12.heap.size) (by first | assumption | (simp; done) | (simp; omega) | omega); go_simp; (try with_reducible rfl); done)))
      try simp only [Act.put, List.getElem_toArray, List.getElem_cons_zero, List.getElem_cons_succ, List.setIfInBounds_toArray, List.set_cons_zero, List.set_cons_succ]
      (refine wpSeqS_plain (v := ?_) rfl (by rfl) ?_ ?_; rotate_left; (focus (intro ws hws; obtain ⟨q0, p0⟩ := hws.row (k := w12.heap.size + 1) (by first | assumption | (simp; done) | (simp; omega) | omega); go_simp; (try with_reducible rfl); done)))
      try simp only [Act.put, List.getElem_toArray, List.getElem_cons_zero, List.getElem_cons_succ, List.setIfInBounds_toArray, List.set_cons_zero, List.set_cons_succ]
      (refine wpSeqS_call (v := ?_) 21 ?_ rfl (by rfl) ?_ ?_ ?_; rotate_left; rotate_left; (focus (intro ws hws; go_simp; (try with_reducible rfl); done)); (focus (intro ws hws; refine (scz_0 ws (Ext.trans (by repeat (first | with_reducible exact Ext.refl _ | with_reducible assumption | with_reducible refine Ext.alloc ?_ _ | with_reducible refine Ext.drew ?_ | ((with_reducible refine Ext.set ?_ ?_ _); (focus (first | (simp; done) | (simp; omega) | omega))))) hws)).mono ?_; rintro e w' ⟨rfl, h2⟩; refine ⟨?_, hws.trans h2⟩; (try simp only [*]); (try with_reducible rfl); done)))
      try simp only [Act.put, List.getElem_toArray, List.getElem_cons_zero, List.getElem_cons_succ, List.setIfInBounds_toArray, List.set_cons_zero, List.set_cons_succ]
      (refine wpSeqS_plain (v := ?_) rfl (by rfl) ?_ ?_; rotate_left; (focus (intro ws hws; go_simp; (try with_reducible rfl); done)))
      try simp only [Act.put, List.getElem_toArray, List.getElem_cons_zero, List.getElem_cons_succ, List.setIfInBounds_toArray, List.set_cons_zero, List.set_cons_succ]
      (refine wpSeqS_plain (v := ?_) rfl (by rfl) ?_ ?_; rotate_left; (focus (intro ws hws; go_simp; (try with_reducible rfl); done)))
      try simp only [Act.put, List.getElem_toArray, List.getElem_cons_zero, List.getElem_cons_succ, List.setIfInBounds_toArray, List.set_cons_zero, List.set_cons_succ]
      (refine wpSeqS_plain (v := ?_) rfl (by rfl) ?_ ?_; rotate_left; (focus (intro ws hws; go_simp; (try with_reducible rfl); done)))
      try simp only [Act.put, List.getElem_toArray, List.getElem_cons_zero, List.getElem_cons_succ, List.setIfInBounds_toArray, List.set_cons_zero, List.set_cons_succ]
      (refine wpSeqS_plain (v := ?_) rfl (by rfl) ?_ ?_; rotate_left; (focus (intro ws hws; go_simp; (try with_reducible rfl); done)))
      try simp only [Act.put, List.getElem_toArray, List.getElem_cons_zero, List.getElem_cons_succ, List.setIfInBounds_toArray, List.set_cons_zero, List.set_cons_succ]
      (refine wpSeqS_call (v := ?_) 43 ?_ rfl (by rfl) ?_ ?_ ?_; rotate_left; rotate_left; (focus (intro ws hws; go_simp; (try with_reducible rfl); done)); (focus (intro ws hws; refine (scz_5 ws (Ext.trans (by repeat (first | with_reducible exact Ext.refl _ | with_reducible assumption | with_reducible refine Ext.alloc ?_ _ | with_reducible refine Ext.drew ?_ | ((with_reducible refine Ext.set ?_ ?_ _); (focus (first | (simp; done) | (simp; omega) | omega))))) hws)).mono ?_; rintro e w' ⟨rfl, h2⟩; refine ⟨?_, hws.trans h2⟩; (try simp only [*]); (try with_reducible rfl); done)))
      try simp only [Act.put, List.getElem_toArray, List.getElem_cons_zero, List.getElem_cons_succ, List.setIfInBounds_toArray, List.set_cons_zero, List.set_cons_succ]
      (refine wpSeqS_plain (v := ?_) rfl (by rfl) ?_ ?_; rotate_left; (focus (intro ws hws; go_simp; (try with_reducible rfl); done)))
      try simp only [Act.put, List.getElem_toArray, List.getElem_cons_zero, List.getElem_cons_succ, List.setIfInBounds_toArray, List.set_cons_zero, List.set_cons_succ]
      (refine wpSeqS_call (v := ?_) 44 ?_ rfl (by rfl) ?_ ?_ ?_; rotate_left; rotate_left; (focus (intro ws hws; go_simp; (try with_reducible rfl); done)); (focus (intro ws hws; refine (scz_6 ws (Ext.trans (by repeat (first | with_reducible exact Ext.refl _ | with_reducible assumption | with_reducible refine Ext.alloc ?_ _ | with_reducible refine Ext.drew ?_ | ((with_reducible refine Ext.set ?_ ?_ _); (focus (first | (simp; done) | (simp; omega) | omega))))) hws)).mono ?_; rintro e w' ⟨rfl, h2⟩; refine ⟨?_, hws.trans h2⟩; (try simp only [*]); (try with_reducible rfl); done)))
      try simp only [Act.put, List.getElem_toArray, List.getElem_cons_zero, List.getElem_cons_succ, List.setIfInBounds_toArray, List.set_cons_zero, List.set_cons_succ]
      (refine wpSeqS_plain (v := ?_) rfl (by rfl) ?_ ?_; rotate_left; (focus (intro ws hws; go_simp; (try with_reducible rfl); done)))
      try simp only [Act.put, List.getElem_toArray, List.getElem_cons_zero, List.getElem_cons_succ, List.setIfInBounds_toArray, List.set_cons_zero, List.set_cons_succ]
      (refine wpSeqS_plain (v := ?_) rfl (by rfl) ?_ ?_; rotate_left; (focus (intro ws hws; go_simp; (try with_reducible rfl); done)))
      try simp only [Act.put, List.getElem_toArray, List.getElem_cons_zero, List.getElem_cons_succ, List.setIfInBounds_toArray, List.set_cons_zero, List.set_cons_succ]
      (refine wpSeqS_plain (v := ?_) rfl (by rfl) ?_ ?_; rotate_left; (focus (intro ws hws; go_simp; (try with_reducible rfl); done)))
      try simp only [Act.put, List.getElem_toArray, List.getElem_cons_zero, List.getElem_cons_succ, List.setIfInBounds_toArray, List.set_cons_zero, List.set_cons_succ]
      (refine wpSeqS_plain (v := ?_) rfl (by rfl) ?_ ?_; rotate_left; (focus (intro ws hws; obtain ⟨q0, p0⟩ := hws.row (k := w11.heap.size) (by first | assumption | (simp; done) | (simp; omega) | omega); go_simp; (try with_reducible rfl); done)))
      try simp only [Act.put, List.getElem_toArray, List.getElem_cons_zero, List.getElem_cons_succ, List.setIfInBounds_toArray, List.set_cons_zero, List.set_cons_succ]
      (refine wpSeqS_call (v := ?_) 27 ?_ rfl (by rfl) ?_ ?_ ?_; rotate_left; rotate_left; (focus (intro ws hws; go_simp; (try with_reducible rfl); done)); (focus (intro ws hws; refine (scz_8 ws (Ext.trans (by repeat (first | with_reducible exact Ext.refl _ | with_reducible assumption | with_reducible refine Ext.alloc ?_ _ | with_reducible refine Ext.drew ?_ | ((with_reducible refine Ext.set ?_ ?_ _); (focus (first | (simp; done) | (simp; omega) | omega))))) hws)).mono ?_; rintro e w' ⟨rfl, h2⟩; refine ⟨?_, hws.trans h2⟩; (try simp only [*]); (try with_reducible rfl); done)))
      try simp only [Act.put, List.getElem_toArray, List.getElem_cons_zero, List.getElem_cons_succ, List.setIfInBounds_toArray, List.set_cons_zero, List.set_cons_succ]
      (refine wpSeqS_plain (v := ?_) rfl (by rfl) ?_ ?_; rotate_left; (focus (intro ws hws; obtain ⟨q0, p0⟩ := hws.row (k := w11.heap.size) (by first | assumption | (simp; done) | (simp; omega) | omega); go_simp; (try with_reducible rfl); done)))
      try simp only [Act.put, List.getElem_toArray, List.getElem_cons_zero, List.getElem_cons_succ, List.setIfInBounds_toArray, List.set_cons_zero, List.set_cons_succ]
      (refine wpSeqS_call (v := ?_) 26 ?_ rfl (by rfl) ?_ ?_ ?_; rotate_left; rotate_left; (focus (intro ws hws; go_simp; (try with_reducible rfl); done)); (focus (intro ws hws; refine (scz_10 ws (Ext.trans (by repeat (first | with_reducible exact Ext.refl _ | with_reducible assumption | with_reducible refine Ext.alloc ?_ _ | with_reducible refine Ext.drew ?_ | ((with_reducible refine Ext.set ?_ ?_ _); (focus (first | (simp; done) | (simp; omega) | omega))))) hws)).mono ?_; rintro e w' ⟨rfl, h2⟩; refine ⟨?_, hws.trans h2⟩; (try simp only [*]); (try with_reducible rfl); done)))
      try simp only [Act.put, List.getElem_toArray, List.getElem_cons_zero, List.getElem_cons_succ, List.setIfInBounds_toArray, List.set_cons_zero, List.set_cons_succ]
      (refine wpSeqS_plain (v := ?_) rfl (by rfl) ?_ ?_; rotate_left; (focus (intro ws hws; go_simp; (try with_reducible rfl); done)))
      try simp only [Act.put, List.getElem_toArray, List.getElem_cons_zero, List.getElem_cons_succ, List.setIfInBounds_toArray, List.set_cons_zero, List.set_cons_succ]
      (refine wpSeqS_plain (v := ?_) rfl (by rfl) ?_ ?_; rotate_left; (focus (intro ws hws; go_simp; (try with_reducible rfl); done)))
      try simp only [Act.put, List.getElem_toArray, List.getElem_cons_zero, List.getElem_cons_succ, List.setIfInBounds_toArray, List.set_cons_zero, List.set_cons_succ]
      (refine wpSeqS_plain (v := ?_) rfl (by rfl) ?_ ?_; rotate_left; (focus (intro ws hws; go_simp; (try with_reducible rfl); done)))
      try simp only [Act.put, List.getElem_toArray, List.getElem_cons_zero, List.getElem_cons_succ, List.setIfInBounds_toArray, List.set_cons_zero, List.set_cons_succ]
      (refine wpSeqS_call (v := ?_) 16 ?_ rfl (by rfl) ?_ ?_ ?_; rotate_left; rotate_left; (focus (intro ws hws; go_simp; (try with_reducible rfl); done)); (focus (intro ws hws; refine (scz_3 ws (Ext.trans (by repeat (first | with_reducible exact Ext.refl _ | with_reducible assumption | with_reducible refine Ext.alloc ?_ _ | with_reducible refine Ext.drew ?_ | ((with_reducible refine Ext.set ?_ ?_ _); (focus (first | (simp; done) | (simp; omega) | omega))))) hws)).mono ?_; rintro e w' ⟨rfl, h2⟩; refine ⟨?_, hws.trans h2⟩; (try simp only [*]); (try with_reducible rfl); done)))
      try simp only [Act.put, List.getElem_toArray, List.getElem_cons_zero, List.getElem_cons_succ, List.setIfInBounds_toArray, List.set_cons_zero, List.set_cons_succ]
      (refine wpSeqS_call (v := ?_) 15 ?_ rfl (by rfl) ?_ ?_ ?_; rotate_left; rotate_left; (focus (intro ws hws; go_simp; (try with_reducible rfl); done)); (focus (intro ws hws; refine (scz_4 ws (Ext.trans (by repeat (first | with_reducible exact Ext.refl _ | with_reducible assumption | with_reducible refine Ext.alloc ?_ _ | with_reducible refine Ext.drew ?_ | ((with_reducible refine Ext.set ?_ ?_ _); (focus (first | (simp; done) | (simp; omega) | omega))))) hws)).mono ?_; rintro e w' ⟨rfl, h2⟩; refine ⟨?_, hws.trans h2⟩; (try simp only [*]); (try with_reducible rfl); done)))
      try simp only [Act.put, List.getElem_toArray, List.getElem_cons_zero, List.getElem_cons_succ, List.setIfInBounds_toArray, List.set_cons_zero, List.set_cons_succ]
      (refine wpSeqS_call (v := ?_) 21 ?_ rfl (by rfl) ?_ ?_ ?_; rotate_left; rotate_left; (focus (intro ws hws; go_simp; (try with_reducible rfl); done)); (focus (intro ws hws; refine (scz_1 ws (Ext.trans (by repeat (first | with_reducible exact Ext.refl _ | with_reducible assumption | with_reducible refine Ext.alloc ?_ _ | with_reducible refine Ext.drew ?_ | ((with_reducible refine Ext.set ?_ ?_ _); (focus (first | (simp; done) | (simp; omega) | omega))))) hws)).mono ?_; rintro e w' ⟨rfl, h2⟩; refine ⟨?_, hws.trans h2⟩; (try simp only [*]); (try with_reducible rfl); done)))
      try simp only [Act.put, List.getElem_toArray, List.getElem_cons_zero, List.getElem_cons_succ, List.setIfInBounds_toArray, List.set_cons_zero, List.set_cons_succ]
      (refine wpSeqS_plain (v := ?_) rfl (by rfl) ?_ ?_; rotate_left; (focus (intro ws hws; go_simp; (try with_reducible rfl); done)))
      try simp only [Act.put, List.getElem_toArray, List.getElem_cons_zero, List.getElem_cons_succ, List.setIfInBounds_toArray, List.set_cons_zero, List.set_cons_succ]
      (refine wpSeqS_plain (v := ?_) rfl (by rfl) ?_ ?_; rotate_left; (focus (intro ws hws; go_simp; (try with_reducible rfl); done)))
      try simp only [Act.put, List.getElem_toArray, List.getElem_cons_zero, List.getElem_cons_succ, List.setIfInBounds_toArray, List.set_cons_zero, List.set_cons_succ]
      refine wpSeqS_done (by kernel_rfl) (fun wz hwz => ?_)
      go_wp2
      go_ret
      exact ⟨rfl, xw13.trans (by repeat (first | with_reducible exact Ext.refl _ | with_reducible assumption | with_reducible refine Ext.alloc ?_ _ | with_reducible refine Ext.drew ?_ | ((with_reducible refine Ext.set ?_ ?_ _); (focus (first | (simp; done) | (simp; omega) | omega))) | with_reducible refine Ext.trans ?_ hwz))⟩
/-! ### the row of FnReceivers -/
theorem receivers_reads : ∀ t ∈ Try.f13.params.toList, Try.prog.readableRec t = true ∧ t < Try.prog.types.size := by
  rw [Try.params13]
  intro t ht
  simp only [List.mem_cons, List.not_mem_nil, or_false] at ht
  subst ht
  exact ⟨by kernel_rfl, of_decide_eq_true (by kernel_rfl)⟩
set_option maxRecDepth 100000 in
theorem receivers_lifted (os : Os) (started : os.Started) (H : Type) (enc : TypeId × Value → H) :
    ReturnsInHanded {} Try.checked os 13 .any (Rows.fnReceiversSpec.pre6 enc Try.prog Try.f13 Rows.fnReceiversRow.domain false) (Rows.fnReceiversSpec.post enc Try.prog Try.f13 false true false false) := by
  refine returnsInHanded_of_change (C := Try.checked) ownKnobNone started (by kernel_rfl) Try.func13
    (ChangeSpec.witness6 (enc := enc) (C := Try.checked) false ⟨#[], #[.slice none 0 0], []⟩ 8 (by kernel_rfl) (by kernel_rfl) (by kernel_rfl) (by kernel_rfl)) ?_
  intro W base args ds gs before hval0 hW hcnd _
  have hval : ∀ (j : Nat) t v, Try.f13.params[j]? = some t → args[j]? = some v → Value.okWide Try.prog W .any base t v := hval0
  have hW' := hW
  obtain ⟨p, q, hA0, hV, rfl, hfz, hnd⟩ := hW
  have hA : DataW.TrodAll enc Try.prog W 0 (fun _ => true) true Try.f13.params.toList args.toList ds p := hA0
  rw [Try.params13] at hA hval
  obtain ⟨v0, vs0, d0, ds0, p0, q0, hargs, rfl, rfl, h0, r0⟩ := trodAll_cons hA
  obtain ⟨rfl, rfl, rfl⟩ := trodAll_nil r0
  obtain rfl : args = #[v0] := by cases args; simp_all
  obtain ⟨ao, len, cap, rfl, hcode⟩ := open_code Try.underlying49 Try.underlying5 (by kernel_rfl) (hval 0 49 v0 rfl rfl) h0
  refine (receivers_walk ao len cap W hcode).mono fun e W' ⟨he, hg⟩ => ?_
  subst he
  exact ⟨_, rfl, law_post laidOut receivers_reads rfl rfl Try.underlying4 hW' (fun gs h => by subst h; rfl) hg⟩
theorem receivers_over : Rows.fnReceiversRow.holds Try.pinned (OpenSpec.ofChange Rows.fnReceiversSpec) :=
  OpenClaim.holds_of_wide 13 Try.f13 rfl rfl rfl rfl rfl rfl rfl ⟨rfl, rfl, rfl, rfl, rfl⟩ rfl rfl rfl rfl rfl (by kernel_rfl) Try.func13 (by kernel_rfl)
    (of_decide_eq_true (by kernel_rfl)) (by unfold Func.isWrapper; first | (rw [if_pos (by decide +kernel)]; kernel_rfl) | (rw [if_neg (by decide +kernel)]; exact ⟨rfl, rfl⟩))
    (fun os started H enc _ => receivers_lifted os started H enc)
/-- The statement. -/
theorem receivers_holds : Rows.FnReceiversSaid := receivers_over
#print axioms receivers_holds
end Go.Proofs.Ytifhbchlmlaanaa

/-
  The law FnRings holds of every code. No condition.
-/
import Derived.Test.YteebkiochnhnhaaRnV
import Derived.Test.YteebkiochnhnhaaSteady
import Derived.Deep.DeepCutAuto
namespace Go.Proofs.Yteebkiochnhnhaa
open Go.ChangeShapes Go.WideShapes Go.ChangeAt Go.RowKit
set_option linter.unusedSimpArgs false
set_option linter.unusedVariables false
set_option maxHeartbeats 8000000 in
set_option maxRecDepth 100000 in
theorem rings_walk (ao : Option Addr) (len cap : Nat) (w : World) (hc : len ≤ 1048576 → CodeAt w w.heap.size (.slice ao len cap)) :
    Calls Try.prog 10 #[.slice ao len cap] w fun e w' => e = .returned (.bool true) ∧ Ext w w' := by
  by_cases hbig : (1048576 : Int) < len
  · have hbd : decide ((1048576 : Int) < len) = true := decide_eq_true hbig
    go_enter Try.func10, Try.ntmps10
    go_wp2_with fail
    refine (big_any ao len cap _).mono ?_
    rintro e _ ⟨rfl, rfl⟩
    go_wp2
    go_ret
    exact ⟨rfl, Ext.refl _⟩
  have hbd : decide ((1048576 : Int) < len) = false := decide_eq_false hbig
  replace hc := hc (by omega)
  clear hbig
  go_enter Try.func10, Try.ntmps10
  go_wp2_with fail
  refine (big_any ao len cap _).mono ?_
  rintro e _ ⟨rfl, rfl⟩
  go_wp2_with fail
  refine (DrawWriteRing_any _ _ hc).mono ?_
  rintro en w1 ⟨r, ar, cr, d, rfl, hds, okr, own, hw1⟩
  have xw1 : Ext w w1 := (by repeat (first | with_reducible exact Ext.refl _ | with_reducible assumption | with_reducible refine Ext.alloc ?_ _ | with_reducible refine Ext.drew ?_ | with_reducible refine Ext.drewN ?_ _ | ((with_reducible refine Ext.set ?_ ?_ _); (focus (first | (simp; done) | (simp; omega)))) | with_reducible refine Ext.trans ?_ (by assumption)))
  have hr := hide own.read
  clear own
  go_wp2_with fail
  refine (wr_impl r d ar cr _ ?_ okr.len okr.e0 okr.e1).mono ?_
  · exact hr.out.ext (by repeat (first | with_reducible exact Ext.refl _ | with_reducible assumption | with_reducible refine Ext.alloc ?_ _ | with_reducible refine Ext.drew ?_ | ((with_reducible refine Ext.set ?_ ?_ _); (focus (first | (simp; done) | (simp; omega) | omega))) | with_reducible refine Ext.trans ?_ hw1))
  rintro en w2 ⟨ax, cx, rfl, ownx, hw2⟩
  have xw2 : Ext w w2 := (by repeat (first | with_reducible exact Ext.refl _ | with_reducible assumption | with_reducible refine Ext.alloc ?_ _ | with_reducible refine Ext.drew ?_ | with_reducible refine Ext.drewN ?_ _ | ((with_reducible refine Ext.set ?_ ?_ _); (focus (first | (simp; done) | (simp; omega)))) | with_reducible refine Ext.trans ?_ (by assumption)))
  have kw2_0 := hw2.more (k := w1.heap.size) (by first | assumption | (simp; done) | (simp; omega) | omega)
  obtain ⟨cw2_0, fw2_0⟩ := hw2.row (k := w1.heap.size) (by first | assumption | (simp; done) | (simp; omega) | omega)
  have hx := hide ownx.read
  clear ownx
  go_wp2_with fail
  refine (wr_spec r d ar cr _ ?_ okr.len okr.e0 okr.e1).mono ?_
  · exact hr.out.ext (by repeat (first | with_reducible exact Ext.refl _ | with_reducible assumption | with_reducible refine Ext.alloc ?_ _ | with_reducible refine Ext.drew ?_ | ((with_reducible refine Ext.set ?_ ?_ _); (focus (first | (simp; done) | (simp; omega) | omega))) | with_reducible refine Ext.trans ?_ hw2 | with_reducible refine Ext.trans ?_ hw1))
  rintro en w3 ⟨ay, cy, rfl, owny, hw3⟩
  have xw3 : Ext w w3 := (by repeat (first | with_reducible exact Ext.refl _ | with_reducible assumption | with_reducible refine Ext.alloc ?_ _ | with_reducible refine Ext.drew ?_ | with_reducible refine Ext.drewN ?_ _ | ((with_reducible refine Ext.set ?_ ?_ _); (focus (first | (simp; done) | (simp; omega)))) | with_reducible refine Ext.trans ?_ (by assumption)))
  have kw3_0 := hw3.more (k := w1.heap.size) (by first | assumption | (simp; done) | (simp; omega) | omega)
  obtain ⟨cw3_0, fw3_0⟩ := hw3.row (k := w1.heap.size) (by first | assumption | (simp; done) | (simp; omega) | omega)
  have kw3_1 := hw3.more (k := w2.heap.size) (by first | assumption | (simp; done) | (simp; omega) | omega)
  obtain ⟨cw3_1, fw3_1⟩ := hw3.row (k := w2.heap.size) (by first | assumption | (simp; done) | (simp; omega) | omega)
  have hy := hide owny.read
  clear owny
  obtain ⟨wl, we, we0⟩ := okr.wr hds
  have sca_0 := fun (ws : World) (hws : Ext w3 ws) => eqn_same (wrR r d) ax ay cx cy ws (hx.out.ext (Ext.trans (by repeat (first | with_reducible exact Ext.refl _ | with_reducible assumption | with_reducible refine Ext.alloc ?_ _ | with_reducible refine Ext.drew ?_ | ((with_reducible refine Ext.set ?_ ?_ _); (focus (first | (simp; done) | (simp; omega) | omega))) | with_reducible refine Ext.trans ?_ hw3 | with_reducible refine Ext.trans ?_ hw2 | with_reducible refine Ext.trans ?_ hw1)) hws)) (hy.out.ext (Ext.trans (by repeat (first | with_reducible exact Ext.refl _ | with_reducible assumption | with_reducible refine Ext.alloc ?_ _ | with_reducible refine Ext.drew ?_ | ((with_reducible refine Ext.set ?_ ?_ _); (focus (first | (simp; done) | (simp; omega) | omega))) | with_reducible refine Ext.trans ?_ hw3 | with_reducible refine Ext.trans ?_ hw2 | with_reducible refine Ext.trans ?_ hw1)) hws)) wl
  have sca_1 := fun (ws : World) (hws : Ext w3 ws) => isn_impl r ar cr ws (hr.out.ext (Ext.trans (by repeat (first | with_reducible exact Ext.refl _ | with_reducible assumption | with_reducible refine Ext.alloc ?_ _ | with_reducible refine Ext.drew ?_ | ((with_reducible refine Ext.set ?_ ?_ _); (focus (first | (simp; done) | (simp; omega) | omega))) | with_reducible refine Ext.trans ?_ hw3 | with_reducible refine Ext.trans ?_ hw2 | with_reducible refine Ext.trans ?_ hw1)) hws)) okr
  have sca_2 := fun (ws : World) (hws : Ext w3 ws) => isn_spec r ar cr ws (hr.out.ext (Ext.trans (by repeat (first | with_reducible exact Ext.refl _ | with_reducible assumption | with_reducible refine Ext.alloc ?_ _ | with_reducible refine Ext.drew ?_ | ((with_reducible refine Ext.set ?_ ?_ _); (focus (first | (simp; done) | (simp; omega) | omega))) | with_reducible refine Ext.trans ?_ hw3 | with_reducible refine Ext.trans ?_ hw2 | with_reducible refine Ext.trans ?_ hw1)) hws)) okr
  have sca_3 := fun (ws : World) (hws : Ext w3 ws) => rmn_impl r ar cr ws (hr.out.ext (Ext.trans (by repeat (first | with_reducible exact Ext.refl _ | with_reducible assumption | with_reducible refine Ext.alloc ?_ _ | with_reducible refine Ext.drew ?_ | ((with_reducible refine Ext.set ?_ ?_ _); (focus (first | (simp; done) | (simp; omega) | omega))) | with_reducible refine Ext.trans ?_ hw3 | with_reducible refine Ext.trans ?_ hw2 | with_reducible refine Ext.trans ?_ hw1)) hws)) okr
  have sca_4 := fun (ws : World) (hws : Ext w3 ws) => rmn_spec r ar cr ws (hr.out.ext (Ext.trans (by repeat (first | with_reducible exact Ext.refl _ | with_reducible assumption | with_reducible refine Ext.alloc ?_ _ | with_reducible refine Ext.drew ?_ | ((with_reducible refine Ext.set ?_ ?_ _); (focus (first | (simp; done) | (simp; omega) | omega))) | with_reducible refine Ext.trans ?_ hw3 | with_reducible refine Ext.trans ?_ hw2 | with_reducible refine Ext.trans ?_ hw1)) hws)) okr
  go_wp2_with fail
  refine wp_region_seq (Ext _) (by kernel_rfl) (by kernel_rfl) ((Ext.refl _).drew) ?_
  (refine wpSeqS_plain (v := ?_) rfl (by rfl) ?_ ?_; rotate_left; (focus (intro ws hws; go_simp; (try with_reducible rfl); done)))
  try simp only [Act.put, List.getElem_toArray, List.getElem_cons_zero, List.getElem_cons_succ, List.setIfInBounds_toArray, List.set_cons_zero, List.set_cons_succ]
  (refine wpSeqS_plain (v := ?_) rfl (by rfl) ?_ ?_; rotate_left; (focus (intro ws hws; go_simp; (try with_reducible rfl); done)))
  try simp only [Act.put, List.getElem_toArray, List.getElem_cons_zero, List.getElem_cons_succ, List.setIfInBounds_toArray, List.set_cons_zero, List.set_cons_succ]
  (refine wpSeqS_plain (v := ?_) rfl (by rfl) ?_ ?_; rotate_left; (focus (intro ws hws; go_simp; (try with_reducible rfl); done)))
  try simp only [Act.put, List.getElem_toArray, List.getElem_cons_zero, List.getElem_cons_succ, List.setIfInBounds_toArray, List.set_cons_zero, List.set_cons_succ]
  (refine wpSeqS_plain (v := ?_) rfl (by rfl) ?_ ?_; rotate_left; (focus (intro ws hws; go_simp; (try with_reducible rfl); done)))
  try simp only [Act.put, List.getElem_toArray, List.getElem_cons_zero, List.getElem_cons_succ, List.setIfInBounds_toArray, List.set_cons_zero, List.set_cons_succ]
  (refine wpSeqS_plain (v := ?_) rfl (by rfl) ?_ ?_; rotate_left; (focus (intro ws hws; obtain ⟨q0, p0⟩ := hws.row (k := w2.heap.size) (by first | assumption | (simp; done) | (simp; omega) | omega); go_simp; (try with_reducible rfl); done)))
  try simp only [Act.put, List.getElem_toArray, List.getElem_cons_zero, List.getElem_cons_succ, List.setIfInBounds_toArray, List.set_cons_zero, List.set_cons_succ]
  (refine wpSeqS_plain (v := ?_) rfl (by rfl) ?_ ?_; rotate_left; (focus (intro ws hws; obtain ⟨q0, p0⟩ := hws.row (k := w3.heap.size) (by first | assumption | (simp; done) | (simp; omega) | omega); go_simp; (try with_reducible rfl); done)))
  try simp only [Act.put, List.getElem_toArray, List.getElem_cons_zero, List.getElem_cons_succ, List.setIfInBounds_toArray, List.set_cons_zero, List.set_cons_succ]
  (refine wpSeqS_call (v := ?_) 17 ?_ rfl (by rfl) ?_ ?_ ?_; rotate_left; rotate_left; (focus (intro ws hws; go_simp; (try with_reducible rfl); done)); (focus (intro ws hws; refine (sca_0 ws (Ext.trans (by repeat (first | with_reducible exact Ext.refl _ | with_reducible assumption | with_reducible refine Ext.alloc ?_ _ | with_reducible refine Ext.drew ?_ | ((with_reducible refine Ext.set ?_ ?_ _); (focus (first | (simp; done) | (simp; omega) | omega))))) hws)).mono ?_; rintro e w' ⟨rfl, h2⟩; refine ⟨?_, hws.trans h2⟩; (try simp only [*]); (try with_reducible rfl); done)))
  try simp only [Act.put, List.getElem_toArray, List.getElem_cons_zero, List.getElem_cons_succ, List.setIfInBounds_toArray, List.set_cons_zero, List.set_cons_succ]
  (refine wpSeqS_plain (v := ?_) rfl (by rfl) ?_ ?_; rotate_left; (focus (intro ws hws; go_simp; (try with_reducible rfl); done)))
  try simp only [Act.put, List.getElem_toArray, List.getElem_cons_zero, List.getElem_cons_succ, List.setIfInBounds_toArray, List.set_cons_zero, List.set_cons_succ]
  (refine wpSeqS_plain (v := ?_) rfl (by rfl) ?_ ?_; rotate_left; (focus (intro ws hws; go_simp; (try with_reducible rfl); done)))
  try simp only [Act.put, List.getElem_toArray, List.getElem_cons_zero, List.getElem_cons_succ, List.setIfInBounds_toArray, List.set_cons_zero, List.set_cons_succ]
  (refine wpSeqS_plain (v := ?_) rfl (by rfl) ?_ ?_; rotate_left; (focus (intro ws hws; go_simp; (try with_reducible rfl); done)))
  try simp only [Act.put, List.getElem_toArray, List.getElem_cons_zero, List.getElem_cons_succ, List.setIfInBounds_toArray, List.set_cons_zero, List.set_cons_succ]
  (refine wpSeqS_plain (v := ?_) rfl (by rfl) ?_ ?_; rotate_left; (focus (intro ws hws; obtain ⟨q0, p0⟩ := hws.row (k := w1.heap.size) (by first | assumption | (simp; done) | (simp; omega) | omega); go_simp; (try with_reducible rfl); done)))
  try simp only [Act.put, List.getElem_toArray, List.getElem_cons_zero, List.getElem_cons_succ, List.setIfInBounds_toArray, List.set_cons_zero, List.set_cons_succ]
  (refine wpSeqS_call (v := ?_) 21 ?_ rfl (by rfl) ?_ ?_ ?_; rotate_left; rotate_left; (focus (intro ws hws; go_simp; (try with_reducible rfl); done)); (focus (intro ws hws; refine (sca_1 ws (Ext.trans (by repeat (first | with_reducible exact Ext.refl _ | with_reducible assumption | with_reducible refine Ext.alloc ?_ _ | with_reducible refine Ext.drew ?_ | ((with_reducible refine Ext.set ?_ ?_ _); (focus (first | (simp; done) | (simp; omega) | omega))))) hws)).mono ?_; rintro e w' ⟨rfl, h2⟩; refine ⟨?_, hws.trans h2⟩; (try simp only [*]); (try with_reducible rfl); done)))
  try simp only [Act.put, List.getElem_toArray, List.getElem_cons_zero, List.getElem_cons_succ, List.setIfInBounds_toArray, List.set_cons_zero, List.set_cons_succ]
  (refine wpSeqS_plain (v := ?_) rfl (by rfl) ?_ ?_; rotate_left; (focus (intro ws hws; obtain ⟨q0, p0⟩ := hws.row (k := w1.heap.size) (by first | assumption | (simp; done) | (simp; omega) | omega); go_simp; (try with_reducible rfl); done)))
  try simp only [Act.put, List.getElem_toArray, List.getElem_cons_zero, List.getElem_cons_succ, List.setIfInBounds_toArray, List.set_cons_zero, List.set_cons_succ]
  (refine wpSeqS_call (v := ?_) 20 ?_ rfl (by rfl) ?_ ?_ ?_; rotate_left; rotate_left; (focus (intro ws hws; go_simp; (try with_reducible rfl); done)); (focus (intro ws hws; refine (sca_2 ws (Ext.trans (by repeat (first | with_reducible exact Ext.refl _ | with_reducible assumption | with_reducible refine Ext.alloc ?_ _ | with_reducible refine Ext.drew ?_ | ((with_reducible refine Ext.set ?_ ?_ _); (focus (first | (simp; done) | (simp; omega) | omega))))) hws)).mono ?_; rintro e w' ⟨rfl, h2⟩; refine ⟨?_, hws.trans h2⟩; (try simp only [*]); (try with_reducible rfl); done)))
  try simp only [Act.put, List.getElem_toArray, List.getElem_cons_zero, List.getElem_cons_succ, List.setIfInBounds_toArray, List.set_cons_zero, List.set_cons_succ]
  (refine wpSeqS_plain (v := ?_) rfl (by rfl) ?_ ?_; rotate_left; (focus (intro ws hws; go_simp; (try with_reducible rfl); done)))
  try simp only [Act.put, List.getElem_toArray, List.getElem_cons_zero, List.getElem_cons_succ, List.setIfInBounds_toArray, List.set_cons_zero, List.set_cons_succ]
  (refine wpSeqS_plain (v := ?_) rfl (by rfl) ?_ ?_; rotate_left; (focus (intro ws hws; go_simp; (try with_reducible rfl); done)))
  try simp only [Act.put, List.getElem_toArray, List.getElem_cons_zero, List.getElem_cons_succ, List.setIfInBounds_toArray, List.set_cons_zero, List.set_cons_succ]
  (refine wpSeqS_plain (v := ?_) rfl (by rfl) ?_ ?_; rotate_left; (focus (intro ws hws; go_simp; (try with_reducible rfl); done)))
  try simp only [Act.put, List.getElem_toArray, List.getElem_cons_zero, List.getElem_cons_succ, List.setIfInBounds_toArray, List.set_cons_zero, List.set_cons_succ]
  (refine wpSeqS_plain (v := ?_) rfl (by rfl) ?_ ?_; rotate_left; (focus (intro ws hws; obtain ⟨q0, p0⟩ := hws.row (k := w1.heap.size) (by first | assumption | (simp; done) | (simp; omega) | omega); go_simp; (try with_reducible rfl); done)))
  try simp only [Act.put, List.getElem_toArray, List.getElem_cons_zero, List.getElem_cons_succ, List.setIfInBounds_toArray, List.set_cons_zero, List.set_cons_succ]
  (refine wpSeqS_call (v := ?_) 23 ?_ rfl (by rfl) ?_ ?_ ?_; rotate_left; rotate_left; (focus (intro ws hws; go_simp; (try with_reducible rfl); done)); (focus (intro ws hws; refine (sca_3 ws (Ext.trans (by repeat (first | with_reducible exact Ext.refl _ | with_reducible assumption | with_reducible refine Ext.alloc ?_ _ | with_reducible refine Ext.drew ?_ | ((with_reducible refine Ext.set ?_ ?_ _); (focus (first | (simp; done) | (simp; omega) | omega))))) hws)).mono ?_; rintro e w' ⟨rfl, h2⟩; refine ⟨?_, hws.trans h2⟩; (try simp only [*]); (try with_reducible rfl); done)))
  try simp only [Act.put, List.getElem_toArray, List.getElem_cons_zero, List.getElem_cons_succ, List.setIfInBounds_toArray, List.set_cons_zero, List.set_cons_succ]
  (refine wpSeqS_plain (v := ?_) rfl (by rfl) ?_ ?_; rotate_left; (focus (intro ws hws; obtain ⟨q0, p0⟩ := hws.row (k := w1.heap.size) (by first | assumption | (simp; done) | (simp; omega) | omega); go_simp; (try with_reducible rfl); done)))
  try simp only [Act.put, List.getElem_toArray, List.getElem_cons_zero, List.getElem_cons_succ, List.setIfInBounds_toArray, List.set_cons_zero, List.set_cons_succ]
  (refine wpSeqS_call (v := ?_) 22 ?_ rfl (by rfl) ?_ ?_ ?_; rotate_left; rotate_left; (focus (intro ws hws; go_simp; (try with_reducible rfl); done)); (focus (intro ws hws; refine (sca_4 ws (Ext.trans (by repeat (first | with_reducible exact Ext.refl _ | with_reducible assumption | with_reducible refine Ext.alloc ?_ _ | with_reducible refine Ext.drew ?_ | ((with_reducible refine Ext.set ?_ ?_ _); (focus (first | (simp; done) | (simp; omega) | omega))))) hws)).mono ?_; rintro e w' ⟨rfl, h2⟩; refine ⟨?_, hws.trans h2⟩; (try simp only [*]); (try with_reducible rfl); done)))
  try simp only [Act.put, List.getElem_toArray, List.getElem_cons_zero, List.getElem_cons_succ, List.setIfInBounds_toArray, List.set_cons_zero, List.set_cons_succ]
  (refine wpSeqS_plain (v := ?_) rfl (by rfl) ?_ ?_; rotate_left; (focus (intro ws hws; go_simp; (try with_reducible rfl); done)))
  try simp only [Act.put, List.getElem_toArray, List.getElem_cons_zero, List.getElem_cons_succ, List.setIfInBounds_toArray, List.set_cons_zero, List.set_cons_succ]
  (refine wpSeqS_plain (v := ?_) rfl (by rfl) ?_ ?_; rotate_left; (focus (intro ws hws; go_simp; (try with_reducible rfl); done)))
  try simp only [Act.put, List.getElem_toArray, List.getElem_cons_zero, List.getElem_cons_succ, List.setIfInBounds_toArray, List.set_cons_zero, List.set_cons_succ]
  refine wpSeqS_done (by kernel_rfl) (fun wa hwa => ?_)
  have xwa : Ext w wa := (by repeat (first | with_reducible exact Ext.refl _ | with_reducible assumption | with_reducible refine Ext.alloc ?_ _ | with_reducible refine Ext.drew ?_ | ((with_reducible refine Ext.set ?_ ?_ _); (focus (first | (simp; done) | (simp; omega) | omega))) | with_reducible refine Ext.trans ?_ hwa | with_reducible refine Ext.trans ?_ hw3 | with_reducible refine Ext.trans ?_ hw2 | with_reducible refine Ext.trans ?_ hw1))
  have kwa_0 := hwa.more (k := w1.heap.size) (by first | assumption | (simp; done) | (simp; omega) | omega)
  obtain ⟨cwa_0, fwa_0⟩ := hwa.row (k := w1.heap.size) (by first | assumption | (simp; done) | (simp; omega) | omega)
  have kwa_1 := hwa.more (k := w2.heap.size) (by first | assumption | (simp; done) | (simp; omega) | omega)
  obtain ⟨cwa_1, fwa_1⟩ := hwa.row (k := w2.heap.size) (by first | assumption | (simp; done) | (simp; omega) | omega)
  have kwa_2 := hwa.more (k := w3.heap.size) (by first | assumption | (simp; done) | (simp; omega) | omega)
  obtain ⟨cwa_2, fwa_2⟩ := hwa.row (k := w3.heap.size) (by first | assumption | (simp; done) | (simp; omega) | omega)
  go_wp2_with fail
  refine (isn_spec r ar cr _ ?_ okr).mono ?_
  · exact hr.out.ext (by repeat (first | with_reducible exact Ext.refl _ | with_reducible assumption | with_reducible refine Ext.alloc ?_ _ | with_reducible refine Ext.drew ?_ | ((with_reducible refine Ext.set ?_ ?_ _); (focus (first | (simp; done) | (simp; omega) | omega))) | with_reducible refine Ext.trans ?_ hwa | with_reducible refine Ext.trans ?_ hw3 | with_reducible refine Ext.trans ?_ hw2 | with_reducible refine Ext.trans ?_ hw1))
  rintro en wb ⟨rfl, hwb⟩
  have xwb : Ext w wb := (by repeat (first | with_reducible exact Ext.refl _ | with_reducible assumption | with_reducible refine Ext.alloc ?_ _ | with_reducible refine Ext.drew ?_ | with_reducible refine Ext.drewN ?_ _ | ((with_reducible refine Ext.set ?_ ?_ _); (focus (first | (simp; done) | (simp; omega)))) | with_reducible refine Ext.trans ?_ (by assumption)))
  have kwb_0 := hwb.more (k := w1.heap.size) (by first | assumption | (simp; done) | (simp; omega) | omega)
  obtain ⟨cwb_0, fwb_0⟩ := hwb.row (k := w1.heap.size) (by first | assumption | (simp; done) | (simp; omega) | omega)
  have kwb_1 := hwb.more (k := w2.heap.size) (by first | assumption | (simp; done) | (simp; omega) | omega)
  obtain ⟨cwb_1, fwb_1⟩ := hwb.row (k := w2.heap.size) (by first | assumption | (simp; done) | (simp; omega) | omega)
  have kwb_2 := hwb.more (k := w3.heap.size) (by first | assumption | (simp; done) | (simp; omega) | omega)
  obtain ⟨cwb_2, fwb_2⟩ := hwb.row (k := w3.heap.size) (by first | assumption | (simp; done) | (simp; omega) | omega)
  generalize hgq : rnIs r = qb
  replace hgq := hide hgq
  go_upto_if 76 with fail
  go_cut [] (fun wx => Ext w wx)
  case first =>
    cases qb
    · go_wp2_with fail
      go_meet
      exact xwb
    obtain ⟨l1, l2, l3, l4⟩ := rings_law (d := d) hgq.out
    have hmin := hide (writeM_eq r.z r.b r.e d r.xs)
    have hbd := isRing_bd hgq.out
    have hm0 := (writeM_eq r.z r.b r.e d r.xs)
    have hrb := roomOf_bd r.z r.b r.e r.xs
    have hwe : (wrR r d).e = r.e + (writeM r.z r.b r.e d r.xs : Nat) := rfl
    have w1_ : IntKind.i64.wrap (r.e - r.b) = r.e - r.b := IntWalk.i64_in _ (by omega)
    have w2_ : IntKind.i64.wrap ((wrR r d).e - r.b) = (wrR r d).e - r.b := IntWalk.i64_in _ (by omega)
    replace hwe := hide hwe
    clear hm0 hrb
    go_wp2_with fail
    refine (pk_impl r r.b (r.e - r.b) ar cr _ ?_ okr.len (by omega)).mono ?_
    · exact hr.out.ext (by repeat (first | with_reducible exact Ext.refl _ | with_reducible assumption | with_reducible refine Ext.alloc ?_ _ | with_reducible refine Ext.drew ?_ | ((with_reducible refine Ext.set ?_ ?_ _); (focus (first | (simp; done) | (simp; omega) | omega))) | with_reducible refine Ext.trans ?_ hwb | with_reducible refine Ext.trans ?_ hwa | with_reducible refine Ext.trans ?_ hw3 | with_reducible refine Ext.trans ?_ hw2 | with_reducible refine Ext.trans ?_ hw1))
    rintro en wc ⟨rfl, hwc⟩
    have xwc : Ext w wc := (by repeat (first | with_reducible exact Ext.refl _ | with_reducible assumption | with_reducible refine Ext.alloc ?_ _ | with_reducible refine Ext.drew ?_ | with_reducible refine Ext.drewN ?_ _ | ((with_reducible refine Ext.set ?_ ?_ _); (focus (first | (simp; done) | (simp; omega)))) | with_reducible refine Ext.trans ?_ (by assumption)))
    have kwc_0 := hwc.more (k := w1.heap.size) (by first | assumption | (simp; done) | (simp; omega) | omega)
    obtain ⟨cwc_0, fwc_0⟩ := hwc.row (k := w1.heap.size) (by first | assumption | (simp; done) | (simp; omega) | omega)
    have kwc_1 := hwc.more (k := w2.heap.size) (by first | assumption | (simp; done) | (simp; omega) | omega)
    obtain ⟨cwc_1, fwc_1⟩ := hwc.row (k := w2.heap.size) (by first | assumption | (simp; done) | (simp; omega) | omega)
    have kwc_2 := hwc.more (k := w3.heap.size) (by first | assumption | (simp; done) | (simp; omega) | omega)
    obtain ⟨cwc_2, fwc_2⟩ := hwc.row (k := w3.heap.size) (by first | assumption | (simp; done) | (simp; omega) | omega)
    go_wp2_with fail
    refine (pk_impl (wrR r d) r.b ((wrR r d).e - r.b) ay cy _ ?_ wl (by omega)).mono ?_
    · exact hy.out.ext (by repeat (first | with_reducible exact Ext.refl _ | with_reducible assumption | with_reducible refine Ext.alloc ?_ _ | with_reducible refine Ext.drew ?_ | ((with_reducible refine Ext.set ?_ ?_ _); (focus (first | (simp; done) | (simp; omega) | omega))) | with_reducible refine Ext.trans ?_ hwc | with_reducible refine Ext.trans ?_ hwb | with_reducible refine Ext.trans ?_ hwa | with_reducible refine Ext.trans ?_ hw3 | with_reducible refine Ext.trans ?_ hw2 | with_reducible refine Ext.trans ?_ hw1))
    rintro en wd ⟨rfl, hwd⟩
    have xwd : Ext w wd := (by repeat (first | with_reducible exact Ext.refl _ | with_reducible assumption | with_reducible refine Ext.alloc ?_ _ | with_reducible refine Ext.drew ?_ | with_reducible refine Ext.drewN ?_ _ | ((with_reducible refine Ext.set ?_ ?_ _); (focus (first | (simp; done) | (simp; omega)))) | with_reducible refine Ext.trans ?_ (by assumption)))
    have kwd_0 := hwd.more (k := w1.heap.size) (by first | assumption | (simp; done) | (simp; omega) | omega)
    obtain ⟨cwd_0, fwd_0⟩ := hwd.row (k := w1.heap.size) (by first | assumption | (simp; done) | (simp; omega) | omega)
    have kwd_1 := hwd.more (k := w2.heap.size) (by first | assumption | (simp; done) | (simp; omega) | omega)
    obtain ⟨cwd_1, fwd_1⟩ := hwd.row (k := w2.heap.size) (by first | assumption | (simp; done) | (simp; omega) | omega)
    have kwd_2 := hwd.more (k := w3.heap.size) (by first | assumption | (simp; done) | (simp; omega) | omega)
    obtain ⟨cwd_2, fwd_2⟩ := hwd.row (k := w3.heap.size) (by first | assumption | (simp; done) | (simp; omega) | omega)
    rw [l2, l3]
    have hps : (pkS r r.b (r.e - r.b)).size ≤ 64 := by
      unfold pkS
      rw [if_pos l1, peekS_size]
      omega
    generalize hP : pkS r r.b (r.e - r.b) = P at *
    clear hP
    have hes : (d.extract 0 (writeM r.z r.b r.e d r.xs : Nat)).size ≤ 9 := by rw [ByteArray.size_extract]; omega
    have hcat : ¬ (9223372036854775807 < P.size + (d.extract 0 (writeM r.z r.b r.e d r.xs : Nat)).size) := by omega
    have hcat2 := hcat
    rw [ByteArray.size_extract] at hcat2
    have hcat3 := hcat2
    simp only [Nat.sub_zero] at hcat3
    go_wp2_with fail
    have hmm : min (d.size : Int) (rnRoom r) = (writeM r.z r.b r.e d r.xs : Nat) := hmin.out.symm
    skip
    go_wp2_with fail
    refine (rmn_impl r ar cr _ ?_ okr).mono ?_
    · exact hr.out.ext (by repeat (first | with_reducible exact Ext.refl _ | with_reducible assumption | with_reducible refine Ext.alloc ?_ _ | with_reducible refine Ext.drew ?_ | ((with_reducible refine Ext.set ?_ ?_ _); (focus (first | (simp; done) | (simp; omega) | omega))) | with_reducible refine Ext.trans ?_ hwd | with_reducible refine Ext.trans ?_ hwc | with_reducible refine Ext.trans ?_ hwb | with_reducible refine Ext.trans ?_ hwa | with_reducible refine Ext.trans ?_ hw3 | with_reducible refine Ext.trans ?_ hw2 | with_reducible refine Ext.trans ?_ hw1))
    rintro en we ⟨rfl, hwe⟩
    have xwe : Ext w we := (by repeat (first | with_reducible exact Ext.refl _ | with_reducible assumption | with_reducible refine Ext.alloc ?_ _ | with_reducible refine Ext.drew ?_ | with_reducible refine Ext.drewN ?_ _ | ((with_reducible refine Ext.set ?_ ?_ _); (focus (first | (simp; done) | (simp; omega)))) | with_reducible refine Ext.trans ?_ (by assumption)))
    have kwe_0 := hwe.more (k := w1.heap.size) (by first | assumption | (simp; done) | (simp; omega) | omega)
    obtain ⟨cwe_0, fwe_0⟩ := hwe.row (k := w1.heap.size) (by first | assumption | (simp; done) | (simp; omega) | omega)
    have kwe_1 := hwe.more (k := w2.heap.size) (by first | assumption | (simp; done) | (simp; omega) | omega)
    obtain ⟨cwe_1, fwe_1⟩ := hwe.row (k := w2.heap.size) (by first | assumption | (simp; done) | (simp; omega) | omega)
    have kwe_2 := hwe.more (k := w3.heap.size) (by first | assumption | (simp; done) | (simp; omega) | omega)
    obtain ⟨cwe_2, fwe_2⟩ := hwe.row (k := w3.heap.size) (by first | assumption | (simp; done) | (simp; omega) | omega)
    go_wp2_with fail
    all_goals (go_meet; exact xwe)
  case rest =>
    clear hr hx hy okr hwb xwb hwa xwa cwb_0 fwb_0 kwb_0 cwa_0 fwa_0 kwa_0 cwb_1 fwb_1 kwb_1 cwa_1 fwa_1 kwa_1 cwb_2 fwb_2 kwb_2 cwa_2 fwa_2 kwa_2
    go_wp2_with fail
    refine (DrawPeekRing_any _ _ (hc.grown hcut)).mono ?_
    rintro en w11 ⟨u, au, cu, o, k, rfl, ho, hk, oku, ownu, hw11⟩
    have xw11 : Ext w w11 := (by repeat (first | with_reducible exact Ext.refl _ | with_reducible assumption | with_reducible refine Ext.alloc ?_ _ | with_reducible refine Ext.drew ?_ | with_reducible refine Ext.drewN ?_ _ | ((with_reducible refine Ext.set ?_ ?_ _); (focus (first | (simp; done) | (simp; omega)))) | with_reducible refine Ext.trans ?_ (by assumption)))
    have hu := hide ownu.read
    clear ownu
    go_wp2_with fail
    refine (pk_impl u o k au cu _ ?_ oku.len (by have := oku.e1; omega)).mono ?_
    · exact hu.out.ext (by repeat (first | with_reducible exact Ext.refl _ | with_reducible assumption | with_reducible refine Ext.alloc ?_ _ | with_reducible refine Ext.drew ?_ | ((with_reducible refine Ext.set ?_ ?_ _); (focus (first | (simp; done) | (simp; omega) | omega))) | with_reducible refine Ext.trans ?_ hw11 | with_reducible refine Ext.trans ?_ hcut))
    rintro en w12 ⟨rfl, hw12⟩
    have xw12 : Ext w w12 := (by repeat (first | with_reducible exact Ext.refl _ | with_reducible assumption | with_reducible refine Ext.alloc ?_ _ | with_reducible refine Ext.drew ?_ | with_reducible refine Ext.drewN ?_ _ | ((with_reducible refine Ext.set ?_ ?_ _); (focus (first | (simp; done) | (simp; omega)))) | with_reducible refine Ext.trans ?_ (by assumption)))
    have kw12_0 := hw12.more (k := w11.heap.size) (by first | assumption | (simp; done) | (simp; omega) | omega)
    obtain ⟨cw12_0, fw12_0⟩ := hw12.row (k := w11.heap.size) (by first | assumption | (simp; done) | (simp; omega) | omega)
    go_wp2_with fail
    refine (pk_spec u o k au cu _ ?_ oku.len (by have := oku.e1; omega)).mono ?_
    · exact hu.out.ext (by repeat (first | with_reducible exact Ext.refl _ | with_reducible assumption | with_reducible refine Ext.alloc ?_ _ | with_reducible refine Ext.drew ?_ | ((with_reducible refine Ext.set ?_ ?_ _); (focus (first | (simp; done) | (simp; omega) | omega))) | with_reducible refine Ext.trans ?_ hw12 | with_reducible refine Ext.trans ?_ hw11 | with_reducible refine Ext.trans ?_ hcut))
    rintro en w13 ⟨rfl, hw13⟩
    have xw13 : Ext w w13 := (by repeat (first | with_reducible exact Ext.refl _ | with_reducible assumption | with_reducible refine Ext.alloc ?_ _ | with_reducible refine Ext.drew ?_ | with_reducible refine Ext.drewN ?_ _ | ((with_reducible refine Ext.set ?_ ?_ _); (focus (first | (simp; done) | (simp; omega)))) | with_reducible refine Ext.trans ?_ (by assumption)))
    have kw13_0 := hw13.more (k := w11.heap.size) (by first | assumption | (simp; done) | (simp; omega) | omega)
    obtain ⟨cw13_0, fw13_0⟩ := hw13.row (k := w11.heap.size) (by first | assumption | (simp; done) | (simp; omega) | omega)
    generalize pkS u o k = P at *
    generalize pkOk u o k = pb at *
    go_wp2_with fail
    refine (DrawDropRing_any _ _ (hc.grown (by first | exact xw13 | exact Ext.alloc xw13 _ | exact Ext.alloc (Ext.alloc xw13 _) _))).mono ?_
    rintro en w14 ⟨v, av, cv, tt, rfl, htt, okv, ownv, hw14⟩
    have xw14 : Ext w w14 := (by repeat (first | with_reducible exact Ext.refl _ | with_reducible assumption | with_reducible refine Ext.alloc ?_ _ | with_reducible refine Ext.drew ?_ | with_reducible refine Ext.drewN ?_ _ | ((with_reducible refine Ext.set ?_ ?_ _); (focus (first | (simp; done) | (simp; omega)))) | with_reducible refine Ext.trans ?_ (by assumption)))
    have kw14_0 := hw14.more (k := w11.heap.size) (by first | assumption | (simp; done) | (simp; omega) | omega)
    obtain ⟨cw14_0, fw14_0⟩ := hw14.row (k := w11.heap.size) (by first | assumption | (simp; done) | (simp; omega) | omega)
    have hv := hide ownv.read
    clear ownv
    go_wp2_with fail
    refine (dr_impl v tt av cv _ ?_ okv.len okv.e1).mono ?_
    · exact hv.out.ext (by repeat (first | with_reducible exact Ext.refl _ | with_reducible assumption | with_reducible refine Ext.alloc ?_ _ | with_reducible refine Ext.drew ?_ | ((with_reducible refine Ext.set ?_ ?_ _); (focus (first | (simp; done) | (simp; omega) | omega))) | with_reducible refine Ext.trans ?_ hw14 | with_reducible refine Ext.trans ?_ hw13 | with_reducible refine Ext.trans ?_ hw12 | with_reducible refine Ext.trans ?_ hw11 | with_reducible refine Ext.trans ?_ hcut))
    rintro en w15 ⟨ad, cd, rfl, ownd, hw15⟩
    have xw15 : Ext w w15 := (by repeat (first | with_reducible exact Ext.refl _ | with_reducible assumption | with_reducible refine Ext.alloc ?_ _ | with_reducible refine Ext.drew ?_ | with_reducible refine Ext.drewN ?_ _ | ((with_reducible refine Ext.set ?_ ?_ _); (focus (first | (simp; done) | (simp; omega)))) | with_reducible refine Ext.trans ?_ (by assumption)))
    have kw15_0 := hw15.more (k := w11.heap.size) (by first | assumption | (simp; done) | (simp; omega) | omega)
    obtain ⟨cw15_0, fw15_0⟩ := hw15.row (k := w11.heap.size) (by first | assumption | (simp; done) | (simp; omega) | omega)
    have kw15_1 := hw15.more (k := w14.heap.size) (by first | assumption | (simp; done) | (simp; omega) | omega)
    obtain ⟨cw15_1, fw15_1⟩ := hw15.row (k := w14.heap.size) (by first | assumption | (simp; done) | (simp; omega) | omega)
    have hd := hide ownd.read
    clear ownd
    go_wp2_with fail
    refine (dr_spec v tt av cv _ ?_ okv.len okv.e1).mono ?_
    · exact hv.out.ext (by repeat (first | with_reducible exact Ext.refl _ | with_reducible assumption | with_reducible refine Ext.alloc ?_ _ | with_reducible refine Ext.drew ?_ | ((with_reducible refine Ext.set ?_ ?_ _); (focus (first | (simp; done) | (simp; omega) | omega))) | with_reducible refine Ext.trans ?_ hw15 | with_reducible refine Ext.trans ?_ hw14 | with_reducible refine Ext.trans ?_ hw13 | with_reducible refine Ext.trans ?_ hw12 | with_reducible refine Ext.trans ?_ hw11 | with_reducible refine Ext.trans ?_ hcut))
    rintro en w16 ⟨ae, ce, rfl, owne, hw16⟩
    have xw16 : Ext w w16 := (by repeat (first | with_reducible exact Ext.refl _ | with_reducible assumption | with_reducible refine Ext.alloc ?_ _ | with_reducible refine Ext.drew ?_ | with_reducible refine Ext.drewN ?_ _ | ((with_reducible refine Ext.set ?_ ?_ _); (focus (first | (simp; done) | (simp; omega)))) | with_reducible refine Ext.trans ?_ (by assumption)))
    have kw16_0 := hw16.more (k := w11.heap.size) (by first | assumption | (simp; done) | (simp; omega) | omega)
    obtain ⟨cw16_0, fw16_0⟩ := hw16.row (k := w11.heap.size) (by first | assumption | (simp; done) | (simp; omega) | omega)
    have kw16_1 := hw16.more (k := w14.heap.size) (by first | assumption | (simp; done) | (simp; omega) | omega)
    obtain ⟨cw16_1, fw16_1⟩ := hw16.row (k := w14.heap.size) (by first | assumption | (simp; done) | (simp; omega) | omega)
    have kw16_2 := hw16.more (k := w15.heap.size) (by first | assumption | (simp; done) | (simp; omega) | omega)
    obtain ⟨cw16_2, fw16_2⟩ := hw16.row (k := w15.heap.size) (by first | assumption | (simp; done) | (simp; omega) | omega)
    have he := hide owne.read
    clear owne
    have okd : (drR v tt).xs.length ≤ 64 := by show (dropC _ _ _ _ _).length ≤ 64; rw [dropC_length]; exact okv.len
    generalize dropOk v.z v.b v.e tt v.xs = db at *
    go_wp2_with fail
    refine (DrawNewRing_any _ _ (hc.grown (by first | exact xw16 | exact Ext.alloc xw16 _ | exact Ext.alloc (Ext.alloc xw16 _) _))).mono ?_
    rintro en w17 ⟨sz, rfl, hsz, hw17⟩
    have xw17 : Ext w w17 := (by repeat (first | with_reducible exact Ext.refl _ | with_reducible assumption | with_reducible refine Ext.alloc ?_ _ | with_reducible refine Ext.drew ?_ | with_reducible refine Ext.drewN ?_ _ | ((with_reducible refine Ext.set ?_ ?_ _); (focus (first | (simp; done) | (simp; omega)))) | with_reducible refine Ext.trans ?_ (by assumption)))
    have kw17_0 := hw17.more (k := w11.heap.size) (by first | assumption | (simp; done) | (simp; omega) | omega)
    obtain ⟨cw17_0, fw17_0⟩ := hw17.row (k := w11.heap.size) (by first | assumption | (simp; done) | (simp; omega) | omega)
    have kw17_1 := hw17.more (k := w14.heap.size) (by first | assumption | (simp; done) | (simp; omega) | omega)
    obtain ⟨cw17_1, fw17_1⟩ := hw17.row (k := w14.heap.size) (by first | assumption | (simp; done) | (simp; omega) | omega)
    have kw17_2 := hw17.more (k := w15.heap.size) (by first | assumption | (simp; done) | (simp; omega) | omega)
    obtain ⟨cw17_2, fw17_2⟩ := hw17.row (k := w15.heap.size) (by first | assumption | (simp; done) | (simp; omega) | omega)
    have kw17_3 := hw17.more (k := w16.heap.size) (by first | assumption | (simp; done) | (simp; omega) | omega)
    obtain ⟨cw17_3, fw17_3⟩ := hw17.row (k := w16.heap.size) (by first | assumption | (simp; done) | (simp; omega) | omega)
    go_wp2_with fail
    refine (nw_impl sz _).mono ?_
    rintro en w18 ⟨af, cf, rfl, ownf, hw18⟩
    have xw18 : Ext w w18 := (by repeat (first | with_reducible exact Ext.refl _ | with_reducible assumption | with_reducible refine Ext.alloc ?_ _ | with_reducible refine Ext.drew ?_ | with_reducible refine Ext.drewN ?_ _ | ((with_reducible refine Ext.set ?_ ?_ _); (focus (first | (simp; done) | (simp; omega)))) | with_reducible refine Ext.trans ?_ (by assumption)))
    have kw18_0 := hw18.more (k := w11.heap.size) (by first | assumption | (simp; done) | (simp; omega) | omega)
    obtain ⟨cw18_0, fw18_0⟩ := hw18.row (k := w11.heap.size) (by first | assumption | (simp; done) | (simp; omega) | omega)
    have kw18_1 := hw18.more (k := w14.heap.size) (by first | assumption | (simp; done) | (simp; omega) | omega)
    obtain ⟨cw18_1, fw18_1⟩ := hw18.row (k := w14.heap.size) (by first | assumption | (simp; done) | (simp; omega) | omega)
    have kw18_2 := hw18.more (k := w15.heap.size) (by first | assumption | (simp; done) | (simp; omega) | omega)
    obtain ⟨cw18_2, fw18_2⟩ := hw18.row (k := w15.heap.size) (by first | assumption | (simp; done) | (simp; omega) | omega)
    have kw18_3 := hw18.more (k := w16.heap.size) (by first | assumption | (simp; done) | (simp; omega) | omega)
    obtain ⟨cw18_3, fw18_3⟩ := hw18.row (k := w16.heap.size) (by first | assumption | (simp; done) | (simp; omega) | omega)
    have hf := hide ownf.read
    clear ownf
    go_wp2_with fail
    refine (nw_spec sz _).mono ?_
    rintro en w19 ⟨ag, cg, rfl, owng, hw19⟩
    have xw19 : Ext w w19 := (by repeat (first | with_reducible exact Ext.refl _ | with_reducible assumption | with_reducible refine Ext.alloc ?_ _ | with_reducible refine Ext.drew ?_ | with_reducible refine Ext.drewN ?_ _ | ((with_reducible refine Ext.set ?_ ?_ _); (focus (first | (simp; done) | (simp; omega)))) | with_reducible refine Ext.trans ?_ (by assumption)))
    have kw19_0 := hw19.more (k := w11.heap.size) (by first | assumption | (simp; done) | (simp; omega) | omega)
    obtain ⟨cw19_0, fw19_0⟩ := hw19.row (k := w11.heap.size) (by first | assumption | (simp; done) | (simp; omega) | omega)
    have kw19_1 := hw19.more (k := w14.heap.size) (by first | assumption | (simp; done) | (simp; omega) | omega)
    obtain ⟨cw19_1, fw19_1⟩ := hw19.row (k := w14.heap.size) (by first | assumption | (simp; done) | (simp; omega) | omega)
    have kw19_2 := hw19.more (k := w15.heap.size) (by first | assumption | (simp; done) | (simp; omega) | omega)
    obtain ⟨cw19_2, fw19_2⟩ := hw19.row (k := w15.heap.size) (by first | assumption | (simp; done) | (simp; omega) | omega)
    have kw19_3 := hw19.more (k := w16.heap.size) (by first | assumption | (simp; done) | (simp; omega) | omega)
    obtain ⟨cw19_3, fw19_3⟩ := hw19.row (k := w16.heap.size) (by first | assumption | (simp; done) | (simp; omega) | omega)
    have kw19_4 := hw19.more (k := w18.heap.size) (by first | assumption | (simp; done) | (simp; omega) | omega)
    obtain ⟨cw19_4, fw19_4⟩ := hw19.row (k := w18.heap.size) (by first | assumption | (simp; done) | (simp; omega) | omega)
    have hg := hide owng.read
    clear owng
    have okf := (nwR_any sz (by omega)).len
    generalize ringSz sz = sb at *
    go_wp2_with fail
    refine (DrawEqualRings_any _ _ (hc.grown (by first | exact xw19 | exact Ext.alloc xw19 _ | exact Ext.alloc (Ext.alloc xw19 _) _))).mono ?_
    rintro en w20 ⟨p, ap, cp, q, aq, cq, rfl, okp, okq, ownp, ownq, hw20⟩
    have xw20 : Ext w w20 := (by repeat (first | with_reducible exact Ext.refl _ | with_reducible assumption | with_reducible refine Ext.alloc ?_ _ | with_reducible refine Ext.drew ?_ | with_reducible refine Ext.drewN ?_ _ | ((with_reducible refine Ext.set ?_ ?_ _); (focus (first | (simp; done) | (simp; omega)))) | with_reducible refine Ext.trans ?_ (by assumption)))
    have kw20_0 := hw20.more (k := w11.heap.size) (by first | assumption | (simp; done) | (simp; omega) | omega)
    obtain ⟨cw20_0, fw20_0⟩ := hw20.row (k := w11.heap.size) (by first | assumption | (simp; done) | (simp; omega) | omega)
    have kw20_1 := hw20.more (k := w14.heap.size) (by first | assumption | (simp; done) | (simp; omega) | omega)
    obtain ⟨cw20_1, fw20_1⟩ := hw20.row (k := w14.heap.size) (by first | assumption | (simp; done) | (simp; omega) | omega)
    have kw20_2 := hw20.more (k := w15.heap.size) (by first | assumption | (simp; done) | (simp; omega) | omega)
    obtain ⟨cw20_2, fw20_2⟩ := hw20.row (k := w15.heap.size) (by first | assumption | (simp; done) | (simp; omega) | omega)
    have kw20_3 := hw20.more (k := w16.heap.size) (by first | assumption | (simp; done) | (simp; omega) | omega)
    obtain ⟨cw20_3, fw20_3⟩ := hw20.row (k := w16.heap.size) (by first | assumption | (simp; done) | (simp; omega) | omega)
    have kw20_4 := hw20.more (k := w18.heap.size) (by first | assumption | (simp; done) | (simp; omega) | omega)
    obtain ⟨cw20_4, fw20_4⟩ := hw20.row (k := w18.heap.size) (by first | assumption | (simp; done) | (simp; omega) | omega)
    have kw20_5 := hw20.more (k := w19.heap.size) (by first | assumption | (simp; done) | (simp; omega) | omega)
    obtain ⟨cw20_5, fw20_5⟩ := hw20.row (k := w19.heap.size) (by first | assumption | (simp; done) | (simp; omega) | omega)
    have hp := hide ownp.read
    have hq := hide ownq.read
    clear ownp ownq
    have scz_0 := fun (ws : World) (hws : Ext w20 ws) => eqn_same (drR v tt) ad ae cd ce ws (hd.out.ext (Ext.trans (by repeat (first | with_reducible exact Ext.refl _ | with_reducible assumption | with_reducible refine Ext.alloc ?_ _ | with_reducible refine Ext.drew ?_ | ((with_reducible refine Ext.set ?_ ?_ _); (focus (first | (simp; done) | (simp; omega) | omega))) | with_reducible refine Ext.trans ?_ hw20 | with_reducible refine Ext.trans ?_ hw19 | with_reducible refine Ext.trans ?_ hw18 | with_reducible refine Ext.trans ?_ hw17 | with_reducible refine Ext.trans ?_ hw16 | with_reducible refine Ext.trans ?_ hw15 | with_reducible refine Ext.trans ?_ hw14 | with_reducible refine Ext.trans ?_ hw13 | with_reducible refine Ext.trans ?_ hw12 | with_reducible refine Ext.trans ?_ hw11 | with_reducible refine Ext.trans ?_ hcut)) hws)) (he.out.ext (Ext.trans (by repeat (first | with_reducible exact Ext.refl _ | with_reducible assumption | with_reducible refine Ext.alloc ?_ _ | with_reducible refine Ext.drew ?_ | ((with_reducible refine Ext.set ?_ ?_ _); (focus (first | (simp; done) | (simp; omega) | omega))) | with_reducible refine Ext.trans ?_ hw20 | with_reducible refine Ext.trans ?_ hw19 | with_reducible refine Ext.trans ?_ hw18 | with_reducible refine Ext.trans ?_ hw17 | with_reducible refine Ext.trans ?_ hw16 | with_reducible refine Ext.trans ?_ hw15 | with_reducible refine Ext.trans ?_ hw14 | with_reducible refine Ext.trans ?_ hw13 | with_reducible refine Ext.trans ?_ hw12 | with_reducible refine Ext.trans ?_ hw11 | with_reducible refine Ext.trans ?_ hcut)) hws)) okd
    have scz_1 := fun (ws : World) (hws : Ext w20 ws) => eqn_same (nwR sz) af ag cf cg ws (hf.out.ext (Ext.trans (by repeat (first | with_reducible exact Ext.refl _ | with_reducible assumption | with_reducible refine Ext.alloc ?_ _ | with_reducible refine Ext.drew ?_ | ((with_reducible refine Ext.set ?_ ?_ _); (focus (first | (simp; done) | (simp; omega) | omega))) | with_reducible refine Ext.trans ?_ hw20 | with_reducible refine Ext.trans ?_ hw19 | with_reducible refine Ext.trans ?_ hw18 | with_reducible refine Ext.trans ?_ hw17 | with_reducible refine Ext.trans ?_ hw16 | with_reducible refine Ext.trans ?_ hw15 | with_reducible refine Ext.trans ?_ hw14 | with_reducible refine Ext.trans ?_ hw13 | with_reducible refine Ext.trans ?_ hw12 | with_reducible refine Ext.trans ?_ hw11 | with_reducible refine Ext.trans ?_ hcut)) hws)) (hg.out.ext (Ext.trans (by repeat (first | with_reducible exact Ext.refl _ | with_reducible assumption | with_reducible refine Ext.alloc ?_ _ | with_reducible refine Ext.drew ?_ | ((with_reducible refine Ext.set ?_ ?_ _); (focus (first | (simp; done) | (simp; omega) | omega))) | with_reducible refine Ext.trans ?_ hw20 | with_reducible refine Ext.trans ?_ hw19 | with_reducible refine Ext.trans ?_ hw18 | with_reducible refine Ext.trans ?_ hw17 | with_reducible refine Ext.trans ?_ hw16 | with_reducible refine Ext.trans ?_ hw15 | with_reducible refine Ext.trans ?_ hw14 | with_reducible refine Ext.trans ?_ hw13 | with_reducible refine Ext.trans ?_ hw12 | with_reducible refine Ext.trans ?_ hw11 | with_reducible refine Ext.trans ?_ hcut)) hws)) okf
    have scz_2 := fun (ws : World) (hws : Ext w20 ws) => eqn_spec p q ap aq cp cq ws (hp.out.ext (Ext.trans (by repeat (first | with_reducible exact Ext.refl _ | with_reducible assumption | with_reducible refine Ext.alloc ?_ _ | with_reducible refine Ext.drew ?_ | ((with_reducible refine Ext.set ?_ ?_ _); (focus (first | (simp; done) | (simp; omega) | omega))) | with_reducible refine Ext.trans ?_ hw20 | with_reducible refine Ext.trans ?_ hw19 | with_reducible refine Ext.trans ?_ hw18 | with_reducible refine Ext.trans ?_ hw17 | with_reducible refine Ext.trans ?_ hw16 | with_reducible refine Ext.trans ?_ hw15 | with_reducible refine Ext.trans ?_ hw14 | with_reducible refine Ext.trans ?_ hw13 | with_reducible refine Ext.trans ?_ hw12 | with_reducible refine Ext.trans ?_ hw11 | with_reducible refine Ext.trans ?_ hcut)) hws)) (hq.out.ext (Ext.trans (by repeat (first | with_reducible exact Ext.refl _ | with_reducible assumption | with_reducible refine Ext.alloc ?_ _ | with_reducible refine Ext.drew ?_ | ((with_reducible refine Ext.set ?_ ?_ _); (focus (first | (simp; done) | (simp; omega) | omega))) | with_reducible refine Ext.trans ?_ hw20 | with_reducible refine Ext.trans ?_ hw19 | with_reducible refine Ext.trans ?_ hw18 | with_reducible refine Ext.trans ?_ hw17 | with_reducible refine Ext.trans ?_ hw16 | with_reducible refine Ext.trans ?_ hw15 | with_reducible refine Ext.trans ?_ hw14 | with_reducible refine Ext.trans ?_ hw13 | with_reducible refine Ext.trans ?_ hw12 | with_reducible refine Ext.trans ?_ hw11 | with_reducible refine Ext.trans ?_ hcut)) hws)) okp.len
    have scz_3 := fun (ws : World) (hws : Ext w20 ws) => eqn_impl p q ap aq cp cq ws (hp.out.ext (Ext.trans (by repeat (first | with_reducible exact Ext.refl _ | with_reducible assumption | with_reducible refine Ext.alloc ?_ _ | with_reducible refine Ext.drew ?_ | ((with_reducible refine Ext.set ?_ ?_ _); (focus (first | (simp; done) | (simp; omega) | omega))) | with_reducible refine Ext.trans ?_ hw20 | with_reducible refine Ext.trans ?_ hw19 | with_reducible refine Ext.trans ?_ hw18 | with_reducible refine Ext.trans ?_ hw17 | with_reducible refine Ext.trans ?_ hw16 | with_reducible refine Ext.trans ?_ hw15 | with_reducible refine Ext.trans ?_ hw14 | with_reducible refine Ext.trans ?_ hw13 | with_reducible refine Ext.trans ?_ hw12 | with_reducible refine Ext.trans ?_ hw11 | with_reducible refine Ext.trans ?_ hcut)) hws)) (hq.out.ext (Ext.trans (by repeat (first | with_reducible exact Ext.refl _ | with_reducible assumption | with_reducible refine Ext.alloc ?_ _ | with_reducible refine Ext.drew ?_ | ((with_reducible refine Ext.set ?_ ?_ _); (focus (first | (simp; done) | (simp; omega) | omega))) | with_reducible refine Ext.trans ?_ hw20 | with_reducible refine Ext.trans ?_ hw19 | with_reducible refine Ext.trans ?_ hw18 | with_reducible refine Ext.trans ?_ hw17 | with_reducible refine Ext.trans ?_ hw16 | with_reducible refine Ext.trans ?_ hw15 | with_reducible refine Ext.trans ?_ hw14 | with_reducible refine Ext.trans ?_ hw13 | with_reducible refine Ext.trans ?_ hw12 | with_reducible refine Ext.trans ?_ hw11 | with_reducible refine Ext.trans ?_ hcut)) hws)) okp.len
    go_wp2_with fail
    refine wp_region_seq (Ext _) (by kernel_rfl) (by kernel_rfl) ((Ext.refl _).drew) ?_
    (refine wpSeqS_plain (v := ?_) rfl (by rfl) ?_ ?_; rotate_left; (focus (intro ws hws; go_simp; (try with_reducible rfl); done)))
    try simp only [Act.put, List.getElem_toArray, List.getElem_cons_zero, List.getElem_cons_succ, List.setIfInBounds_toArray, List.set_cons_zero, List.set_cons_succ]
    (refine wpSeqS_plain (v := ?_) rfl (by rfl) ?_ ?_; rotate_left; (focus (intro ws hws; go_simp; (try with_reducible rfl); done)))
    try simp only [Act.put, List.getElem_toArray, List.getElem_cons_zero, List.getElem_cons_succ, List.setIfInBounds_toArray, List.set_cons_zero, List.set_cons_succ]
    (refine wpSeqS_plain (v := ?_) rfl (by rfl) ?_ ?_; rotate_left; (focus (intro ws hws; go_simp; (try with_reducible rfl); done)))
    try simp only [Act.put, List.getElem_toArray, List.getElem_cons_zero, List.getElem_cons_succ, List.setIfInBounds_toArray, List.set_cons_zero, List.set_cons_succ]
    (refine wpSeqS_plain (v := ?_) rfl (by rfl) ?_ ?_; rotate_left; (focus (intro ws hws; go_simp; (try with_reducible rfl); done)))
    try simp only [Act.put, List.getElem_toArray, List.getElem_cons_zero, List.getElem_cons_succ, List.setIfInBounds_toArray, List.set_cons_zero, List.set_cons_succ]
    (refine wpSeqS_plain (v := ?_) rfl (by rfl) ?_ ?_; rotate_left; (focus (intro ws hws; go_simp; (try with_reducible rfl); done)))
    try simp only [Act.put, List.getElem_toArray, List.getElem_cons_zero, List.getElem_cons_succ, List.setIfInBounds_toArray, List.set_cons_zero, List.set_cons_succ]
    (refine wpSeqS_plain (v := ?_) rfl (by rfl) ?_ ?_; rotate_left; (focus (intro ws hws; go_simp; (try with_reducible rfl); done)))
    try simp only [Act.put, List.getElem_toArray, List.getElem_cons_zero, List.getElem_cons_succ, List.setIfInBounds_toArray, List.set_cons_zero, List.set_cons_succ]
    (refine wpSeqS_plain (v := ?_) rfl (by rfl) ?_ ?_; rotate_left; (focus (intro ws hws; go_simp; (try with_reducible rfl); done)))
    try simp only [Act.put, List.getElem_toArray, List.getElem_cons_zero, List.getElem_cons_succ, List.setIfInBounds_toArray, List.set_cons_zero, List.set_cons_succ]
    (refine wpSeqS_plain (v := ?_) rfl (by rfl) ?_ ?_; rotate_left; (focus (intro ws hws; go_simp; (try with_reducible rfl); done)))
    try simp only [Act.put, List.getElem_toArray, List.getElem_cons_zero, List.getElem_cons_succ, List.setIfInBounds_toArray, List.set_cons_zero, List.set_cons_succ]
    (refine wpSeqS_plain (v := ?_) rfl (by rfl) ?_ ?_; rotate_left; (focus (intro ws hws; go_simp; (try with_reducible rfl); done)))
    try simp only [Act.put, List.getElem_toArray, List.getElem_cons_zero, List.getElem_cons_succ, List.setIfInBounds_toArray, List.set_cons_zero, List.set_cons_succ]
    (refine wpSeqS_plain (v := ?_) rfl (by rfl) ?_ ?_; rotate_left; (focus (intro ws hws; go_simp; (try with_reducible rfl); done)))
    try simp only [Act.put, List.getElem_toArray, List.getElem_cons_zero, List.getElem_cons_succ, List.setIfInBounds_toArray, List.set_cons_zero, List.set_cons_succ]
    (refine wpSeqS_plain (v := ?_) rfl (by rfl) ?_ ?_; rotate_left; (focus (intro ws hws; go_simp; (try with_reducible rfl); done)))
    try simp only [Act.put, List.getElem_toArray, List.getElem_cons_zero, List.getElem_cons_succ, List.setIfInBounds_toArray, List.set_cons_zero, List.set_cons_succ]
    (refine wpSeqS_plain (v := ?_) rfl (by rfl) ?_ ?_; rotate_left; (focus (intro ws hws; go_simp; (try with_reducible rfl); done)))
    try simp only [Act.put, List.getElem_toArray, List.getElem_cons_zero, List.getElem_cons_succ, List.setIfInBounds_toArray, List.set_cons_zero, List.set_cons_succ]
    (refine wpSeqS_plain (v := ?_) rfl (by rfl) ?_ ?_; rotate_left; (focus (intro ws hws; go_simp; (try with_reducible rfl); done)))
    try simp only [Act.put, List.getElem_toArray, List.getElem_cons_zero, List.getElem_cons_succ, List.setIfInBounds_toArray, List.set_cons_zero, List.set_cons_succ]
    (refine wpSeqS_plain (v := ?_) rfl (by rfl) ?_ ?_; rotate_left; (focus (intro ws hws; go_simp; (try with_reducible rfl); done)))
    try simp only [Act.put, List.getElem_toArray, List.getElem_cons_zero, List.getElem_cons_succ, List.setIfInBounds_toArray, List.set_cons_zero, List.set_cons_succ]
    (refine wpSeqS_plain (v := ?_) rfl (by rfl) ?_ ?_; rotate_left; (focus (intro ws hws; obtain ⟨q0, p0⟩ := hws.row (k := w15.heap.size) (by first | assumption | (simp; done) | (simp; omega) | omega); go_simp; (try with_reducible rfl); done)))
    try simp only [Act.put, List.getElem_toArray, List.getElem_cons_zero, List.getElem_cons_succ, List.setIfInBounds_toArray, List.set_cons_zero, List.set_cons_succ]
    (refine wpSeqS_plain (v := ?_) rfl (by rfl) ?_ ?_; rotate_left; (focus (intro ws hws; obtain ⟨q0, p0⟩ := hws.row (k := w16.heap.size) (by first | assumption | (simp; done) | (simp; omega) | omega); go_simp; (try with_reducible rfl); done)))
    try simp only [Act.put, List.getElem_toArray, List.getElem_cons_zero, List.getElem_cons_succ, List.setIfInBounds_toArray, List.set_cons_zero, List.set_cons_succ]
    (refine wpSeqS_call (v := ?_) 17 ?_ rfl (by rfl) ?_ ?_ ?_; rotate_left; rotate_left; (focus (intro ws hws; go_simp; (try with_reducible rfl); done)); (focus (intro ws hws; refine (scz_0 ws (Ext.trans (by repeat (first | with_reducible exact Ext.refl _ | with_reducible assumption | with_reducible refine Ext.alloc ?_ _ | with_reducible refine Ext.drew ?_ | ((with_reducible refine Ext.set ?_ ?_ _); (focus (first | (simp; done) | (simp; omega) | omega))))) hws)).mono ?_; rintro e w' ⟨rfl, h2⟩; refine ⟨?_, hws.trans h2⟩; (try simp only [*]); (try with_reducible rfl); done)))
    try simp only [Act.put, List.getElem_toArray, List.getElem_cons_zero, List.getElem_cons_succ, List.setIfInBounds_toArray, List.set_cons_zero, List.set_cons_succ]
    (refine wpSeqS_plain (v := ?_) rfl (by rfl) ?_ ?_; rotate_left; (focus (intro ws hws; go_simp; (try with_reducible rfl); done)))
    try simp only [Act.put, List.getElem_toArray, List.getElem_cons_zero, List.getElem_cons_succ, List.setIfInBounds_toArray, List.set_cons_zero, List.set_cons_succ]
    (refine wpSeqS_plain (v := ?_) rfl (by rfl) ?_ ?_; rotate_left; (focus (intro ws hws; go_simp; (try with_reducible rfl); done)))
    try simp only [Act.put, List.getElem_toArray, List.getElem_cons_zero, List.getElem_cons_succ, List.setIfInBounds_toArray, List.set_cons_zero, List.set_cons_succ]
    (refine wpSeqS_plain (v := ?_) rfl (by rfl) ?_ ?_; rotate_left; (focus (intro ws hws; go_simp; (try with_reducible rfl); done)))
    try simp only [Act.put, List.getElem_toArray, List.getElem_cons_zero, List.getElem_cons_succ, List.setIfInBounds_toArray, List.set_cons_zero, List.set_cons_succ]
    (refine wpSeqS_plain (v := ?_) rfl (by rfl) ?_ ?_; rotate_left; (focus (intro ws hws; go_simp; (try with_reducible rfl); done)))
    try simp only [Act.put, List.getElem_toArray, List.getElem_cons_zero, List.getElem_cons_succ, List.setIfInBounds_toArray, List.set_cons_zero, List.set_cons_succ]
    (refine wpSeqS_plain (v := ?_) rfl (by rfl) ?_ ?_; rotate_left; (focus (intro ws hws; go_simp; (try with_reducible rfl); done)))
    try simp only [Act.put, List.getElem_toArray, List.getElem_cons_zero, List.getElem_cons_succ, List.setIfInBounds_toArray, List.set_cons_zero, List.set_cons_succ]
    (refine wpSeqS_plain (v := ?_) rfl (by rfl) ?_ ?_; rotate_left; (focus (intro ws hws; go_simp; (try with_reducible rfl); done)))
    try simp only [Act.put, List.getElem_toArray, List.getElem_cons_zero, List.getElem_cons_succ, List.setIfInBounds_toArray, List.set_cons_zero, List.set_cons_succ]
    (refine wpSeqS_plain (v := ?_) rfl (by rfl) ?_ ?_; rotate_left; (focus (intro ws hws; go_simp; (try with_reducible rfl); done)))
    try simp only [Act.put, List.getElem_toArray, List.getElem_cons_zero, List.getElem_cons_succ, List.setIfInBounds_toArray, List.set_cons_zero, List.set_cons_succ]
    (refine wpSeqS_plain (v := ?_) rfl (by rfl) ?_ ?_; rotate_left; (focus (intro ws hws; obtain ⟨q0, p0⟩ := hws.row (k := w18.heap.size) (by first | assumption | (simp; done) | (simp; omega) | omega); go_simp; (try with_reducible rfl); done)))
    try simp only [Act.put, List.getElem_toArray, List.getElem_cons_zero, List.getElem_cons_succ, List.setIfInBounds_toArray, List.set_cons_zero, List.set_cons_succ]
    (refine wpSeqS_plain (v := ?_) rfl (by rfl) ?_ ?_; rotate_left; (focus (intro ws hws; obtain ⟨q0, p0⟩ := hws.row (k := w19.heap.size) (by first | assumption | (simp; done) | (simp; omega) | omega); go_simp; (try with_reducible rfl); done)))
    try simp only [Act.put, List.getElem_toArray, List.getElem_cons_zero, List.getElem_cons_succ, List.setIfInBounds_toArray, List.set_cons_zero, List.set_cons_succ]
    (refine wpSeqS_call (v := ?_) 17 ?_ rfl (by rfl) ?_ ?_ ?_; rotate_left; rotate_left; (focus (intro ws hws; go_simp; (try with_reducible rfl); done)); (focus (intro ws hws; refine (scz_1 ws (Ext.trans (by repeat (first | with_reducible exact Ext.refl _ | with_reducible assumption | with_reducible refine Ext.alloc ?_ _ | with_reducible refine Ext.drew ?_ | ((with_reducible refine Ext.set ?_ ?_ _); (focus (first | (simp; done) | (simp; omega) | omega))))) hws)).mono ?_; rintro e w' ⟨rfl, h2⟩; refine ⟨?_, hws.trans h2⟩; (try simp only [*]); (try with_reducible rfl); done)))
    try simp only [Act.put, List.getElem_toArray, List.getElem_cons_zero, List.getElem_cons_succ, List.setIfInBounds_toArray, List.set_cons_zero, List.set_cons_succ]
    (refine wpSeqS_plain (v := ?_) rfl (by rfl) ?_ ?_; rotate_left; (focus (intro ws hws; go_simp; (try with_reducible rfl); done)))
    try simp only [Act.put, List.getElem_toArray, List.getElem_cons_zero, List.getElem_cons_succ, List.setIfInBounds_toArray, List.set_cons_zero, List.set_cons_succ]
    (refine wpSeqS_plain (v := ?_) rfl (by rfl) ?_ ?_; rotate_left; (focus (intro ws hws; go_simp; (try with_reducible rfl); done)))
    try simp only [Act.put, List.getElem_toArray, List.getElem_cons_zero, List.getElem_cons_succ, List.setIfInBounds_toArray, List.set_cons_zero, List.set_cons_succ]
    (refine wpSeqS_plain (v := ?_) rfl (by rfl) ?_ ?_; rotate_left; (focus (intro ws hws; obtain ⟨q0, p0⟩ := hws.row (k := w20.heap.size) (by first | assumption | (simp; done) | (simp; omega) | omega); go_simp; (try with_reducible rfl); done)))
    try simp only [Act.put, List.getElem_toArray, List.getElem_cons_zero, List.getElem_cons_succ, List.setIfInBounds_toArray, List.set_cons_zero, List.set_cons_succ]
    (refine wpSeqS_plain (v := ?_) rfl (by rfl) ?_ ?_; rotate_left; (focus (intro ws hws; obtain ⟨q0, p0⟩ := hws.row (k := w20.heap.size + 1) (by first | assumption | (simp; done) | (simp; omega) | omega); go_simp; (try with_reducible rfl); done)))
    try simp only [Act.put, List.getElem_toArray, List.getElem_cons_zero, List.getElem_cons_succ, List.setIfInBounds_toArray, List.set_cons_zero, List.set_cons_succ]
    (refine wpSeqS_call (v := ?_) 19 ?_ rfl (by rfl) ?_ ?_ ?_; rotate_left; rotate_left; (focus (intro ws hws; go_simp; (try with_reducible rfl); done)); (focus (intro ws hws; refine (scz_3 ws (Ext.trans (by repeat (first | with_reducible exact Ext.refl _ | with_reducible assumption | with_reducible refine Ext.alloc ?_ _ | with_reducible refine Ext.drew ?_ | ((with_reducible refine Ext.set ?_ ?_ _); (focus (first | (simp; done) | (simp; omega) | omega))))) hws)).mono ?_; rintro e w' ⟨rfl, h2⟩; refine ⟨?_, hws.trans h2⟩; (try simp only [*]); (try with_reducible rfl); done)))
    try simp only [Act.put, List.getElem_toArray, List.getElem_cons_zero, List.getElem_cons_succ, List.setIfInBounds_toArray, List.set_cons_zero, List.set_cons_succ]
    (refine wpSeqS_plain (v := ?_) rfl (by rfl) ?_ ?_; rotate_left; (focus (intro ws hws; obtain ⟨q0, p0⟩ := hws.row (k := w20.heap.size) (by first | assumption | (simp; done) | (simp; omega) | omega); go_simp; (try with_reducible rfl); done)))
    try simp only [Act.put, List.getElem_toArray, List.getElem_cons_zero, List.getElem_cons_succ, List.setIfInBounds_toArray, List.set_cons_zero, List.set_cons_succ]
    (refine wpSeqS_plain (v := ?_) rfl (by rfl) ?_ ?_; rotate_left; (focus (intro ws hws; obtain ⟨q0, p0⟩ := hws.row (k := w20.heap.size + 1) (by first | assumption | (simp; done) | (simp; omega) | omega); go_simp; (try with_reducible rfl); done)))
    try simp only [Act.put, List.getElem_toArray, List.getElem_cons_zero, List.getElem_cons_succ, List.setIfInBounds_toArray, List.set_cons_zero, List.set_cons_succ]
    (refine wpSeqS_call (v := ?_) 17 ?_ rfl (by rfl) ?_ ?_ ?_; rotate_left; rotate_left; (focus (intro ws hws; go_simp; (try with_reducible rfl); done)); (focus (intro ws hws; refine (scz_2 ws (Ext.trans (by repeat (first | with_reducible exact Ext.refl _ | with_reducible assumption | with_reducible refine Ext.alloc ?_ _ | with_reducible refine Ext.drew ?_ | ((with_reducible refine Ext.set ?_ ?_ _); (focus (first | (simp; done) | (simp; omega) | omega))))) hws)).mono ?_; rintro e w' ⟨rfl, h2⟩; refine ⟨?_, hws.trans h2⟩; (try simp only [*]); (try with_reducible rfl); done)))
    try simp only [Act.put, List.getElem_toArray, List.getElem_cons_zero, List.getElem_cons_succ, List.setIfInBounds_toArray, List.set_cons_zero, List.set_cons_succ]
    (refine wpSeqS_plain (v := ?_) rfl (by rfl) ?_ ?_; rotate_left; (focus (intro ws hws; go_simp; (try with_reducible rfl); done)))
    try simp only [Act.put, List.getElem_toArray, List.getElem_cons_zero, List.getElem_cons_succ, List.setIfInBounds_toArray, List.set_cons_zero, List.set_cons_succ]
    (refine wpSeqS_plain (v := ?_) rfl (by rfl) ?_ ?_; rotate_left; (focus (intro ws hws; go_simp; (try with_reducible rfl); done)))
    try simp only [Act.put, List.getElem_toArray, List.getElem_cons_zero, List.getElem_cons_succ, List.setIfInBounds_toArray, List.set_cons_zero, List.set_cons_succ]
    (refine wpSeqS_plain (v := ?_) rfl (by rfl) ?_ ?_; rotate_left; (focus (intro ws hws; go_simp; (try with_reducible rfl); done)))
    try simp only [Act.put, List.getElem_toArray, List.getElem_cons_zero, List.getElem_cons_succ, List.setIfInBounds_toArray, List.set_cons_zero, List.set_cons_succ]
    refine wpSeqS_done (by kernel_rfl) (fun wz hwz => ?_)
    go_wp2
    go_ret
    exact ⟨rfl, xw20.trans (by repeat (first | with_reducible exact Ext.refl _ | with_reducible assumption | with_reducible refine Ext.alloc ?_ _ | with_reducible refine Ext.drew ?_ | ((with_reducible refine Ext.set ?_ ?_ _); (focus (first | (simp; done) | (simp; omega) | omega))) | with_reducible refine Ext.trans ?_ hwz))⟩
/-! ### the row of FnRings -/
theorem rings_reads : ∀ t ∈ Try.f10.params.toList, Try.prog.readableRec t = true ∧ t < Try.prog.types.size := by
  rw [Try.params10]
  intro t ht
  simp only [List.mem_cons, List.not_mem_nil, or_false] at ht
  subst ht
  exact ⟨by kernel_rfl, of_decide_eq_true (by kernel_rfl)⟩
set_option maxRecDepth 100000 in
theorem rings_lifted (os : Os) (started : os.Started) (H : Type) (enc : TypeId × Value → H) :
    ReturnsInHanded {} Try.checked os 10 .any (Rows.fnRingsSpec.pre6 enc Try.prog Try.f10 Rows.fnRingsRow.domain false) (Rows.fnRingsSpec.post enc Try.prog Try.f10 false true false false) := by
  refine returnsInHanded_of_change (C := Try.checked) ownKnobNone started (by kernel_rfl) Try.func10
    (ChangeSpec.witness6 (enc := enc) (C := Try.checked) false ⟨#[], #[.slice none 0 0], []⟩ 8 (by kernel_rfl) (by kernel_rfl) (by kernel_rfl) (by kernel_rfl)) ?_
  intro W base args ds gs before hval0 hW hcnd _
  have hval : ∀ (j : Nat) t v, Try.f10.params[j]? = some t → args[j]? = some v → Value.okWide Try.prog W .any base t v := hval0
  have hW' := hW
  obtain ⟨p, q, hA0, hV, rfl, hfz, hnd⟩ := hW
  have hA : DataW.TrodAll enc Try.prog W 0 (fun _ => true) true Try.f10.params.toList args.toList ds p := hA0
  rw [Try.params10] at hA hval
  obtain ⟨v0, vs0, d0, ds0, p0, q0, hargs, rfl, rfl, h0, r0⟩ := trodAll_cons hA
  obtain ⟨rfl, rfl, rfl⟩ := trodAll_nil r0
  obtain rfl : args = #[v0] := by cases args; simp_all
  obtain ⟨ao, len, cap, rfl, hcode⟩ := open_code Try.underlying45 Try.underlying5 (by kernel_rfl) (hval 0 45 v0 rfl rfl) h0
  refine (rings_walk ao len cap W hcode).mono fun e W' ⟨he, hg⟩ => ?_
  subst he
  exact ⟨_, rfl, law_post laidOut rings_reads rfl rfl Try.underlying4 hW' (fun gs h => by subst h; rfl) hg⟩
theorem rings_over : Rows.fnRingsRow.holds Try.pinned (OpenSpec.ofChange Rows.fnRingsSpec) :=
  OpenClaim.holds_of_wide 10 Try.f10 rfl rfl rfl rfl rfl rfl rfl ⟨rfl, rfl, rfl, rfl, rfl⟩ rfl rfl rfl rfl rfl (by kernel_rfl) Try.func10 (by kernel_rfl)
    (of_decide_eq_true (by kernel_rfl)) (by unfold Func.isWrapper; first | (rw [if_pos (by decide +kernel)]; kernel_rfl) | (rw [if_neg (by decide +kernel)]; exact ⟨rfl, rfl⟩))
    (fun os started H enc _ => rings_lifted os started H enc)
/-- The statement. -/
theorem rings_holds : Rows.FnRingsSaid := rings_over
#print axioms rings_holds
end Go.Proofs.Yteebkiochnhnhaa

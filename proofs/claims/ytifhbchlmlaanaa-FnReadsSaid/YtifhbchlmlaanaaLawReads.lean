/-
  The law FnReads holds of every code. No condition.
-/
import Derived.Test.YtifhbchlmlaanaaRvQ
import Derived.Test.YtifhbchlmlaanaaRecvd
import Derived.Test.YtifhbchlmlaanaaSteady
namespace Go.Proofs.Ytifhbchlmlaanaa
open Go.ChangeShapes Go.WideShapes Go.ChangeAt Go.RowKit
set_option linter.unusedSimpArgs false
set_option linter.unusedVariables false
def rvDone (r : Rv) : Bool := recvDone r.st r.nx r.fi r.hg r.co r.cs
theorem isd_impl {m : Nat} (r : Rv) (ao : Option Addr) (ca : Nat) (w : World) (hx : ReadC w ao r.cs) (hr : RecOk m r) (hm : m ≤ 1048576) :
    Calls Try.prog 27 #[.agg #[.int .i64 r.st, .int .i64 r.nx, .slice ao r.cs.length ca, .int .i64 r.fi, .int .i64 r.hg, .int .i64 r.co]] w fun en w' => en = .returned (.bool (rvDone r)) ∧ Ext w w' :=
  IsReceived_impl r.st r.nx r.fi r.hg r.co ao _ ca r.cs w hx rfl (by have := hr.len; omega) hr.wf hr.nx
set_option maxHeartbeats 4000000 in
set_option maxRecDepth 100000 in
theorem reads_walk (ao : Option Addr) (len cap : Nat) (w : World) (hc : len ≤ 1048576 → CodeAt w w.heap.size (.slice ao len cap)) :
    Calls Try.prog 12 #[.slice ao len cap] w fun e w' => e = .returned (.bool true) ∧ Ext w w' := by
  by_cases hbig : (1048576 : Int) < len
  · have hbd : decide ((1048576 : Int) < len) = true := decide_eq_true hbig
    go_enter Try.func12, Try.ntmps12
    go_wp2_with fail
    refine (big_any ao len cap _).mono ?_
    rintro e _ ⟨rfl, rfl⟩
    go_wp2
    go_ret
    exact ⟨rfl, Ext.refl _⟩
  have hbd : decide ((1048576 : Int) < len) = false := decide_eq_false hbig
  replace hc := hc (by omega)
  clear hbig
  go_enter Try.func12, Try.ntmps12
  go_wp2_with fail
  refine (big_any ao len cap _).mono ?_
  rintro e _ ⟨rfl, rfl⟩
  go_wp2_with fail
  refine (DrawReadReceiver_any _ _ hc).mono ?_
  rintro en w1 ⟨r, ar, cr, q, rfl, hq, okr, own, hw1⟩
  have xw1 : Ext w w1 := (by repeat (first | with_reducible exact Ext.refl _ | with_reducible assumption | with_reducible refine Ext.alloc ?_ _ | with_reducible refine Ext.drew ?_ | with_reducible refine Ext.drewN ?_ _ | ((with_reducible refine Ext.set ?_ ?_ _); (focus (first | (simp; done) | (simp; omega)))) | with_reducible refine Ext.trans ?_ (by assumption)))
  have hr := hide own.read
  clear own
  go_wp2_with fail
  refine (rd_impl 6 r q ar cr _ ?_ okr (by omega)).mono ?_
  · exact hr.out.ext (by repeat (first | with_reducible exact Ext.refl _ | with_reducible assumption | with_reducible refine Ext.alloc ?_ _ | with_reducible refine Ext.drew ?_ | ((with_reducible refine Ext.set ?_ ?_ _); (focus (first | (simp; done) | (simp; omega) | omega))) | with_reducible refine Ext.trans ?_ hw1))
  rintro en w2 ⟨ax, cx, rfl, ownx, hw2⟩
  have xw2 : Ext w w2 := (by repeat (first | with_reducible exact Ext.refl _ | with_reducible assumption | with_reducible refine Ext.alloc ?_ _ | with_reducible refine Ext.drew ?_ | with_reducible refine Ext.drewN ?_ _ | ((with_reducible refine Ext.set ?_ ?_ _); (focus (first | (simp; done) | (simp; omega)))) | with_reducible refine Ext.trans ?_ (by assumption)))
  have kw2_0 := hw2.more (k := w1.heap.size) (by first | assumption | (simp; done) | (simp; omega) | omega)
  obtain ⟨cw2_0, fw2_0⟩ := hw2.row (k := w1.heap.size) (by first | assumption | (simp; done) | (simp; omega) | omega)
  have hx := hide ownx.read
  clear ownx
  go_wp2_with fail
  refine (rd_spec 6 r q ar cr _ ?_ okr (by omega)).mono ?_
  · exact hr.out.ext (by repeat (first | with_reducible exact Ext.refl _ | with_reducible assumption | with_reducible refine Ext.alloc ?_ _ | with_reducible refine Ext.drew ?_ | ((with_reducible refine Ext.set ?_ ?_ _); (focus (first | (simp; done) | (simp; omega) | omega))) | with_reducible refine Ext.trans ?_ hw2 | with_reducible refine Ext.trans ?_ hw1))
  rintro en w3 ⟨ay, cy, rfl, owny, hw3⟩
  have xw3 : Ext w w3 := (by repeat (first | with_reducible exact Ext.refl _ | with_reducible assumption | with_reducible refine Ext.alloc ?_ _ | with_reducible refine Ext.drew ?_ | with_reducible refine Ext.drewN ?_ _ | ((with_reducible refine Ext.set ?_ ?_ _); (focus (first | (simp; done) | (simp; omega)))) | with_reducible refine Ext.trans ?_ (by assumption)))
  have kw3_0 := hw3.more (k := w1.heap.size) (by first | assumption | (simp; done) | (simp; omega) | omega)
  obtain ⟨cw3_0, fw3_0⟩ := hw3.row (k := w1.heap.size) (by first | assumption | (simp; done) | (simp; omega) | omega)
  have kw3_1 := hw3.more (k := w2.heap.size) (by first | assumption | (simp; done) | (simp; omega) | omega)
  obtain ⟨cw3_1, fw3_1⟩ := hw3.row (k := w2.heap.size) (by first | assumption | (simp; done) | (simp; omega) | omega)
  have hy := hide owny.read
  clear owny
  have okx : RecOk 6 (rdV r q) := rdV_ok okr
  go_wp2_with fail
  refine (eqr_same (rdV r q) ax ay cx cy _ ?_ ?_ okx (by omega)).mono ?_
  · exact hx.out.ext (by repeat (first | with_reducible exact Ext.refl _ | with_reducible assumption | with_reducible refine Ext.alloc ?_ _ | with_reducible refine Ext.drew ?_ | ((with_reducible refine Ext.set ?_ ?_ _); (focus (first | (simp; done) | (simp; omega) | omega))) | with_reducible refine Ext.trans ?_ hw3 | with_reducible refine Ext.trans ?_ hw2 | with_reducible refine Ext.trans ?_ hw1))
  · exact hy.out.ext (by repeat (first | with_reducible exact Ext.refl _ | with_reducible assumption | with_reducible refine Ext.alloc ?_ _ | with_reducible refine Ext.drew ?_ | ((with_reducible refine Ext.set ?_ ?_ _); (focus (first | (simp; done) | (simp; omega) | omega))) | with_reducible refine Ext.trans ?_ hw3 | with_reducible refine Ext.trans ?_ hw2 | with_reducible refine Ext.trans ?_ hw1))
  rintro en w4 ⟨rfl, hw4⟩
  have xw4 : Ext w w4 := (by repeat (first | with_reducible exact Ext.refl _ | with_reducible assumption | with_reducible refine Ext.alloc ?_ _ | with_reducible refine Ext.drew ?_ | with_reducible refine Ext.drewN ?_ _ | ((with_reducible refine Ext.set ?_ ?_ _); (focus (first | (simp; done) | (simp; omega)))) | with_reducible refine Ext.trans ?_ (by assumption)))
  have kw4_0 := hw4.more (k := w1.heap.size) (by first | assumption | (simp; done) | (simp; omega) | omega)
  obtain ⟨cw4_0, fw4_0⟩ := hw4.row (k := w1.heap.size) (by first | assumption | (simp; done) | (simp; omega) | omega)
  have kw4_1 := hw4.more (k := w2.heap.size) (by first | assumption | (simp; done) | (simp; omega) | omega)
  obtain ⟨cw4_1, fw4_1⟩ := hw4.row (k := w2.heap.size) (by first | assumption | (simp; done) | (simp; omega) | omega)
  have kw4_2 := hw4.more (k := w3.heap.size) (by first | assumption | (simp; done) | (simp; omega) | omega)
  obtain ⟨cw4_2, fw4_2⟩ := hw4.row (k := w3.heap.size) (by first | assumption | (simp; done) | (simp; omega) | omega)
  go_wp2_with fail
  refine (isr_spec r ar cr _ ?_ okr (by omega)).mono ?_
  · exact hr.out.ext (by repeat (first | with_reducible exact Ext.refl _ | with_reducible assumption | with_reducible refine Ext.alloc ?_ _ | with_reducible refine Ext.drew ?_ | ((with_reducible refine Ext.set ?_ ?_ _); (focus (first | (simp; done) | (simp; omega) | omega))) | with_reducible refine Ext.trans ?_ hw4 | with_reducible refine Ext.trans ?_ hw3 | with_reducible refine Ext.trans ?_ hw2 | with_reducible refine Ext.trans ?_ hw1))
  rintro en w5 ⟨rfl, hw5⟩
  have xw5 : Ext w w5 := (by repeat (first | with_reducible exact Ext.refl _ | with_reducible assumption | with_reducible refine Ext.alloc ?_ _ | with_reducible refine Ext.drew ?_ | with_reducible refine Ext.drewN ?_ _ | ((with_reducible refine Ext.set ?_ ?_ _); (focus (first | (simp; done) | (simp; omega)))) | with_reducible refine Ext.trans ?_ (by assumption)))
  have kw5_0 := hw5.more (k := w1.heap.size) (by first | assumption | (simp; done) | (simp; omega) | omega)
  obtain ⟨cw5_0, fw5_0⟩ := hw5.row (k := w1.heap.size) (by first | assumption | (simp; done) | (simp; omega) | omega)
  have kw5_1 := hw5.more (k := w2.heap.size) (by first | assumption | (simp; done) | (simp; omega) | omega)
  obtain ⟨cw5_1, fw5_1⟩ := hw5.row (k := w2.heap.size) (by first | assumption | (simp; done) | (simp; omega) | omega)
  have kw5_2 := hw5.more (k := w3.heap.size) (by first | assumption | (simp; done) | (simp; omega) | omega)
  obtain ⟨cw5_2, fw5_2⟩ := hw5.row (k := w3.heap.size) (by first | assumption | (simp; done) | (simp; omega) | omega)
  rcases Bool.eq_false_or_eq_true (rvIs r) with hI | hI
  rotate_left
  · have hT := read_none (q := q) hI
    rw [hT] at *
    go_wp2
    go_ret
    exact ⟨rfl, (by repeat (first | with_reducible exact Ext.refl _ | with_reducible assumption | with_reducible refine Ext.alloc ?_ _ | with_reducible refine Ext.drew ?_ | with_reducible refine Ext.drewN ?_ _ | ((with_reducible refine Ext.set ?_ ?_ _); (focus (first | (simp; done) | (simp; omega)))) | with_reducible refine Ext.trans ?_ (by assumption)))⟩
  have hok := read_ok (q := q) hI
  obtain ⟨p1, p2⟩ := hok
  replace p1 : rvIs (rdV r q) = true := p1
  have p2e : decide ((rdV r q).st < r.st) = false := decide_eq_false (by omega)
  go_wp2_with fail
  refine (isr_impl (rdV r q) ay cy _ ?_ okx (by omega)).mono ?_
  · exact hy.out.ext (by repeat (first | with_reducible exact Ext.refl _ | with_reducible assumption | with_reducible refine Ext.alloc ?_ _ | with_reducible refine Ext.drew ?_ | ((with_reducible refine Ext.set ?_ ?_ _); (focus (first | (simp; done) | (simp; omega) | omega))) | with_reducible refine Ext.trans ?_ hw5 | with_reducible refine Ext.trans ?_ hw4 | with_reducible refine Ext.trans ?_ hw3 | with_reducible refine Ext.trans ?_ hw2 | with_reducible refine Ext.trans ?_ hw1))
  rintro en w6 ⟨rfl, hw6⟩
  have xw6 : Ext w w6 := (by repeat (first | with_reducible exact Ext.refl _ | with_reducible assumption | with_reducible refine Ext.alloc ?_ _ | with_reducible refine Ext.drew ?_ | with_reducible refine Ext.drewN ?_ _ | ((with_reducible refine Ext.set ?_ ?_ _); (focus (first | (simp; done) | (simp; omega)))) | with_reducible refine Ext.trans ?_ (by assumption)))
  have kw6_0 := hw6.more (k := w1.heap.size) (by first | assumption | (simp; done) | (simp; omega) | omega)
  obtain ⟨cw6_0, fw6_0⟩ := hw6.row (k := w1.heap.size) (by first | assumption | (simp; done) | (simp; omega) | omega)
  have kw6_1 := hw6.more (k := w2.heap.size) (by first | assumption | (simp; done) | (simp; omega) | omega)
  obtain ⟨cw6_1, fw6_1⟩ := hw6.row (k := w2.heap.size) (by first | assumption | (simp; done) | (simp; omega) | omega)
  have kw6_2 := hw6.more (k := w3.heap.size) (by first | assumption | (simp; done) | (simp; omega) | omega)
  obtain ⟨cw6_2, fw6_2⟩ := hw6.row (k := w3.heap.size) (by first | assumption | (simp; done) | (simp; omega) | omega)
  have hend := hide (read_end (st := (rdV r q).st) (nx := (rdV r q).nx) (fi := (rdV r q).fi) (hg := (rdV r q).hg) (co := (rdV r q).co) (cs := (rdV r q).cs) p1)
  have p1d : recvIs (rdV r q).st (rdV r q).nx (rdV r q).fi (rdV r q).hg (rdV r q).co (rdV r q).cs = true := p1
  by_cases s5 : (rdV r q).st = 5
  · skip
    have t1 : ((rdV r q).st == 5) = true := by simp [s5]
    have t3 : rvDone (rdV r q) = true := by rw [rvDone, recvDone, p1d, t1]; simp
    have t2 : ((rdV r q).st != 3) = true := by simp [s5]
    clear s5 p1d
    go_wp2_with fail
    refine wp_region_seq (Ext _) (by kernel_rfl) (by kernel_rfl) ((Ext.refl _).drew) ?_
    iterate 25 (((first | (refine wpSeqS_off rfl (by rfl) ?_) | (refine wpSeqS_plain (v := ?_) rfl (by rfl) ?_ ?_; rotate_left; (focus (intro ws hws; obtain ⟨q0, p0⟩ := hws.row (k := w1.heap.size) (by first | assumption | (simp; done) | (simp; omega) | omega); obtain ⟨q1, p1⟩ := hws.row (k := w2.heap.size) (by first | assumption | (simp; done) | (simp; omega) | omega); obtain ⟨q2, p2⟩ := hws.row (k := w3.heap.size) (by first | assumption | (simp; done) | (simp; omega) | omega); go_simp; (try with_reducible rfl); done))) | (refine wpSeqS_call (v := ?_) 27 ?_ rfl (by rfl) ?_ ?_ ?_; rotate_left; rotate_left; (focus (intro ws hws; skip; go_simp; (try with_reducible rfl); done)); (focus (intro ws hws; refine (isd_impl (rdV r q) ay cy ws (hy.out.ext (by first | exact hws | exact Ext.trans (by repeat (first | with_reducible exact Ext.refl _ | with_reducible assumption | with_reducible refine Ext.alloc ?_ _ | with_reducible refine Ext.drew ?_ | ((with_reducible refine Ext.set ?_ ?_ _); (focus (first | (simp; done) | (simp; omega) | omega))) | with_reducible refine Ext.trans ?_ hw6 | with_reducible refine Ext.trans ?_ hw5 | with_reducible refine Ext.trans ?_ hw4 | with_reducible refine Ext.trans ?_ hw3 | with_reducible refine Ext.trans ?_ hw2 | with_reducible refine Ext.trans ?_ hw1)) hws)) okx (by omega)).mono ?_; rintro e w' ⟨rfl, h2⟩; refine ⟨?_, hws.trans h2⟩; (try simp only [*]); (try with_reducible rfl); done))) | fail)); (try simp only [Act.put, List.getElem_toArray, List.getElem_cons_zero, List.getElem_cons_succ, List.setIfInBounds_toArray, List.set_cons_zero, List.set_cons_succ]))
    refine wpSeqS_done (by kernel_rfl) (fun wz hwz => ?_)
    have xwz : Ext w wz := (by repeat (first | with_reducible exact Ext.refl _ | with_reducible assumption | with_reducible refine Ext.alloc ?_ _ | with_reducible refine Ext.drew ?_ | ((with_reducible refine Ext.set ?_ ?_ _); (focus (first | (simp; done) | (simp; omega) | omega))) | with_reducible refine Ext.trans ?_ hwz | with_reducible refine Ext.trans ?_ hw6 | with_reducible refine Ext.trans ?_ hw5 | with_reducible refine Ext.trans ?_ hw4 | with_reducible refine Ext.trans ?_ hw3 | with_reducible refine Ext.trans ?_ hw2 | with_reducible refine Ext.trans ?_ hw1))
    have kwz_0 := hwz.more (k := w1.heap.size) (by first | assumption | (simp; done) | (simp; omega) | omega)
    obtain ⟨cwz_0, fwz_0⟩ := hwz.row (k := w1.heap.size) (by first | assumption | (simp; done) | (simp; omega) | omega)
    have kwz_1 := hwz.more (k := w2.heap.size) (by first | assumption | (simp; done) | (simp; omega) | omega)
    obtain ⟨cwz_1, fwz_1⟩ := hwz.row (k := w2.heap.size) (by first | assumption | (simp; done) | (simp; omega) | omega)
    have kwz_2 := hwz.more (k := w3.heap.size) (by first | assumption | (simp; done) | (simp; omega) | omega)
    obtain ⟨cwz_2, fwz_2⟩ := hwz.row (k := w3.heap.size) (by first | assumption | (simp; done) | (simp; omega) | omega)
    go_wp2
    go_ret
    exact ⟨rfl, (by repeat (first | with_reducible exact Ext.refl _ | with_reducible assumption | with_reducible refine Ext.alloc ?_ _ | with_reducible refine Ext.drew ?_ | with_reducible refine Ext.drewN ?_ _ | ((with_reducible refine Ext.set ?_ ?_ _); (focus (first | (simp; done) | (simp; omega)))) | with_reducible refine Ext.trans ?_ (by assumption)))⟩
  by_cases s3 : (rdV r q).st = 3
  · skip
    have t1 : ((rdV r q).st == 5) = false := by simp [s5]
    have t4 : ((rdV r q).st == 3) = true := by simp [s3]
    have t3 : rvDone (rdV r q) = true := by rw [rvDone, recvDone, p1d, t4]; simp
    have t2 : ((rdV r q).st != 3) = false := by simp [s3]
    have t5 : ((rdV r q).nx == (rdV r q).fi) = true := by simp [hend.out s3]
    clear s5 s3 p1d
    go_wp2_with fail
    refine wp_region_seq (Ext _) (by kernel_rfl) (by kernel_rfl) ((Ext.refl _).drew) ?_
    iterate 25 (((first | (refine wpSeqS_off rfl (by rfl) ?_) | (refine wpSeqS_plain (v := ?_) rfl (by rfl) ?_ ?_; rotate_left; (focus (intro ws hws; obtain ⟨q0, p0⟩ := hws.row (k := w1.heap.size) (by first | assumption | (simp; done) | (simp; omega) | omega); obtain ⟨q1, p1⟩ := hws.row (k := w2.heap.size) (by first | assumption | (simp; done) | (simp; omega) | omega); obtain ⟨q2, p2⟩ := hws.row (k := w3.heap.size) (by first | assumption | (simp; done) | (simp; omega) | omega); go_simp; (try with_reducible rfl); done))) | (refine wpSeqS_call (v := ?_) 27 ?_ rfl (by rfl) ?_ ?_ ?_; rotate_left; rotate_left; (focus (intro ws hws; skip; go_simp; (try with_reducible rfl); done)); (focus (intro ws hws; refine (isd_impl (rdV r q) ay cy ws (hy.out.ext (by first | exact hws | exact Ext.trans (by repeat (first | with_reducible exact Ext.refl _ | with_reducible assumption | with_reducible refine Ext.alloc ?_ _ | with_reducible refine Ext.drew ?_ | ((with_reducible refine Ext.set ?_ ?_ _); (focus (first | (simp; done) | (simp; omega) | omega))) | with_reducible refine Ext.trans ?_ hw6 | with_reducible refine Ext.trans ?_ hw5 | with_reducible refine Ext.trans ?_ hw4 | with_reducible refine Ext.trans ?_ hw3 | with_reducible refine Ext.trans ?_ hw2 | with_reducible refine Ext.trans ?_ hw1)) hws)) okx (by omega)).mono ?_; rintro e w' ⟨rfl, h2⟩; refine ⟨?_, hws.trans h2⟩; (try simp only [*]); (try with_reducible rfl); done))) | fail)); (try simp only [Act.put, List.getElem_toArray, List.getElem_cons_zero, List.getElem_cons_succ, List.setIfInBounds_toArray, List.set_cons_zero, List.set_cons_succ]))
    refine wpSeqS_done (by kernel_rfl) (fun wz hwz => ?_)
    have xwz : Ext w wz := (by repeat (first | with_reducible exact Ext.refl _ | with_reducible assumption | with_reducible refine Ext.alloc ?_ _ | with_reducible refine Ext.drew ?_ | ((with_reducible refine Ext.set ?_ ?_ _); (focus (first | (simp; done) | (simp; omega) | omega))) | with_reducible refine Ext.trans ?_ hwz | with_reducible refine Ext.trans ?_ hw6 | with_reducible refine Ext.trans ?_ hw5 | with_reducible refine Ext.trans ?_ hw4 | with_reducible refine Ext.trans ?_ hw3 | with_reducible refine Ext.trans ?_ hw2 | with_reducible refine Ext.trans ?_ hw1))
    have kwz_0 := hwz.more (k := w1.heap.size) (by first | assumption | (simp; done) | (simp; omega) | omega)
    obtain ⟨cwz_0, fwz_0⟩ := hwz.row (k := w1.heap.size) (by first | assumption | (simp; done) | (simp; omega) | omega)
    have kwz_1 := hwz.more (k := w2.heap.size) (by first | assumption | (simp; done) | (simp; omega) | omega)
    obtain ⟨cwz_1, fwz_1⟩ := hwz.row (k := w2.heap.size) (by first | assumption | (simp; done) | (simp; omega) | omega)
    have kwz_2 := hwz.more (k := w3.heap.size) (by first | assumption | (simp; done) | (simp; omega) | omega)
    obtain ⟨cwz_2, fwz_2⟩ := hwz.row (k := w3.heap.size) (by first | assumption | (simp; done) | (simp; omega) | omega)
    go_wp2
    go_ret
    exact ⟨rfl, (by repeat (first | with_reducible exact Ext.refl _ | with_reducible assumption | with_reducible refine Ext.alloc ?_ _ | with_reducible refine Ext.drew ?_ | with_reducible refine Ext.drewN ?_ _ | ((with_reducible refine Ext.set ?_ ?_ _); (focus (first | (simp; done) | (simp; omega)))) | with_reducible refine Ext.trans ?_ (by assumption)))⟩
  · skip
    have t1 : ((rdV r q).st == 5) = false := by simp [s5]
    have t4 : ((rdV r q).st == 3) = false := by simp [s3]
    have t3 : rvDone (rdV r q) = false := by rw [rvDone, recvDone, t1, t4]; simp
    have t2 : ((rdV r q).st != 3) = true := by simp [s3]
    clear s5 s3 p1d
    go_wp2_with fail
    refine wp_region_seq (Ext _) (by kernel_rfl) (by kernel_rfl) ((Ext.refl _).drew) ?_
    iterate 25 (((first | (refine wpSeqS_off rfl (by rfl) ?_) | (refine wpSeqS_plain (v := ?_) rfl (by rfl) ?_ ?_; rotate_left; (focus (intro ws hws; obtain ⟨q0, p0⟩ := hws.row (k := w1.heap.size) (by first | assumption | (simp; done) | (simp; omega) | omega); obtain ⟨q1, p1⟩ := hws.row (k := w2.heap.size) (by first | assumption | (simp; done) | (simp; omega) | omega); obtain ⟨q2, p2⟩ := hws.row (k := w3.heap.size) (by first | assumption | (simp; done) | (simp; omega) | omega); go_simp; (try with_reducible rfl); done))) | (refine wpSeqS_call (v := ?_) 27 ?_ rfl (by rfl) ?_ ?_ ?_; rotate_left; rotate_left; (focus (intro ws hws; skip; go_simp; (try with_reducible rfl); done)); (focus (intro ws hws; refine (isd_impl (rdV r q) ay cy ws (hy.out.ext (by first | exact hws | exact Ext.trans (by repeat (first | with_reducible exact Ext.refl _ | with_reducible assumption | with_reducible refine Ext.alloc ?_ _ | with_reducible refine Ext.drew ?_ | ((with_reducible refine Ext.set ?_ ?_ _); (focus (first | (simp; done) | (simp; omega) | omega))) | with_reducible refine Ext.trans ?_ hw6 | with_reducible refine Ext.trans ?_ hw5 | with_reducible refine Ext.trans ?_ hw4 | with_reducible refine Ext.trans ?_ hw3 | with_reducible refine Ext.trans ?_ hw2 | with_reducible refine Ext.trans ?_ hw1)) hws)) okx (by omega)).mono ?_; rintro e w' ⟨rfl, h2⟩; refine ⟨?_, hws.trans h2⟩; (try simp only [*]); (try with_reducible rfl); done))) | fail)); (try simp only [Act.put, List.getElem_toArray, List.getElem_cons_zero, List.getElem_cons_succ, List.setIfInBounds_toArray, List.set_cons_zero, List.set_cons_succ]))
    refine wpSeqS_done (by kernel_rfl) (fun wz hwz => ?_)
    have xwz : Ext w wz := (by repeat (first | with_reducible exact Ext.refl _ | with_reducible assumption | with_reducible refine Ext.alloc ?_ _ | with_reducible refine Ext.drew ?_ | ((with_reducible refine Ext.set ?_ ?_ _); (focus (first | (simp; done) | (simp; omega) | omega))) | with_reducible refine Ext.trans ?_ hwz | with_reducible refine Ext.trans ?_ hw6 | with_reducible refine Ext.trans ?_ hw5 | with_reducible refine Ext.trans ?_ hw4 | with_reducible refine Ext.trans ?_ hw3 | with_reducible refine Ext.trans ?_ hw2 | with_reducible refine Ext.trans ?_ hw1))
    have kwz_0 := hwz.more (k := w1.heap.size) (by first | assumption | (simp; done) | (simp; omega) | omega)
    obtain ⟨cwz_0, fwz_0⟩ := hwz.row (k := w1.heap.size) (by first | assumption | (simp; done) | (simp; omega) | omega)
    have kwz_1 := hwz.more (k := w2.heap.size) (by first | assumption | (simp; done) | (simp; omega) | omega)
    obtain ⟨cwz_1, fwz_1⟩ := hwz.row (k := w2.heap.size) (by first | assumption | (simp; done) | (simp; omega) | omega)
    have kwz_2 := hwz.more (k := w3.heap.size) (by first | assumption | (simp; done) | (simp; omega) | omega)
    obtain ⟨cwz_2, fwz_2⟩ := hwz.row (k := w3.heap.size) (by first | assumption | (simp; done) | (simp; omega) | omega)
    go_wp2
    go_ret
    exact ⟨rfl, (by repeat (first | with_reducible exact Ext.refl _ | with_reducible assumption | with_reducible refine Ext.alloc ?_ _ | with_reducible refine Ext.drew ?_ | with_reducible refine Ext.drewN ?_ _ | ((with_reducible refine Ext.set ?_ ?_ _); (focus (first | (simp; done) | (simp; omega)))) | with_reducible refine Ext.trans ?_ (by assumption)))⟩
/-! ### the row of FnReads -/
theorem reads_reads : ∀ t ∈ Try.f12.params.toList, Try.prog.readableRec t = true ∧ t < Try.prog.types.size := by
  rw [Try.params12]
  intro t ht
  simp only [List.mem_cons, List.not_mem_nil, or_false] at ht
  subst ht
  exact ⟨by kernel_rfl, of_decide_eq_true (by kernel_rfl)⟩
set_option maxRecDepth 100000 in
theorem reads_lifted (os : Os) (started : os.Started) (H : Type) (enc : TypeId × Value → H) :
    ReturnsInHanded {} Try.checked os 12 .any (Rows.fnReadsSpec.pre6 enc Try.prog Try.f12 Rows.fnReadsRow.domain false) (Rows.fnReadsSpec.post enc Try.prog Try.f12 false true false false) := by
  refine returnsInHanded_of_change (C := Try.checked) ownKnobNone started (by kernel_rfl) Try.func12
    (ChangeSpec.witness6 (enc := enc) (C := Try.checked) false ⟨#[], #[.slice none 0 0], []⟩ 8 (by kernel_rfl) (by kernel_rfl) (by kernel_rfl) (by kernel_rfl)) ?_
  intro W base args ds gs before hval0 hW hcnd _
  have hval : ∀ (j : Nat) t v, Try.f12.params[j]? = some t → args[j]? = some v → Value.okWide Try.prog W .any base t v := hval0
  have hW' := hW
  obtain ⟨p, q, hA0, hV, rfl, hfz, hnd⟩ := hW
  have hA : DataW.TrodAll enc Try.prog W 0 (fun _ => true) true Try.f12.params.toList args.toList ds p := hA0
  rw [Try.params12] at hA hval
  obtain ⟨v0, vs0, d0, ds0, p0, q0, hargs, rfl, rfl, h0, r0⟩ := trodAll_cons hA
  obtain ⟨rfl, rfl, rfl⟩ := trodAll_nil r0
  obtain rfl : args = #[v0] := by cases args; simp_all
  obtain ⟨ao, len, cap, rfl, hcode⟩ := open_code Try.underlying49 Try.underlying5 (by kernel_rfl) (hval 0 49 v0 rfl rfl) h0
  refine (reads_walk ao len cap W hcode).mono fun e W' ⟨he, hg⟩ => ?_
  subst he
  exact ⟨_, rfl, law_post laidOut reads_reads rfl rfl Try.underlying4 hW' (fun gs h => by subst h; rfl) hg⟩
theorem reads_over : Rows.fnReadsRow.holds Try.pinned (OpenSpec.ofChange Rows.fnReadsSpec) :=
  OpenClaim.holds_of_wide 12 Try.f12 rfl rfl rfl rfl rfl rfl rfl ⟨rfl, rfl, rfl, rfl, rfl⟩ rfl rfl rfl rfl rfl (by kernel_rfl) Try.func12 (by kernel_rfl)
    (of_decide_eq_true (by kernel_rfl)) (by unfold Func.isWrapper; first | (rw [if_pos (by decide +kernel)]; kernel_rfl) | (rw [if_neg (by decide +kernel)]; exact ⟨rfl, rfl⟩))
    (fun os started H enc _ => reads_lifted os started H enc)
/-- The statement. -/
theorem reads_holds : Rows.FnReadsSaid := reads_over
#print axioms reads_holds
end Go.Proofs.Ytifhbchlmlaanaa

/-
  Contracts of EndOf, ReadyBytes and readyEnd. Conditions: the chunks can be read.
-/
import Derived.Test.YtjnbiacnhimkgaaIsBuf
import Derived.Test.YtjnbiacnhimkgaaSteady
namespace Go.Proofs.Ytjnbiacnhimkgaa
open Go.ChangeShapes Go.WideShapes Go.ChangeAt Go.RowKit
set_option linter.unusedSimpArgs false
set_option linter.unusedVariables false
theorem bufFrom_at : ∀ (cs : List Ck) (l : Int) (k : Nat), bufFrom l cs = true → k < cs.length → 0 < (cs.getD k dk).2.size ∧ l ≤ (cs.getD k dk).1 ∧ (cs.getD k dk).1 + ((cs.getD k dk).2.size : Int) ≤ 4611686018427387903
  | [], _, _, _, h => absurd h (by simp)
  | c :: cs, l, k, h, hk => by
    simp only [bufFrom, Bool.and_eq_true, decide_eq_true_eq] at h
    obtain ⟨h1, h2, h3, h4⟩ := h
    cases k with
    | zero => exact ⟨h1, h2, h3⟩
    | succ k =>
      have := bufFrom_at cs _ k h4 (by simpa using hk)
      simp only [List.getD_cons_succ]
      omega
theorem isBuf_at {nx : Int} {cs : List Ck} (h : isBuf nx cs = true) {k : Nat} (hk : k < cs.length) : 0 < (cs.getD k dk).2.size ∧ 0 ≤ nx ∧ nx ≤ (cs.getD k dk).1 ∧ (cs.getD k dk).1 + ((cs.getD k dk).2.size : Int) ≤ 4611686018427387903 := by
  simp only [isBuf, Bool.and_eq_true] at h
  obtain ⟨q1, q2⟩ := inB_true h.1
  have := bufFrom_at cs nx k h.2 hk
  omega
/-- The place behind the last chunk. -/
def endOf (nx : Int) (cs : List Ck) : Int := if isBuf nx cs = true ∧ 0 < cs.length then (cs.getD (cs.length - 1) dk).1 + ((cs.getD (cs.length - 1) dk).2.size : Int) else nx
/-- How many bytes are ready. -/
def readyB (nx : Int) (cs : List Ck) : Int := if isBuf nx cs = true ∧ 0 < cs.length ∧ (cs.getD 0 dk).1 = nx then ((cs.getD 0 dk).2.size : Int) else 0
theorem readyB_bd (nx : Int) (cs : List Ck) : 0 ≤ readyB nx cs ∧ readyB nx cs ≤ 4611686018427387903 ∧ (0 < readyB nx cs → 0 ≤ nx ∧ nx + readyB nx cs ≤ 4611686018427387903) := by
  unfold readyB
  split
  · rename_i h
    have := isBuf_at h.1 h.2.1
    omega
  · omega
set_option maxHeartbeats 2000000 in
theorem EndOf_impl (nx : Int) (ao : Option Addr) (n ca : Nat) (cs : List Ck) (w : World) (hx : ReadC w ao cs) (hn : cs.length = n) (hl : (n : Int) ≤ 9223372036854775807) (hw : WfC cs) :
    Calls Try.prog 15 #[.agg #[.int .i64 nx, .slice ao n ca]] w fun en w' => en = .returned (.int .i64 (endOf nx cs)) ∧ Ext w w' := by
  rcases Nat.eq_zero_or_pos n with rfl | hpos
  · have hval : Hid (endOf nx cs = nx) := hide (by rw [endOf, if_neg (by rw [hn]; omega)])
    rcases Bool.eq_false_or_eq_true (isBuf nx cs) with hB | hB
    · go_enter Try.func15, Try.ntmps15
      go_wp2_with fail
      refine (IsBuffer_impl nx ao 0 ca cs _ (hx.ext (by repeat (first | with_reducible exact Ext.refl _ | with_reducible assumption | with_reducible refine Ext.alloc ?_ _ | with_reducible refine Ext.drew ?_ | with_reducible refine Ext.drewN ?_ _ | ((with_reducible refine Ext.set ?_ ?_ _); (focus (first | (simp; done) | (simp; omega)))) | with_reducible refine Ext.trans ?_ (by assumption)))) hn hl hw).mono ?_
      rintro en w1 ⟨rfl, hb⟩
      rw [hB]
      have kb0 := hb.more (k := w.heap.size) (by first | assumption | (simp; done) | (simp; omega) | omega)
      obtain ⟨c0, f0⟩ := hb.row (k := w.heap.size) (by first | assumption | (simp; done) | (simp; omega) | omega)
      clear hx hn hw
      go_wp2
      go_ret
      exact ⟨by rw [hval.out]; rfl, (by repeat (first | with_reducible exact Ext.refl _ | with_reducible assumption | with_reducible refine Ext.alloc ?_ _ | with_reducible refine Ext.drew ?_ | with_reducible refine Ext.drewN ?_ _ | ((with_reducible refine Ext.set ?_ ?_ _); (focus (first | (simp; done) | (simp; omega)))) | with_reducible refine Ext.trans ?_ (by assumption)))⟩
    · go_enter Try.func15, Try.ntmps15
      go_wp2_with fail
      refine (IsBuffer_impl nx ao 0 ca cs _ (hx.ext (by repeat (first | with_reducible exact Ext.refl _ | with_reducible assumption | with_reducible refine Ext.alloc ?_ _ | with_reducible refine Ext.drew ?_ | with_reducible refine Ext.drewN ?_ _ | ((with_reducible refine Ext.set ?_ ?_ _); (focus (first | (simp; done) | (simp; omega)))) | with_reducible refine Ext.trans ?_ (by assumption)))) hn hl hw).mono ?_
      rintro en w1 ⟨rfl, hb⟩
      rw [hB]
      have kb0 := hb.more (k := w.heap.size) (by first | assumption | (simp; done) | (simp; omega) | omega)
      obtain ⟨c0, f0⟩ := hb.row (k := w.heap.size) (by first | assumption | (simp; done) | (simp; omega) | omega)
      clear hx hn hw
      go_wp2
      go_ret
      exact ⟨by rw [hval.out]; rfl, (by repeat (first | with_reducible exact Ext.refl _ | with_reducible assumption | with_reducible refine Ext.alloc ?_ _ | with_reducible refine Ext.drew ?_ | with_reducible refine Ext.drewN ?_ _ | ((with_reducible refine Ext.set ?_ ?_ _); (focus (first | (simp; done) | (simp; omega)))) | with_reducible refine Ext.trans ?_ (by assumption)))⟩
  · rcases Bool.eq_false_or_eq_true (isBuf nx cs) with hB | hB
    · go_enter Try.func15, Try.ntmps15
      go_wp2_with fail
      refine (IsBuffer_impl nx ao n ca cs _ (hx.ext (by repeat (first | with_reducible exact Ext.refl _ | with_reducible assumption | with_reducible refine Ext.alloc ?_ _ | with_reducible refine Ext.drew ?_ | with_reducible refine Ext.drewN ?_ _ | ((with_reducible refine Ext.set ?_ ?_ _); (focus (first | (simp; done) | (simp; omega)))) | with_reducible refine Ext.trans ?_ (by assumption)))) hn hl hw).mono ?_
      rintro en w1 ⟨rfl, hb⟩
      rw [hB]
      have kb0 := hb.more (k := w.heap.size) (by first | assumption | (simp; done) | (simp; omega) | omega)
      obtain ⟨c0, f0⟩ := hb.row (k := w.heap.size) (by first | assumption | (simp; done) | (simp; omega) | omega)
      rcases hx with rfl | ⟨bx, off, rfl, hx⟩
      · simp at hn; omega
      rw [hn] at hx
      have la : bx < w.heap.size := World.block_lt_of_cell? w _ (hx 0 hpos).1
      have hn' := hide hn
      clear hn hw
      obtain ⟨d1, d2⟩ := hx (n - 1) (by omega)
      have hr := ((Ext.trans ((Ext.refl w).alloc _) hb).row la).1
      have dx := (hr _).trans d1
      have dx2 := (hr _).trans d2
      have hw1 : IntKind.i64.wrap ((n : Int) - 1) = ((n - 1 : Nat) : Int) := by rw [IntWalk.i64_in _ (by omega)]; omega
      have i1 : (0 : Int) ≤ ((n - 1 : Nat) : Int) := by omega
      have i2 : ((n - 1 : Nat) : Int) < (n : Int) := by omega
      have hat := isBuf_at hB (k := n - 1) (by rw [hn'.out]; omega)
      have hval : Hid (endOf nx cs = (cs.getD (n - 1) dk).1 + ((cs.getD (n - 1) dk).2.size : Int)) := hide (by rw [endOf, hn'.out, if_pos ⟨hB, by omega⟩])
      have hwn : RowKit.wrap64 ((n : Int) - 1) = ((n - 1 : Nat) : Int) := by rw [← IntWalk.i64_left]; exact hw1
      clear hx d1 d2 hr
      generalize (cs.getD (n - 1) dk) = c at *
      generalize n - 1 = j at *
      have hwe : IntKind.i64.wrap (c.1 + (c.2.size : Int)) = c.1 + (c.2.size : Int) := IntWalk.i64_in _ (by omega)
      go_wp2_with fail
      refine (end_any c _ (by omega) (by omega)).mono ?_
      rintro en w2 ⟨rfl, hb2⟩
      go_wp2
      go_ret
      exact ⟨by rw [hval.out]; rfl, (by repeat (first | with_reducible exact Ext.refl _ | with_reducible assumption | with_reducible refine Ext.alloc ?_ _ | with_reducible refine Ext.drew ?_ | with_reducible refine Ext.drewN ?_ _ | ((with_reducible refine Ext.set ?_ ?_ _); (focus (first | (simp; done) | (simp; omega)))) | with_reducible refine Ext.trans ?_ (by assumption)))⟩
    · have hval : Hid (endOf nx cs = nx) := hide (by rw [endOf, if_neg (by simp [hB])])
      go_enter Try.func15, Try.ntmps15
      go_wp2_with fail
      refine (IsBuffer_impl nx ao n ca cs _ (hx.ext (by repeat (first | with_reducible exact Ext.refl _ | with_reducible assumption | with_reducible refine Ext.alloc ?_ _ | with_reducible refine Ext.drew ?_ | with_reducible refine Ext.drewN ?_ _ | ((with_reducible refine Ext.set ?_ ?_ _); (focus (first | (simp; done) | (simp; omega)))) | with_reducible refine Ext.trans ?_ (by assumption)))) hn hl hw).mono ?_
      rintro en w1 ⟨rfl, hb⟩
      rw [hB]
      have kb0 := hb.more (k := w.heap.size) (by first | assumption | (simp; done) | (simp; omega) | omega)
      obtain ⟨c0, f0⟩ := hb.row (k := w.heap.size) (by first | assumption | (simp; done) | (simp; omega) | omega)
      clear hx hn hw
      go_wp2
      go_ret
      exact ⟨by rw [hval.out]; rfl, (by repeat (first | with_reducible exact Ext.refl _ | with_reducible assumption | with_reducible refine Ext.alloc ?_ _ | with_reducible refine Ext.drew ?_ | with_reducible refine Ext.drewN ?_ _ | ((with_reducible refine Ext.set ?_ ?_ _); (focus (first | (simp; done) | (simp; omega)))) | with_reducible refine Ext.trans ?_ (by assumption)))⟩
set_option maxHeartbeats 2000000 in
theorem EndOf_spec (nx : Int) (ao : Option Addr) (n ca : Nat) (cs : List Ck) (w : World) (hx : ReadC w ao cs) (hn : cs.length = n) (hl : (n : Int) ≤ 9223372036854775807) (hw : WfC cs) :
    Calls Try.prog 20 #[.agg #[.int .i64 nx, .slice ao n ca]] w fun en w' => en = .returned (.int .i64 (endOf nx cs)) ∧ Ext w w' := by
  rcases Nat.eq_zero_or_pos n with rfl | hpos
  · have hval : Hid (endOf nx cs = nx) := hide (by rw [endOf, if_neg (by rw [hn]; omega)])
    clear hx hn hw
    go_enter Try.func20, Try.ntmps20
    go_wp2
    go_ret
    exact ⟨by rw [hval.out]; rfl, (by repeat (first | with_reducible exact Ext.refl _ | with_reducible assumption | with_reducible refine Ext.alloc ?_ _ | with_reducible refine Ext.drew ?_ | with_reducible refine Ext.drewN ?_ _ | ((with_reducible refine Ext.set ?_ ?_ _); (focus (first | (simp; done) | (simp; omega)))) | with_reducible refine Ext.trans ?_ (by assumption)))⟩
  · rcases Bool.eq_false_or_eq_true (isBuf nx cs) with hB | hB
    · go_enter Try.func20, Try.ntmps20
      go_wp2_with fail
      refine (IsBuffer_spec nx ao n ca cs _ (hx.ext (by repeat (first | with_reducible exact Ext.refl _ | with_reducible assumption | with_reducible refine Ext.alloc ?_ _ | with_reducible refine Ext.drew ?_ | with_reducible refine Ext.drewN ?_ _ | ((with_reducible refine Ext.set ?_ ?_ _); (focus (first | (simp; done) | (simp; omega)))) | with_reducible refine Ext.trans ?_ (by assumption)))) hn hl hw).mono ?_
      rintro en w1 ⟨rfl, hb⟩
      rw [hB]
      have kb0 := hb.more (k := w.heap.size) (by first | assumption | (simp; done) | (simp; omega) | omega)
      obtain ⟨c0, f0⟩ := hb.row (k := w.heap.size) (by first | assumption | (simp; done) | (simp; omega) | omega)
      rcases hx with rfl | ⟨bx, off, rfl, hx⟩
      · simp at hn; omega
      rw [hn] at hx
      have la : bx < w.heap.size := World.block_lt_of_cell? w _ (hx 0 hpos).1
      have hn' := hide hn
      clear hn hw
      obtain ⟨d1, d2⟩ := hx (n - 1) (by omega)
      have hr := ((Ext.trans ((Ext.refl w).alloc _) hb).row la).1
      have dx := (hr _).trans d1
      have dx2 := (hr _).trans d2
      have hw1 : IntKind.i64.wrap ((n : Int) - 1) = ((n - 1 : Nat) : Int) := by rw [IntWalk.i64_in _ (by omega)]; omega
      have i1 : (0 : Int) ≤ ((n - 1 : Nat) : Int) := by omega
      have i2 : ((n - 1 : Nat) : Int) < (n : Int) := by omega
      have hat := isBuf_at hB (k := n - 1) (by rw [hn'.out]; omega)
      have hval : Hid (endOf nx cs = (cs.getD (n - 1) dk).1 + ((cs.getD (n - 1) dk).2.size : Int)) := hide (by rw [endOf, hn'.out, if_pos ⟨hB, by omega⟩])
      have hwn : RowKit.wrap64 ((n : Int) - 1) = ((n - 1 : Nat) : Int) := by rw [← IntWalk.i64_left]; exact hw1
      clear hx d1 d2 hr
      generalize (cs.getD (n - 1) dk) = c at *
      generalize n - 1 = j at *
      have hwe : IntKind.i64.wrap (c.1 + (c.2.size : Int)) = c.1 + (c.2.size : Int) := IntWalk.i64_in _ (by omega)
      go_wp2
      go_ret
      exact ⟨by rw [hval.out]; rfl, (by repeat (first | with_reducible exact Ext.refl _ | with_reducible assumption | with_reducible refine Ext.alloc ?_ _ | with_reducible refine Ext.drew ?_ | with_reducible refine Ext.drewN ?_ _ | ((with_reducible refine Ext.set ?_ ?_ _); (focus (first | (simp; done) | (simp; omega)))) | with_reducible refine Ext.trans ?_ (by assumption)))⟩
    · have hval : Hid (endOf nx cs = nx) := hide (by rw [endOf, if_neg (by simp [hB])])
      go_enter Try.func20, Try.ntmps20
      go_wp2_with fail
      refine (IsBuffer_spec nx ao n ca cs _ (hx.ext (by repeat (first | with_reducible exact Ext.refl _ | with_reducible assumption | with_reducible refine Ext.alloc ?_ _ | with_reducible refine Ext.drew ?_ | with_reducible refine Ext.drewN ?_ _ | ((with_reducible refine Ext.set ?_ ?_ _); (focus (first | (simp; done) | (simp; omega)))) | with_reducible refine Ext.trans ?_ (by assumption)))) hn hl hw).mono ?_
      rintro en w1 ⟨rfl, hb⟩
      rw [hB]
      have kb0 := hb.more (k := w.heap.size) (by first | assumption | (simp; done) | (simp; omega) | omega)
      obtain ⟨c0, f0⟩ := hb.row (k := w.heap.size) (by first | assumption | (simp; done) | (simp; omega) | omega)
      clear hx hn hw
      go_wp2
      go_ret
      exact ⟨by rw [hval.out]; rfl, (by repeat (first | with_reducible exact Ext.refl _ | with_reducible assumption | with_reducible refine Ext.alloc ?_ _ | with_reducible refine Ext.drew ?_ | with_reducible refine Ext.drewN ?_ _ | ((with_reducible refine Ext.set ?_ ?_ _); (focus (first | (simp; done) | (simp; omega)))) | with_reducible refine Ext.trans ?_ (by assumption)))⟩
set_option maxHeartbeats 4000000 in
set_option maxRecDepth 100000 in
theorem ReadyBytes_impl (nx : Int) (ao : Option Addr) (n ca : Nat) (cs : List Ck) (w : World) (hx : ReadC w ao cs) (hn : cs.length = n) (hl : (n : Int) ≤ 9223372036854775807) (hw : WfC cs) :
    Calls Try.prog 21 #[.agg #[.int .i64 nx, .slice ao n ca]] w fun en w' => en = .returned (.int .i64 (readyB nx cs)) ∧ Ext w w' := by
  have hw' := hide hw
  clear hw
  rcases Bool.eq_false_or_eq_true (isBuf nx cs) with hB | hB
  · rcases Nat.eq_zero_or_pos n with rfl | hpos
    · have hval : Hid (readyB nx cs = 0) := hide (by rw [readyB, if_neg (by rw [hn]; omega)])
      have hn' := hide hn
      have hx' := hide hx
      clear hn hx
      go_enter Try.func21, Try.ntmps21
      go_wp2_with fail
      refine wp_region_seq (Ext _) (by kernel_rfl) (by kernel_rfl) ((Ext.refl _).drew) ?_
      iterate 19 (((first | (refine wpSeqS_off rfl (by rfl) ?_) | (refine wpSeqS_plain (v := ?_) rfl (by rfl) ?_ ?_; rotate_left; (focus (intro ws hws; obtain ⟨q0, p0⟩ := hws.row (k := w.heap.size) (by first | assumption | (simp; done) | (simp; omega) | omega); go_simp; (try with_reducible rfl); done))) | (refine wpSeqS_call (v := ?_) 9 ?_ rfl (by rfl) ?_ ?_ ?_; rotate_left; rotate_left; (focus (intro ws hws; skip; go_simp; (try with_reducible rfl); done)); (focus (intro ws hws; refine (IsBuffer_impl nx ao 0 ca cs ws (hx'.out.ext (Ext.trans ((Ext.refl w).alloc _) hws)) hn'.out hl hw'.out).mono ?_; rintro e w' ⟨rfl, h2⟩; refine ⟨?_, hws.trans h2⟩; (try simp only [*]); (try with_reducible rfl); done))) | fail)); (try simp only [Act.put, List.getElem_toArray, List.getElem_cons_zero, List.getElem_cons_succ, List.setIfInBounds_toArray, List.set_cons_zero, List.set_cons_succ]))
      refine wpSeqS_done (by kernel_rfl) (fun ws hws => ?_)
      go_wp2
      go_ret
      exact ⟨by rw [hval.out]; rfl, (Ext.trans (((Ext.refl w).alloc _)) hws)⟩
    · have hx' := hide hx
      rcases hx with rfl | ⟨bx, off, rfl, hx⟩
      · simp at hn; omega
      rw [hn] at hx
      have la : bx < w.heap.size := World.block_lt_of_cell? w _ (hx 0 hpos).1
      obtain ⟨e1, e2⟩ := hx 0 hpos
      simp only [Nat.zero_mul, Nat.add_zero] at e1 e2
      have hr := (((Ext.refl w).alloc (.cells #[.int .i64 nx, .slice (some ⟨bx, off, none⟩) n ca] 26)).row la).1
      have dx := (hr _).trans e1
      have dx2 := (hr _).trans e2
      have hv0 : Hid (readyB nx cs = if (cs.getD 0 dk).1 = nx then ((cs.getD 0 dk).2.size : Int) else 0) := hide (by unfold readyB; simp [hB, hn, hpos])
      have hn' := hide hn
      have hpz : ((n : Int) == 0) = false := beq_eq_false_iff_ne.2 (by omega)
      have hp2 : (0 : Int) < (n : Int) := by omega
      clear hn hx e1 e2 hr
      revert hx'
      generalize hcs : cs.getD 0 dk = c at *
      clear hcs
      intro hx'
      by_cases hc : c.1 = nx
      · have hne : (c.1 != nx) = false := by simp [hc]
        have hval : Hid (readyB nx cs = (c.2.size : Int)) := hide (by rw [hv0.out, if_pos hc])
        clear hc hv0
        go_enter Try.func21, Try.ntmps21
        go_wp2_with fail
        refine wp_region_seq (Ext _) (by kernel_rfl) (by kernel_rfl) ((Ext.refl _).drew) ?_
        iterate 19 (((first | (refine wpSeqS_off rfl (by rfl) ?_) | (refine wpSeqS_plain (v := ?_) rfl (by rfl) ?_ ?_; rotate_left; (focus (intro ws hws; obtain ⟨q0, p0⟩ := hws.row (k := w.heap.size) (by first | assumption | (simp; done) | (simp; omega) | omega); obtain ⟨q1, p1⟩ := hws.row (k := bx) (by first | assumption | (simp; done) | (simp; omega) | omega); go_simp; (try with_reducible rfl); done))) | (refine wpSeqS_call (v := ?_) 9 ?_ rfl (by rfl) ?_ ?_ ?_; rotate_left; rotate_left; (focus (intro ws hws; skip; go_simp; (try with_reducible rfl); done)); (focus (intro ws hws; refine (IsBuffer_impl nx _ n ca cs ws (hx'.out.ext (Ext.trans ((Ext.refl w).alloc _) hws)) hn'.out hl hw'.out).mono ?_; rintro e w' ⟨rfl, h2⟩; refine ⟨?_, hws.trans h2⟩; (try simp only [*]); (try with_reducible rfl); done))) | fail)); (try simp only [Act.put, List.getElem_toArray, List.getElem_cons_zero, List.getElem_cons_succ, List.setIfInBounds_toArray, List.set_cons_zero, List.set_cons_succ]))
        refine wpSeqS_done (by kernel_rfl) (fun ws hws => ?_)
        obtain ⟨q0, p0⟩ := hws.row (k := w.heap.size) (by first | assumption | (simp; done) | (simp; omega) | omega)
        obtain ⟨q1, p1⟩ := hws.row (k := bx) (by first | assumption | (simp; done) | (simp; omega) | omega)
        go_wp2
        go_ret
        exact ⟨by rw [hval.out]; rfl, (Ext.trans (((Ext.refl w).alloc _)) hws)⟩
      · have hne : (c.1 != nx) = true := by simp [hc]
        have hval : Hid (readyB nx cs = 0) := hide (by rw [hv0.out, if_neg hc])
        clear hc hv0
        go_enter Try.func21, Try.ntmps21
        go_wp2_with fail
        refine wp_region_seq (Ext _) (by kernel_rfl) (by kernel_rfl) ((Ext.refl _).drew) ?_
        iterate 19 (((first | (refine wpSeqS_off rfl (by rfl) ?_) | (refine wpSeqS_plain (v := ?_) rfl (by rfl) ?_ ?_; rotate_left; (focus (intro ws hws; obtain ⟨q0, p0⟩ := hws.row (k := w.heap.size) (by first | assumption | (simp; done) | (simp; omega) | omega); obtain ⟨q1, p1⟩ := hws.row (k := bx) (by first | assumption | (simp; done) | (simp; omega) | omega); go_simp; (try with_reducible rfl); done))) | (refine wpSeqS_call (v := ?_) 9 ?_ rfl (by rfl) ?_ ?_ ?_; rotate_left; rotate_left; (focus (intro ws hws; skip; go_simp; (try with_reducible rfl); done)); (focus (intro ws hws; refine (IsBuffer_impl nx _ n ca cs ws (hx'.out.ext (Ext.trans ((Ext.refl w).alloc _) hws)) hn'.out hl hw'.out).mono ?_; rintro e w' ⟨rfl, h2⟩; refine ⟨?_, hws.trans h2⟩; (try simp only [*]); (try with_reducible rfl); done))) | fail)); (try simp only [Act.put, List.getElem_toArray, List.getElem_cons_zero, List.getElem_cons_succ, List.setIfInBounds_toArray, List.set_cons_zero, List.set_cons_succ]))
        refine wpSeqS_done (by kernel_rfl) (fun ws hws => ?_)
        go_wp2
        go_ret
        exact ⟨by rw [hval.out]; rfl, (Ext.trans (((Ext.refl w).alloc _)) hws)⟩
  · have hval : Hid (readyB nx cs = 0) := hide (by rw [readyB, if_neg (by simp [hB])])
    have hn' := hide hn
    have hx' := hide hx
    clear hn hx
    go_enter Try.func21, Try.ntmps21
    go_wp2_with fail
    refine wp_region_seq (Ext _) (by kernel_rfl) (by kernel_rfl) ((Ext.refl _).drew) ?_
    iterate 19 (((first | (refine wpSeqS_off rfl (by rfl) ?_) | (refine wpSeqS_plain (v := ?_) rfl (by rfl) ?_ ?_; rotate_left; (focus (intro ws hws; obtain ⟨q0, p0⟩ := hws.row (k := w.heap.size) (by first | assumption | (simp; done) | (simp; omega) | omega); go_simp; (try with_reducible rfl); done))) | (refine wpSeqS_call (v := ?_) 9 ?_ rfl (by rfl) ?_ ?_ ?_; rotate_left; rotate_left; (focus (intro ws hws; skip; go_simp; (try with_reducible rfl); done)); (focus (intro ws hws; refine (IsBuffer_impl nx ao n ca cs ws (hx'.out.ext (Ext.trans ((Ext.refl w).alloc _) hws)) hn'.out hl hw'.out).mono ?_; rintro e w' ⟨rfl, h2⟩; refine ⟨?_, hws.trans h2⟩; (try simp only [*]); (try with_reducible rfl); done))) | fail)); (try simp only [Act.put, List.getElem_toArray, List.getElem_cons_zero, List.getElem_cons_succ, List.setIfInBounds_toArray, List.set_cons_zero, List.set_cons_succ]))
    refine wpSeqS_done (by kernel_rfl) (fun ws hws => ?_)
    go_wp2
    go_ret
    exact ⟨by rw [hval.out]; rfl, (Ext.trans (((Ext.refl w).alloc _)) hws)⟩
set_option maxHeartbeats 4000000 in
set_option maxRecDepth 100000 in
theorem ReadyBytes_spec (nx : Int) (ao : Option Addr) (n ca : Nat) (cs : List Ck) (w : World) (hx : ReadC w ao cs) (hn : cs.length = n) (hl : (n : Int) ≤ 9223372036854775807) (hw : WfC cs) :
    Calls Try.prog 22 #[.agg #[.int .i64 nx, .slice ao n ca]] w fun en w' => en = .returned (.int .i64 (readyB nx cs)) ∧ Ext w w' := by
  have hw' := hide hw
  clear hw
  rcases Bool.eq_false_or_eq_true (isBuf nx cs) with hB | hB
  · rcases Nat.eq_zero_or_pos n with rfl | hpos
    · have hval : Hid (readyB nx cs = 0) := hide (by rw [readyB, if_neg (by rw [hn]; omega)])
      have hn' := hide hn
      have hx' := hide hx
      clear hn hx
      go_enter Try.func22, Try.ntmps22
      go_wp2_with fail
      refine wp_region_seq (Ext _) (by kernel_rfl) (by kernel_rfl) ((Ext.refl _).drew) ?_
      iterate 19 (((first | (refine wpSeqS_off rfl (by rfl) ?_) | (refine wpSeqS_plain (v := ?_) rfl (by rfl) ?_ ?_; rotate_left; (focus (intro ws hws; obtain ⟨q0, p0⟩ := hws.row (k := w.heap.size) (by first | assumption | (simp; done) | (simp; omega) | omega); go_simp; (try with_reducible rfl); done))) | (refine wpSeqS_call (v := ?_) 10 ?_ rfl (by rfl) ?_ ?_ ?_; rotate_left; rotate_left; (focus (intro ws hws; skip; go_simp; (try with_reducible rfl); done)); (focus (intro ws hws; refine (IsBuffer_spec nx ao 0 ca cs ws (hx'.out.ext (Ext.trans ((Ext.refl w).alloc _) hws)) hn'.out hl hw'.out).mono ?_; rintro e w' ⟨rfl, h2⟩; refine ⟨?_, hws.trans h2⟩; (try simp only [*]); (try with_reducible rfl); done))) | fail)); (try simp only [Act.put, List.getElem_toArray, List.getElem_cons_zero, List.getElem_cons_succ, List.setIfInBounds_toArray, List.set_cons_zero, List.set_cons_succ]))
      refine wpSeqS_done (by kernel_rfl) (fun ws hws => ?_)
      go_wp2
      go_ret
      exact ⟨by rw [hval.out]; rfl, (Ext.trans (((Ext.refl w).alloc _)) hws)⟩
    · have hx' := hide hx
      rcases hx with rfl | ⟨bx, off, rfl, hx⟩
      · simp at hn; omega
      rw [hn] at hx
      have la : bx < w.heap.size := World.block_lt_of_cell? w _ (hx 0 hpos).1
      obtain ⟨e1, e2⟩ := hx 0 hpos
      simp only [Nat.zero_mul, Nat.add_zero] at e1 e2
      have hr := (((Ext.refl w).alloc (.cells #[.int .i64 nx, .slice (some ⟨bx, off, none⟩) n ca] 26)).row la).1
      have dx := (hr _).trans e1
      have dx2 := (hr _).trans e2
      have hv0 : Hid (readyB nx cs = if (cs.getD 0 dk).1 = nx then ((cs.getD 0 dk).2.size : Int) else 0) := hide (by unfold readyB; simp [hB, hn, hpos])
      have hn' := hide hn
      have hpz : ((n : Int) == 0) = false := beq_eq_false_iff_ne.2 (by omega)
      have hp2 : (0 : Int) < (n : Int) := by omega
      clear hn hx e1 e2 hr
      revert hx'
      generalize hcs : cs.getD 0 dk = c at *
      clear hcs
      intro hx'
      by_cases hc : c.1 = nx
      · have hne : (c.1 != nx) = false := by simp [hc]
        have hval : Hid (readyB nx cs = (c.2.size : Int)) := hide (by rw [hv0.out, if_pos hc])
        clear hc hv0
        go_enter Try.func22, Try.ntmps22
        go_wp2_with fail
        refine wp_region_seq (Ext _) (by kernel_rfl) (by kernel_rfl) ((Ext.refl _).drew) ?_
        iterate 19 (((first | (refine wpSeqS_off rfl (by rfl) ?_) | (refine wpSeqS_plain (v := ?_) rfl (by rfl) ?_ ?_; rotate_left; (focus (intro ws hws; obtain ⟨q0, p0⟩ := hws.row (k := w.heap.size) (by first | assumption | (simp; done) | (simp; omega) | omega); obtain ⟨q1, p1⟩ := hws.row (k := bx) (by first | assumption | (simp; done) | (simp; omega) | omega); go_simp; (try with_reducible rfl); done))) | (refine wpSeqS_call (v := ?_) 10 ?_ rfl (by rfl) ?_ ?_ ?_; rotate_left; rotate_left; (focus (intro ws hws; skip; go_simp; (try with_reducible rfl); done)); (focus (intro ws hws; refine (IsBuffer_spec nx _ n ca cs ws (hx'.out.ext (Ext.trans ((Ext.refl w).alloc _) hws)) hn'.out hl hw'.out).mono ?_; rintro e w' ⟨rfl, h2⟩; refine ⟨?_, hws.trans h2⟩; (try simp only [*]); (try with_reducible rfl); done))) | fail)); (try simp only [Act.put, List.getElem_toArray, List.getElem_cons_zero, List.getElem_cons_succ, List.setIfInBounds_toArray, List.set_cons_zero, List.set_cons_succ]))
        refine wpSeqS_done (by kernel_rfl) (fun ws hws => ?_)
        obtain ⟨q0, p0⟩ := hws.row (k := w.heap.size) (by first | assumption | (simp; done) | (simp; omega) | omega)
        obtain ⟨q1, p1⟩ := hws.row (k := bx) (by first | assumption | (simp; done) | (simp; omega) | omega)
        go_wp2
        go_ret
        exact ⟨by rw [hval.out]; rfl, (Ext.trans (((Ext.refl w).alloc _)) hws)⟩
      · have hne : (c.1 != nx) = true := by simp [hc]
        have hval : Hid (readyB nx cs = 0) := hide (by rw [hv0.out, if_neg hc])
        clear hc hv0
        go_enter Try.func22, Try.ntmps22
        go_wp2_with fail
        refine wp_region_seq (Ext _) (by kernel_rfl) (by kernel_rfl) ((Ext.refl _).drew) ?_
        iterate 19 (((first | (refine wpSeqS_off rfl (by rfl) ?_) | (refine wpSeqS_plain (v := ?_) rfl (by rfl) ?_ ?_; rotate_left; (focus (intro ws hws; obtain ⟨q0, p0⟩ := hws.row (k := w.heap.size) (by first | assumption | (simp; done) | (simp; omega) | omega); obtain ⟨q1, p1⟩ := hws.row (k := bx) (by first | assumption | (simp; done) | (simp; omega) | omega); go_simp; (try with_reducible rfl); done))) | (refine wpSeqS_call (v := ?_) 10 ?_ rfl (by rfl) ?_ ?_ ?_; rotate_left; rotate_left; (focus (intro ws hws; skip; go_simp; (try with_reducible rfl); done)); (focus (intro ws hws; refine (IsBuffer_spec nx _ n ca cs ws (hx'.out.ext (Ext.trans ((Ext.refl w).alloc _) hws)) hn'.out hl hw'.out).mono ?_; rintro e w' ⟨rfl, h2⟩; refine ⟨?_, hws.trans h2⟩; (try simp only [*]); (try with_reducible rfl); done))) | fail)); (try simp only [Act.put, List.getElem_toArray, List.getElem_cons_zero, List.getElem_cons_succ, List.setIfInBounds_toArray, List.set_cons_zero, List.set_cons_succ]))
        refine wpSeqS_done (by kernel_rfl) (fun ws hws => ?_)
        go_wp2
        go_ret
        exact ⟨by rw [hval.out]; rfl, (Ext.trans (((Ext.refl w).alloc _)) hws)⟩
  · have hval : Hid (readyB nx cs = 0) := hide (by rw [readyB, if_neg (by simp [hB])])
    have hn' := hide hn
    have hx' := hide hx
    clear hn hx
    go_enter Try.func22, Try.ntmps22
    go_wp2_with fail
    refine wp_region_seq (Ext _) (by kernel_rfl) (by kernel_rfl) ((Ext.refl _).drew) ?_
    iterate 19 (((first | (refine wpSeqS_off rfl (by rfl) ?_) | (refine wpSeqS_plain (v := ?_) rfl (by rfl) ?_ ?_; rotate_left; (focus (intro ws hws; obtain ⟨q0, p0⟩ := hws.row (k := w.heap.size) (by first | assumption | (simp; done) | (simp; omega) | omega); go_simp; (try with_reducible rfl); done))) | (refine wpSeqS_call (v := ?_) 10 ?_ rfl (by rfl) ?_ ?_ ?_; rotate_left; rotate_left; (focus (intro ws hws; skip; go_simp; (try with_reducible rfl); done)); (focus (intro ws hws; refine (IsBuffer_spec nx ao n ca cs ws (hx'.out.ext (Ext.trans ((Ext.refl w).alloc _) hws)) hn'.out hl hw'.out).mono ?_; rintro e w' ⟨rfl, h2⟩; refine ⟨?_, hws.trans h2⟩; (try simp only [*]); (try with_reducible rfl); done))) | fail)); (try simp only [Act.put, List.getElem_toArray, List.getElem_cons_zero, List.getElem_cons_succ, List.setIfInBounds_toArray, List.set_cons_zero, List.set_cons_succ]))
    refine wpSeqS_done (by kernel_rfl) (fun ws hws => ?_)
    go_wp2
    go_ret
    exact ⟨by rw [hval.out]; rfl, (Ext.trans (((Ext.refl w).alloc _)) hws)⟩
end Go.Proofs.Ytjnbiacnhimkgaa

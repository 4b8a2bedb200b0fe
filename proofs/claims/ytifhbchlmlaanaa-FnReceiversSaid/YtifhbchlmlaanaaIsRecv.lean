/-
  Contracts of readyEnd and IsReceiver. Conditions: the chunks can be read.
-/
import Derived.Test.YtifhbchlmlaanaaEndOf
import Derived.Deep.DeepCutAuto
namespace Go.Proofs.Ytifhbchlmlaanaa
open Go.ChangeShapes Go.WideShapes Go.ChangeAt Go.RowKit
set_option linter.unusedSimpArgs false
set_option linter.unusedVariables false
/-- The parts of a receiver agree. -/
def recvOk (nx fi hg co : Int) (cs : List Ck) : Bool := isBuf nx cs && (decide (endOf nx cs ≤ hg) && (inB 0 hg 4611686018427387903 && (inB 0 co 4611686018427387903 && (fi == -1 || inB hg fi 4611686018427387903))))
def whole (nx fi : Int) (cs : List Ck) : Bool := fi != -1 && nx + readyB nx cs == fi
def recvIs (st nx fi hg co : Int) (cs : List Ck) : Bool :=
  recvOk nx fi hg co cs && (if st = 0 then fi == -1 && co == 0 else if st = 1 then fi != -1 && (!whole nx fi cs && co == 0) else if st = 2 then whole nx fi cs && co == 0 else if st = 3 then whole nx fi cs && (co == 0 && cs.length == 0) else if st = 4 ∨ st = 5 then fi == hg && cs.length == 0 else false)
theorem recvIs_ok {st nx fi hg co : Int} {cs : List Ck} (h : recvOk nx fi hg co cs = true) : recvIs st nx fi hg co cs = (if st = 0 then fi == -1 && co == 0 else if st = 1 then fi != -1 && (!whole nx fi cs && co == 0) else if st = 2 then whole nx fi cs && co == 0 else if st = 3 then whole nx fi cs && (co == 0 && cs.length == 0) else if st = 4 ∨ st = 5 then fi == hg && cs.length == 0 else false) := by
  rw [recvIs, h, Bool.true_and]
theorem len_zero {cs : List Ck} {n : Nat} (h : cs.length = n) : (cs.length == 0) = ((n : Int) == 0) := by
  rw [h]
  rcases Nat.eq_zero_or_pos n with h | h
  · subst h; rfl
  · rw [beq_eq_false_iff_ne.2 (by omega), beq_eq_false_iff_ne.2 (by omega)]
theorem same_ext {P : Program} {f : FuncId} {args : Array Value} {w : World} {v : Value} (h : Calls P f args w fun e w' => e = .returned v ∧ w = w') : Calls P f args w fun e w' => e = .returned v ∧ Ext w w' :=
  Calls.mono h fun _ _ ⟨h1, h2⟩ => ⟨h1, by subst h2; exact Ext.refl _⟩
set_option maxHeartbeats 1000000 in
set_option maxRecDepth 100000 in
theorem readyEnd_any (nx : Int) (ao : Option Addr) (n ca : Nat) (cs : List Ck) (w : World) (hx : ReadC w ao cs) (hn : cs.length = n) (hl : (n : Int) ≤ 9223372036854775807) (hw : WfC cs) (hnx : -9223372036854775808 ≤ nx ∧ nx ≤ 9223372036854775807) :
    Calls Try.prog 73 #[.agg #[.int .i64 nx, .slice ao n ca]] w fun en w' => en = .returned (.int .i64 (nx + readyB nx cs)) ∧ Ext w w' := by
  have hn' := hide hn
  have hx' := hide hx
  have hw' := hide hw
  clear hn hx hw
  have hbd := readyB_bd nx cs
  have hwr : IntKind.i64.wrap (nx + readyB nx cs) = nx + readyB nx cs := IntWalk.i64_in _ (by omega)
  go_enter Try.func73, Try.ntmps73
  go_wp2_with fail
  refine wp_region_seq (Ext _) (by kernel_rfl) (by kernel_rfl) ((Ext.refl _).drew) ?_
  iterate 6 (((first | (refine wpSeqS_plain (v := ?_) rfl (by rfl) ?_ ?_; rotate_left; (focus (intro ws hws; obtain ⟨q0, p0⟩ := hws.row (k := w.heap.size) (by first | assumption | (simp; done) | (simp; omega) | omega); go_simp; (try with_reducible rfl); done))) | (refine wpSeqS_call (v := ?_) 61 ?_ rfl (by rfl) ?_ ?_ ?_; rotate_left; rotate_left; (focus (intro ws hws; skip; go_simp; (try with_reducible rfl); done)); (focus (intro ws hws; refine (ReadyBytes_impl nx ao n ca cs ws (hx'.out.ext (Ext.trans ((Ext.refl w).alloc _) hws)) hn'.out hl hw'.out).mono ?_; rintro e w' ⟨rfl, h2⟩; refine ⟨?_, hws.trans h2⟩; (try simp only [*]); (try with_reducible rfl); done))) | fail)); (try simp only [Act.put, List.getElem_toArray, List.getElem_cons_zero, List.getElem_cons_succ, List.setIfInBounds_toArray, List.set_cons_zero, List.set_cons_succ]))
  refine wpSeqS_done (by kernel_rfl) (fun ws hws => ?_)
  go_wp2
  go_ret
  exact ⟨rfl, Ext.trans ((Ext.refl w).alloc _) hws⟩
set_option maxHeartbeats 8000000 in
set_option maxRecDepth 100000 in
theorem IsReceiver_impl (st nx fi hg co : Int) (ao : Option Addr) (n ca : Nat) (cs : List Ck) (w : World) (hx : ReadC w ao cs) (hn : cs.length = n) (hl : (n : Int) ≤ 9223372036854775807) (hw : WfC cs) (hnx : -9223372036854775808 ≤ nx ∧ nx ≤ 9223372036854775807) :
    Calls Try.prog 25 #[.agg #[.int .i64 st, .int .i64 nx, .slice ao n ca, .int .i64 fi, .int .i64 hg, .int .i64 co]] w fun en w' => en = .returned (.bool (recvIs st nx fi hg co cs)) ∧ Ext w w' := by
  have hn' := hide hn
  have hx' := hide hx
  have hw' := hide hw
  clear hn hx hw
  go_enter Try.func25, Try.ntmps25
  go_upto_region 1 with fail
  go_cut [40] (fun v wx => v = .bool (!recvOk nx fi hg co cs) ∧ Ext (w.alloc (.cells #[.int .i64 st, .int .i64 nx, .slice ao n ca, .int .i64 fi, .int .i64 hg, .int .i64 co] 26)) wx)
  case first =>
    rcases Bool.eq_false_or_eq_true (isBuf nx cs) with hB | hB
    · -- yes
      rcases Bool.eq_false_or_eq_true (decide (hg < endOf nx cs)) with he | he
      · -- yes
        refine wp_region_seq (Ext _) (by kernel_rfl) (by kernel_rfl) ((Ext.refl _).drew) ?_
        iterate 37 (((first | (refine wpSeqS_off rfl (by rfl) ?_) | (refine wpSeqS_plain (v := ?_) rfl (by rfl) ?_ ?_; rotate_left; (focus (intro ws hws; obtain ⟨q0, p0⟩ := hws.row (k := w.heap.size) (by first | assumption | (simp; done) | (simp; omega) | omega); go_simp; (try with_reducible rfl); done))) | (refine wpSeqS_call (v := ?_) 49 ?_ rfl (by rfl) ?_ ?_ ?_; rotate_left; rotate_left; (focus (intro ws hws; skip; go_simp; (try with_reducible rfl); done)); (focus (intro ws hws; refine (IsBuffer_impl nx ao n ca cs ws (hx'.out.ext (Ext.trans ((Ext.refl w).alloc _) hws)) hn'.out hl hw'.out).mono ?_; rintro e w' ⟨rfl, h2⟩; refine ⟨?_, hws.trans h2⟩; (try simp only [*]); (try with_reducible rfl); done))) | (refine wpSeqS_call (v := ?_) 55 ?_ rfl (by rfl) ?_ ?_ ?_; rotate_left; rotate_left; (focus (intro ws hws; skip; go_simp; (try with_reducible rfl); done)); (focus (intro ws hws; refine (EndOf_impl nx ao n ca cs ws (hx'.out.ext (Ext.trans ((Ext.refl w).alloc _) hws)) hn'.out hl hw'.out).mono ?_; rintro e w' ⟨rfl, h2⟩; refine ⟨?_, hws.trans h2⟩; (try simp only [*]); (try with_reducible rfl); done))) | (refine wpSeqS_call (v := ?_) 71 ?_ rfl (by rfl) ?_ ?_ ?_; rotate_left; rotate_left; (focus (intro ws hws; skip; go_simp; (try with_reducible rfl); done)); (focus (intro ws hws; refine (same_ext (isQuic_any _ ws)).mono ?_; rintro e w' ⟨rfl, h2⟩; refine ⟨?_, hws.trans h2⟩; (try simp only [*]); (try with_reducible rfl); done))) | (refine wpSeqS_call (v := ?_) 72 ?_ rfl (by rfl) ?_ ?_ ?_; rotate_left; rotate_left; (focus (intro ws hws; skip; go_simp; (try with_reducible rfl); done)); (focus (intro ws hws; refine (same_ext (within_any _ _ _ ws)).mono ?_; rintro e w' ⟨rfl, h2⟩; refine ⟨?_, hws.trans h2⟩; (try simp only [*]); (try with_reducible rfl); done))) | fail)); (try simp only [Act.put, List.getElem_toArray, List.getElem_cons_zero, List.getElem_cons_succ, List.setIfInBounds_toArray, List.set_cons_zero, List.set_cons_succ]))
        refine wpSeqS_done (by kernel_rfl) (fun ws hws => ?_)
        go_wp2_with fail
        go_meet
        exact ⟨by first | (simp [recvOk, *]; done) | (simp [recvOk, *]; simp at he; omega), hws⟩
      · -- no
        rcases Bool.eq_false_or_eq_true (inB 0 hg 4611686018427387903) with hq | hq
        · -- yes
          rcases Bool.eq_false_or_eq_true (inB 0 co 4611686018427387903) with hc | hc
          · -- yes
            by_cases hf : fi = -1
            · -- equal
              have hfe : (fi == -1) = true := by simp [hf]
              have hfn : (fi != -1) = false := by simp [hf]
              have hfH := hide hf
              clear hf
              refine wp_region_seq (Ext _) (by kernel_rfl) (by kernel_rfl) ((Ext.refl _).drew) ?_
              iterate 37 (((first | (refine wpSeqS_off rfl (by rfl) ?_) | (refine wpSeqS_plain (v := ?_) rfl (by rfl) ?_ ?_; rotate_left; (focus (intro ws hws; obtain ⟨q0, p0⟩ := hws.row (k := w.heap.size) (by first | assumption | (simp; done) | (simp; omega) | omega); go_simp; (try with_reducible rfl); done))) | (refine wpSeqS_call (v := ?_) 49 ?_ rfl (by rfl) ?_ ?_ ?_; rotate_left; rotate_left; (focus (intro ws hws; skip; go_simp; (try with_reducible rfl); done)); (focus (intro ws hws; refine (IsBuffer_impl nx ao n ca cs ws (hx'.out.ext (Ext.trans ((Ext.refl w).alloc _) hws)) hn'.out hl hw'.out).mono ?_; rintro e w' ⟨rfl, h2⟩; refine ⟨?_, hws.trans h2⟩; (try simp only [*]); (try with_reducible rfl); done))) | (refine wpSeqS_call (v := ?_) 55 ?_ rfl (by rfl) ?_ ?_ ?_; rotate_left; rotate_left; (focus (intro ws hws; skip; go_simp; (try with_reducible rfl); done)); (focus (intro ws hws; refine (EndOf_impl nx ao n ca cs ws (hx'.out.ext (Ext.trans ((Ext.refl w).alloc _) hws)) hn'.out hl hw'.out).mono ?_; rintro e w' ⟨rfl, h2⟩; refine ⟨?_, hws.trans h2⟩; (try simp only [*]); (try with_reducible rfl); done))) | (refine wpSeqS_call (v := ?_) 71 ?_ rfl (by rfl) ?_ ?_ ?_; rotate_left; rotate_left; (focus (intro ws hws; skip; go_simp; (try with_reducible rfl); done)); (focus (intro ws hws; refine (same_ext (isQuic_any _ ws)).mono ?_; rintro e w' ⟨rfl, h2⟩; refine ⟨?_, hws.trans h2⟩; (try simp only [*]); (try with_reducible rfl); done))) | (refine wpSeqS_call (v := ?_) 72 ?_ rfl (by rfl) ?_ ?_ ?_; rotate_left; rotate_left; (focus (intro ws hws; skip; go_simp; (try with_reducible rfl); done)); (focus (intro ws hws; refine (same_ext (within_any _ _ _ ws)).mono ?_; rintro e w' ⟨rfl, h2⟩; refine ⟨?_, hws.trans h2⟩; (try simp only [*]); (try with_reducible rfl); done))) | fail)); (try simp only [Act.put, List.getElem_toArray, List.getElem_cons_zero, List.getElem_cons_succ, List.setIfInBounds_toArray, List.set_cons_zero, List.set_cons_succ]))
              refine wpSeqS_done (by kernel_rfl) (fun ws hws => ?_)
              go_wp2_with fail
              go_meet
              exact ⟨by first | (simp [recvOk, *]; done) | (simp [recvOk, *]; simp at he; omega), hws⟩
            · -- other
              have hfe : (fi == -1) = false := by simp [hf]
              have hfn : (fi != -1) = true := by simp [hf]
              have hfH := hide hf
              clear hf
              rcases Bool.eq_false_or_eq_true (inB hg fi 4611686018427387903) with hi | hi
              · -- yes
                refine wp_region_seq (Ext _) (by kernel_rfl) (by kernel_rfl) ((Ext.refl _).drew) ?_
                iterate 37 (((first | (refine wpSeqS_off rfl (by rfl) ?_) | (refine wpSeqS_plain (v := ?_) rfl (by rfl) ?_ ?_; rotate_left; (focus (intro ws hws; obtain ⟨q0, p0⟩ := hws.row (k := w.heap.size) (by first | assumption | (simp; done) | (simp; omega) | omega); go_simp; (try with_reducible rfl); done))) | (refine wpSeqS_call (v := ?_) 49 ?_ rfl (by rfl) ?_ ?_ ?_; rotate_left; rotate_left; (focus (intro ws hws; skip; go_simp; (try with_reducible rfl); done)); (focus (intro ws hws; refine (IsBuffer_impl nx ao n ca cs ws (hx'.out.ext (Ext.trans ((Ext.refl w).alloc _) hws)) hn'.out hl hw'.out).mono ?_; rintro e w' ⟨rfl, h2⟩; refine ⟨?_, hws.trans h2⟩; (try simp only [*]); (try with_reducible rfl); done))) | (refine wpSeqS_call (v := ?_) 55 ?_ rfl (by rfl) ?_ ?_ ?_; rotate_left; rotate_left; (focus (intro ws hws; skip; go_simp; (try with_reducible rfl); done)); (focus (intro ws hws; refine (EndOf_impl nx ao n ca cs ws (hx'.out.ext (Ext.trans ((Ext.refl w).alloc _) hws)) hn'.out hl hw'.out).mono ?_; rintro e w' ⟨rfl, h2⟩; refine ⟨?_, hws.trans h2⟩; (try simp only [*]); (try with_reducible rfl); done))) | (refine wpSeqS_call (v := ?_) 71 ?_ rfl (by rfl) ?_ ?_ ?_; rotate_left; rotate_left; (focus (intro ws hws; skip; go_simp; (try with_reducible rfl); done)); (focus (intro ws hws; refine (same_ext (isQuic_any _ ws)).mono ?_; rintro e w' ⟨rfl, h2⟩; refine ⟨?_, hws.trans h2⟩; (try simp only [*]); (try with_reducible rfl); done))) | (refine wpSeqS_call (v := ?_) 72 ?_ rfl (by rfl) ?_ ?_ ?_; rotate_left; rotate_left; (focus (intro ws hws; skip; go_simp; (try with_reducible rfl); done)); (focus (intro ws hws; refine (same_ext (within_any _ _ _ ws)).mono ?_; rintro e w' ⟨rfl, h2⟩; refine ⟨?_, hws.trans h2⟩; (try simp only [*]); (try with_reducible rfl); done))) | fail)); (try simp only [Act.put, List.getElem_toArray, List.getElem_cons_zero, List.getElem_cons_succ, List.setIfInBounds_toArray, List.set_cons_zero, List.set_cons_succ]))
                refine wpSeqS_done (by kernel_rfl) (fun ws hws => ?_)
                go_wp2_with fail
                go_meet
                exact ⟨by first | (simp [recvOk, *]; done) | (simp [recvOk, *]; simp at he; omega), hws⟩
              · -- no
                refine wp_region_seq (Ext _) (by kernel_rfl) (by kernel_rfl) ((Ext.refl _).drew) ?_
                iterate 37 (((first | (refine wpSeqS_off rfl (by rfl) ?_) | (refine wpSeqS_plain (v := ?_) rfl (by rfl) ?_ ?_; rotate_left; (focus (intro ws hws; obtain ⟨q0, p0⟩ := hws.row (k := w.heap.size) (by first | assumption | (simp; done) | (simp; omega) | omega); go_simp; (try with_reducible rfl); done))) | (refine wpSeqS_call (v := ?_) 49 ?_ rfl (by rfl) ?_ ?_ ?_; rotate_left; rotate_left; (focus (intro ws hws; skip; go_simp; (try with_reducible rfl); done)); (focus (intro ws hws; refine (IsBuffer_impl nx ao n ca cs ws (hx'.out.ext (Ext.trans ((Ext.refl w).alloc _) hws)) hn'.out hl hw'.out).mono ?_; rintro e w' ⟨rfl, h2⟩; refine ⟨?_, hws.trans h2⟩; (try simp only [*]); (try with_reducible rfl); done))) | (refine wpSeqS_call (v := ?_) 55 ?_ rfl (by rfl) ?_ ?_ ?_; rotate_left; rotate_left; (focus (intro ws hws; skip; go_simp; (try with_reducible rfl); done)); (focus (intro ws hws; refine (EndOf_impl nx ao n ca cs ws (hx'.out.ext (Ext.trans ((Ext.refl w).alloc _) hws)) hn'.out hl hw'.out).mono ?_; rintro e w' ⟨rfl, h2⟩; refine ⟨?_, hws.trans h2⟩; (try simp only [*]); (try with_reducible rfl); done))) | (refine wpSeqS_call (v := ?_) 71 ?_ rfl (by rfl) ?_ ?_ ?_; rotate_left; rotate_left; (focus (intro ws hws; skip; go_simp; (try with_reducible rfl); done)); (focus (intro ws hws; refine (same_ext (isQuic_any _ ws)).mono ?_; rintro e w' ⟨rfl, h2⟩; refine ⟨?_, hws.trans h2⟩; (try simp only [*]); (try with_reducible rfl); done))) | (refine wpSeqS_call (v := ?_) 72 ?_ rfl (by rfl) ?_ ?_ ?_; rotate_left; rotate_left; (focus (intro ws hws; skip; go_simp; (try with_reducible rfl); done)); (focus (intro ws hws; refine (same_ext (within_any _ _ _ ws)).mono ?_; rintro e w' ⟨rfl, h2⟩; refine ⟨?_, hws.trans h2⟩; (try simp only [*]); (try with_reducible rfl); done))) | fail)); (try simp only [Act.put, List.getElem_toArray, List.getElem_cons_zero, List.getElem_cons_succ, List.setIfInBounds_toArray, List.set_cons_zero, List.set_cons_succ]))
                refine wpSeqS_done (by kernel_rfl) (fun ws hws => ?_)
                go_wp2_with fail
                go_meet
                exact ⟨by first | (simp [recvOk, *]; done) | (simp [recvOk, *]; simp at he; omega), hws⟩
          · -- no
            refine wp_region_seq (Ext _) (by kernel_rfl) (by kernel_rfl) ((Ext.refl _).drew) ?_
            iterate 37 (((first | (refine wpSeqS_off rfl (by rfl) ?_) | (refine wpSeqS_plain (v := ?_) rfl (by rfl) ?_ ?_; rotate_left; (focus (intro ws hws; obtain ⟨q0, p0⟩ := hws.row (k := w.heap.size) (by first | assumption | (simp; done) | (simp; omega) | omega); go_simp; (try with_reducible rfl); done))) | (refine wpSeqS_call (v := ?_) 49 ?_ rfl (by rfl) ?_ ?_ ?_; rotate_left; rotate_left; (focus (intro ws hws; skip; go_simp; (try with_reducible rfl); done)); (focus (intro ws hws; refine (IsBuffer_impl nx ao n ca cs ws (hx'.out.ext (Ext.trans ((Ext.refl w).alloc _) hws)) hn'.out hl hw'.out).mono ?_; rintro e w' ⟨rfl, h2⟩; refine ⟨?_, hws.trans h2⟩; (try simp only [*]); (try with_reducible rfl); done))) | (refine wpSeqS_call (v := ?_) 55 ?_ rfl (by rfl) ?_ ?_ ?_; rotate_left; rotate_left; (focus (intro ws hws; skip; go_simp; (try with_reducible rfl); done)); (focus (intro ws hws; refine (EndOf_impl nx ao n ca cs ws (hx'.out.ext (Ext.trans ((Ext.refl w).alloc _) hws)) hn'.out hl hw'.out).mono ?_; rintro e w' ⟨rfl, h2⟩; refine ⟨?_, hws.trans h2⟩; (try simp only [*]); (try with_reducible rfl); done))) | (refine wpSeqS_call (v := ?_) 71 ?_ rfl (by rfl) ?_ ?_ ?_; rotate_left; rotate_left; (focus (intro ws hws; skip; go_simp; (try with_reducible rfl); done)); (focus (intro ws hws; refine (same_ext (isQuic_any _ ws)).mono ?_; rintro e w' ⟨rfl, h2⟩; refine ⟨?_, hws.trans h2⟩; (try simp only [*]); (try with_reducible rfl); done))) | (refine wpSeqS_call (v := ?_) 72 ?_ rfl (by rfl) ?_ ?_ ?_; rotate_left; rotate_left; (focus (intro ws hws; skip; go_simp; (try with_reducible rfl); done)); (focus (intro ws hws; refine (same_ext (within_any _ _ _ ws)).mono ?_; rintro e w' ⟨rfl, h2⟩; refine ⟨?_, hws.trans h2⟩; (try simp only [*]); (try with_reducible rfl); done))) | fail)); (try simp only [Act.put, List.getElem_toArray, List.getElem_cons_zero, List.getElem_cons_succ, List.setIfInBounds_toArray, List.set_cons_zero, List.set_cons_succ]))
            refine wpSeqS_done (by kernel_rfl) (fun ws hws => ?_)
            go_wp2_with fail
            go_meet
            exact ⟨by first | (simp [recvOk, *]; done) | (simp [recvOk, *]; simp at he; omega), hws⟩
        · -- no
          refine wp_region_seq (Ext _) (by kernel_rfl) (by kernel_rfl) ((Ext.refl _).drew) ?_
          iterate 37 (((first | (refine wpSeqS_off rfl (by rfl) ?_) | (refine wpSeqS_plain (v := ?_) rfl (by rfl) ?_ ?_; rotate_left; (focus (intro ws hws; obtain ⟨q0, p0⟩ := hws.row (k := w.heap.size) (by first | assumption | (simp; done) | (simp; omega) | omega); go_simp; (try with_reducible rfl); done))) | (refine wpSeqS_call (v := ?_) 49 ?_ rfl (by rfl) ?_ ?_ ?_; rotate_left; rotate_left; (focus (intro ws hws; skip; go_simp; (try with_reducible rfl); done)); (focus (intro ws hws; refine (IsBuffer_impl nx ao n ca cs ws (hx'.out.ext (Ext.trans ((Ext.refl w).alloc _) hws)) hn'.out hl hw'.out).mono ?_; rintro e w' ⟨rfl, h2⟩; refine ⟨?_, hws.trans h2⟩; (try simp only [*]); (try with_reducible rfl); done))) | (refine wpSeqS_call (v := ?_) 55 ?_ rfl (by rfl) ?_ ?_ ?_; rotate_left; rotate_left; (focus (intro ws hws; skip; go_simp; (try with_reducible rfl); done)); (focus (intro ws hws; refine (EndOf_impl nx ao n ca cs ws (hx'.out.ext (Ext.trans ((Ext.refl w).alloc _) hws)) hn'.out hl hw'.out).mono ?_; rintro e w' ⟨rfl, h2⟩; refine ⟨?_, hws.trans h2⟩; (try simp only [*]); (try with_reducible rfl); done))) | (refine wpSeqS_call (v := ?_) 71 ?_ rfl (by rfl) ?_ ?_ ?_; rotate_left; rotate_left; (focus (intro ws hws; skip; go_simp; (try with_reducible rfl); done)); (focus (intro ws hws; refine (same_ext (isQuic_any _ ws)).mono ?_; rintro e w' ⟨rfl, h2⟩; refine ⟨?_, hws.trans h2⟩; (try simp only [*]); (try with_reducible rfl); done))) | (refine wpSeqS_call (v := ?_) 72 ?_ rfl (by rfl) ?_ ?_ ?_; rotate_left; rotate_left; (focus (intro ws hws; skip; go_simp; (try with_reducible rfl); done)); (focus (intro ws hws; refine (same_ext (within_any _ _ _ ws)).mono ?_; rintro e w' ⟨rfl, h2⟩; refine ⟨?_, hws.trans h2⟩; (try simp only [*]); (try with_reducible rfl); done))) | fail)); (try simp only [Act.put, List.getElem_toArray, List.getElem_cons_zero, List.getElem_cons_succ, List.setIfInBounds_toArray, List.set_cons_zero, List.set_cons_succ]))
          refine wpSeqS_done (by kernel_rfl) (fun ws hws => ?_)
          go_wp2_with fail
          go_meet
          exact ⟨by first | (simp [recvOk, *]; done) | (simp [recvOk, *]; simp at he; omega), hws⟩
    · -- no
      refine wp_region_seq (Ext _) (by kernel_rfl) (by kernel_rfl) ((Ext.refl _).drew) ?_
      iterate 37 (((first | (refine wpSeqS_off rfl (by rfl) ?_) | (refine wpSeqS_plain (v := ?_) rfl (by rfl) ?_ ?_; rotate_left; (focus (intro ws hws; obtain ⟨q0, p0⟩ := hws.row (k := w.heap.size) (by first | assumption | (simp; done) | (simp; omega) | omega); go_simp; (try with_reducible rfl); done))) | (refine wpSeqS_call (v := ?_) 49 ?_ rfl (by rfl) ?_ ?_ ?_; rotate_left; rotate_left; (focus (intro ws hws; skip; go_simp; (try with_reducible rfl); done)); (focus (intro ws hws; refine (IsBuffer_impl nx ao n ca cs ws (hx'.out.ext (Ext.trans ((Ext.refl w).alloc _) hws)) hn'.out hl hw'.out).mono ?_; rintro e w' ⟨rfl, h2⟩; refine ⟨?_, hws.trans h2⟩; (try simp only [*]); (try with_reducible rfl); done))) | (refine wpSeqS_call (v := ?_) 55 ?_ rfl (by rfl) ?_ ?_ ?_; rotate_left; rotate_left; (focus (intro ws hws; skip; go_simp; (try with_reducible rfl); done)); (focus (intro ws hws; refine (EndOf_impl nx ao n ca cs ws (hx'.out.ext (Ext.trans ((Ext.refl w).alloc _) hws)) hn'.out hl hw'.out).mono ?_; rintro e w' ⟨rfl, h2⟩; refine ⟨?_, hws.trans h2⟩; (try simp only [*]); (try with_reducible rfl); done))) | (refine wpSeqS_call (v := ?_) 71 ?_ rfl (by rfl) ?_ ?_ ?_; rotate_left; rotate_left; (focus (intro ws hws; skip; go_simp; (try with_reducible rfl); done)); (focus (intro ws hws; refine (same_ext (isQuic_any _ ws)).mono ?_; rintro e w' ⟨rfl, h2⟩; refine ⟨?_, hws.trans h2⟩; (try simp only [*]); (try with_reducible rfl); done))) | (refine wpSeqS_call (v := ?_) 72 ?_ rfl (by rfl) ?_ ?_ ?_; rotate_left; rotate_left; (focus (intro ws hws; skip; go_simp; (try with_reducible rfl); done)); (focus (intro ws hws; refine (same_ext (within_any _ _ _ ws)).mono ?_; rintro e w' ⟨rfl, h2⟩; refine ⟨?_, hws.trans h2⟩; (try simp only [*]); (try with_reducible rfl); done))) | fail)); (try simp only [Act.put, List.getElem_toArray, List.getElem_cons_zero, List.getElem_cons_succ, List.setIfInBounds_toArray, List.set_cons_zero, List.set_cons_succ]))
      refine wpSeqS_done (by kernel_rfl) (fun ws hws => ?_)
      go_wp2_with fail
      go_meet
      exact ⟨by first | (simp [recvOk, *]; done) | (simp [recvOk, *]; simp at he; omega), hws⟩
  case rest =>
    obtain ⟨rfl, hwx⟩ := hcut
    have xwc : Ext w wc := Ext.trans ((Ext.refl w).alloc _) hwx
    obtain ⟨c0, f0⟩ := hwx.row (k := w.heap.size) (by first | assumption | (simp; done) | (simp; omega) | omega)
    have k0 := hwx.more (k := w.heap.size) (by first | assumption | (simp; done) | (simp; omega) | omega)
    have a0 : wc.cell? ⟨w.heap.size, 0, none⟩ = some (.int .i64 st) := (by rw [c0]; simp [go_sem])
    have a1 : wc.cell? ⟨w.heap.size, 1, none⟩ = some (.int .i64 nx) := (by rw [c0]; simp [go_sem])
    have a2 : wc.cell? ⟨w.heap.size, 2, none⟩ = some (.slice ao n ca) := (by rw [c0]; simp [go_sem])
    have a3 : wc.cell? ⟨w.heap.size, 3, none⟩ = some (.int .i64 fi) := (by rw [c0]; simp [go_sem])
    have a4 : wc.cell? ⟨w.heap.size, 4, none⟩ = some (.int .i64 hg) := (by rw [c0]; simp [go_sem])
    have a5 : wc.cell? ⟨w.heap.size, 5, none⟩ = some (.int .i64 co) := (by rw [c0]; simp [go_sem])
    clear c0 f0
    rcases Bool.eq_false_or_eq_true (recvOk nx fi hg co cs) with hok | hok
    · rw [hok]
      simp only [Bool.not_true]
      go_upto_region 3 with fail
      go_cut [3] (fun v wy => v = .bool (whole nx fi cs) ∧ Ext wc wy)
      case first =>
        have hbd := readyB_bd nx cs
        have hwr : IntKind.i64.wrap (nx + readyB nx cs) = nx + readyB nx cs := IntWalk.i64_in _ (by omega)
        by_cases hf : fi = -1
        · have hfn : (fi != -1) = false := by simp [hf]
          have hwh : whole nx fi cs = false := by simp [whole, hf]
          clear hf
          refine wp_region_seq (Ext _) (by kernel_rfl) (by kernel_rfl) ((Ext.refl _).drew) ?_
          iterate 12 (((first | (refine wpSeqS_off rfl (by rfl) ?_) | (refine wpSeqS_plain (v := ?_) rfl (by rfl) ?_ ?_; rotate_left; (focus (intro ws hws; obtain ⟨q0, p0⟩ := hws.row (k := w.heap.size) (by first | assumption | (simp; done) | (simp; omega) | omega); go_simp; (try with_reducible rfl); done))) | (refine wpSeqS_call (v := ?_) 73 ?_ rfl (by rfl) ?_ ?_ ?_; rotate_left; rotate_left; (focus (intro ws hws; skip; go_simp; (try with_reducible rfl); done)); (focus (intro ws hws; refine (readyEnd_any nx ao n ca cs ws (hx'.out.ext (xwc.trans hws)) hn'.out hl hw'.out hnx).mono ?_; rintro e w' ⟨rfl, h2⟩; refine ⟨?_, hws.trans h2⟩; (try simp only [*]); (try with_reducible rfl); done))) | fail)); (try simp only [Act.put, List.getElem_toArray, List.getElem_cons_zero, List.getElem_cons_succ, List.setIfInBounds_toArray, List.set_cons_zero, List.set_cons_succ]))
          refine wpSeqS_done (by kernel_rfl) (fun ws hws => ?_)
          go_wp2_with fail
          go_meet
          exact ⟨by rw [hwh], hws⟩
        · have hfn : (fi != -1) = true := by simp [hf]
          have hwh : whole nx fi cs = (nx + readyB nx cs == fi) := by simp [whole, hf]
          clear hf
          refine wp_region_seq (Ext _) (by kernel_rfl) (by kernel_rfl) ((Ext.refl _).drew) ?_
          iterate 12 (((first | (refine wpSeqS_off rfl (by rfl) ?_) | (refine wpSeqS_plain (v := ?_) rfl (by rfl) ?_ ?_; rotate_left; (focus (intro ws hws; obtain ⟨q0, p0⟩ := hws.row (k := w.heap.size) (by first | assumption | (simp; done) | (simp; omega) | omega); go_simp; (try with_reducible rfl); done))) | (refine wpSeqS_call (v := ?_) 73 ?_ rfl (by rfl) ?_ ?_ ?_; rotate_left; rotate_left; (focus (intro ws hws; skip; go_simp; (try with_reducible rfl); done)); (focus (intro ws hws; refine (readyEnd_any nx ao n ca cs ws (hx'.out.ext (xwc.trans hws)) hn'.out hl hw'.out hnx).mono ?_; rintro e w' ⟨rfl, h2⟩; refine ⟨?_, hws.trans h2⟩; (try simp only [*]); (try with_reducible rfl); done))) | fail)); (try simp only [Act.put, List.getElem_toArray, List.getElem_cons_zero, List.getElem_cons_succ, List.setIfInBounds_toArray, List.set_cons_zero, List.set_cons_succ]))
          refine wpSeqS_done (by kernel_rfl) (fun ws hws => ?_)
          go_wp2_with fail
          go_meet
          exact ⟨by rw [hwh], hws⟩
      case rest =>
        obtain ⟨rfl, hwy⟩ := hcut
        obtain ⟨c0, f0⟩ := hwy.row (k := w.heap.size) k0
        have k1 := hwy.more k0
        have xwy : Ext w wc := xwc.trans hwy
        have hR := hide (recvIs_ok (st := st) hok)
        rw [len_zero hn'.out] at hR
        generalize whole nx fi cs = wl at *
        have b0 : wc.cell? ⟨w.heap.size, 0, none⟩ = some (.int .i64 st) := (by rw [c0]; exact a0)
        have b1 : wc.cell? ⟨w.heap.size, 1, none⟩ = some (.int .i64 nx) := (by rw [c0]; exact a1)
        have b2 : wc.cell? ⟨w.heap.size, 2, none⟩ = some (.slice ao n ca) := (by rw [c0]; exact a2)
        have b3 : wc.cell? ⟨w.heap.size, 3, none⟩ = some (.int .i64 fi) := (by rw [c0]; exact a3)
        have b4 : wc.cell? ⟨w.heap.size, 4, none⟩ = some (.int .i64 hg) := (by rw [c0]; exact a4)
        have b5 : wc.cell? ⟨w.heap.size, 5, none⟩ = some (.int .i64 co) := (by rw [c0]; exact a5)
        clear c0 f0 a0 a1 a2 a3 a4 a5 hwx hwy xwc hx' hw'
        by_cases s0 : st = 0
        · -- equal
          have s0e : (st == 0) = true := by simp [s0]
          have s0n : (st != 0) = false := by simp [s0]
          have s0H := hide s0
          clear s0
          by_cases hf : fi = -1
          · -- equal
            have hfe : (fi == -1) = true := by simp [hf]
            have hfn : (fi != -1) = false := by simp [hf]
            have hfH := hide hf
            clear hf
            by_cases hc : co = 0
            · -- equal
              have hce : (co == 0) = true := by simp [hc]
              have hcn : (co != 0) = false := by simp [hc]
              have hcH := hide hc
              clear hc
              go_wp2
              go_ret
              exact ⟨by rw [hR.out]; simp [s0H.out, hfH.out, hcH.out, *], xwy⟩
            · -- other
              have hce : (co == 0) = false := by simp [hc]
              have hcn : (co != 0) = true := by simp [hc]
              have hcH := hide hc
              clear hc
              go_wp2
              go_ret
              exact ⟨by rw [hR.out]; simp [s0H.out, hfH.out, hcH.out, *], xwy⟩
          · -- other
            have hfe : (fi == -1) = false := by simp [hf]
            have hfn : (fi != -1) = true := by simp [hf]
            have hfH := hide hf
            clear hf
            by_cases hc : co = 0
            · -- equal
              have hce : (co == 0) = true := by simp [hc]
              have hcn : (co != 0) = false := by simp [hc]
              have hcH := hide hc
              clear hc
              go_wp2
              go_ret
              exact ⟨by rw [hR.out]; simp [s0H.out, hfH.out, hcH.out, *], xwy⟩
            · -- other
              have hce : (co == 0) = false := by simp [hc]
              have hcn : (co != 0) = true := by simp [hc]
              have hcH := hide hc
              clear hc
              go_wp2
              go_ret
              exact ⟨by rw [hR.out]; simp [s0H.out, hfH.out, hcH.out, *], xwy⟩
        · -- other
          have s0e : (st == 0) = false := by simp [s0]
          have s0n : (st != 0) = true := by simp [s0]
          have s0H := hide s0
          clear s0
          by_cases s1 : st = 1
          · -- equal
            have s1e : (st == 1) = true := by simp [s1]
            have s1n : (st != 1) = false := by simp [s1]
            have s1H := hide s1
            clear s1
            by_cases hf : fi = -1
            · -- equal
              have hfe : (fi == -1) = true := by simp [hf]
              have hfn : (fi != -1) = false := by simp [hf]
              have hfH := hide hf
              clear hf
              rcases Bool.eq_false_or_eq_true (wl) with hv | hv
              · -- yes
                by_cases hc : co = 0
                · -- equal
                  have hce : (co == 0) = true := by simp [hc]
                  have hcn : (co != 0) = false := by simp [hc]
                  have hcH := hide hc
                  clear hc
                  go_wp2
                  go_ret
                  exact ⟨by rw [hR.out]; simp [s0H.out, s1H.out, hfH.out, hcH.out, *], xwy⟩
                · -- other
                  have hce : (co == 0) = false := by simp [hc]
                  have hcn : (co != 0) = true := by simp [hc]
                  have hcH := hide hc
                  clear hc
                  go_wp2
                  go_ret
                  exact ⟨by rw [hR.out]; simp [s0H.out, s1H.out, hfH.out, hcH.out, *], xwy⟩
              · -- no
                by_cases hc : co = 0
                · -- equal
                  have hce : (co == 0) = true := by simp [hc]
                  have hcn : (co != 0) = false := by simp [hc]
                  have hcH := hide hc
                  clear hc
                  go_wp2
                  go_ret
                  exact ⟨by rw [hR.out]; simp [s0H.out, s1H.out, hfH.out, hcH.out, *], xwy⟩
                · -- other
                  have hce : (co == 0) = false := by simp [hc]
                  have hcn : (co != 0) = true := by simp [hc]
                  have hcH := hide hc
                  clear hc
                  go_wp2
                  go_ret
                  exact ⟨by rw [hR.out]; simp [s0H.out, s1H.out, hfH.out, hcH.out, *], xwy⟩
            · -- other
              have hfe : (fi == -1) = false := by simp [hf]
              have hfn : (fi != -1) = true := by simp [hf]
              have hfH := hide hf
              clear hf
              rcases Bool.eq_false_or_eq_true (wl) with hv | hv
              · -- yes
                by_cases hc : co = 0
                · -- equal
                  have hce : (co == 0) = true := by simp [hc]
                  have hcn : (co != 0) = false := by simp [hc]
                  have hcH := hide hc
                  clear hc
                  go_wp2
                  go_ret
                  exact ⟨by rw [hR.out]; simp [s0H.out, s1H.out, hfH.out, hcH.out, *], xwy⟩
                · -- other
                  have hce : (co == 0) = false := by simp [hc]
                  have hcn : (co != 0) = true := by simp [hc]
                  have hcH := hide hc
                  clear hc
                  go_wp2
                  go_ret
                  exact ⟨by rw [hR.out]; simp [s0H.out, s1H.out, hfH.out, hcH.out, *], xwy⟩
              · -- no
                by_cases hc : co = 0
                · -- equal
                  have hce : (co == 0) = true := by simp [hc]
                  have hcn : (co != 0) = false := by simp [hc]
                  have hcH := hide hc
                  clear hc
                  go_wp2
                  go_ret
                  exact ⟨by rw [hR.out]; simp [s0H.out, s1H.out, hfH.out, hcH.out, *], xwy⟩
                · -- other
                  have hce : (co == 0) = false := by simp [hc]
                  have hcn : (co != 0) = true := by simp [hc]
                  have hcH := hide hc
                  clear hc
                  go_wp2
                  go_ret
                  exact ⟨by rw [hR.out]; simp [s0H.out, s1H.out, hfH.out, hcH.out, *], xwy⟩
          · -- other
            have s1e : (st == 1) = false := by simp [s1]
            have s1n : (st != 1) = true := by simp [s1]
            have s1H := hide s1
            clear s1
            by_cases s2 : st = 2
            · -- equal
              have s2e : (st == 2) = true := by simp [s2]
              have s2n : (st != 2) = false := by simp [s2]
              have s2H := hide s2
              clear s2
              rcases Bool.eq_false_or_eq_true (wl) with hv | hv
              · -- yes
                by_cases hc : co = 0
                · -- equal
                  have hce : (co == 0) = true := by simp [hc]
                  have hcn : (co != 0) = false := by simp [hc]
                  have hcH := hide hc
                  clear hc
                  go_wp2
                  go_ret
                  exact ⟨by rw [hR.out]; simp [s0H.out, s1H.out, s2H.out, hcH.out, *], xwy⟩
                · -- other
                  have hce : (co == 0) = false := by simp [hc]
                  have hcn : (co != 0) = true := by simp [hc]
                  have hcH := hide hc
                  clear hc
                  go_wp2
                  go_ret
                  exact ⟨by rw [hR.out]; simp [s0H.out, s1H.out, s2H.out, hcH.out, *], xwy⟩
              · -- no
                by_cases hc : co = 0
                · -- equal
                  have hce : (co == 0) = true := by simp [hc]
                  have hcn : (co != 0) = false := by simp [hc]
                  have hcH := hide hc
                  clear hc
                  go_wp2
                  go_ret
                  exact ⟨by rw [hR.out]; simp [s0H.out, s1H.out, s2H.out, hcH.out, *], xwy⟩
                · -- other
                  have hce : (co == 0) = false := by simp [hc]
                  have hcn : (co != 0) = true := by simp [hc]
                  have hcH := hide hc
                  clear hc
                  go_wp2
                  go_ret
                  exact ⟨by rw [hR.out]; simp [s0H.out, s1H.out, s2H.out, hcH.out, *], xwy⟩
            · -- other
              have s2e : (st == 2) = false := by simp [s2]
              have s2n : (st != 2) = true := by simp [s2]
              have s2H := hide s2
              clear s2
              by_cases s3 : st = 3
              · -- equal
                have s3e : (st == 3) = true := by simp [s3]
                have s3n : (st != 3) = false := by simp [s3]
                have s3H := hide s3
                clear s3
                rcases Bool.eq_false_or_eq_true (wl) with hv | hv
                · -- yes
                  by_cases hc : co = 0
                  · -- equal
                    have hce : (co == 0) = true := by simp [hc]
                    have hcn : (co != 0) = false := by simp [hc]
                    have hcH := hide hc
                    clear hc
                    rcases Bool.eq_false_or_eq_true (((n : Int) == 0)) with hz | hz
                    · -- yes
                      go_wp2
                      go_ret
                      exact ⟨by rw [hR.out]; simp [s0H.out, s1H.out, s2H.out, s3H.out, hcH.out, *], xwy⟩
                    · -- no
                      go_wp2
                      go_ret
                      exact ⟨by rw [hR.out]; simp [s0H.out, s1H.out, s2H.out, s3H.out, hcH.out, *], xwy⟩
                  · -- other
                    have hce : (co == 0) = false := by simp [hc]
                    have hcn : (co != 0) = true := by simp [hc]
                    have hcH := hide hc
                    clear hc
                    rcases Bool.eq_false_or_eq_true (((n : Int) == 0)) with hz | hz
                    · -- yes
                      go_wp2
                      go_ret
                      exact ⟨by rw [hR.out]; simp [s0H.out, s1H.out, s2H.out, s3H.out, hcH.out, *], xwy⟩
                    · -- no
                      go_wp2
                      go_ret
                      exact ⟨by rw [hR.out]; simp [s0H.out, s1H.out, s2H.out, s3H.out, hcH.out, *], xwy⟩
                · -- no
                  by_cases hc : co = 0
                  · -- equal
                    have hce : (co == 0) = true := by simp [hc]
                    have hcn : (co != 0) = false := by simp [hc]
                    have hcH := hide hc
                    clear hc
                    rcases Bool.eq_false_or_eq_true (((n : Int) == 0)) with hz | hz
                    · -- yes
                      go_wp2
                      go_ret
                      exact ⟨by rw [hR.out]; simp [s0H.out, s1H.out, s2H.out, s3H.out, hcH.out, *], xwy⟩
                    · -- no
                      go_wp2
                      go_ret
                      exact ⟨by rw [hR.out]; simp [s0H.out, s1H.out, s2H.out, s3H.out, hcH.out, *], xwy⟩
                  · -- other
                    have hce : (co == 0) = false := by simp [hc]
                    have hcn : (co != 0) = true := by simp [hc]
                    have hcH := hide hc
                    clear hc
                    rcases Bool.eq_false_or_eq_true (((n : Int) == 0)) with hz | hz
                    · -- yes
                      go_wp2
                      go_ret
                      exact ⟨by rw [hR.out]; simp [s0H.out, s1H.out, s2H.out, s3H.out, hcH.out, *], xwy⟩
                    · -- no
                      go_wp2
                      go_ret
                      exact ⟨by rw [hR.out]; simp [s0H.out, s1H.out, s2H.out, s3H.out, hcH.out, *], xwy⟩
              · -- other
                have s3e : (st == 3) = false := by simp [s3]
                have s3n : (st != 3) = true := by simp [s3]
                have s3H := hide s3
                clear s3
                by_cases s4 : st = 4
                · -- equal
                  have s4e : (st == 4) = true := by simp [s4]
                  have s4n : (st != 4) = false := by simp [s4]
                  have s4H := hide s4
                  clear s4
                  by_cases hf : fi = hg
                  · -- equal
                    have hfe : (fi == hg) = true := by simp [hf]
                    have hfn : (fi != hg) = false := by simp [hf]
                    have hfH := hide hf
                    clear hf
                    rcases Bool.eq_false_or_eq_true (((n : Int) == 0)) with hz | hz
                    · -- yes
                      go_wp2
                      go_ret
                      exact ⟨by rw [hR.out]; simp [s0H.out, s1H.out, s2H.out, s3H.out, s4H.out, hfH.out, *], xwy⟩
                    · -- no
                      go_wp2
                      go_ret
                      exact ⟨by rw [hR.out]; simp [s0H.out, s1H.out, s2H.out, s3H.out, s4H.out, hfH.out, *], xwy⟩
                  · -- other
                    have hfe : (fi == hg) = false := by simp [hf]
                    have hfn : (fi != hg) = true := by simp [hf]
                    have hfH := hide hf
                    clear hf
                    rcases Bool.eq_false_or_eq_true (((n : Int) == 0)) with hz | hz
                    · -- yes
                      go_wp2
                      go_ret
                      exact ⟨by rw [hR.out]; simp [s0H.out, s1H.out, s2H.out, s3H.out, s4H.out, hfH.out, *], xwy⟩
                    · -- no
                      go_wp2
                      go_ret
                      exact ⟨by rw [hR.out]; simp [s0H.out, s1H.out, s2H.out, s3H.out, s4H.out, hfH.out, *], xwy⟩
                · -- other
                  have s4e : (st == 4) = false := by simp [s4]
                  have s4n : (st != 4) = true := by simp [s4]
                  have s4H := hide s4
                  clear s4
                  by_cases s5 : st = 5
                  · -- equal
                    have s5e : (st == 5) = true := by simp [s5]
                    have s5n : (st != 5) = false := by simp [s5]
                    have s5H := hide s5
                    clear s5
                    by_cases hf : fi = hg
                    · -- equal
                      have hfe : (fi == hg) = true := by simp [hf]
                      have hfn : (fi != hg) = false := by simp [hf]
                      have hfH := hide hf
                      clear hf
                      rcases Bool.eq_false_or_eq_true (((n : Int) == 0)) with hz | hz
                      · -- yes
                        go_wp2
                        go_ret
                        exact ⟨by rw [hR.out]; simp [s0H.out, s1H.out, s2H.out, s3H.out, s4H.out, s5H.out, hfH.out, *], xwy⟩
                      · -- no
                        go_wp2
                        go_ret
                        exact ⟨by rw [hR.out]; simp [s0H.out, s1H.out, s2H.out, s3H.out, s4H.out, s5H.out, hfH.out, *], xwy⟩
                    · -- other
                      have hfe : (fi == hg) = false := by simp [hf]
                      have hfn : (fi != hg) = true := by simp [hf]
                      have hfH := hide hf
                      clear hf
                      rcases Bool.eq_false_or_eq_true (((n : Int) == 0)) with hz | hz
                      · -- yes
                        go_wp2
                        go_ret
                        exact ⟨by rw [hR.out]; simp [s0H.out, s1H.out, s2H.out, s3H.out, s4H.out, s5H.out, hfH.out, *], xwy⟩
                      · -- no
                        go_wp2
                        go_ret
                        exact ⟨by rw [hR.out]; simp [s0H.out, s1H.out, s2H.out, s3H.out, s4H.out, s5H.out, hfH.out, *], xwy⟩
                  · -- other
                    have s5e : (st == 5) = false := by simp [s5]
                    have s5n : (st != 5) = true := by simp [s5]
                    have s5H := hide s5
                    clear s5
                    go_wp2
                    go_ret
                    exact ⟨by rw [hR.out]; simp [s0H.out, s1H.out, s2H.out, s3H.out, s4H.out, s5H.out, *], xwy⟩
    · rw [hok]
      simp only [Bool.not_false]
      go_wp2
      go_ret
      exact ⟨by simp [recvIs, hok], xwc⟩
end Go.Proofs.Ytifhbchlmlaanaa

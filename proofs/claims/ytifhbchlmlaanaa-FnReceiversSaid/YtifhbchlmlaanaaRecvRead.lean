/-
  Contracts of ReadReceiver. Conditions: the chunks can be read.
-/
import Derived.Test.YtifhbchlmlaanaaIsRecvS
import Derived.Test.YtifhbchlmlaanaaTake
namespace Go.Proofs.Ytifhbchlmlaanaa
open Go.ChangeShapes Go.WideShapes Go.ChangeAt Go.RowKit
set_option linter.unusedSimpArgs false
/-- A text and a receiver: the receiver's chunks in memory of the call's own. -/
def ReadRes (s : ByteArray) (st nx fi hg co : Int) (cs : List Ck) (w : World) (en : Ending) (w' : World) : Prop :=
  ∃ (ao : Option Addr) (cap : Nat), en = .returned (.tuple #[.string s, .agg #[.int .i64 st, .int .i64 nx, .slice ao cs.length cap, .int .i64 fi, .int .i64 hg, .int .i64 co]]) ∧ OwnC w.heap.size w'.heap.size w' ao cs ∧ Ext w w'
def rdGo (st nx fi hg co : Int) (cs : List Ck) : Bool := recvIs st nx fi hg co cs && !(st == 4)
def rdS (st nx fi hg co m : Int) (cs : List Ck) : ByteArray := if rdGo st nx fi hg co cs = true then takeS nx m cs else ⟨#[]⟩
def rdX (st nx fi hg co m : Int) (cs : List Ck) : Int := if rdGo st nx fi hg co cs = true then takeX nx m cs else nx
def rdC (st nx fi hg co m : Int) (cs : List Ck) : List Ck := if rdGo st nx fi hg co cs = true then takeC nx m cs else cs
def rdT (st nx fi hg co m : Int) (cs : List Ck) : Int := if recvIs st nx fi hg co cs = true then (if (st == 4) = true then 5 else if (st == 2 && takeX nx m cs == fi) = true then 3 else st) else st
theorem rdC_length (st nx fi hg co m : Int) (cs : List Ck) : (rdC st nx fi hg co m cs).length ≤ cs.length := by
  unfold rdC
  split
  · exact takeC_length _ _ _
  · exact Nat.le_refl _
set_option maxHeartbeats 4000000 in
set_option maxRecDepth 100000 in
theorem ReadReceiver_impl (st nx fi hg co m : Int) (ao : Option Addr) (n ca : Nat) (cs : List Ck) (w : World) (hx : ReadC w ao cs) (hn : cs.length = n) (hl : n ≤ 1048576) (hw : WfC cs) (hnx : -9223372036854775808 ≤ nx ∧ nx ≤ 9223372036854775807) :
    Calls Try.prog 33 #[.agg #[.int .i64 st, .int .i64 nx, .slice ao n ca, .int .i64 fi, .int .i64 hg, .int .i64 co], .int .i64 m] w (ReadRes (rdS st nx fi hg co m cs) (rdT st nx fi hg co m cs) (rdX st nx fi hg co m cs) fi hg co (rdC st nx fi hg co m cs) w) := by
  rcases Bool.eq_false_or_eq_true (recvIs st nx fi hg co cs) with hi | hi
  · -- yes
    by_cases s4 : st = 4
    · -- equal
      have s4e : (st == 4) = true := by simp [s4]
      have s4n : (st != 4) = false := by simp [s4]
      have s4H := hide s4
      clear s4
      have hS : rdS st nx fi hg co m cs = ⟨#[]⟩ := by simp [rdS, rdGo, hi, s4e]
      have hT : rdT st nx fi hg co m cs = 5 := by simp [rdT, hi, s4e]
      have hX : rdX st nx fi hg co m cs = nx := by simp [rdX, rdGo, hi, s4e]
      have hC : rdC st nx fi hg co m cs = cs := by simp [rdC, rdGo, hi, s4e]
      rw [hS, hT, hX, hC]
      clear hS hT hX hC
      have hn' := hide hn
      have hx' := hide hx
      have hw' := hide hw
      clear hn hx hw
      go_enter Try.func33, Try.ntmps33
      go_wp2_with fail
      refine (copyReceiver_any st nx fi hg co ao n ca cs _ (hx'.out.ext (by repeat (first | with_reducible exact Ext.refl _ | with_reducible assumption | with_reducible refine Ext.alloc ?_ _ | with_reducible refine Ext.drew ?_ | ((with_reducible refine Ext.set ?_ ?_ _); (focus (first | (simp; done) | (simp; omega) | omega)))))) hn'.out hl).mono ?_
      rintro en w1 ⟨ao1, cap1, rfl, ho1, hw1⟩
      have xw1 : Ext w w1 := (by repeat (first | with_reducible exact Ext.refl _ | with_reducible assumption | with_reducible refine Ext.alloc ?_ _ | with_reducible refine Ext.drew ?_ | with_reducible refine Ext.drewN ?_ _ | ((with_reducible refine Ext.set ?_ ?_ _); (focus (first | (simp; done) | (simp; omega)))) | with_reducible refine Ext.trans ?_ (by assumption)))
      have kw1_0 := hw1.more (k := w.heap.size) (by first | assumption | (simp; done) | (simp; omega) | omega)
      obtain ⟨cw1_0, fw1_0⟩ := hw1.row (k := w.heap.size) (by first | assumption | (simp; done) | (simp; omega) | omega)
      have kw1_1 := hw1.more (k := w.heap.size + 1) (by first | assumption | (simp; done) | (simp; omega) | omega)
      obtain ⟨cw1_1, fw1_1⟩ := hw1.row (k := w.heap.size + 1) (by first | assumption | (simp; done) | (simp; omega) | omega)
      replace ho1 := hide (OwnC.mono (lo' := w.heap.size + 2) ho1 (by simp) (Nat.le_refl _))
      have hs1 : w.heap.size + 2 ≤ w1.heap.size := by have := hw1.size; simpa using this
      go_wp2_with fail
      refine (IsReceiver_impl st nx fi hg co ao n ca cs _ (hx'.out.ext (by repeat (first | with_reducible exact Ext.refl _ | with_reducible assumption | with_reducible refine Ext.alloc ?_ _ | with_reducible refine Ext.drew ?_ | ((with_reducible refine Ext.set ?_ ?_ _); (focus (first | (simp; done) | (simp; omega) | omega))) | with_reducible refine Ext.trans ?_ hw1))) hn'.out (by omega) hw'.out hnx).mono ?_
      rintro en w2 ⟨rfl, hw2⟩
      have xw2 : Ext w w2 := (by repeat (first | with_reducible exact Ext.refl _ | with_reducible assumption | with_reducible refine Ext.alloc ?_ _ | with_reducible refine Ext.drew ?_ | with_reducible refine Ext.drewN ?_ _ | ((with_reducible refine Ext.set ?_ ?_ _); (focus (first | (simp; done) | (simp; omega)))) | with_reducible refine Ext.trans ?_ (by assumption)))
      have kw2_0 := hw2.more (k := w.heap.size) (by first | assumption | (simp; done) | (simp; omega) | omega)
      obtain ⟨cw2_0, fw2_0⟩ := hw2.row (k := w.heap.size) (by first | assumption | (simp; done) | (simp; omega) | omega)
      have kw2_1 := hw2.more (k := w.heap.size + 1) (by first | assumption | (simp; done) | (simp; omega) | omega)
      obtain ⟨cw2_1, fw2_1⟩ := hw2.row (k := w.heap.size + 1) (by first | assumption | (simp; done) | (simp; omega) | omega)
      have kw2_2 := hw2.more (k := w1.heap.size) (by first | assumption | (simp; done) | (simp; omega) | omega)
      obtain ⟨cw2_2, fw2_2⟩ := hw2.row (k := w1.heap.size) (by first | assumption | (simp; done) | (simp; omega) | omega)
      rw [hi]
      have hs2 : w1.heap.size < w2.heap.size := by have := hw2.size; simp at this; omega
      go_wp2_with fail
      go_region
      go_wp2
      refine bodyPost_ret (v := .tuple #[.string ⟨#[]⟩, .agg #[.int .i64 5, .int .i64 nx, .slice ao1 cs.length cap1, .int .i64 fi, .int .i64 hg, .int .i64 co]]) (by simp [results, Try.results33, go_sem, *]) rfl ⟨ao1, cap1, rfl, ?_, ?_⟩
      · refine OwnC.mono (OwnC.chg (S := fun k => k < w.heap.size + 2 ∨ w1.heap.size ≤ k) ho1.out (by repeat (first | with_reducible exact Chg.refl _ _ | with_reducible assumption | with_reducible refine Chg.alloc ?_ _ | with_reducible refine Chg.drew ?_ | ((with_reducible refine Chg.set ?_ ?_ _); (focus (first | (left; simp; done) | (left; simp; omega) | (right; simp; done) | (right; simp; omega) | (right; omega)))) | with_reducible refine Chg.trans ?_ (Ext.chg hw2 _))) (fun b h1 h2 h3 => by omega)) (by omega) (by simp; omega)
      · exact (by repeat (first | with_reducible exact Ext.refl _ | with_reducible assumption | with_reducible refine Ext.alloc ?_ _ | with_reducible refine Ext.drew ?_ | with_reducible refine Ext.drewN ?_ _ | ((with_reducible refine Ext.set ?_ ?_ _); (focus (first | (simp; done) | (simp; omega)))) | with_reducible refine Ext.trans ?_ (by assumption)))
    · -- other
      have s4e : (st == 4) = false := by simp [s4]
      have s4n : (st != 4) = true := by simp [s4]
      have s4H := hide s4
      clear s4
      by_cases s2 : st = 2
      · -- equal
        have s2e : (st == 2) = true := by simp [s2]
        have s2n : (st != 2) = false := by simp [s2]
        have s2H := hide s2
        clear s2
        rcases Bool.eq_false_or_eq_true ((takeX nx m cs == fi)) with hx2 | hx2
        · -- yes
          have hS : rdS st nx fi hg co m cs = (takeS nx m cs) := by simp [rdS, rdGo, hi, s4e, s2e, hx2]
          have hT : rdT st nx fi hg co m cs = 3 := by simp [rdT, hi, s4e, s2e, hx2]
          have hX : rdX st nx fi hg co m cs = (takeX nx m cs) := by simp [rdX, rdGo, hi, s4e, s2e, hx2]
          have hC : rdC st nx fi hg co m cs = (takeC nx m cs) := by simp [rdC, rdGo, hi, s4e, s2e, hx2]
          rw [hS, hT, hX, hC]
          clear hS hT hX hC
          have hn' := hide hn
          have hx' := hide hx
          have hw' := hide hw
          clear hn hx hw
          go_enter Try.func33, Try.ntmps33
          go_wp2_with fail
          refine (copyReceiver_any st nx fi hg co ao n ca cs _ (hx'.out.ext (by repeat (first | with_reducible exact Ext.refl _ | with_reducible assumption | with_reducible refine Ext.alloc ?_ _ | with_reducible refine Ext.drew ?_ | ((with_reducible refine Ext.set ?_ ?_ _); (focus (first | (simp; done) | (simp; omega) | omega)))))) hn'.out hl).mono ?_
          rintro en w1 ⟨ao1, cap1, rfl, ho1, hw1⟩
          have xw1 : Ext w w1 := (by repeat (first | with_reducible exact Ext.refl _ | with_reducible assumption | with_reducible refine Ext.alloc ?_ _ | with_reducible refine Ext.drew ?_ | with_reducible refine Ext.drewN ?_ _ | ((with_reducible refine Ext.set ?_ ?_ _); (focus (first | (simp; done) | (simp; omega)))) | with_reducible refine Ext.trans ?_ (by assumption)))
          have kw1_0 := hw1.more (k := w.heap.size) (by first | assumption | (simp; done) | (simp; omega) | omega)
          obtain ⟨cw1_0, fw1_0⟩ := hw1.row (k := w.heap.size) (by first | assumption | (simp; done) | (simp; omega) | omega)
          have kw1_1 := hw1.more (k := w.heap.size + 1) (by first | assumption | (simp; done) | (simp; omega) | omega)
          obtain ⟨cw1_1, fw1_1⟩ := hw1.row (k := w.heap.size + 1) (by first | assumption | (simp; done) | (simp; omega) | omega)
          replace ho1 := hide (OwnC.mono (lo' := w.heap.size + 2) ho1 (by simp) (Nat.le_refl _))
          have hs1 : w.heap.size + 2 ≤ w1.heap.size := by have := hw1.size; simpa using this
          go_wp2_with fail
          refine (IsReceiver_impl st nx fi hg co ao n ca cs _ (hx'.out.ext (by repeat (first | with_reducible exact Ext.refl _ | with_reducible assumption | with_reducible refine Ext.alloc ?_ _ | with_reducible refine Ext.drew ?_ | ((with_reducible refine Ext.set ?_ ?_ _); (focus (first | (simp; done) | (simp; omega) | omega))) | with_reducible refine Ext.trans ?_ hw1))) hn'.out (by omega) hw'.out hnx).mono ?_
          rintro en w2 ⟨rfl, hw2⟩
          have xw2 : Ext w w2 := (by repeat (first | with_reducible exact Ext.refl _ | with_reducible assumption | with_reducible refine Ext.alloc ?_ _ | with_reducible refine Ext.drew ?_ | with_reducible refine Ext.drewN ?_ _ | ((with_reducible refine Ext.set ?_ ?_ _); (focus (first | (simp; done) | (simp; omega)))) | with_reducible refine Ext.trans ?_ (by assumption)))
          have kw2_0 := hw2.more (k := w.heap.size) (by first | assumption | (simp; done) | (simp; omega) | omega)
          obtain ⟨cw2_0, fw2_0⟩ := hw2.row (k := w.heap.size) (by first | assumption | (simp; done) | (simp; omega) | omega)
          have kw2_1 := hw2.more (k := w.heap.size + 1) (by first | assumption | (simp; done) | (simp; omega) | omega)
          obtain ⟨cw2_1, fw2_1⟩ := hw2.row (k := w.heap.size + 1) (by first | assumption | (simp; done) | (simp; omega) | omega)
          have kw2_2 := hw2.more (k := w1.heap.size) (by first | assumption | (simp; done) | (simp; omega) | omega)
          obtain ⟨cw2_2, fw2_2⟩ := hw2.row (k := w1.heap.size) (by first | assumption | (simp; done) | (simp; omega) | omega)
          rw [hi]
          have hs2 : w1.heap.size < w2.heap.size := by have := hw2.size; simp at this; omega
          go_wp2_with fail
          refine (TakeBytes_impl nx m ao n ca cs _ (hx'.out.ext (by repeat (first | with_reducible exact Ext.refl _ | with_reducible assumption | with_reducible refine Ext.alloc ?_ _ | with_reducible refine Ext.drew ?_ | ((with_reducible refine Ext.set ?_ ?_ _); (focus (first | (simp; done) | (simp; omega) | omega))) | with_reducible refine Ext.trans ?_ hw2 | with_reducible refine Ext.trans ?_ hw1))) hn'.out hl hw'.out).mono ?_
          rintro en w3 ⟨ao3, cap3, rfl, ho3, hw3⟩
          have xw3 : Ext w w3 := (by repeat (first | with_reducible exact Ext.refl _ | with_reducible assumption | with_reducible refine Ext.alloc ?_ _ | with_reducible refine Ext.drew ?_ | with_reducible refine Ext.drewN ?_ _ | ((with_reducible refine Ext.set ?_ ?_ _); (focus (first | (simp; done) | (simp; omega)))) | with_reducible refine Ext.trans ?_ (by assumption)))
          have kw3_0 := hw3.more (k := w.heap.size) (by first | assumption | (simp; done) | (simp; omega) | omega)
          obtain ⟨cw3_0, fw3_0⟩ := hw3.row (k := w.heap.size) (by first | assumption | (simp; done) | (simp; omega) | omega)
          have kw3_1 := hw3.more (k := w.heap.size + 1) (by first | assumption | (simp; done) | (simp; omega) | omega)
          obtain ⟨cw3_1, fw3_1⟩ := hw3.row (k := w.heap.size + 1) (by first | assumption | (simp; done) | (simp; omega) | omega)
          have kw3_2 := hw3.more (k := w1.heap.size) (by first | assumption | (simp; done) | (simp; omega) | omega)
          obtain ⟨cw3_2, fw3_2⟩ := hw3.row (k := w1.heap.size) (by first | assumption | (simp; done) | (simp; omega) | omega)
          replace ho3 := hide ho3
          have hs3 : w2.heap.size ≤ w3.heap.size := by have := hw3.size; simpa using this
          generalize takeS nx m cs = ts at *
          generalize takeC nx m cs = tc at *
          generalize takeX nx m cs = tx at *
          go_wp2_with fail
          go_region
          go_wp2
          refine bodyPost_ret (v := .tuple #[.string ts, .agg #[.int .i64 3, .int .i64 tx, .slice ao3 tc.length cap3, .int .i64 fi, .int .i64 hg, .int .i64 co]]) (by simp [results, Try.results33, go_sem, *]) rfl ⟨ao3, cap3, rfl, ?_, ?_⟩
          · refine OwnC.mono (OwnC.chg (S := fun k => k < w2.heap.size ∨ w3.heap.size ≤ k) ho3.out (by repeat (first | with_reducible exact Chg.refl _ _ | with_reducible assumption | with_reducible refine Chg.alloc ?_ _ | with_reducible refine Chg.drew ?_ | ((with_reducible refine Chg.set ?_ ?_ _); (focus (first | (left; simp; done) | (left; simp; omega) | (right; simp; done) | (right; simp; omega) | (right; omega)))))) (fun b h1 h2 h3 => by (try simp at h1); omega)) (by first | omega | (simp; omega)) (by first | omega | (simp; done) | (simp; omega))
          · exact (by repeat (first | with_reducible exact Ext.refl _ | with_reducible assumption | with_reducible refine Ext.alloc ?_ _ | with_reducible refine Ext.drew ?_ | with_reducible refine Ext.drewN ?_ _ | ((with_reducible refine Ext.set ?_ ?_ _); (focus (first | (simp; done) | (simp; omega)))) | with_reducible refine Ext.trans ?_ (by assumption)))
        · -- no
          have hS : rdS st nx fi hg co m cs = (takeS nx m cs) := by simp [rdS, rdGo, hi, s4e, s2e, hx2]
          have hT : rdT st nx fi hg co m cs = st := by simp [rdT, hi, s4e, s2e, hx2]
          have hX : rdX st nx fi hg co m cs = (takeX nx m cs) := by simp [rdX, rdGo, hi, s4e, s2e, hx2]
          have hC : rdC st nx fi hg co m cs = (takeC nx m cs) := by simp [rdC, rdGo, hi, s4e, s2e, hx2]
          rw [hS, hT, hX, hC]
          clear hS hT hX hC
          have hn' := hide hn
          have hx' := hide hx
          have hw' := hide hw
          clear hn hx hw
          go_enter Try.func33, Try.ntmps33
          go_wp2_with fail
          refine (copyReceiver_any st nx fi hg co ao n ca cs _ (hx'.out.ext (by repeat (first | with_reducible exact Ext.refl _ | with_reducible assumption | with_reducible refine Ext.alloc ?_ _ | with_reducible refine Ext.drew ?_ | ((with_reducible refine Ext.set ?_ ?_ _); (focus (first | (simp; done) | (simp; omega) | omega)))))) hn'.out hl).mono ?_
          rintro en w1 ⟨ao1, cap1, rfl, ho1, hw1⟩
          have xw1 : Ext w w1 := (by repeat (first | with_reducible exact Ext.refl _ | with_reducible assumption | with_reducible refine Ext.alloc ?_ _ | with_reducible refine Ext.drew ?_ | with_reducible refine Ext.drewN ?_ _ | ((with_reducible refine Ext.set ?_ ?_ _); (focus (first | (simp; done) | (simp; omega)))) | with_reducible refine Ext.trans ?_ (by assumption)))
          have kw1_0 := hw1.more (k := w.heap.size) (by first | assumption | (simp; done) | (simp; omega) | omega)
          obtain ⟨cw1_0, fw1_0⟩ := hw1.row (k := w.heap.size) (by first | assumption | (simp; done) | (simp; omega) | omega)
          have kw1_1 := hw1.more (k := w.heap.size + 1) (by first | assumption | (simp; done) | (simp; omega) | omega)
          obtain ⟨cw1_1, fw1_1⟩ := hw1.row (k := w.heap.size + 1) (by first | assumption | (simp; done) | (simp; omega) | omega)
          replace ho1 := hide (OwnC.mono (lo' := w.heap.size + 2) ho1 (by simp) (Nat.le_refl _))
          have hs1 : w.heap.size + 2 ≤ w1.heap.size := by have := hw1.size; simpa using this
          go_wp2_with fail
          refine (IsReceiver_impl st nx fi hg co ao n ca cs _ (hx'.out.ext (by repeat (first | with_reducible exact Ext.refl _ | with_reducible assumption | with_reducible refine Ext.alloc ?_ _ | with_reducible refine Ext.drew ?_ | ((with_reducible refine Ext.set ?_ ?_ _); (focus (first | (simp; done) | (simp; omega) | omega))) | with_reducible refine Ext.trans ?_ hw1))) hn'.out (by omega) hw'.out hnx).mono ?_
          rintro en w2 ⟨rfl, hw2⟩
          have xw2 : Ext w w2 := (by repeat (first | with_reducible exact Ext.refl _ | with_reducible assumption | with_reducible refine Ext.alloc ?_ _ | with_reducible refine Ext.drew ?_ | with_reducible refine Ext.drewN ?_ _ | ((with_reducible refine Ext.set ?_ ?_ _); (focus (first | (simp; done) | (simp; omega)))) | with_reducible refine Ext.trans ?_ (by assumption)))
          have kw2_0 := hw2.more (k := w.heap.size) (by first | assumption | (simp; done) | (simp; omega) | omega)
          obtain ⟨cw2_0, fw2_0⟩ := hw2.row (k := w.heap.size) (by first | assumption | (simp; done) | (simp; omega) | omega)
          have kw2_1 := hw2.more (k := w.heap.size + 1) (by first | assumption | (simp; done) | (simp; omega) | omega)
          obtain ⟨cw2_1, fw2_1⟩ := hw2.row (k := w.heap.size + 1) (by first | assumption | (simp; done) | (simp; omega) | omega)
          have kw2_2 := hw2.more (k := w1.heap.size) (by first | assumption | (simp; done) | (simp; omega) | omega)
          obtain ⟨cw2_2, fw2_2⟩ := hw2.row (k := w1.heap.size) (by first | assumption | (simp; done) | (simp; omega) | omega)
          rw [hi]
          have hs2 : w1.heap.size < w2.heap.size := by have := hw2.size; simp at this; omega
          go_wp2_with fail
          refine (TakeBytes_impl nx m ao n ca cs _ (hx'.out.ext (by repeat (first | with_reducible exact Ext.refl _ | with_reducible assumption | with_reducible refine Ext.alloc ?_ _ | with_reducible refine Ext.drew ?_ | ((with_reducible refine Ext.set ?_ ?_ _); (focus (first | (simp; done) | (simp; omega) | omega))) | with_reducible refine Ext.trans ?_ hw2 | with_reducible refine Ext.trans ?_ hw1))) hn'.out hl hw'.out).mono ?_
          rintro en w3 ⟨ao3, cap3, rfl, ho3, hw3⟩
          have xw3 : Ext w w3 := (by repeat (first | with_reducible exact Ext.refl _ | with_reducible assumption | with_reducible refine Ext.alloc ?_ _ | with_reducible refine Ext.drew ?_ | with_reducible refine Ext.drewN ?_ _ | ((with_reducible refine Ext.set ?_ ?_ _); (focus (first | (simp; done) | (simp; omega)))) | with_reducible refine Ext.trans ?_ (by assumption)))
          have kw3_0 := hw3.more (k := w.heap.size) (by first | assumption | (simp; done) | (simp; omega) | omega)
          obtain ⟨cw3_0, fw3_0⟩ := hw3.row (k := w.heap.size) (by first | assumption | (simp; done) | (simp; omega) | omega)
          have kw3_1 := hw3.more (k := w.heap.size + 1) (by first | assumption | (simp; done) | (simp; omega) | omega)
          obtain ⟨cw3_1, fw3_1⟩ := hw3.row (k := w.heap.size + 1) (by first | assumption | (simp; done) | (simp; omega) | omega)
          have kw3_2 := hw3.more (k := w1.heap.size) (by first | assumption | (simp; done) | (simp; omega) | omega)
          obtain ⟨cw3_2, fw3_2⟩ := hw3.row (k := w1.heap.size) (by first | assumption | (simp; done) | (simp; omega) | omega)
          replace ho3 := hide ho3
          have hs3 : w2.heap.size ≤ w3.heap.size := by have := hw3.size; simpa using this
          generalize takeS nx m cs = ts at *
          generalize takeC nx m cs = tc at *
          generalize takeX nx m cs = tx at *
          go_wp2_with fail
          go_region
          go_wp2
          refine bodyPost_ret (v := .tuple #[.string ts, .agg #[.int .i64 st, .int .i64 tx, .slice ao3 tc.length cap3, .int .i64 fi, .int .i64 hg, .int .i64 co]]) (by simp [results, Try.results33, go_sem, *]) rfl ⟨ao3, cap3, rfl, ?_, ?_⟩
          · refine OwnC.mono (OwnC.chg (S := fun k => k < w2.heap.size ∨ w3.heap.size ≤ k) ho3.out (by repeat (first | with_reducible exact Chg.refl _ _ | with_reducible assumption | with_reducible refine Chg.alloc ?_ _ | with_reducible refine Chg.drew ?_ | ((with_reducible refine Chg.set ?_ ?_ _); (focus (first | (left; simp; done) | (left; simp; omega) | (right; simp; done) | (right; simp; omega) | (right; omega)))))) (fun b h1 h2 h3 => by (try simp at h1); omega)) (by first | omega | (simp; omega)) (by first | omega | (simp; done) | (simp; omega))
          · exact (by repeat (first | with_reducible exact Ext.refl _ | with_reducible assumption | with_reducible refine Ext.alloc ?_ _ | with_reducible refine Ext.drew ?_ | with_reducible refine Ext.drewN ?_ _ | ((with_reducible refine Ext.set ?_ ?_ _); (focus (first | (simp; done) | (simp; omega)))) | with_reducible refine Ext.trans ?_ (by assumption)))
      · -- other
        have s2e : (st == 2) = false := by simp [s2]
        have s2n : (st != 2) = true := by simp [s2]
        have s2H := hide s2
        clear s2
        have hS : rdS st nx fi hg co m cs = (takeS nx m cs) := by simp [rdS, rdGo, hi, s4e, s2e]
        have hT : rdT st nx fi hg co m cs = st := by simp [rdT, hi, s4e, s2e]
        have hX : rdX st nx fi hg co m cs = (takeX nx m cs) := by simp [rdX, rdGo, hi, s4e, s2e]
        have hC : rdC st nx fi hg co m cs = (takeC nx m cs) := by simp [rdC, rdGo, hi, s4e, s2e]
        rw [hS, hT, hX, hC]
        clear hS hT hX hC
        have hn' := hide hn
        have hx' := hide hx
        have hw' := hide hw
        clear hn hx hw
        go_enter Try.func33, Try.ntmps33
        go_wp2_with fail
        refine (copyReceiver_any st nx fi hg co ao n ca cs _ (hx'.out.ext (by repeat (first | with_reducible exact Ext.refl _ | with_reducible assumption | with_reducible refine Ext.alloc ?_ _ | with_reducible refine Ext.drew ?_ | ((with_reducible refine Ext.set ?_ ?_ _); (focus (first | (simp; done) | (simp; omega) | omega)))))) hn'.out hl).mono ?_
        rintro en w1 ⟨ao1, cap1, rfl, ho1, hw1⟩
        have xw1 : Ext w w1 := (by repeat (first | with_reducible exact Ext.refl _ | with_reducible assumption | with_reducible refine Ext.alloc ?_ _ | with_reducible refine Ext.drew ?_ | with_reducible refine Ext.drewN ?_ _ | ((with_reducible refine Ext.set ?_ ?_ _); (focus (first | (simp; done) | (simp; omega)))) | with_reducible refine Ext.trans ?_ (by assumption)))
        have kw1_0 := hw1.more (k := w.heap.size) (by first | assumption | (simp; done) | (simp; omega) | omega)
        obtain ⟨cw1_0, fw1_0⟩ := hw1.row (k := w.heap.size) (by first | assumption | (simp; done) | (simp; omega) | omega)
        have kw1_1 := hw1.more (k := w.heap.size + 1) (by first | assumption | (simp; done) | (simp; omega) | omega)
        obtain ⟨cw1_1, fw1_1⟩ := hw1.row (k := w.heap.size + 1) (by first | assumption | (simp; done) | (simp; omega) | omega)
        replace ho1 := hide (OwnC.mono (lo' := w.heap.size + 2) ho1 (by simp) (Nat.le_refl _))
        have hs1 : w.heap.size + 2 ≤ w1.heap.size := by have := hw1.size; simpa using this
        go_wp2_with fail
        refine (IsReceiver_impl st nx fi hg co ao n ca cs _ (hx'.out.ext (by repeat (first | with_reducible exact Ext.refl _ | with_reducible assumption | with_reducible refine Ext.alloc ?_ _ | with_reducible refine Ext.drew ?_ | ((with_reducible refine Ext.set ?_ ?_ _); (focus (first | (simp; done) | (simp; omega) | omega))) | with_reducible refine Ext.trans ?_ hw1))) hn'.out (by omega) hw'.out hnx).mono ?_
        rintro en w2 ⟨rfl, hw2⟩
        have xw2 : Ext w w2 := (by repeat (first | with_reducible exact Ext.refl _ | with_reducible assumption | with_reducible refine Ext.alloc ?_ _ | with_reducible refine Ext.drew ?_ | with_reducible refine Ext.drewN ?_ _ | ((with_reducible refine Ext.set ?_ ?_ _); (focus (first | (simp; done) | (simp; omega)))) | with_reducible refine Ext.trans ?_ (by assumption)))
        have kw2_0 := hw2.more (k := w.heap.size) (by first | assumption | (simp; done) | (simp; omega) | omega)
        obtain ⟨cw2_0, fw2_0⟩ := hw2.row (k := w.heap.size) (by first | assumption | (simp; done) | (simp; omega) | omega)
        have kw2_1 := hw2.more (k := w.heap.size + 1) (by first | assumption | (simp; done) | (simp; omega) | omega)
        obtain ⟨cw2_1, fw2_1⟩ := hw2.row (k := w.heap.size + 1) (by first | assumption | (simp; done) | (simp; omega) | omega)
        have kw2_2 := hw2.more (k := w1.heap.size) (by first | assumption | (simp; done) | (simp; omega) | omega)
        obtain ⟨cw2_2, fw2_2⟩ := hw2.row (k := w1.heap.size) (by first | assumption | (simp; done) | (simp; omega) | omega)
        rw [hi]
        have hs2 : w1.heap.size < w2.heap.size := by have := hw2.size; simp at this; omega
        go_wp2_with fail
        refine (TakeBytes_impl nx m ao n ca cs _ (hx'.out.ext (by repeat (first | with_reducible exact Ext.refl _ | with_reducible assumption | with_reducible refine Ext.alloc ?_ _ | with_reducible refine Ext.drew ?_ | ((with_reducible refine Ext.set ?_ ?_ _); (focus (first | (simp; done) | (simp; omega) | omega))) | with_reducible refine Ext.trans ?_ hw2 | with_reducible refine Ext.trans ?_ hw1))) hn'.out hl hw'.out).mono ?_
        rintro en w3 ⟨ao3, cap3, rfl, ho3, hw3⟩
        have xw3 : Ext w w3 := (by repeat (first | with_reducible exact Ext.refl _ | with_reducible assumption | with_reducible refine Ext.alloc ?_ _ | with_reducible refine Ext.drew ?_ | with_reducible refine Ext.drewN ?_ _ | ((with_reducible refine Ext.set ?_ ?_ _); (focus (first | (simp; done) | (simp; omega)))) | with_reducible refine Ext.trans ?_ (by assumption)))
        have kw3_0 := hw3.more (k := w.heap.size) (by first | assumption | (simp; done) | (simp; omega) | omega)
        obtain ⟨cw3_0, fw3_0⟩ := hw3.row (k := w.heap.size) (by first | assumption | (simp; done) | (simp; omega) | omega)
        have kw3_1 := hw3.more (k := w.heap.size + 1) (by first | assumption | (simp; done) | (simp; omega) | omega)
        obtain ⟨cw3_1, fw3_1⟩ := hw3.row (k := w.heap.size + 1) (by first | assumption | (simp; done) | (simp; omega) | omega)
        have kw3_2 := hw3.more (k := w1.heap.size) (by first | assumption | (simp; done) | (simp; omega) | omega)
        obtain ⟨cw3_2, fw3_2⟩ := hw3.row (k := w1.heap.size) (by first | assumption | (simp; done) | (simp; omega) | omega)
        replace ho3 := hide ho3
        have hs3 : w2.heap.size ≤ w3.heap.size := by have := hw3.size; simpa using this
        generalize takeS nx m cs = ts at *
        generalize takeC nx m cs = tc at *
        generalize takeX nx m cs = tx at *
        go_wp2_with fail
        go_region
        go_wp2
        refine bodyPost_ret (v := .tuple #[.string ts, .agg #[.int .i64 st, .int .i64 tx, .slice ao3 tc.length cap3, .int .i64 fi, .int .i64 hg, .int .i64 co]]) (by simp [results, Try.results33, go_sem, *]) rfl ⟨ao3, cap3, rfl, ?_, ?_⟩
        · refine OwnC.mono (OwnC.chg (S := fun k => k < w2.heap.size ∨ w3.heap.size ≤ k) ho3.out (by repeat (first | with_reducible exact Chg.refl _ _ | with_reducible assumption | with_reducible refine Chg.alloc ?_ _ | with_reducible refine Chg.drew ?_ | ((with_reducible refine Chg.set ?_ ?_ _); (focus (first | (left; simp; done) | (left; simp; omega) | (right; simp; done) | (right; simp; omega) | (right; omega)))))) (fun b h1 h2 h3 => by (try simp at h1); omega)) (by first | omega | (simp; omega)) (by first | omega | (simp; done) | (simp; omega))
        · exact (by repeat (first | with_reducible exact Ext.refl _ | with_reducible assumption | with_reducible refine Ext.alloc ?_ _ | with_reducible refine Ext.drew ?_ | with_reducible refine Ext.drewN ?_ _ | ((with_reducible refine Ext.set ?_ ?_ _); (focus (first | (simp; done) | (simp; omega)))) | with_reducible refine Ext.trans ?_ (by assumption)))
  · -- no
    have hS : rdS st nx fi hg co m cs = ⟨#[]⟩ := by simp [rdS, rdGo, hi]
    have hT : rdT st nx fi hg co m cs = st := by simp [rdT, hi]
    have hX : rdX st nx fi hg co m cs = nx := by simp [rdX, rdGo, hi]
    have hC : rdC st nx fi hg co m cs = cs := by simp [rdC, rdGo, hi]
    rw [hS, hT, hX, hC]
    clear hS hT hX hC
    have hn' := hide hn
    have hx' := hide hx
    have hw' := hide hw
    clear hn hx hw
    go_enter Try.func33, Try.ntmps33
    go_wp2_with fail
    refine (copyReceiver_any st nx fi hg co ao n ca cs _ (hx'.out.ext (by repeat (first | with_reducible exact Ext.refl _ | with_reducible assumption | with_reducible refine Ext.alloc ?_ _ | with_reducible refine Ext.drew ?_ | ((with_reducible refine Ext.set ?_ ?_ _); (focus (first | (simp; done) | (simp; omega) | omega)))))) hn'.out hl).mono ?_
    rintro en w1 ⟨ao1, cap1, rfl, ho1, hw1⟩
    have xw1 : Ext w w1 := (by repeat (first | with_reducible exact Ext.refl _ | with_reducible assumption | with_reducible refine Ext.alloc ?_ _ | with_reducible refine Ext.drew ?_ | with_reducible refine Ext.drewN ?_ _ | ((with_reducible refine Ext.set ?_ ?_ _); (focus (first | (simp; done) | (simp; omega)))) | with_reducible refine Ext.trans ?_ (by assumption)))
    have kw1_0 := hw1.more (k := w.heap.size) (by first | assumption | (simp; done) | (simp; omega) | omega)
    obtain ⟨cw1_0, fw1_0⟩ := hw1.row (k := w.heap.size) (by first | assumption | (simp; done) | (simp; omega) | omega)
    have kw1_1 := hw1.more (k := w.heap.size + 1) (by first | assumption | (simp; done) | (simp; omega) | omega)
    obtain ⟨cw1_1, fw1_1⟩ := hw1.row (k := w.heap.size + 1) (by first | assumption | (simp; done) | (simp; omega) | omega)
    replace ho1 := hide (OwnC.mono (lo' := w.heap.size + 2) ho1 (by simp) (Nat.le_refl _))
    have hs1 : w.heap.size + 2 ≤ w1.heap.size := by have := hw1.size; simpa using this
    go_wp2_with fail
    refine (IsReceiver_impl st nx fi hg co ao n ca cs _ (hx'.out.ext (by repeat (first | with_reducible exact Ext.refl _ | with_reducible assumption | with_reducible refine Ext.alloc ?_ _ | with_reducible refine Ext.drew ?_ | ((with_reducible refine Ext.set ?_ ?_ _); (focus (first | (simp; done) | (simp; omega) | omega))) | with_reducible refine Ext.trans ?_ hw1))) hn'.out (by omega) hw'.out hnx).mono ?_
    rintro en w2 ⟨rfl, hw2⟩
    have xw2 : Ext w w2 := (by repeat (first | with_reducible exact Ext.refl _ | with_reducible assumption | with_reducible refine Ext.alloc ?_ _ | with_reducible refine Ext.drew ?_ | with_reducible refine Ext.drewN ?_ _ | ((with_reducible refine Ext.set ?_ ?_ _); (focus (first | (simp; done) | (simp; omega)))) | with_reducible refine Ext.trans ?_ (by assumption)))
    have kw2_0 := hw2.more (k := w.heap.size) (by first | assumption | (simp; done) | (simp; omega) | omega)
    obtain ⟨cw2_0, fw2_0⟩ := hw2.row (k := w.heap.size) (by first | assumption | (simp; done) | (simp; omega) | omega)
    have kw2_1 := hw2.more (k := w.heap.size + 1) (by first | assumption | (simp; done) | (simp; omega) | omega)
    obtain ⟨cw2_1, fw2_1⟩ := hw2.row (k := w.heap.size + 1) (by first | assumption | (simp; done) | (simp; omega) | omega)
    have kw2_2 := hw2.more (k := w1.heap.size) (by first | assumption | (simp; done) | (simp; omega) | omega)
    obtain ⟨cw2_2, fw2_2⟩ := hw2.row (k := w1.heap.size) (by first | assumption | (simp; done) | (simp; omega) | omega)
    rw [hi]
    have hs2 : w1.heap.size < w2.heap.size := by have := hw2.size; simp at this; omega
    go_wp2_with fail
    go_region
    go_wp2
    refine bodyPost_ret (v := .tuple #[.string ⟨#[]⟩, .agg #[.int .i64 st, .int .i64 nx, .slice ao1 cs.length cap1, .int .i64 fi, .int .i64 hg, .int .i64 co]]) (by simp [results, Try.results33, go_sem, *]) rfl ⟨ao1, cap1, rfl, ?_, ?_⟩
    · refine OwnC.mono (OwnC.chg (S := fun k => k < w.heap.size + 2 ∨ w1.heap.size ≤ k) ho1.out (by repeat (first | with_reducible exact Chg.refl _ _ | with_reducible assumption | with_reducible refine Chg.alloc ?_ _ | with_reducible refine Chg.drew ?_ | ((with_reducible refine Chg.set ?_ ?_ _); (focus (first | (left; simp; done) | (left; simp; omega) | (right; simp; done) | (right; simp; omega) | (right; omega)))) | with_reducible refine Chg.trans ?_ (Ext.chg hw2 _))) (fun b h1 h2 h3 => by omega)) (by omega) (by simp; omega)
    · exact (by repeat (first | with_reducible exact Ext.refl _ | with_reducible assumption | with_reducible refine Ext.alloc ?_ _ | with_reducible refine Ext.drew ?_ | with_reducible refine Ext.drewN ?_ _ | ((with_reducible refine Ext.set ?_ ?_ _); (focus (first | (simp; done) | (simp; omega)))) | with_reducible refine Ext.trans ?_ (by assumption)))
set_option maxHeartbeats 4000000 in
set_option maxRecDepth 100000 in
theorem ReadReceiver_spec (st nx fi hg co m : Int) (ao : Option Addr) (n ca : Nat) (cs : List Ck) (w : World) (hx : ReadC w ao cs) (hn : cs.length = n) (hl : n ≤ 1048576) (hw : WfC cs) (hnx : -9223372036854775808 ≤ nx ∧ nx ≤ 9223372036854775807) :
    Calls Try.prog 32 #[.agg #[.int .i64 st, .int .i64 nx, .slice ao n ca, .int .i64 fi, .int .i64 hg, .int .i64 co], .int .i64 m] w (ReadRes (rdS st nx fi hg co m cs) (rdT st nx fi hg co m cs) (rdX st nx fi hg co m cs) fi hg co (rdC st nx fi hg co m cs) w) := by
  rcases Bool.eq_false_or_eq_true (recvIs st nx fi hg co cs) with hi | hi
  · -- yes
    by_cases s4 : st = 4
    · -- equal
      have s4e : (st == 4) = true := by simp [s4]
      have s4n : (st != 4) = false := by simp [s4]
      have s4H := hide s4
      clear s4
      have hS : rdS st nx fi hg co m cs = ⟨#[]⟩ := by simp [rdS, rdGo, hi, s4e]
      have hT : rdT st nx fi hg co m cs = 5 := by simp [rdT, hi, s4e]
      have hX : rdX st nx fi hg co m cs = nx := by simp [rdX, rdGo, hi, s4e]
      have hC : rdC st nx fi hg co m cs = cs := by simp [rdC, rdGo, hi, s4e]
      rw [hS, hT, hX, hC]
      clear hS hT hX hC
      have hn' := hide hn
      have hx' := hide hx
      have hw' := hide hw
      clear hn hx hw
      go_enter Try.func32, Try.ntmps32
      go_wp2_with fail
      refine (l7Copy_any st nx fi hg co ao n ca cs _ (hx'.out.ext (by repeat (first | with_reducible exact Ext.refl _ | with_reducible assumption | with_reducible refine Ext.alloc ?_ _ | with_reducible refine Ext.drew ?_ | ((with_reducible refine Ext.set ?_ ?_ _); (focus (first | (simp; done) | (simp; omega) | omega)))))) hn'.out hl).mono ?_
      rintro en w1 ⟨ao1, cap1, rfl, ho1, hw1⟩
      have xw1 : Ext w w1 := (by repeat (first | with_reducible exact Ext.refl _ | with_reducible assumption | with_reducible refine Ext.alloc ?_ _ | with_reducible refine Ext.drew ?_ | with_reducible refine Ext.drewN ?_ _ | ((with_reducible refine Ext.set ?_ ?_ _); (focus (first | (simp; done) | (simp; omega)))) | with_reducible refine Ext.trans ?_ (by assumption)))
      have kw1_0 := hw1.more (k := w.heap.size) (by first | assumption | (simp; done) | (simp; omega) | omega)
      obtain ⟨cw1_0, fw1_0⟩ := hw1.row (k := w.heap.size) (by first | assumption | (simp; done) | (simp; omega) | omega)
      have kw1_1 := hw1.more (k := w.heap.size + 1) (by first | assumption | (simp; done) | (simp; omega) | omega)
      obtain ⟨cw1_1, fw1_1⟩ := hw1.row (k := w.heap.size + 1) (by first | assumption | (simp; done) | (simp; omega) | omega)
      replace ho1 := hide (OwnC.mono (lo' := w.heap.size + 2) ho1 (by simp) (Nat.le_refl _))
      have hs1 : w.heap.size + 2 ≤ w1.heap.size := by have := hw1.size; simpa using this
      go_wp2_with fail
      refine (IsReceiver_spec st nx fi hg co ao n ca cs _ (hx'.out.ext (by repeat (first | with_reducible exact Ext.refl _ | with_reducible assumption | with_reducible refine Ext.alloc ?_ _ | with_reducible refine Ext.drew ?_ | ((with_reducible refine Ext.set ?_ ?_ _); (focus (first | (simp; done) | (simp; omega) | omega))) | with_reducible refine Ext.trans ?_ hw1))) hn'.out (by omega) hw'.out hnx).mono ?_
      rintro en w2 ⟨rfl, hw2⟩
      have xw2 : Ext w w2 := (by repeat (first | with_reducible exact Ext.refl _ | with_reducible assumption | with_reducible refine Ext.alloc ?_ _ | with_reducible refine Ext.drew ?_ | with_reducible refine Ext.drewN ?_ _ | ((with_reducible refine Ext.set ?_ ?_ _); (focus (first | (simp; done) | (simp; omega)))) | with_reducible refine Ext.trans ?_ (by assumption)))
      have kw2_0 := hw2.more (k := w.heap.size) (by first | assumption | (simp; done) | (simp; omega) | omega)
      obtain ⟨cw2_0, fw2_0⟩ := hw2.row (k := w.heap.size) (by first | assumption | (simp; done) | (simp; omega) | omega)
      have kw2_1 := hw2.more (k := w.heap.size + 1) (by first | assumption | (simp; done) | (simp; omega) | omega)
      obtain ⟨cw2_1, fw2_1⟩ := hw2.row (k := w.heap.size + 1) (by first | assumption | (simp; done) | (simp; omega) | omega)
      have kw2_2 := hw2.more (k := w1.heap.size) (by first | assumption | (simp; done) | (simp; omega) | omega)
      obtain ⟨cw2_2, fw2_2⟩ := hw2.row (k := w1.heap.size) (by first | assumption | (simp; done) | (simp; omega) | omega)
      rw [hi]
      have hs2 : w1.heap.size < w2.heap.size := by have := hw2.size; simp at this; omega
      go_wp2_with fail
      go_region
      go_wp2
      refine bodyPost_ret (v := .tuple #[.string ⟨#[]⟩, .agg #[.int .i64 5, .int .i64 nx, .slice ao1 cs.length cap1, .int .i64 fi, .int .i64 hg, .int .i64 co]]) (by simp [results, Try.results32, go_sem, *]) rfl ⟨ao1, cap1, rfl, ?_, ?_⟩
      · refine OwnC.mono (OwnC.chg (S := fun k => k < w.heap.size + 2 ∨ w1.heap.size ≤ k) ho1.out (by repeat (first | with_reducible exact Chg.refl _ _ | with_reducible assumption | with_reducible refine Chg.alloc ?_ _ | with_reducible refine Chg.drew ?_ | ((with_reducible refine Chg.set ?_ ?_ _); (focus (first | (left; simp; done) | (left; simp; omega) | (right; simp; done) | (right; simp; omega) | (right; omega)))) | with_reducible refine Chg.trans ?_ (Ext.chg hw2 _))) (fun b h1 h2 h3 => by omega)) (by omega) (by simp; omega)
      · exact (by repeat (first | with_reducible exact Ext.refl _ | with_reducible assumption | with_reducible refine Ext.alloc ?_ _ | with_reducible refine Ext.drew ?_ | with_reducible refine Ext.drewN ?_ _ | ((with_reducible refine Ext.set ?_ ?_ _); (focus (first | (simp; done) | (simp; omega)))) | with_reducible refine Ext.trans ?_ (by assumption)))
    · -- other
      have s4e : (st == 4) = false := by simp [s4]
      have s4n : (st != 4) = true := by simp [s4]
      have s4H := hide s4
      clear s4
      by_cases s2 : st = 2
      · -- equal
        have s2e : (st == 2) = true := by simp [s2]
        have s2n : (st != 2) = false := by simp [s2]
        have s2H := hide s2
        clear s2
        rcases Bool.eq_false_or_eq_true ((takeX nx m cs == fi)) with hx2 | hx2
        · -- yes
          have hS : rdS st nx fi hg co m cs = (takeS nx m cs) := by simp [rdS, rdGo, hi, s4e, s2e, hx2]
          have hT : rdT st nx fi hg co m cs = 3 := by simp [rdT, hi, s4e, s2e, hx2]
          have hX : rdX st nx fi hg co m cs = (takeX nx m cs) := by simp [rdX, rdGo, hi, s4e, s2e, hx2]
          have hC : rdC st nx fi hg co m cs = (takeC nx m cs) := by simp [rdC, rdGo, hi, s4e, s2e, hx2]
          rw [hS, hT, hX, hC]
          clear hS hT hX hC
          have hn' := hide hn
          have hx' := hide hx
          have hw' := hide hw
          clear hn hx hw
          go_enter Try.func32, Try.ntmps32
          go_wp2_with fail
          refine (l7Copy_any st nx fi hg co ao n ca cs _ (hx'.out.ext (by repeat (first | with_reducible exact Ext.refl _ | with_reducible assumption | with_reducible refine Ext.alloc ?_ _ | with_reducible refine Ext.drew ?_ | ((with_reducible refine Ext.set ?_ ?_ _); (focus (first | (simp; done) | (simp; omega) | omega)))))) hn'.out hl).mono ?_
          rintro en w1 ⟨ao1, cap1, rfl, ho1, hw1⟩
          have xw1 : Ext w w1 := (by repeat (first | with_reducible exact Ext.refl _ | with_reducible assumption | with_reducible refine Ext.alloc ?_ _ | with_reducible refine Ext.drew ?_ | with_reducible refine Ext.drewN ?_ _ | ((with_reducible refine Ext.set ?_ ?_ _); (focus (first | (simp; done) | (simp; omega)))) | with_reducible refine Ext.trans ?_ (by assumption)))
          have kw1_0 := hw1.more (k := w.heap.size) (by first | assumption | (simp; done) | (simp; omega) | omega)
          obtain ⟨cw1_0, fw1_0⟩ := hw1.row (k := w.heap.size) (by first | assumption | (simp; done) | (simp; omega) | omega)
          have kw1_1 := hw1.more (k := w.heap.size + 1) (by first | assumption | (simp; done) | (simp; omega) | omega)
          obtain ⟨cw1_1, fw1_1⟩ := hw1.row (k := w.heap.size + 1) (by first | assumption | (simp; done) | (simp; omega) | omega)
          replace ho1 := hide (OwnC.mono (lo' := w.heap.size + 2) ho1 (by simp) (Nat.le_refl _))
          have hs1 : w.heap.size + 2 ≤ w1.heap.size := by have := hw1.size; simpa using this
          go_wp2_with fail
          refine (IsReceiver_spec st nx fi hg co ao n ca cs _ (hx'.out.ext (by repeat (first | with_reducible exact Ext.refl _ | with_reducible assumption | with_reducible refine Ext.alloc ?_ _ | with_reducible refine Ext.drew ?_ | ((with_reducible refine Ext.set ?_ ?_ _); (focus (first | (simp; done) | (simp; omega) | omega))) | with_reducible refine Ext.trans ?_ hw1))) hn'.out (by omega) hw'.out hnx).mono ?_
          rintro en w2 ⟨rfl, hw2⟩
          have xw2 : Ext w w2 := (by repeat (first | with_reducible exact Ext.refl _ | with_reducible assumption | with_reducible refine Ext.alloc ?_ _ | with_reducible refine Ext.drew ?_ | with_reducible refine Ext.drewN ?_ _ | ((with_reducible refine Ext.set ?_ ?_ _); (focus (first | (simp; done) | (simp; omega)))) | with_reducible refine Ext.trans ?_ (by assumption)))
          have kw2_0 := hw2.more (k := w.heap.size) (by first | assumption | (simp; done) | (simp; omega) | omega)
          obtain ⟨cw2_0, fw2_0⟩ := hw2.row (k := w.heap.size) (by first | assumption | (simp; done) | (simp; omega) | omega)
          have kw2_1 := hw2.more (k := w.heap.size + 1) (by first | assumption | (simp; done) | (simp; omega) | omega)
          obtain ⟨cw2_1, fw2_1⟩ := hw2.row (k := w.heap.size + 1) (by first | assumption | (simp; done) | (simp; omega) | omega)
          have kw2_2 := hw2.more (k := w1.heap.size) (by first | assumption | (simp; done) | (simp; omega) | omega)
          obtain ⟨cw2_2, fw2_2⟩ := hw2.row (k := w1.heap.size) (by first | assumption | (simp; done) | (simp; omega) | omega)
          rw [hi]
          have hs2 : w1.heap.size < w2.heap.size := by have := hw2.size; simp at this; omega
          go_wp2_with fail
          refine (TakeBytes_spec nx m ao n ca cs _ (hx'.out.ext (by repeat (first | with_reducible exact Ext.refl _ | with_reducible assumption | with_reducible refine Ext.alloc ?_ _ | with_reducible refine Ext.drew ?_ | ((with_reducible refine Ext.set ?_ ?_ _); (focus (first | (simp; done) | (simp; omega) | omega))) | with_reducible refine Ext.trans ?_ hw2 | with_reducible refine Ext.trans ?_ hw1))) hn'.out hl hw'.out).mono ?_
          rintro en w3 ⟨ao3, cap3, rfl, ho3, hw3⟩
          have xw3 : Ext w w3 := (by repeat (first | with_reducible exact Ext.refl _ | with_reducible assumption | with_reducible refine Ext.alloc ?_ _ | with_reducible refine Ext.drew ?_ | with_reducible refine Ext.drewN ?_ _ | ((with_reducible refine Ext.set ?_ ?_ _); (focus (first | (simp; done) | (simp; omega)))) | with_reducible refine Ext.trans ?_ (by assumption)))
          have kw3_0 := hw3.more (k := w.heap.size) (by first | assumption | (simp; done) | (simp; omega) | omega)
          obtain ⟨cw3_0, fw3_0⟩ := hw3.row (k := w.heap.size) (by first | assumption | (simp; done) | (simp; omega) | omega)
          have kw3_1 := hw3.more (k := w.heap.size + 1) (by first | assumption | (simp; done) | (simp; omega) | omega)
          obtain ⟨cw3_1, fw3_1⟩ := hw3.row (k := w.heap.size + 1) (by first | assumption | (simp; done) | (simp; omega) | omega)
          have kw3_2 := hw3.more (k := w1.heap.size) (by first | assumption | (simp; done) | (simp; omega) | omega)
          obtain ⟨cw3_2, fw3_2⟩ := hw3.row (k := w1.heap.size) (by first | assumption | (simp; done) | (simp; omega) | omega)
          replace ho3 := hide ho3
          have hs3 : w2.heap.size ≤ w3.heap.size := by have := hw3.size; simpa using this
          generalize takeS nx m cs = ts at *
          generalize takeC nx m cs = tc at *
          generalize takeX nx m cs = tx at *
          go_wp2_with fail
          go_region
          go_wp2
          refine bodyPost_ret (v := .tuple #[.string ts, .agg #[.int .i64 3, .int .i64 tx, .slice ao3 tc.length cap3, .int .i64 fi, .int .i64 hg, .int .i64 co]]) (by simp [results, Try.results32, go_sem, *]) rfl ⟨ao3, cap3, rfl, ?_, ?_⟩
          · refine OwnC.mono (OwnC.chg (S := fun k => k < w2.heap.size ∨ w3.heap.size ≤ k) ho3.out (by repeat (first | with_reducible exact Chg.refl _ _ | with_reducible assumption | with_reducible refine Chg.alloc ?_ _ | with_reducible refine Chg.drew ?_ | ((with_reducible refine Chg.set ?_ ?_ _); (focus (first | (left; simp; done) | (left; simp; omega) | (right; simp; done) | (right; simp; omega) | (right; omega)))))) (fun b h1 h2 h3 => by (try simp at h1); omega)) (by first | omega | (simp; omega)) (by first | omega | (simp; done) | (simp; omega))
          · exact (by repeat (first | with_reducible exact Ext.refl _ | with_reducible assumption | with_reducible refine Ext.alloc ?_ _ | with_reducible refine Ext.drew ?_ | with_reducible refine Ext.drewN ?_ _ | ((with_reducible refine Ext.set ?_ ?_ _); (focus (first | (simp; done) | (simp; omega)))) | with_reducible refine Ext.trans ?_ (by assumption)))
        · -- no
          have hS : rdS st nx fi hg co m cs = (takeS nx m cs) := by simp [rdS, rdGo, hi, s4e, s2e, hx2]
          have hT : rdT st nx fi hg co m cs = st := by simp [rdT, hi, s4e, s2e, hx2]
          have hX : rdX st nx fi hg co m cs = (takeX nx m cs) := by simp [rdX, rdGo, hi, s4e, s2e, hx2]
          have hC : rdC st nx fi hg co m cs = (takeC nx m cs) := by simp [rdC, rdGo, hi, s4e, s2e, hx2]
          rw [hS, hT, hX, hC]
          clear hS hT hX hC
          have hn' := hide hn
          have hx' := hide hx
          have hw' := hide hw
          clear hn hx hw
          go_enter Try.func32, Try.ntmps32
          go_wp2_with fail
          refine (l7Copy_any st nx fi hg co ao n ca cs _ (hx'.out.ext (by repeat (first | with_reducible exact Ext.refl _ | with_reducible assumption | with_reducible refine Ext.alloc ?_ _ | with_reducible refine Ext.drew ?_ | ((with_reducible refine Ext.set ?_ ?_ _); (focus (first | (simp; done) | (simp; omega) | omega)))))) hn'.out hl).mono ?_
          rintro en w1 ⟨ao1, cap1, rfl, ho1, hw1⟩
          have xw1 : Ext w w1 := (by repeat (first | with_reducible exact Ext.refl _ | with_reducible assumption | with_reducible refine Ext.alloc ?_ _ | with_reducible refine Ext.drew ?_ | with_reducible refine Ext.drewN ?_ _ | ((with_reducible refine Ext.set ?_ ?_ _); (focus (first | (simp; done) | (simp; omega)))) | with_reducible refine Ext.trans ?_ (by assumption)))
          have kw1_0 := hw1.more (k := w.heap.size) (by first | assumption | (simp; done) | (simp; omega) | omega)
          obtain ⟨cw1_0, fw1_0⟩ := hw1.row (k := w.heap.size) (by first | assumption | (simp; done) | (simp; omega) | omega)
          have kw1_1 := hw1.more (k := w.heap.size + 1) (by first | assumption | (simp; done) | (simp; omega) | omega)
          obtain ⟨cw1_1, fw1_1⟩ := hw1.row (k := w.heap.size + 1) (by first | assumption | (simp; done) | (simp; omega) | omega)
          replace ho1 := hide (OwnC.mono (lo' := w.heap.size + 2) ho1 (by simp) (Nat.le_refl _))
          have hs1 : w.heap.size + 2 ≤ w1.heap.size := by have := hw1.size; simpa using this
          go_wp2_with fail
          refine (IsReceiver_spec st nx fi hg co ao n ca cs _ (hx'.out.ext (by repeat (first | with_reducible exact Ext.refl _ | with_reducible assumption | with_reducible refine Ext.alloc ?_ _ | with_reducible refine Ext.drew ?_ | ((with_reducible refine Ext.set ?_ ?_ _); (focus (first | (simp; done) | (simp; omega) | omega))) | with_reducible refine Ext.trans ?_ hw1))) hn'.out (by omega) hw'.out hnx).mono ?_
          rintro en w2 ⟨rfl, hw2⟩
          have xw2 : Ext w w2 := (by repeat (first | with_reducible exact Ext.refl _ | with_reducible assumption | with_reducible refine Ext.alloc ?_ _ | with_reducible refine Ext.drew ?_ | with_reducible refine Ext.drewN ?_ _ | ((with_reducible refine Ext.set ?_ ?_ _); (focus (first | (simp; done) | (simp; omega)))) | with_reducible refine Ext.trans ?_ (by assumption)))
          have kw2_0 := hw2.more (k := w.heap.size) (by first | assumption | (simp; done) | (simp; omega) | omega)
          obtain ⟨cw2_0, fw2_0⟩ := hw2.row (k := w.heap.size) (by first | assumption | (simp; done) | (simp; omega) | omega)
          have kw2_1 := hw2.more (k := w.heap.size + 1) (by first | assumption | (simp; done) | (simp; omega) | omega)
          obtain ⟨cw2_1, fw2_1⟩ := hw2.row (k := w.heap.size + 1) (by first | assumption | (simp; done) | (simp; omega) | omega)
          have kw2_2 := hw2.more (k := w1.heap.size) (by first | assumption | (simp; done) | (simp; omega) | omega)
          obtain ⟨cw2_2, fw2_2⟩ := hw2.row (k := w1.heap.size) (by first | assumption | (simp; done) | (simp; omega) | omega)
          rw [hi]
          have hs2 : w1.heap.size < w2.heap.size := by have := hw2.size; simp at this; omega
          go_wp2_with fail
          refine (TakeBytes_spec nx m ao n ca cs _ (hx'.out.ext (by repeat (first | with_reducible exact Ext.refl _ | with_reducible assumption | with_reducible refine Ext.alloc ?_ _ | with_reducible refine Ext.drew ?_ | ((with_reducible refine Ext.set ?_ ?_ _); (focus (first | (simp; done) | (simp; omega) | omega))) | with_reducible refine Ext.trans ?_ hw2 | with_reducible refine Ext.trans ?_ hw1))) hn'.out hl hw'.out).mono ?_
          rintro en w3 ⟨ao3, cap3, rfl, ho3, hw3⟩
          have xw3 : Ext w w3 := (by repeat (first | with_reducible exact Ext.refl _ | with_reducible assumption | with_reducible refine Ext.alloc ?_ _ | with_reducible refine Ext.drew ?_ | with_reducible refine Ext.drewN ?_ _ | ((with_reducible refine Ext.set ?_ ?_ _); (focus (first | (simp; done) | (simp; omega)))) | with_reducible refine Ext.trans ?_ (by assumption)))
          have kw3_0 := hw3.more (k := w.heap.size) (by first | assumption | (simp; done) | (simp; omega) | omega)
          obtain ⟨cw3_0, fw3_0⟩ := hw3.row (k := w.heap.size) (by first | assumption | (simp; done) | (simp; omega) | omega)
          have kw3_1 := hw3.more (k := w.heap.size + 1) (by first | assumption | (simp; done) | (simp; omega) | omega)
          obtain ⟨cw3_1, fw3_1⟩ := hw3.row (k := w.heap.size + 1) (by first | assumption | (simp; done) | (simp; omega) | omega)
          have kw3_2 := hw3.more (k := w1.heap.size) (by first | assumption | (simp; done) | (simp; omega) | omega)
          obtain ⟨cw3_2, fw3_2⟩ := hw3.row (k := w1.heap.size) (by first | assumption | (simp; done) | (simp; omega) | omega)
          replace ho3 := hide ho3
          have hs3 : w2.heap.size ≤ w3.heap.size := by have := hw3.size; simpa using this
          generalize takeS nx m cs = ts at *
          generalize takeC nx m cs = tc at *
          generalize takeX nx m cs = tx at *
          go_wp2_with fail
          go_region
          go_wp2
          refine bodyPost_ret (v := .tuple #[.string ts, .agg #[.int .i64 st, .int .i64 tx, .slice ao3 tc.length cap3, .int .i64 fi, .int .i64 hg, .int .i64 co]]) (by simp [results, Try.results32, go_sem, *]) rfl ⟨ao3, cap3, rfl, ?_, ?_⟩
          · refine OwnC.mono (OwnC.chg (S := fun k => k < w2.heap.size ∨ w3.heap.size ≤ k) ho3.out (by repeat (first | with_reducible exact Chg.refl _ _ | with_reducible assumption | with_reducible refine Chg.alloc ?_ _ | with_reducible refine Chg.drew ?_ | ((with_reducible refine Chg.set ?_ ?_ _); (focus (first | (left; simp; done) | (left; simp; omega) | (right; simp; done) | (right; simp; omega) | (right; omega)))))) (fun b h1 h2 h3 => by (try simp at h1); omega)) (by first | omega | (simp; omega)) (by first | omega | (simp; done) | (simp; omega))
          · exact (by repeat (first | with_reducible exact Ext.refl _ | with_reducible assumption | with_reducible refine Ext.alloc ?_ _ | with_reducible refine Ext.drew ?_ | with_reducible refine Ext.drewN ?_ _ | ((with_reducible refine Ext.set ?_ ?_ _); (focus (first | (simp; done) | (simp; omega)))) | with_reducible refine Ext.trans ?_ (by assumption)))
      · -- other
        have s2e : (st == 2) = false := by simp [s2]
        have s2n : (st != 2) = true := by simp [s2]
        have s2H := hide s2
        clear s2
        have hS : rdS st nx fi hg co m cs = (takeS nx m cs) := by simp [rdS, rdGo, hi, s4e, s2e]
        have hT : rdT st nx fi hg co m cs = st := by simp [rdT, hi, s4e, s2e]
        have hX : rdX st nx fi hg co m cs = (takeX nx m cs) := by simp [rdX, rdGo, hi, s4e, s2e]
        have hC : rdC st nx fi hg co m cs = (takeC nx m cs) := by simp [rdC, rdGo, hi, s4e, s2e]
        rw [hS, hT, hX, hC]
        clear hS hT hX hC
        have hn' := hide hn
        have hx' := hide hx
        have hw' := hide hw
        clear hn hx hw
        go_enter Try.func32, Try.ntmps32
        go_wp2_with fail
        refine (l7Copy_any st nx fi hg co ao n ca cs _ (hx'.out.ext (by repeat (first | with_reducible exact Ext.refl _ | with_reducible assumption | with_reducible refine Ext.alloc ?_ _ | with_reducible refine Ext.drew ?_ | ((with_reducible refine Ext.set ?_ ?_ _); (focus (first | (simp; done) | (simp; omega) | omega)))))) hn'.out hl).mono ?_
        rintro en w1 ⟨ao1, cap1, rfl, ho1, hw1⟩
        have xw1 : Ext w w1 := (by repeat (first | with_reducible exact Ext.refl _ | with_reducible assumption | with_reducible refine Ext.alloc ?_ _ | with_reducible refine Ext.drew ?_ | with_reducible refine Ext.drewN ?_ _ | ((with_reducible refine Ext.set ?_ ?_ _); (focus (first | (simp; done) | (simp; omega)))) | with_reducible refine Ext.trans ?_ (by assumption)))
        have kw1_0 := hw1.more (k := w.heap.size) (by first | assumption | (simp; done) | (simp; omega) | omega)
        obtain ⟨cw1_0, fw1_0⟩ := hw1.row (k := w.heap.size) (by first | assumption | (simp; done) | (simp; omega) | omega)
        have kw1_1 := hw1.more (k := w.heap.size + 1) (by first | assumption | (simp; done) | (simp; omega) | omega)
        obtain ⟨cw1_1, fw1_1⟩ := hw1.row (k := w.heap.size + 1) (by first | assumption | (simp; done) | (simp; omega) | omega)
        replace ho1 := hide (OwnC.mono (lo' := w.heap.size + 2) ho1 (by simp) (Nat.le_refl _))
        have hs1 : w.heap.size + 2 ≤ w1.heap.size := by have := hw1.size; simpa using this
        go_wp2_with fail
        refine (IsReceiver_spec st nx fi hg co ao n ca cs _ (hx'.out.ext (by repeat (first | with_reducible exact Ext.refl _ | with_reducible assumption | with_reducible refine Ext.alloc ?_ _ | with_reducible refine Ext.drew ?_ | ((with_reducible refine Ext.set ?_ ?_ _); (focus (first | (simp; done) | (simp; omega) | omega))) | with_reducible refine Ext.trans ?_ hw1))) hn'.out (by omega) hw'.out hnx).mono ?_
        rintro en w2 ⟨rfl, hw2⟩
        have xw2 : Ext w w2 := (by repeat (first | with_reducible exact Ext.refl _ | with_reducible assumption | with_reducible refine Ext.alloc ?_ _ | with_reducible refine Ext.drew ?_ | with_reducible refine Ext.drewN ?_ _ | ((with_reducible refine Ext.set ?_ ?_ _); (focus (first | (simp; done) | (simp; omega)))) | with_reducible refine Ext.trans ?_ (by assumption)))
        have kw2_0 := hw2.more (k := w.heap.size) (by first | assumption | (simp; done) | (simp; omega) | omega)
        obtain ⟨cw2_0, fw2_0⟩ := hw2.row (k := w.heap.size) (by first | assumption | (simp; done) | (simp; omega) | omega)
        have kw2_1 := hw2.more (k := w.heap.size + 1) (by first | assumption | (simp; done) | (simp; omega) | omega)
        obtain ⟨cw2_1, fw2_1⟩ := hw2.row (k := w.heap.size + 1) (by first | assumption | (simp; done) | (simp; omega) | omega)
        have kw2_2 := hw2.more (k := w1.heap.size) (by first | assumption | (simp; done) | (simp; omega) | omega)
        obtain ⟨cw2_2, fw2_2⟩ := hw2.row (k := w1.heap.size) (by first | assumption | (simp; done) | (simp; omega) | omega)
        rw [hi]
        have hs2 : w1.heap.size < w2.heap.size := by have := hw2.size; simp at this; omega
        go_wp2_with fail
        refine (TakeBytes_spec nx m ao n ca cs _ (hx'.out.ext (by repeat (first | with_reducible exact Ext.refl _ | with_reducible assumption | with_reducible refine Ext.alloc ?_ _ | with_reducible refine Ext.drew ?_ | ((with_reducible refine Ext.set ?_ ?_ _); (focus (first | (simp; done) | (simp; omega) | omega))) | with_reducible refine Ext.trans ?_ hw2 | with_reducible refine Ext.trans ?_ hw1))) hn'.out hl hw'.out).mono ?_
        rintro en w3 ⟨ao3, cap3, rfl, ho3, hw3⟩
        have xw3 : Ext w w3 := (by repeat (first | with_reducible exact Ext.refl _ | with_reducible assumption | with_reducible refine Ext.alloc ?_ _ | with_reducible refine Ext.drew ?_ | with_reducible refine Ext.drewN ?_ _ | ((with_reducible refine Ext.set ?_ ?_ _); (focus (first | (simp; done) | (simp; omega)))) | with_reducible refine Ext.trans ?_ (by assumption)))
        have kw3_0 := hw3.more (k := w.heap.size) (by first | assumption | (simp; done) | (simp; omega) | omega)
        obtain ⟨cw3_0, fw3_0⟩ := hw3.row (k := w.heap.size) (by first | assumption | (simp; done) | (simp; omega) | omega)
        have kw3_1 := hw3.more (k := w.heap.size + 1) (by first | assumption | (simp; done) | (simp; omega) | omega)
        obtain ⟨cw3_1, fw3_1⟩ := hw3.row (k := w.heap.size + 1) (by first | assumption | (simp; done) | (simp; omega) | omega)
        have kw3_2 := hw3.more (k := w1.heap.size) (by first | assumption | (simp; done) | (simp; omega) | omega)
        obtain ⟨cw3_2, fw3_2⟩ := hw3.row (k := w1.heap.size) (by first | assumption | (simp; done) | (simp; omega) | omega)
        replace ho3 := hide ho3
        have hs3 : w2.heap.size ≤ w3.heap.size := by have := hw3.size; simpa using this
        generalize takeS nx m cs = ts at *
        generalize takeC nx m cs = tc at *
        generalize takeX nx m cs = tx at *
        go_wp2_with fail
        go_region
        go_wp2
        refine bodyPost_ret (v := .tuple #[.string ts, .agg #[.int .i64 st, .int .i64 tx, .slice ao3 tc.length cap3, .int .i64 fi, .int .i64 hg, .int .i64 co]]) (by simp [results, Try.results32, go_sem, *]) rfl ⟨ao3, cap3, rfl, ?_, ?_⟩
        · refine OwnC.mono (OwnC.chg (S := fun k => k < w2.heap.size ∨ w3.heap.size ≤ k) ho3.out (by repeat (first | with_reducible exact Chg.refl _ _ | with_reducible assumption | with_reducible refine Chg.alloc ?_ _ | with_reducible refine Chg.drew ?_ | ((with_reducible refine Chg.set ?_ ?_ _); (focus (first | (left; simp; done) | (left; simp; omega) | (right; simp; done) | (right; simp; omega) | (right; omega)))))) (fun b h1 h2 h3 => by (try simp at h1); omega)) (by first | omega | (simp; omega)) (by first | omega | (simp; done) | (simp; omega))
        · exact (by repeat (first | with_reducible exact Ext.refl _ | with_reducible assumption | with_reducible refine Ext.alloc ?_ _ | with_reducible refine Ext.drew ?_ | with_reducible refine Ext.drewN ?_ _ | ((with_reducible refine Ext.set ?_ ?_ _); (focus (first | (simp; done) | (simp; omega)))) | with_reducible refine Ext.trans ?_ (by assumption)))
  · -- no
    have hS : rdS st nx fi hg co m cs = ⟨#[]⟩ := by simp [rdS, rdGo, hi]
    have hT : rdT st nx fi hg co m cs = st := by simp [rdT, hi]
    have hX : rdX st nx fi hg co m cs = nx := by simp [rdX, rdGo, hi]
    have hC : rdC st nx fi hg co m cs = cs := by simp [rdC, rdGo, hi]
    rw [hS, hT, hX, hC]
    clear hS hT hX hC
    have hn' := hide hn
    have hx' := hide hx
    have hw' := hide hw
    clear hn hx hw
    go_enter Try.func32, Try.ntmps32
    go_wp2_with fail
    refine (l7Copy_any st nx fi hg co ao n ca cs _ (hx'.out.ext (by repeat (first | with_reducible exact Ext.refl _ | with_reducible assumption | with_reducible refine Ext.alloc ?_ _ | with_reducible refine Ext.drew ?_ | ((with_reducible refine Ext.set ?_ ?_ _); (focus (first | (simp; done) | (simp; omega) | omega)))))) hn'.out hl).mono ?_
    rintro en w1 ⟨ao1, cap1, rfl, ho1, hw1⟩
    have xw1 : Ext w w1 := (by repeat (first | with_reducible exact Ext.refl _ | with_reducible assumption | with_reducible refine Ext.alloc ?_ _ | with_reducible refine Ext.drew ?_ | with_reducible refine Ext.drewN ?_ _ | ((with_reducible refine Ext.set ?_ ?_ _); (focus (first | (simp; done) | (simp; omega)))) | with_reducible refine Ext.trans ?_ (by assumption)))
    have kw1_0 := hw1.more (k := w.heap.size) (by first | assumption | (simp; done) | (simp; omega) | omega)
    obtain ⟨cw1_0, fw1_0⟩ := hw1.row (k := w.heap.size) (by first | assumption | (simp; done) | (simp; omega) | omega)
    have kw1_1 := hw1.more (k := w.heap.size + 1) (by first | assumption | (simp; done) | (simp; omega) | omega)
    obtain ⟨cw1_1, fw1_1⟩ := hw1.row (k := w.heap.size + 1) (by first | assumption | (simp; done) | (simp; omega) | omega)
    replace ho1 := hide (OwnC.mono (lo' := w.heap.size + 2) ho1 (by simp) (Nat.le_refl _))
    have hs1 : w.heap.size + 2 ≤ w1.heap.size := by have := hw1.size; simpa using this
    go_wp2_with fail
    refine (IsReceiver_spec st nx fi hg co ao n ca cs _ (hx'.out.ext (by repeat (first | with_reducible exact Ext.refl _ | with_reducible assumption | with_reducible refine Ext.alloc ?_ _ | with_reducible refine Ext.drew ?_ | ((with_reducible refine Ext.set ?_ ?_ _); (focus (first | (simp; done) | (simp; omega) | omega))) | with_reducible refine Ext.trans ?_ hw1))) hn'.out (by omega) hw'.out hnx).mono ?_
    rintro en w2 ⟨rfl, hw2⟩
    have xw2 : Ext w w2 := (by repeat (first | with_reducible exact Ext.refl _ | with_reducible assumption | with_reducible refine Ext.alloc ?_ _ | with_reducible refine Ext.drew ?_ | with_reducible refine Ext.drewN ?_ _ | ((with_reducible refine Ext.set ?_ ?_ _); (focus (first | (simp; done) | (simp; omega)))) | with_reducible refine Ext.trans ?_ (by assumption)))
    have kw2_0 := hw2.more (k := w.heap.size) (by first | assumption | (simp; done) | (simp; omega) | omega)
    obtain ⟨cw2_0, fw2_0⟩ := hw2.row (k := w.heap.size) (by first | assumption | (simp; done) | (simp; omega) | omega)
    have kw2_1 := hw2.more (k := w.heap.size + 1) (by first | assumption | (simp; done) | (simp; omega) | omega)
    obtain ⟨cw2_1, fw2_1⟩ := hw2.row (k := w.heap.size + 1) (by first | assumption | (simp; done) | (simp; omega) | omega)
    have kw2_2 := hw2.more (k := w1.heap.size) (by first | assumption | (simp; done) | (simp; omega) | omega)
    obtain ⟨cw2_2, fw2_2⟩ := hw2.row (k := w1.heap.size) (by first | assumption | (simp; done) | (simp; omega) | omega)
    rw [hi]
    have hs2 : w1.heap.size < w2.heap.size := by have := hw2.size; simp at this; omega
    go_wp2_with fail
    go_region
    go_wp2
    refine bodyPost_ret (v := .tuple #[.string ⟨#[]⟩, .agg #[.int .i64 st, .int .i64 nx, .slice ao1 cs.length cap1, .int .i64 fi, .int .i64 hg, .int .i64 co]]) (by simp [results, Try.results32, go_sem, *]) rfl ⟨ao1, cap1, rfl, ?_, ?_⟩
    · refine OwnC.mono (OwnC.chg (S := fun k => k < w.heap.size + 2 ∨ w1.heap.size ≤ k) ho1.out (by repeat (first | with_reducible exact Chg.refl _ _ | with_reducible assumption | with_reducible refine Chg.alloc ?_ _ | with_reducible refine Chg.drew ?_ | ((with_reducible refine Chg.set ?_ ?_ _); (focus (first | (left; simp; done) | (left; simp; omega) | (right; simp; done) | (right; simp; omega) | (right; omega)))) | with_reducible refine Chg.trans ?_ (Ext.chg hw2 _))) (fun b h1 h2 h3 => by omega)) (by omega) (by simp; omega)
    · exact (by repeat (first | with_reducible exact Ext.refl _ | with_reducible assumption | with_reducible refine Ext.alloc ?_ _ | with_reducible refine Ext.drew ?_ | with_reducible refine Ext.drewN ?_ _ | ((with_reducible refine Ext.set ?_ ?_ _); (focus (first | (simp; done) | (simp; omega)))) | with_reducible refine Ext.trans ?_ (by assumption)))
end Go.Proofs.Ytifhbchlmlaanaa

/-
  Contracts of contradicts, takes, l7Final and ReceiveReset. Conditions: the chunks can be read.
-/
import Derived.Test.YtifhbchlmlaanaaIsRecvS
import Derived.Test.YtifhbchlmlaanaaCopyRecv
import Derived.Deep.DeepCutAuto
namespace Go.Proofs.Ytifhbchlmlaanaa
open Go.ChangeShapes Go.WideShapes Go.ChangeAt Go.RowKit
set_option linter.unusedSimpArgs false
/-- Does an end, which is the final one if fin, contradict what is known? -/
def contra (fi hg e : Int) (fin : Bool) : Bool := (fi != -1 && decide (fi < e)) || (fin && ((fi != -1 && e != fi) || decide (e < hg)))
def finE (c : Bool) : Int := if c = true then 6 else 0
/-- A receiver and a second value: the receiver's chunks in memory of the call's own. -/
def RecvRes (st nx fi hg co : Int) (cs : List Ck) (v : Value) (w : World) (en : Ending) (w' : World) : Prop :=
  ∃ (ao : Option Addr) (cap : Nat), en = .returned (.tuple #[.agg #[.int .i64 st, .int .i64 nx, .slice ao cs.length cap, .int .i64 fi, .int .i64 hg, .int .i64 co], v]) ∧ OwnC w.heap.size w'.heap.size w' ao cs ∧ Ext w w'
theorem recvIs_st {st nx fi hg co : Int} {cs : List Ck} (h : recvIs st nx fi hg co cs = true) : 0 ≤ st ∧ st ≤ 5 := by
  simp only [recvIs, Bool.and_eq_true] at h
  have := h.2
  by_cases h0 : st = 0
  · omega
  by_cases h1 : st = 1
  · omega
  by_cases h2 : st = 2
  · omega
  by_cases h3 : st = 3
  · omega
  by_cases h4 : st = 4 ∨ st = 5
  · omega
  rw [if_neg h0, if_neg h1, if_neg h2, if_neg h3, if_neg h4] at this
  cases this
set_option maxHeartbeats 1000000 in
theorem contradicts_any (st nx fi hg co e : Int) (fin : Bool) (ao : Option Addr) (n ca : Nat) (w : World) :
    Calls Try.prog 77 #[.agg #[.int .i64 st, .int .i64 nx, .slice ao n ca, .int .i64 fi, .int .i64 hg, .int .i64 co], .int .i64 e, .bool fin] w fun en w' => en = .returned (.bool (contra fi hg e fin)) ∧ Ext w w' := by
  by_cases hf : fi = -1
  · -- equal
    have hfe : (fi == -1) = true := by simp [hf]
    have hfn : (fi != -1) = false := by simp [hf]
    have hfH := hide hf
    clear hf
    rcases Bool.eq_false_or_eq_true (fin) with hn | hn
    · -- yes
      rcases Bool.eq_false_or_eq_true (decide (e < hg)) with h3 | h3
      · -- yes
        go_enter Try.func77, Try.ntmps77
        go_wp2
        go_ret
        exact ⟨by simp [finE, contra, *], (by repeat (first | with_reducible exact Ext.refl _ | with_reducible assumption | with_reducible refine Ext.alloc ?_ _ | with_reducible refine Ext.drew ?_ | with_reducible refine Ext.drewN ?_ _ | ((with_reducible refine Ext.set ?_ ?_ _); (focus (first | (simp; done) | (simp; omega)))) | with_reducible refine Ext.trans ?_ (by assumption)))⟩
      · -- no
        go_enter Try.func77, Try.ntmps77
        go_wp2
        go_ret
        exact ⟨by simp [finE, contra, *], (by repeat (first | with_reducible exact Ext.refl _ | with_reducible assumption | with_reducible refine Ext.alloc ?_ _ | with_reducible refine Ext.drew ?_ | with_reducible refine Ext.drewN ?_ _ | ((with_reducible refine Ext.set ?_ ?_ _); (focus (first | (simp; done) | (simp; omega)))) | with_reducible refine Ext.trans ?_ (by assumption)))⟩
    · -- no
      go_enter Try.func77, Try.ntmps77
      go_wp2
      go_ret
      exact ⟨by simp [finE, contra, *], (by repeat (first | with_reducible exact Ext.refl _ | with_reducible assumption | with_reducible refine Ext.alloc ?_ _ | with_reducible refine Ext.drew ?_ | with_reducible refine Ext.drewN ?_ _ | ((with_reducible refine Ext.set ?_ ?_ _); (focus (first | (simp; done) | (simp; omega)))) | with_reducible refine Ext.trans ?_ (by assumption)))⟩
  · -- other
    have hfe : (fi == -1) = false := by simp [hf]
    have hfn : (fi != -1) = true := by simp [hf]
    have hfH := hide hf
    clear hf
    rcases Bool.eq_false_or_eq_true (decide (fi < e)) with h1 | h1
    · -- yes
      go_enter Try.func77, Try.ntmps77
      go_wp2
      go_ret
      exact ⟨by simp [finE, contra, *], (by repeat (first | with_reducible exact Ext.refl _ | with_reducible assumption | with_reducible refine Ext.alloc ?_ _ | with_reducible refine Ext.drew ?_ | with_reducible refine Ext.drewN ?_ _ | ((with_reducible refine Ext.set ?_ ?_ _); (focus (first | (simp; done) | (simp; omega)))) | with_reducible refine Ext.trans ?_ (by assumption)))⟩
    · -- no
      rcases Bool.eq_false_or_eq_true (fin) with hn | hn
      · -- yes
        by_cases h2 : e = fi
        · -- equal
          have h2e : (e == fi) = true := by simp [h2]
          have h2n : (e != fi) = false := by simp [h2]
          have h2H := hide h2
          clear h2
          rcases Bool.eq_false_or_eq_true (decide (e < hg)) with h3 | h3
          · -- yes
            go_enter Try.func77, Try.ntmps77
            go_wp2
            go_ret
            exact ⟨by simp [finE, contra, *], (by repeat (first | with_reducible exact Ext.refl _ | with_reducible assumption | with_reducible refine Ext.alloc ?_ _ | with_reducible refine Ext.drew ?_ | with_reducible refine Ext.drewN ?_ _ | ((with_reducible refine Ext.set ?_ ?_ _); (focus (first | (simp; done) | (simp; omega)))) | with_reducible refine Ext.trans ?_ (by assumption)))⟩
          · -- no
            go_enter Try.func77, Try.ntmps77
            go_wp2
            go_ret
            exact ⟨by simp [finE, contra, *], (by repeat (first | with_reducible exact Ext.refl _ | with_reducible assumption | with_reducible refine Ext.alloc ?_ _ | with_reducible refine Ext.drew ?_ | with_reducible refine Ext.drewN ?_ _ | ((with_reducible refine Ext.set ?_ ?_ _); (focus (first | (simp; done) | (simp; omega)))) | with_reducible refine Ext.trans ?_ (by assumption)))⟩
        · -- other
          have h2e : (e == fi) = false := by simp [h2]
          have h2n : (e != fi) = true := by simp [h2]
          have h2H := hide h2
          clear h2
          go_enter Try.func77, Try.ntmps77
          go_wp2
          go_ret
          exact ⟨by simp [finE, contra, *], (by repeat (first | with_reducible exact Ext.refl _ | with_reducible assumption | with_reducible refine Ext.alloc ?_ _ | with_reducible refine Ext.drew ?_ | with_reducible refine Ext.drewN ?_ _ | ((with_reducible refine Ext.set ?_ ?_ _); (focus (first | (simp; done) | (simp; omega)))) | with_reducible refine Ext.trans ?_ (by assumption)))⟩
      · -- no
        go_enter Try.func77, Try.ntmps77
        go_wp2
        go_ret
        exact ⟨by simp [finE, contra, *], (by repeat (first | with_reducible exact Ext.refl _ | with_reducible assumption | with_reducible refine Ext.alloc ?_ _ | with_reducible refine Ext.drew ?_ | with_reducible refine Ext.drewN ?_ _ | ((with_reducible refine Ext.set ?_ ?_ _); (focus (first | (simp; done) | (simp; omega)))) | with_reducible refine Ext.trans ?_ (by assumption)))⟩
set_option maxHeartbeats 1000000 in
theorem l7Final_any (st nx fi hg co e : Int) (fin : Bool) (ao : Option Addr) (n ca : Nat) (w : World) :
    Calls Try.prog 75 #[.agg #[.int .i64 st, .int .i64 nx, .slice ao n ca, .int .i64 fi, .int .i64 hg, .int .i64 co], .int .i64 e, .bool fin] w fun en w' => en = .returned (.int .i64 (finE (contra fi hg e fin))) ∧ Ext w w' := by
  by_cases hf : fi = -1
  · -- equal
    have hfe : (fi == -1) = true := by simp [hf]
    have hfn : (fi != -1) = false := by simp [hf]
    have hfH := hide hf
    clear hf
    rcases Bool.eq_false_or_eq_true (fin) with hn | hn
    · -- yes
      rcases Bool.eq_false_or_eq_true (decide (e < hg)) with h3 | h3
      · -- yes
        go_enter Try.func75, Try.ntmps75
        go_wp2
        go_ret
        exact ⟨by simp [finE, contra, *], (by repeat (first | with_reducible exact Ext.refl _ | with_reducible assumption | with_reducible refine Ext.alloc ?_ _ | with_reducible refine Ext.drew ?_ | with_reducible refine Ext.drewN ?_ _ | ((with_reducible refine Ext.set ?_ ?_ _); (focus (first | (simp; done) | (simp; omega)))) | with_reducible refine Ext.trans ?_ (by assumption)))⟩
      · -- no
        go_enter Try.func75, Try.ntmps75
        go_wp2
        go_ret
        exact ⟨by simp [finE, contra, *], (by repeat (first | with_reducible exact Ext.refl _ | with_reducible assumption | with_reducible refine Ext.alloc ?_ _ | with_reducible refine Ext.drew ?_ | with_reducible refine Ext.drewN ?_ _ | ((with_reducible refine Ext.set ?_ ?_ _); (focus (first | (simp; done) | (simp; omega)))) | with_reducible refine Ext.trans ?_ (by assumption)))⟩
    · -- no
      go_enter Try.func75, Try.ntmps75
      go_wp2
      go_ret
      exact ⟨by simp [finE, contra, *], (by repeat (first | with_reducible exact Ext.refl _ | with_reducible assumption | with_reducible refine Ext.alloc ?_ _ | with_reducible refine Ext.drew ?_ | with_reducible refine Ext.drewN ?_ _ | ((with_reducible refine Ext.set ?_ ?_ _); (focus (first | (simp; done) | (simp; omega)))) | with_reducible refine Ext.trans ?_ (by assumption)))⟩
  · -- other
    have hfe : (fi == -1) = false := by simp [hf]
    have hfn : (fi != -1) = true := by simp [hf]
    have hfH := hide hf
    clear hf
    rcases Bool.eq_false_or_eq_true (decide (fi < e)) with h1 | h1
    · -- yes
      go_enter Try.func75, Try.ntmps75
      go_wp2
      go_ret
      exact ⟨by simp [finE, contra, *], (by repeat (first | with_reducible exact Ext.refl _ | with_reducible assumption | with_reducible refine Ext.alloc ?_ _ | with_reducible refine Ext.drew ?_ | with_reducible refine Ext.drewN ?_ _ | ((with_reducible refine Ext.set ?_ ?_ _); (focus (first | (simp; done) | (simp; omega)))) | with_reducible refine Ext.trans ?_ (by assumption)))⟩
    · -- no
      rcases Bool.eq_false_or_eq_true (fin) with hn | hn
      · -- yes
        by_cases h2 : e = fi
        · -- equal
          have h2e : (e == fi) = true := by simp [h2]
          have h2n : (e != fi) = false := by simp [h2]
          have h2H := hide h2
          clear h2
          rcases Bool.eq_false_or_eq_true (decide (e < hg)) with h3 | h3
          · -- yes
            go_enter Try.func75, Try.ntmps75
            go_wp2
            go_ret
            exact ⟨by simp [finE, contra, *], (by repeat (first | with_reducible exact Ext.refl _ | with_reducible assumption | with_reducible refine Ext.alloc ?_ _ | with_reducible refine Ext.drew ?_ | with_reducible refine Ext.drewN ?_ _ | ((with_reducible refine Ext.set ?_ ?_ _); (focus (first | (simp; done) | (simp; omega)))) | with_reducible refine Ext.trans ?_ (by assumption)))⟩
          · -- no
            go_enter Try.func75, Try.ntmps75
            go_wp2
            go_ret
            exact ⟨by simp [finE, contra, *], (by repeat (first | with_reducible exact Ext.refl _ | with_reducible assumption | with_reducible refine Ext.alloc ?_ _ | with_reducible refine Ext.drew ?_ | with_reducible refine Ext.drewN ?_ _ | ((with_reducible refine Ext.set ?_ ?_ _); (focus (first | (simp; done) | (simp; omega)))) | with_reducible refine Ext.trans ?_ (by assumption)))⟩
        · -- other
          have h2e : (e == fi) = false := by simp [h2]
          have h2n : (e != fi) = true := by simp [h2]
          have h2H := hide h2
          clear h2
          go_enter Try.func75, Try.ntmps75
          go_wp2
          go_ret
          exact ⟨by simp [finE, contra, *], (by repeat (first | with_reducible exact Ext.refl _ | with_reducible assumption | with_reducible refine Ext.alloc ?_ _ | with_reducible refine Ext.drew ?_ | with_reducible refine Ext.drewN ?_ _ | ((with_reducible refine Ext.set ?_ ?_ _); (focus (first | (simp; done) | (simp; omega)))) | with_reducible refine Ext.trans ?_ (by assumption)))⟩
      · -- no
        go_enter Try.func75, Try.ntmps75
        go_wp2
        go_ret
        exact ⟨by simp [finE, contra, *], (by repeat (first | with_reducible exact Ext.refl _ | with_reducible assumption | with_reducible refine Ext.alloc ?_ _ | with_reducible refine Ext.drew ?_ | with_reducible refine Ext.drewN ?_ _ | ((with_reducible refine Ext.set ?_ ?_ _); (focus (first | (simp; done) | (simp; omega)))) | with_reducible refine Ext.trans ?_ (by assumption)))⟩
theorem takes_any (st nx fi hg co : Int) (ao : Option Addr) (n ca : Nat) (w : World) :
    Calls Try.prog 78 #[.agg #[.int .i64 st, .int .i64 nx, .slice ao n ca, .int .i64 fi, .int .i64 hg, .int .i64 co]] w fun en w' => en = .returned (.bool (st == 0 || st == 1)) ∧ Ext w w' := by
  by_cases s0 : st = 0
  · -- equal
    have s0e : (st == 0) = true := by simp [s0]
    have s0n : (st != 0) = false := by simp [s0]
    have s0H := hide s0
    clear s0
    go_enter Try.func78, Try.ntmps78
    go_wp2
    go_ret
    exact ⟨by simp [finE, contra, *], (by repeat (first | with_reducible exact Ext.refl _ | with_reducible assumption | with_reducible refine Ext.alloc ?_ _ | with_reducible refine Ext.drew ?_ | with_reducible refine Ext.drewN ?_ _ | ((with_reducible refine Ext.set ?_ ?_ _); (focus (first | (simp; done) | (simp; omega)))) | with_reducible refine Ext.trans ?_ (by assumption)))⟩
  · -- other
    have s0e : (st == 0) = false := by simp [s0]
    have s0n : (st != 0) = true := by simp [s0]
    have s0H := hide s0
    clear s0
    by_cases s1 : st = 1
    · -- equal
      have s1e : (st == 1) = true := by simp [s1]
      have s1n : (st != 1) = false := by simp [s1]
      have s1H := hide s1
      clear s1
      go_enter Try.func78, Try.ntmps78
      go_wp2
      go_ret
      exact ⟨by simp [finE, contra, *], (by repeat (first | with_reducible exact Ext.refl _ | with_reducible assumption | with_reducible refine Ext.alloc ?_ _ | with_reducible refine Ext.drew ?_ | with_reducible refine Ext.drewN ?_ _ | ((with_reducible refine Ext.set ?_ ?_ _); (focus (first | (simp; done) | (simp; omega)))) | with_reducible refine Ext.trans ?_ (by assumption)))⟩
    · -- other
      have s1e : (st == 1) = false := by simp [s1]
      have s1n : (st != 1) = true := by simp [s1]
      have s1H := hide s1
      clear s1
      go_enter Try.func78, Try.ntmps78
      go_wp2
      go_ret
      exact ⟨by simp [finE, contra, *], (by repeat (first | with_reducible exact Ext.refl _ | with_reducible assumption | with_reducible refine Ext.alloc ?_ _ | with_reducible refine Ext.drew ?_ | with_reducible refine Ext.drewN ?_ _ | ((with_reducible refine Ext.set ?_ ?_ _); (focus (first | (simp; done) | (simp; omega)))) | with_reducible refine Ext.trans ?_ (by assumption)))⟩
/-- Is the reset taken note of? What does it answer? -/
def rrOk (st nx fi hg co k f : Int) (cs : List Ck) : Bool := recvIs st nx fi hg co cs && (inB 0 k 4611686018427387903 && inB 0 f 4611686018427387903)
def rrE (st nx fi hg co k f : Int) (cs : List Ck) : Int := if rrOk st nx fi hg co k f cs = true then (if contra fi hg f true = true then 6 else 0) else 7
def rrGo (st nx fi hg co k f : Int) (cs : List Ck) : Bool := rrOk st nx fi hg co k f cs && (!contra fi hg f true && (st == 0 || st == 1))
set_option maxHeartbeats 4000000 in
set_option maxRecDepth 100000 in
theorem ReceiveReset_impl_no (st nx fi hg co k f : Int) (ao : Option Addr) (n ca : Nat) (cs : List Ck) (w : World) (hx : ReadC w ao cs) (hn : cs.length = n) (hl : n ≤ 1048576) (hw : WfC cs) (hnx : -9223372036854775808 ≤ nx ∧ nx ≤ 9223372036854775807) (hgo : rrGo st nx fi hg co k f cs = false) :
    Calls Try.prog 31 #[.agg #[.int .i64 st, .int .i64 nx, .slice ao n ca, .int .i64 fi, .int .i64 hg, .int .i64 co], .int .i64 k, .int .i64 f] w (RecvRes st nx fi hg co cs (.int .i64 (rrE st nx fi hg co k f cs)) w) := by
  rcases Bool.eq_false_or_eq_true (recvIs st nx fi hg co cs) with hi | hi
  · -- yes
    rcases Bool.eq_false_or_eq_true (inB 0 k 4611686018427387903) with hk | hk
    · -- yes
      rcases Bool.eq_false_or_eq_true (inB 0 f 4611686018427387903) with hf | hf
      · -- yes
        rcases Bool.eq_false_or_eq_true (contra fi hg f true) with hcn | hcn
        · -- yes
          rw [show rrE st nx fi hg co k f cs = 6 from by simp [rrE, rrOk, *]]
          have hn' := hide hn
          have hx' := hide hx
          have hw' := hide hw
          clear hn hx hw
          go_enter Try.func31, Try.ntmps31
          go_wp2_with fail
          refine (copyReceiver_any st nx fi hg co ao n ca cs _ (hx'.out.ext (by repeat (first | with_reducible exact Ext.refl _ | with_reducible assumption | with_reducible refine Ext.alloc ?_ _ | with_reducible refine Ext.drew ?_ | ((with_reducible refine Ext.set ?_ ?_ _); (focus (first | (simp; done) | (simp; omega) | omega)))))) hn'.out hl).mono ?_
          rintro en w1 ⟨ao1, cap1, rfl, ho1, hw1⟩
          have xw1 : Ext w w1 := (by repeat (first | with_reducible exact Ext.refl _ | with_reducible assumption | with_reducible refine Ext.alloc ?_ _ | with_reducible refine Ext.drew ?_ | with_reducible refine Ext.drewN ?_ _ | ((with_reducible refine Ext.set ?_ ?_ _); (focus (first | (simp; done) | (simp; omega)))) | with_reducible refine Ext.trans ?_ (by assumption)))
          have kw1_0 := hw1.more (k := w.heap.size) (by first | assumption | (simp; done) | (simp; omega) | omega)
          obtain ⟨cw1_0, fw1_0⟩ := hw1.row (k := w.heap.size) (by first | assumption | (simp; done) | (simp; omega) | omega)
          have kw1_1 := hw1.more (k := w.heap.size + 1) (by first | assumption | (simp; done) | (simp; omega) | omega)
          obtain ⟨cw1_1, fw1_1⟩ := hw1.row (k := w.heap.size + 1) (by first | assumption | (simp; done) | (simp; omega) | omega)
          replace ho1 := hide (OwnC.mono (lo' := w.heap.size + 2) ho1 (by simp) (Nat.le_refl _))
          have hs1 : w.heap.size + 2 ≤ w1.heap.size := by have := hw1.size; simpa using this
          go_wp2_with fail
          refine (IsReceiver_impl st nx fi hg co ao n ca cs _ (hx'.out.ext (by repeat (first | with_reducible exact Ext.refl _ | with_reducible assumption | with_reducible refine Ext.alloc ?_ _ | with_reducible refine Ext.drew ?_ | ((with_reducible refine Ext.set ?_ ?_ _); (focus (first | (simp; done) | (simp; omega) | omega))) | with_reducible refine Ext.trans ?_ hw1))) hn'.out (by omega) hw'.out hnx).mono ?_
          rintro en w2 ⟨rfl, hw2⟩
          have xw2 : Ext w w2 := (by repeat (first | with_reducible exact Ext.refl _ | with_reducible assumption | with_reducible refine Ext.alloc ?_ _ | with_reducible refine Ext.drew ?_ | with_reducible refine Ext.drewN ?_ _ | ((with_reducible refine Ext.set ?_ ?_ _); (focus (first | (simp; done) | (simp; omega)))) | with_reducible refine Ext.trans ?_ (by assumption)))
          have kw2_0 := hw2.more (k := w.heap.size) (by first | assumption | (simp; done) | (simp; omega) | omega)
          obtain ⟨cw2_0, fw2_0⟩ := hw2.row (k := w.heap.size) (by first | assumption | (simp; done) | (simp; omega) | omega)
          have kw2_1 := hw2.more (k := w.heap.size + 1) (by first | assumption | (simp; done) | (simp; omega) | omega)
          obtain ⟨cw2_1, fw2_1⟩ := hw2.row (k := w.heap.size + 1) (by first | assumption | (simp; done) | (simp; omega) | omega)
          have kw2_2 := hw2.more (k := w1.heap.size) (by first | assumption | (simp; done) | (simp; omega) | omega)
          obtain ⟨cw2_2, fw2_2⟩ := hw2.row (k := w1.heap.size) (by first | assumption | (simp; done) | (simp; omega) | omega)
          rw [hi]
          go_wp2_with fail
          refine (same_ext (isQuic_any _ _)).mono ?_
          rintro en wk ⟨rfl, hwk⟩
          have xwk : Ext w wk := (by repeat (first | with_reducible exact Ext.refl _ | with_reducible assumption | with_reducible refine Ext.alloc ?_ _ | with_reducible refine Ext.drew ?_ | with_reducible refine Ext.drewN ?_ _ | ((with_reducible refine Ext.set ?_ ?_ _); (focus (first | (simp; done) | (simp; omega)))) | with_reducible refine Ext.trans ?_ (by assumption)))
          have kwk_0 := hwk.more (k := w.heap.size) (by first | assumption | (simp; done) | (simp; omega) | omega)
          obtain ⟨cwk_0, fwk_0⟩ := hwk.row (k := w.heap.size) (by first | assumption | (simp; done) | (simp; omega) | omega)
          have kwk_1 := hwk.more (k := w.heap.size + 1) (by first | assumption | (simp; done) | (simp; omega) | omega)
          obtain ⟨cwk_1, fwk_1⟩ := hwk.row (k := w.heap.size + 1) (by first | assumption | (simp; done) | (simp; omega) | omega)
          have kwk_2 := hwk.more (k := w1.heap.size) (by first | assumption | (simp; done) | (simp; omega) | omega)
          obtain ⟨cwk_2, fwk_2⟩ := hwk.row (k := w1.heap.size) (by first | assumption | (simp; done) | (simp; omega) | omega)
          rw [hk]
          go_wp2_with fail
          refine (same_ext (isQuic_any _ _)).mono ?_
          rintro en wf ⟨rfl, hwf⟩
          have xwf : Ext w wf := (by repeat (first | with_reducible exact Ext.refl _ | with_reducible assumption | with_reducible refine Ext.alloc ?_ _ | with_reducible refine Ext.drew ?_ | with_reducible refine Ext.drewN ?_ _ | ((with_reducible refine Ext.set ?_ ?_ _); (focus (first | (simp; done) | (simp; omega)))) | with_reducible refine Ext.trans ?_ (by assumption)))
          have kwf_0 := hwf.more (k := w.heap.size) (by first | assumption | (simp; done) | (simp; omega) | omega)
          obtain ⟨cwf_0, fwf_0⟩ := hwf.row (k := w.heap.size) (by first | assumption | (simp; done) | (simp; omega) | omega)
          have kwf_1 := hwf.more (k := w.heap.size + 1) (by first | assumption | (simp; done) | (simp; omega) | omega)
          obtain ⟨cwf_1, fwf_1⟩ := hwf.row (k := w.heap.size + 1) (by first | assumption | (simp; done) | (simp; omega) | omega)
          have kwf_2 := hwf.more (k := w1.heap.size) (by first | assumption | (simp; done) | (simp; omega) | omega)
          obtain ⟨cwf_2, fwf_2⟩ := hwf.row (k := w1.heap.size) (by first | assumption | (simp; done) | (simp; omega) | omega)
          rw [hf]
          have hs2 : w1.heap.size < w2.heap.size := by have := hw2.size; simp at this; omega
          go_wp2_with fail
          refine (contradicts_any st nx fi hg co f true ao n ca _).mono ?_
          rintro en w3 ⟨rfl, hw3⟩
          have xw3 : Ext w w3 := (by repeat (first | with_reducible exact Ext.refl _ | with_reducible assumption | with_reducible refine Ext.alloc ?_ _ | with_reducible refine Ext.drew ?_ | with_reducible refine Ext.drewN ?_ _ | ((with_reducible refine Ext.set ?_ ?_ _); (focus (first | (simp; done) | (simp; omega)))) | with_reducible refine Ext.trans ?_ (by assumption)))
          have kw3_0 := hw3.more (k := w.heap.size) (by first | assumption | (simp; done) | (simp; omega) | omega)
          obtain ⟨cw3_0, fw3_0⟩ := hw3.row (k := w.heap.size) (by first | assumption | (simp; done) | (simp; omega) | omega)
          have kw3_1 := hw3.more (k := w.heap.size + 1) (by first | assumption | (simp; done) | (simp; omega) | omega)
          obtain ⟨cw3_1, fw3_1⟩ := hw3.row (k := w.heap.size + 1) (by first | assumption | (simp; done) | (simp; omega) | omega)
          have kw3_2 := hw3.more (k := w1.heap.size) (by first | assumption | (simp; done) | (simp; omega) | omega)
          obtain ⟨cw3_2, fw3_2⟩ := hw3.row (k := w1.heap.size) (by first | assumption | (simp; done) | (simp; omega) | omega)
          rw [hcn]
          go_wp2
          refine bodyPost_ret (v := .tuple #[.agg #[.int .i64 st, .int .i64 nx, .slice ao1 cs.length cap1, .int .i64 fi, .int .i64 hg, .int .i64 co], .int .i64 6]) (by simp [results, Try.results31, go_sem, *]) rfl ⟨ao1, cap1, rfl, ?_, ?_⟩
          · refine OwnC.mono (OwnC.chg (S := fun k => k < w.heap.size + 2) ho1.out (by repeat (first | with_reducible exact Chg.refl _ _ | with_reducible assumption | with_reducible refine Chg.alloc ?_ _ | with_reducible refine Chg.drew ?_ | ((with_reducible refine Chg.set ?_ ?_ _); (focus (first | (left; simp; done) | (left; simp; omega) | (right; simp; done) | (right; simp; omega) | (right; omega)))) | with_reducible refine Chg.trans ?_ (Ext.chg hw3 _) | with_reducible refine Chg.trans ?_ (Ext.chg hwf _) | with_reducible refine Chg.trans ?_ (Ext.chg hwk _) | with_reducible refine Chg.trans ?_ (Ext.chg hw2 _))) (fun b h1 h2 h3 => by omega)) (by omega) (by simp; omega)
          · exact (by repeat (first | with_reducible exact Ext.refl _ | with_reducible assumption | with_reducible refine Ext.alloc ?_ _ | with_reducible refine Ext.drew ?_ | with_reducible refine Ext.drewN ?_ _ | ((with_reducible refine Ext.set ?_ ?_ _); (focus (first | (simp; done) | (simp; omega)))) | with_reducible refine Ext.trans ?_ (by assumption)))
        · -- no
          by_cases s0 : st = 0
          · -- equal
            have s0e : (st == 0) = true := by simp [s0]
            have s0n : (st != 0) = false := by simp [s0]
            have s0H := hide s0
            clear s0
            simp [rrGo, rrOk, *] at hgo
          · -- other
            have s0e : (st == 0) = false := by simp [s0]
            have s0n : (st != 0) = true := by simp [s0]
            have s0H := hide s0
            clear s0
            by_cases s1 : st = 1
            · -- equal
              have s1e : (st == 1) = true := by simp [s1]
              have s1n : (st != 1) = false := by simp [s1]
              have s1H := hide s1
              clear s1
              simp [rrGo, rrOk, *] at hgo
            · -- other
              have s1e : (st == 1) = false := by simp [s1]
              have s1n : (st != 1) = true := by simp [s1]
              have s1H := hide s1
              clear s1
              obtain ⟨t0, t5⟩ := recvIs_st hi
              have htk : (st == 0 || st == 1) = false := by simp [*]
              have hgt : decide (1 < st) = true := by
                have := s0H.out
                have := s1H.out
                simp; omega
              clear hgo
              rw [show rrE st nx fi hg co k f cs = 0 from by simp [rrE, rrOk, *]]
              have hn' := hide hn
              have hx' := hide hx
              have hw' := hide hw
              clear hn hx hw
              go_enter Try.func31, Try.ntmps31
              go_wp2_with fail
              refine (copyReceiver_any st nx fi hg co ao n ca cs _ (hx'.out.ext (by repeat (first | with_reducible exact Ext.refl _ | with_reducible assumption | with_reducible refine Ext.alloc ?_ _ | with_reducible refine Ext.drew ?_ | ((with_reducible refine Ext.set ?_ ?_ _); (focus (first | (simp; done) | (simp; omega) | omega)))))) hn'.out hl).mono ?_
              rintro en w1 ⟨ao1, cap1, rfl, ho1, hw1⟩
              have xw1 : Ext w w1 := (by repeat (first | with_reducible exact Ext.refl _ | with_reducible assumption | with_reducible refine Ext.alloc ?_ _ | with_reducible refine Ext.drew ?_ | with_reducible refine Ext.drewN ?_ _ | ((with_reducible refine Ext.set ?_ ?_ _); (focus (first | (simp; done) | (simp; omega)))) | with_reducible refine Ext.trans ?_ (by assumption)))
              have kw1_0 := hw1.more (k := w.heap.size) (by first | assumption | (simp; done) | (simp; omega) | omega)
              obtain ⟨cw1_0, fw1_0⟩ := hw1.row (k := w.heap.size) (by first | assumption | (simp; done) | (simp; omega) | omega)
              have kw1_1 := hw1.more (k := w.heap.size + 1) (by first | assumption | (simp; done) | (simp; omega) | omega)
              obtain ⟨cw1_1, fw1_1⟩ := hw1.row (k := w.heap.size + 1) (by first | assumption | (simp; done) | (simp; omega) | omega)
              replace ho1 := hide (OwnC.mono (lo' := w.heap.size + 2) ho1 (by simp) (Nat.le_refl _))
              have hs1 : w.heap.size + 2 ≤ w1.heap.size := by have := hw1.size; simpa using this
              go_wp2_with fail
              refine (IsReceiver_impl st nx fi hg co ao n ca cs _ (hx'.out.ext (by repeat (first | with_reducible exact Ext.refl _ | with_reducible assumption | with_reducible refine Ext.alloc ?_ _ | with_reducible refine Ext.drew ?_ | ((with_reducible refine Ext.set ?_ ?_ _); (focus (first | (simp; done) | (simp; omega) | omega))) | with_reducible refine Ext.trans ?_ hw1))) hn'.out (by omega) hw'.out hnx).mono ?_
              rintro en w2 ⟨rfl, hw2⟩
              have xw2 : Ext w w2 := (by repeat (first | with_reducible exact Ext.refl _ | with_reducible assumption | with_reducible refine Ext.alloc ?_ _ | with_reducible refine Ext.drew ?_ | with_reducible refine Ext.drewN ?_ _ | ((with_reducible refine Ext.set ?_ ?_ _); (focus (first | (simp; done) | (simp; omega)))) | with_reducible refine Ext.trans ?_ (by assumption)))
              have kw2_0 := hw2.more (k := w.heap.size) (by first | assumption | (simp; done) | (simp; omega) | omega)
              obtain ⟨cw2_0, fw2_0⟩ := hw2.row (k := w.heap.size) (by first | assumption | (simp; done) | (simp; omega) | omega)
              have kw2_1 := hw2.more (k := w.heap.size + 1) (by first | assumption | (simp; done) | (simp; omega) | omega)
              obtain ⟨cw2_1, fw2_1⟩ := hw2.row (k := w.heap.size + 1) (by first | assumption | (simp; done) | (simp; omega) | omega)
              have kw2_2 := hw2.more (k := w1.heap.size) (by first | assumption | (simp; done) | (simp; omega) | omega)
              obtain ⟨cw2_2, fw2_2⟩ := hw2.row (k := w1.heap.size) (by first | assumption | (simp; done) | (simp; omega) | omega)
              rw [hi]
              go_wp2_with fail
              refine (same_ext (isQuic_any _ _)).mono ?_
              rintro en wk ⟨rfl, hwk⟩
              have xwk : Ext w wk := (by repeat (first | with_reducible exact Ext.refl _ | with_reducible assumption | with_reducible refine Ext.alloc ?_ _ | with_reducible refine Ext.drew ?_ | with_reducible refine Ext.drewN ?_ _ | ((with_reducible refine Ext.set ?_ ?_ _); (focus (first | (simp; done) | (simp; omega)))) | with_reducible refine Ext.trans ?_ (by assumption)))
              have kwk_0 := hwk.more (k := w.heap.size) (by first | assumption | (simp; done) | (simp; omega) | omega)
              obtain ⟨cwk_0, fwk_0⟩ := hwk.row (k := w.heap.size) (by first | assumption | (simp; done) | (simp; omega) | omega)
              have kwk_1 := hwk.more (k := w.heap.size + 1) (by first | assumption | (simp; done) | (simp; omega) | omega)
              obtain ⟨cwk_1, fwk_1⟩ := hwk.row (k := w.heap.size + 1) (by first | assumption | (simp; done) | (simp; omega) | omega)
              have kwk_2 := hwk.more (k := w1.heap.size) (by first | assumption | (simp; done) | (simp; omega) | omega)
              obtain ⟨cwk_2, fwk_2⟩ := hwk.row (k := w1.heap.size) (by first | assumption | (simp; done) | (simp; omega) | omega)
              rw [hk]
              go_wp2_with fail
              refine (same_ext (isQuic_any _ _)).mono ?_
              rintro en wf ⟨rfl, hwf⟩
              have xwf : Ext w wf := (by repeat (first | with_reducible exact Ext.refl _ | with_reducible assumption | with_reducible refine Ext.alloc ?_ _ | with_reducible refine Ext.drew ?_ | with_reducible refine Ext.drewN ?_ _ | ((with_reducible refine Ext.set ?_ ?_ _); (focus (first | (simp; done) | (simp; omega)))) | with_reducible refine Ext.trans ?_ (by assumption)))
              have kwf_0 := hwf.more (k := w.heap.size) (by first | assumption | (simp; done) | (simp; omega) | omega)
              obtain ⟨cwf_0, fwf_0⟩ := hwf.row (k := w.heap.size) (by first | assumption | (simp; done) | (simp; omega) | omega)
              have kwf_1 := hwf.more (k := w.heap.size + 1) (by first | assumption | (simp; done) | (simp; omega) | omega)
              obtain ⟨cwf_1, fwf_1⟩ := hwf.row (k := w.heap.size + 1) (by first | assumption | (simp; done) | (simp; omega) | omega)
              have kwf_2 := hwf.more (k := w1.heap.size) (by first | assumption | (simp; done) | (simp; omega) | omega)
              obtain ⟨cwf_2, fwf_2⟩ := hwf.row (k := w1.heap.size) (by first | assumption | (simp; done) | (simp; omega) | omega)
              rw [hf]
              have hs2 : w1.heap.size < w2.heap.size := by have := hw2.size; simp at this; omega
              go_wp2_with fail
              refine (contradicts_any st nx fi hg co f true ao n ca _).mono ?_
              rintro en w3 ⟨rfl, hw3⟩
              have xw3 : Ext w w3 := (by repeat (first | with_reducible exact Ext.refl _ | with_reducible assumption | with_reducible refine Ext.alloc ?_ _ | with_reducible refine Ext.drew ?_ | with_reducible refine Ext.drewN ?_ _ | ((with_reducible refine Ext.set ?_ ?_ _); (focus (first | (simp; done) | (simp; omega)))) | with_reducible refine Ext.trans ?_ (by assumption)))
              have kw3_0 := hw3.more (k := w.heap.size) (by first | assumption | (simp; done) | (simp; omega) | omega)
              obtain ⟨cw3_0, fw3_0⟩ := hw3.row (k := w.heap.size) (by first | assumption | (simp; done) | (simp; omega) | omega)
              have kw3_1 := hw3.more (k := w.heap.size + 1) (by first | assumption | (simp; done) | (simp; omega) | omega)
              obtain ⟨cw3_1, fw3_1⟩ := hw3.row (k := w.heap.size + 1) (by first | assumption | (simp; done) | (simp; omega) | omega)
              have kw3_2 := hw3.more (k := w1.heap.size) (by first | assumption | (simp; done) | (simp; omega) | omega)
              obtain ⟨cw3_2, fw3_2⟩ := hw3.row (k := w1.heap.size) (by first | assumption | (simp; done) | (simp; omega) | omega)
              rw [hcn]
              go_wp2_with fail
              refine (takes_any st nx fi hg co ao n ca _).mono ?_
              rintro en w4 ⟨rfl, hw4⟩
              have xw4 : Ext w w4 := (by repeat (first | with_reducible exact Ext.refl _ | with_reducible assumption | with_reducible refine Ext.alloc ?_ _ | with_reducible refine Ext.drew ?_ | with_reducible refine Ext.drewN ?_ _ | ((with_reducible refine Ext.set ?_ ?_ _); (focus (first | (simp; done) | (simp; omega)))) | with_reducible refine Ext.trans ?_ (by assumption)))
              have kw4_0 := hw4.more (k := w.heap.size) (by first | assumption | (simp; done) | (simp; omega) | omega)
              obtain ⟨cw4_0, fw4_0⟩ := hw4.row (k := w.heap.size) (by first | assumption | (simp; done) | (simp; omega) | omega)
              have kw4_1 := hw4.more (k := w.heap.size + 1) (by first | assumption | (simp; done) | (simp; omega) | omega)
              obtain ⟨cw4_1, fw4_1⟩ := hw4.row (k := w.heap.size + 1) (by first | assumption | (simp; done) | (simp; omega) | omega)
              have kw4_2 := hw4.more (k := w1.heap.size) (by first | assumption | (simp; done) | (simp; omega) | omega)
              obtain ⟨cw4_2, fw4_2⟩ := hw4.row (k := w1.heap.size) (by first | assumption | (simp; done) | (simp; omega) | omega)
              rw [htk]
              go_wp2
              refine bodyPost_ret (v := .tuple #[.agg #[.int .i64 st, .int .i64 nx, .slice ao1 cs.length cap1, .int .i64 fi, .int .i64 hg, .int .i64 co], .int .i64 0]) (by simp [results, Try.results31, go_sem, *]) rfl ⟨ao1, cap1, rfl, ?_, ?_⟩
              · refine OwnC.mono (OwnC.chg (S := fun k => k < w.heap.size + 2) ho1.out (by repeat (first | with_reducible exact Chg.refl _ _ | with_reducible assumption | with_reducible refine Chg.alloc ?_ _ | with_reducible refine Chg.drew ?_ | ((with_reducible refine Chg.set ?_ ?_ _); (focus (first | (left; simp; done) | (left; simp; omega) | (right; simp; done) | (right; simp; omega) | (right; omega)))) | with_reducible refine Chg.trans ?_ (Ext.chg hw4 _) | with_reducible refine Chg.trans ?_ (Ext.chg hw3 _) | with_reducible refine Chg.trans ?_ (Ext.chg hwf _) | with_reducible refine Chg.trans ?_ (Ext.chg hwk _) | with_reducible refine Chg.trans ?_ (Ext.chg hw2 _))) (fun b h1 h2 h3 => by omega)) (by omega) (by simp; omega)
              · exact (by repeat (first | with_reducible exact Ext.refl _ | with_reducible assumption | with_reducible refine Ext.alloc ?_ _ | with_reducible refine Ext.drew ?_ | with_reducible refine Ext.drewN ?_ _ | ((with_reducible refine Ext.set ?_ ?_ _); (focus (first | (simp; done) | (simp; omega)))) | with_reducible refine Ext.trans ?_ (by assumption)))
      · -- no
        rw [show rrE st nx fi hg co k f cs = 7 from by simp [rrE, rrOk, *]]
        have hn' := hide hn
        have hx' := hide hx
        have hw' := hide hw
        clear hn hx hw
        go_enter Try.func31, Try.ntmps31
        go_wp2_with fail
        refine (copyReceiver_any st nx fi hg co ao n ca cs _ (hx'.out.ext (by repeat (first | with_reducible exact Ext.refl _ | with_reducible assumption | with_reducible refine Ext.alloc ?_ _ | with_reducible refine Ext.drew ?_ | ((with_reducible refine Ext.set ?_ ?_ _); (focus (first | (simp; done) | (simp; omega) | omega)))))) hn'.out hl).mono ?_
        rintro en w1 ⟨ao1, cap1, rfl, ho1, hw1⟩
        have xw1 : Ext w w1 := (by repeat (first | with_reducible exact Ext.refl _ | with_reducible assumption | with_reducible refine Ext.alloc ?_ _ | with_reducible refine Ext.drew ?_ | with_reducible refine Ext.drewN ?_ _ | ((with_reducible refine Ext.set ?_ ?_ _); (focus (first | (simp; done) | (simp; omega)))) | with_reducible refine Ext.trans ?_ (by assumption)))
        have kw1_0 := hw1.more (k := w.heap.size) (by first | assumption | (simp; done) | (simp; omega) | omega)
        obtain ⟨cw1_0, fw1_0⟩ := hw1.row (k := w.heap.size) (by first | assumption | (simp; done) | (simp; omega) | omega)
        have kw1_1 := hw1.more (k := w.heap.size + 1) (by first | assumption | (simp; done) | (simp; omega) | omega)
        obtain ⟨cw1_1, fw1_1⟩ := hw1.row (k := w.heap.size + 1) (by first | assumption | (simp; done) | (simp; omega) | omega)
        replace ho1 := hide (OwnC.mono (lo' := w.heap.size + 2) ho1 (by simp) (Nat.le_refl _))
        have hs1 : w.heap.size + 2 ≤ w1.heap.size := by have := hw1.size; simpa using this
        go_wp2_with fail
        refine (IsReceiver_impl st nx fi hg co ao n ca cs _ (hx'.out.ext (by repeat (first | with_reducible exact Ext.refl _ | with_reducible assumption | with_reducible refine Ext.alloc ?_ _ | with_reducible refine Ext.drew ?_ | ((with_reducible refine Ext.set ?_ ?_ _); (focus (first | (simp; done) | (simp; omega) | omega))) | with_reducible refine Ext.trans ?_ hw1))) hn'.out (by omega) hw'.out hnx).mono ?_
        rintro en w2 ⟨rfl, hw2⟩
        have xw2 : Ext w w2 := (by repeat (first | with_reducible exact Ext.refl _ | with_reducible assumption | with_reducible refine Ext.alloc ?_ _ | with_reducible refine Ext.drew ?_ | with_reducible refine Ext.drewN ?_ _ | ((with_reducible refine Ext.set ?_ ?_ _); (focus (first | (simp; done) | (simp; omega)))) | with_reducible refine Ext.trans ?_ (by assumption)))
        have kw2_0 := hw2.more (k := w.heap.size) (by first | assumption | (simp; done) | (simp; omega) | omega)
        obtain ⟨cw2_0, fw2_0⟩ := hw2.row (k := w.heap.size) (by first | assumption | (simp; done) | (simp; omega) | omega)
        have kw2_1 := hw2.more (k := w.heap.size + 1) (by first | assumption | (simp; done) | (simp; omega) | omega)
        obtain ⟨cw2_1, fw2_1⟩ := hw2.row (k := w.heap.size + 1) (by first | assumption | (simp; done) | (simp; omega) | omega)
        have kw2_2 := hw2.more (k := w1.heap.size) (by first | assumption | (simp; done) | (simp; omega) | omega)
        obtain ⟨cw2_2, fw2_2⟩ := hw2.row (k := w1.heap.size) (by first | assumption | (simp; done) | (simp; omega) | omega)
        rw [hi]
        go_wp2_with fail
        refine (same_ext (isQuic_any _ _)).mono ?_
        rintro en wk ⟨rfl, hwk⟩
        have xwk : Ext w wk := (by repeat (first | with_reducible exact Ext.refl _ | with_reducible assumption | with_reducible refine Ext.alloc ?_ _ | with_reducible refine Ext.drew ?_ | with_reducible refine Ext.drewN ?_ _ | ((with_reducible refine Ext.set ?_ ?_ _); (focus (first | (simp; done) | (simp; omega)))) | with_reducible refine Ext.trans ?_ (by assumption)))
        have kwk_0 := hwk.more (k := w.heap.size) (by first | assumption | (simp; done) | (simp; omega) | omega)
        obtain ⟨cwk_0, fwk_0⟩ := hwk.row (k := w.heap.size) (by first | assumption | (simp; done) | (simp; omega) | omega)
        have kwk_1 := hwk.more (k := w.heap.size + 1) (by first | assumption | (simp; done) | (simp; omega) | omega)
        obtain ⟨cwk_1, fwk_1⟩ := hwk.row (k := w.heap.size + 1) (by first | assumption | (simp; done) | (simp; omega) | omega)
        have kwk_2 := hwk.more (k := w1.heap.size) (by first | assumption | (simp; done) | (simp; omega) | omega)
        obtain ⟨cwk_2, fwk_2⟩ := hwk.row (k := w1.heap.size) (by first | assumption | (simp; done) | (simp; omega) | omega)
        rw [hk]
        go_wp2_with fail
        refine (same_ext (isQuic_any _ _)).mono ?_
        rintro en wf ⟨rfl, hwf⟩
        have xwf : Ext w wf := (by repeat (first | with_reducible exact Ext.refl _ | with_reducible assumption | with_reducible refine Ext.alloc ?_ _ | with_reducible refine Ext.drew ?_ | with_reducible refine Ext.drewN ?_ _ | ((with_reducible refine Ext.set ?_ ?_ _); (focus (first | (simp; done) | (simp; omega)))) | with_reducible refine Ext.trans ?_ (by assumption)))
        have kwf_0 := hwf.more (k := w.heap.size) (by first | assumption | (simp; done) | (simp; omega) | omega)
        obtain ⟨cwf_0, fwf_0⟩ := hwf.row (k := w.heap.size) (by first | assumption | (simp; done) | (simp; omega) | omega)
        have kwf_1 := hwf.more (k := w.heap.size + 1) (by first | assumption | (simp; done) | (simp; omega) | omega)
        obtain ⟨cwf_1, fwf_1⟩ := hwf.row (k := w.heap.size + 1) (by first | assumption | (simp; done) | (simp; omega) | omega)
        have kwf_2 := hwf.more (k := w1.heap.size) (by first | assumption | (simp; done) | (simp; omega) | omega)
        obtain ⟨cwf_2, fwf_2⟩ := hwf.row (k := w1.heap.size) (by first | assumption | (simp; done) | (simp; omega) | omega)
        rw [hf]
        have hs2 : w1.heap.size < w2.heap.size := by have := hw2.size; simp at this; omega
        go_wp2
        refine bodyPost_ret (v := .tuple #[.agg #[.int .i64 st, .int .i64 nx, .slice ao1 cs.length cap1, .int .i64 fi, .int .i64 hg, .int .i64 co], .int .i64 7]) (by simp [results, Try.results31, go_sem, *]) rfl ⟨ao1, cap1, rfl, ?_, ?_⟩
        · refine OwnC.mono (OwnC.chg (S := fun k => k < w.heap.size + 2) ho1.out (by repeat (first | with_reducible exact Chg.refl _ _ | with_reducible assumption | with_reducible refine Chg.alloc ?_ _ | with_reducible refine Chg.drew ?_ | ((with_reducible refine Chg.set ?_ ?_ _); (focus (first | (left; simp; done) | (left; simp; omega) | (right; simp; done) | (right; simp; omega) | (right; omega)))) | with_reducible refine Chg.trans ?_ (Ext.chg hwf _) | with_reducible refine Chg.trans ?_ (Ext.chg hwk _) | with_reducible refine Chg.trans ?_ (Ext.chg hw2 _))) (fun b h1 h2 h3 => by omega)) (by omega) (by simp; omega)
        · exact (by repeat (first | with_reducible exact Ext.refl _ | with_reducible assumption | with_reducible refine Ext.alloc ?_ _ | with_reducible refine Ext.drew ?_ | with_reducible refine Ext.drewN ?_ _ | ((with_reducible refine Ext.set ?_ ?_ _); (focus (first | (simp; done) | (simp; omega)))) | with_reducible refine Ext.trans ?_ (by assumption)))
    · -- no
      rw [show rrE st nx fi hg co k f cs = 7 from by simp [rrE, rrOk, *]]
      have hn' := hide hn
      have hx' := hide hx
      have hw' := hide hw
      clear hn hx hw
      go_enter Try.func31, Try.ntmps31
      go_wp2_with fail
      refine (copyReceiver_any st nx fi hg co ao n ca cs _ (hx'.out.ext (by repeat (first | with_reducible exact Ext.refl _ | with_reducible assumption | with_reducible refine Ext.alloc ?_ _ | with_reducible refine Ext.drew ?_ | ((with_reducible refine Ext.set ?_ ?_ _); (focus (first | (simp; done) | (simp; omega) | omega)))))) hn'.out hl).mono ?_
      rintro en w1 ⟨ao1, cap1, rfl, ho1, hw1⟩
      have xw1 : Ext w w1 := (by repeat (first | with_reducible exact Ext.refl _ | with_reducible assumption | with_reducible refine Ext.alloc ?_ _ | with_reducible refine Ext.drew ?_ | with_reducible refine Ext.drewN ?_ _ | ((with_reducible refine Ext.set ?_ ?_ _); (focus (first | (simp; done) | (simp; omega)))) | with_reducible refine Ext.trans ?_ (by assumption)))
      have kw1_0 := hw1.more (k := w.heap.size) (by first | assumption | (simp; done) | (simp; omega) | omega)
      obtain ⟨cw1_0, fw1_0⟩ := hw1.row (k := w.heap.size) (by first | assumption | (simp; done) | (simp; omega) | omega)
      have kw1_1 := hw1.more (k := w.heap.size + 1) (by first | assumption | (simp; done) | (simp; omega) | omega)
      obtain ⟨cw1_1, fw1_1⟩ := hw1.row (k := w.heap.size + 1) (by first | assumption | (simp; done) | (simp; omega) | omega)
      replace ho1 := hide (OwnC.mono (lo' := w.heap.size + 2) ho1 (by simp) (Nat.le_refl _))
      have hs1 : w.heap.size + 2 ≤ w1.heap.size := by have := hw1.size; simpa using this
      go_wp2_with fail
      refine (IsReceiver_impl st nx fi hg co ao n ca cs _ (hx'.out.ext (by repeat (first | with_reducible exact Ext.refl _ | with_reducible assumption | with_reducible refine Ext.alloc ?_ _ | with_reducible refine Ext.drew ?_ | ((with_reducible refine Ext.set ?_ ?_ _); (focus (first | (simp; done) | (simp; omega) | omega))) | with_reducible refine Ext.trans ?_ hw1))) hn'.out (by omega) hw'.out hnx).mono ?_
      rintro en w2 ⟨rfl, hw2⟩
      have xw2 : Ext w w2 := (by repeat (first | with_reducible exact Ext.refl _ | with_reducible assumption | with_reducible refine Ext.alloc ?_ _ | with_reducible refine Ext.drew ?_ | with_reducible refine Ext.drewN ?_ _ | ((with_reducible refine Ext.set ?_ ?_ _); (focus (first | (simp; done) | (simp; omega)))) | with_reducible refine Ext.trans ?_ (by assumption)))
      have kw2_0 := hw2.more (k := w.heap.size) (by first | assumption | (simp; done) | (simp; omega) | omega)
      obtain ⟨cw2_0, fw2_0⟩ := hw2.row (k := w.heap.size) (by first | assumption | (simp; done) | (simp; omega) | omega)
      have kw2_1 := hw2.more (k := w.heap.size + 1) (by first | assumption | (simp; done) | (simp; omega) | omega)
      obtain ⟨cw2_1, fw2_1⟩ := hw2.row (k := w.heap.size + 1) (by first | assumption | (simp; done) | (simp; omega) | omega)
      have kw2_2 := hw2.more (k := w1.heap.size) (by first | assumption | (simp; done) | (simp; omega) | omega)
      obtain ⟨cw2_2, fw2_2⟩ := hw2.row (k := w1.heap.size) (by first | assumption | (simp; done) | (simp; omega) | omega)
      rw [hi]
      go_wp2_with fail
      refine (same_ext (isQuic_any _ _)).mono ?_
      rintro en wk ⟨rfl, hwk⟩
      have xwk : Ext w wk := (by repeat (first | with_reducible exact Ext.refl _ | with_reducible assumption | with_reducible refine Ext.alloc ?_ _ | with_reducible refine Ext.drew ?_ | with_reducible refine Ext.drewN ?_ _ | ((with_reducible refine Ext.set ?_ ?_ _); (focus (first | (simp; done) | (simp; omega)))) | with_reducible refine Ext.trans ?_ (by assumption)))
      have kwk_0 := hwk.more (k := w.heap.size) (by first | assumption | (simp; done) | (simp; omega) | omega)
      obtain ⟨cwk_0, fwk_0⟩ := hwk.row (k := w.heap.size) (by first | assumption | (simp; done) | (simp; omega) | omega)
      have kwk_1 := hwk.more (k := w.heap.size + 1) (by first | assumption | (simp; done) | (simp; omega) | omega)
      obtain ⟨cwk_1, fwk_1⟩ := hwk.row (k := w.heap.size + 1) (by first | assumption | (simp; done) | (simp; omega) | omega)
      have kwk_2 := hwk.more (k := w1.heap.size) (by first | assumption | (simp; done) | (simp; omega) | omega)
      obtain ⟨cwk_2, fwk_2⟩ := hwk.row (k := w1.heap.size) (by first | assumption | (simp; done) | (simp; omega) | omega)
      rw [hk]
      have hs2 : w1.heap.size < w2.heap.size := by have := hw2.size; simp at this; omega
      go_wp2
      refine bodyPost_ret (v := .tuple #[.agg #[.int .i64 st, .int .i64 nx, .slice ao1 cs.length cap1, .int .i64 fi, .int .i64 hg, .int .i64 co], .int .i64 7]) (by simp [results, Try.results31, go_sem, *]) rfl ⟨ao1, cap1, rfl, ?_, ?_⟩
      · refine OwnC.mono (OwnC.chg (S := fun k => k < w.heap.size + 2) ho1.out (by repeat (first | with_reducible exact Chg.refl _ _ | with_reducible assumption | with_reducible refine Chg.alloc ?_ _ | with_reducible refine Chg.drew ?_ | ((with_reducible refine Chg.set ?_ ?_ _); (focus (first | (left; simp; done) | (left; simp; omega) | (right; simp; done) | (right; simp; omega) | (right; omega)))) | with_reducible refine Chg.trans ?_ (Ext.chg hwk _) | with_reducible refine Chg.trans ?_ (Ext.chg hw2 _))) (fun b h1 h2 h3 => by omega)) (by omega) (by simp; omega)
      · exact (by repeat (first | with_reducible exact Ext.refl _ | with_reducible assumption | with_reducible refine Ext.alloc ?_ _ | with_reducible refine Ext.drew ?_ | with_reducible refine Ext.drewN ?_ _ | ((with_reducible refine Ext.set ?_ ?_ _); (focus (first | (simp; done) | (simp; omega)))) | with_reducible refine Ext.trans ?_ (by assumption)))
  · -- no
    rw [show rrE st nx fi hg co k f cs = 7 from by simp [rrE, rrOk, *]]
    have hn' := hide hn
    have hx' := hide hx
    have hw' := hide hw
    clear hn hx hw
    go_enter Try.func31, Try.ntmps31
    go_wp2_with fail
    refine (copyReceiver_any st nx fi hg co ao n ca cs _ (hx'.out.ext (by repeat (first | with_reducible exact Ext.refl _ | with_reducible assumption | with_reducible refine Ext.alloc ?_ _ | with_reducible refine Ext.drew ?_ | ((with_reducible refine Ext.set ?_ ?_ _); (focus (first | (simp; done) | (simp; omega) | omega)))))) hn'.out hl).mono ?_
    rintro en w1 ⟨ao1, cap1, rfl, ho1, hw1⟩
    have xw1 : Ext w w1 := (by repeat (first | with_reducible exact Ext.refl _ | with_reducible assumption | with_reducible refine Ext.alloc ?_ _ | with_reducible refine Ext.drew ?_ | with_reducible refine Ext.drewN ?_ _ | ((with_reducible refine Ext.set ?_ ?_ _); (focus (first | (simp; done) | (simp; omega)))) | with_reducible refine Ext.trans ?_ (by assumption)))
    have kw1_0 := hw1.more (k := w.heap.size) (by first | assumption | (simp; done) | (simp; omega) | omega)
    obtain ⟨cw1_0, fw1_0⟩ := hw1.row (k := w.heap.size) (by first | assumption | (simp; done) | (simp; omega) | omega)
    have kw1_1 := hw1.more (k := w.heap.size + 1) (by first | assumption | (simp; done) | (simp; omega) | omega)
    obtain ⟨cw1_1, fw1_1⟩ := hw1.row (k := w.heap.size + 1) (by first | assumption | (simp; done) | (simp; omega) | omega)
    replace ho1 := hide (OwnC.mono (lo' := w.heap.size + 2) ho1 (by simp) (Nat.le_refl _))
    have hs1 : w.heap.size + 2 ≤ w1.heap.size := by have := hw1.size; simpa using this
    go_wp2_with fail
    refine (IsReceiver_impl st nx fi hg co ao n ca cs _ (hx'.out.ext (by repeat (first | with_reducible exact Ext.refl _ | with_reducible assumption | with_reducible refine Ext.alloc ?_ _ | with_reducible refine Ext.drew ?_ | ((with_reducible refine Ext.set ?_ ?_ _); (focus (first | (simp; done) | (simp; omega) | omega))) | with_reducible refine Ext.trans ?_ hw1))) hn'.out (by omega) hw'.out hnx).mono ?_
    rintro en w2 ⟨rfl, hw2⟩
    have xw2 : Ext w w2 := (by repeat (first | with_reducible exact Ext.refl _ | with_reducible assumption | with_reducible refine Ext.alloc ?_ _ | with_reducible refine Ext.drew ?_ | with_reducible refine Ext.drewN ?_ _ | ((with_reducible refine Ext.set ?_ ?_ _); (focus (first | (simp; done) | (simp; omega)))) | with_reducible refine Ext.trans ?_ (by assumption)))
    have kw2_0 := hw2.more (k := w.heap.size) (by first | assumption | (simp; done) | (simp; omega) | omega)
    obtain ⟨cw2_0, fw2_0⟩ := hw2.row (k := w.heap.size) (by first | assumption | (simp; done) | (simp; omega) | omega)
    have kw2_1 := hw2.more (k := w.heap.size + 1) (by first | assumption | (simp; done) | (simp; omega) | omega)
    obtain ⟨cw2_1, fw2_1⟩ := hw2.row (k := w.heap.size + 1) (by first | assumption | (simp; done) | (simp; omega) | omega)
    have kw2_2 := hw2.more (k := w1.heap.size) (by first | assumption | (simp; done) | (simp; omega) | omega)
    obtain ⟨cw2_2, fw2_2⟩ := hw2.row (k := w1.heap.size) (by first | assumption | (simp; done) | (simp; omega) | omega)
    rw [hi]
    have hs2 : w1.heap.size < w2.heap.size := by have := hw2.size; simp at this; omega
    go_wp2
    refine bodyPost_ret (v := .tuple #[.agg #[.int .i64 st, .int .i64 nx, .slice ao1 cs.length cap1, .int .i64 fi, .int .i64 hg, .int .i64 co], .int .i64 7]) (by simp [results, Try.results31, go_sem, *]) rfl ⟨ao1, cap1, rfl, ?_, ?_⟩
    · refine OwnC.mono (OwnC.chg (S := fun k => k < w.heap.size + 2) ho1.out (by repeat (first | with_reducible exact Chg.refl _ _ | with_reducible assumption | with_reducible refine Chg.alloc ?_ _ | with_reducible refine Chg.drew ?_ | ((with_reducible refine Chg.set ?_ ?_ _); (focus (first | (left; simp; done) | (left; simp; omega) | (right; simp; done) | (right; simp; omega) | (right; omega)))) | with_reducible refine Chg.trans ?_ (Ext.chg hw2 _))) (fun b h1 h2 h3 => by omega)) (by omega) (by simp; omega)
    · exact (by repeat (first | with_reducible exact Ext.refl _ | with_reducible assumption | with_reducible refine Ext.alloc ?_ _ | with_reducible refine Ext.drew ?_ | with_reducible refine Ext.drewN ?_ _ | ((with_reducible refine Ext.set ?_ ?_ _); (focus (first | (simp; done) | (simp; omega)))) | with_reducible refine Ext.trans ?_ (by assumption)))
set_option maxHeartbeats 4000000 in
set_option maxRecDepth 100000 in
theorem ReceiveReset_impl_yes (st nx fi hg co k f : Int) (ao : Option Addr) (n ca : Nat) (cs : List Ck) (w : World) (hx : ReadC w ao cs) (hn : cs.length = n) (hl : n ≤ 1048576) (hw : WfC cs) (hnx : -9223372036854775808 ≤ nx ∧ nx ≤ 9223372036854775807) (hgo : rrGo st nx fi hg co k f cs = true) :
    Calls Try.prog 31 #[.agg #[.int .i64 st, .int .i64 nx, .slice ao n ca, .int .i64 fi, .int .i64 hg, .int .i64 co], .int .i64 k, .int .i64 f] w (RecvRes 4 nx f f k [] (.int .i64 0) w) := by
  have hgo' := hgo
  simp only [rrGo, rrOk, Bool.and_eq_true, Bool.not_eq_true'] at hgo'
  obtain ⟨⟨hi, hk, hf⟩, hcn, htk⟩ := hgo'
  have hgt : decide (1 < st) = false := by
    simp only [Bool.or_eq_true, beq_iff_eq] at htk
    simp; omega
  clear hgo
  have hn' := hide hn
  have hx' := hide hx
  have hw' := hide hw
  clear hn hx hw
  go_enter Try.func31, Try.ntmps31
  go_wp2_with fail
  refine (copyReceiver_any st nx fi hg co ao n ca cs _ (hx'.out.ext (by repeat (first | with_reducible exact Ext.refl _ | with_reducible assumption | with_reducible refine Ext.alloc ?_ _ | with_reducible refine Ext.drew ?_ | ((with_reducible refine Ext.set ?_ ?_ _); (focus (first | (simp; done) | (simp; omega) | omega)))))) hn'.out hl).mono ?_
  rintro en w1 ⟨ao1, cap1, rfl, ho1, hw1⟩
  have xw1 : Ext w w1 := (by repeat (first | with_reducible exact Ext.refl _ | with_reducible assumption | with_reducible refine Ext.alloc ?_ _ | with_reducible refine Ext.drew ?_ | with_reducible refine Ext.drewN ?_ _ | ((with_reducible refine Ext.set ?_ ?_ _); (focus (first | (simp; done) | (simp; omega)))) | with_reducible refine Ext.trans ?_ (by assumption)))
  have kw1_0 := hw1.more (k := w.heap.size) (by first | assumption | (simp; done) | (simp; omega) | omega)
  obtain ⟨cw1_0, fw1_0⟩ := hw1.row (k := w.heap.size) (by first | assumption | (simp; done) | (simp; omega) | omega)
  have kw1_1 := hw1.more (k := w.heap.size + 1) (by first | assumption | (simp; done) | (simp; omega) | omega)
  obtain ⟨cw1_1, fw1_1⟩ := hw1.row (k := w.heap.size + 1) (by first | assumption | (simp; done) | (simp; omega) | omega)
  replace ho1 := hide (OwnC.mono (lo' := w.heap.size + 2) ho1 (by simp) (Nat.le_refl _))
  have hs1 : w.heap.size + 2 ≤ w1.heap.size := by have := hw1.size; simpa using this
  go_wp2_with fail
  refine (IsReceiver_impl st nx fi hg co ao n ca cs _ (hx'.out.ext (by repeat (first | with_reducible exact Ext.refl _ | with_reducible assumption | with_reducible refine Ext.alloc ?_ _ | with_reducible refine Ext.drew ?_ | ((with_reducible refine Ext.set ?_ ?_ _); (focus (first | (simp; done) | (simp; omega) | omega))) | with_reducible refine Ext.trans ?_ hw1))) hn'.out (by omega) hw'.out hnx).mono ?_
  rintro en w2 ⟨rfl, hw2⟩
  have xw2 : Ext w w2 := (by repeat (first | with_reducible exact Ext.refl _ | with_reducible assumption | with_reducible refine Ext.alloc ?_ _ | with_reducible refine Ext.drew ?_ | with_reducible refine Ext.drewN ?_ _ | ((with_reducible refine Ext.set ?_ ?_ _); (focus (first | (simp; done) | (simp; omega)))) | with_reducible refine Ext.trans ?_ (by assumption)))
  have kw2_0 := hw2.more (k := w.heap.size) (by first | assumption | (simp; done) | (simp; omega) | omega)
  obtain ⟨cw2_0, fw2_0⟩ := hw2.row (k := w.heap.size) (by first | assumption | (simp; done) | (simp; omega) | omega)
  have kw2_1 := hw2.more (k := w.heap.size + 1) (by first | assumption | (simp; done) | (simp; omega) | omega)
  obtain ⟨cw2_1, fw2_1⟩ := hw2.row (k := w.heap.size + 1) (by first | assumption | (simp; done) | (simp; omega) | omega)
  have kw2_2 := hw2.more (k := w1.heap.size) (by first | assumption | (simp; done) | (simp; omega) | omega)
  obtain ⟨cw2_2, fw2_2⟩ := hw2.row (k := w1.heap.size) (by first | assumption | (simp; done) | (simp; omega) | omega)
  rw [hi]
  go_wp2_with fail
  refine (same_ext (isQuic_any _ _)).mono ?_
  rintro en wk ⟨rfl, hwk⟩
  have xwk : Ext w wk := (by repeat (first | with_reducible exact Ext.refl _ | with_reducible assumption | with_reducible refine Ext.alloc ?_ _ | with_reducible refine Ext.drew ?_ | with_reducible refine Ext.drewN ?_ _ | ((with_reducible refine Ext.set ?_ ?_ _); (focus (first | (simp; done) | (simp; omega)))) | with_reducible refine Ext.trans ?_ (by assumption)))
  have kwk_0 := hwk.more (k := w.heap.size) (by first | assumption | (simp; done) | (simp; omega) | omega)
  obtain ⟨cwk_0, fwk_0⟩ := hwk.row (k := w.heap.size) (by first | assumption | (simp; done) | (simp; omega) | omega)
  have kwk_1 := hwk.more (k := w.heap.size + 1) (by first | assumption | (simp; done) | (simp; omega) | omega)
  obtain ⟨cwk_1, fwk_1⟩ := hwk.row (k := w.heap.size + 1) (by first | assumption | (simp; done) | (simp; omega) | omega)
  have kwk_2 := hwk.more (k := w1.heap.size) (by first | assumption | (simp; done) | (simp; omega) | omega)
  obtain ⟨cwk_2, fwk_2⟩ := hwk.row (k := w1.heap.size) (by first | assumption | (simp; done) | (simp; omega) | omega)
  rw [hk]
  go_wp2_with fail
  refine (same_ext (isQuic_any _ _)).mono ?_
  rintro en wf ⟨rfl, hwf⟩
  have xwf : Ext w wf := (by repeat (first | with_reducible exact Ext.refl _ | with_reducible assumption | with_reducible refine Ext.alloc ?_ _ | with_reducible refine Ext.drew ?_ | with_reducible refine Ext.drewN ?_ _ | ((with_reducible refine Ext.set ?_ ?_ _); (focus (first | (simp; done) | (simp; omega)))) | with_reducible refine Ext.trans ?_ (by assumption)))
  have kwf_0 := hwf.more (k := w.heap.size) (by first | assumption | (simp; done) | (simp; omega) | omega)
  obtain ⟨cwf_0, fwf_0⟩ := hwf.row (k := w.heap.size) (by first | assumption | (simp; done) | (simp; omega) | omega)
  have kwf_1 := hwf.more (k := w.heap.size + 1) (by first | assumption | (simp; done) | (simp; omega) | omega)
  obtain ⟨cwf_1, fwf_1⟩ := hwf.row (k := w.heap.size + 1) (by first | assumption | (simp; done) | (simp; omega) | omega)
  have kwf_2 := hwf.more (k := w1.heap.size) (by first | assumption | (simp; done) | (simp; omega) | omega)
  obtain ⟨cwf_2, fwf_2⟩ := hwf.row (k := w1.heap.size) (by first | assumption | (simp; done) | (simp; omega) | omega)
  rw [hf]
  have hs2 : w1.heap.size < w2.heap.size := by have := hw2.size; simp at this; omega
  go_wp2_with fail
  refine (contradicts_any st nx fi hg co f true ao n ca _).mono ?_
  rintro en w3 ⟨rfl, hw3⟩
  have xw3 : Ext w w3 := (by repeat (first | with_reducible exact Ext.refl _ | with_reducible assumption | with_reducible refine Ext.alloc ?_ _ | with_reducible refine Ext.drew ?_ | with_reducible refine Ext.drewN ?_ _ | ((with_reducible refine Ext.set ?_ ?_ _); (focus (first | (simp; done) | (simp; omega)))) | with_reducible refine Ext.trans ?_ (by assumption)))
  have kw3_0 := hw3.more (k := w.heap.size) (by first | assumption | (simp; done) | (simp; omega) | omega)
  obtain ⟨cw3_0, fw3_0⟩ := hw3.row (k := w.heap.size) (by first | assumption | (simp; done) | (simp; omega) | omega)
  have kw3_1 := hw3.more (k := w.heap.size + 1) (by first | assumption | (simp; done) | (simp; omega) | omega)
  obtain ⟨cw3_1, fw3_1⟩ := hw3.row (k := w.heap.size + 1) (by first | assumption | (simp; done) | (simp; omega) | omega)
  have kw3_2 := hw3.more (k := w1.heap.size) (by first | assumption | (simp; done) | (simp; omega) | omega)
  obtain ⟨cw3_2, fw3_2⟩ := hw3.row (k := w1.heap.size) (by first | assumption | (simp; done) | (simp; omega) | omega)
  rw [hcn]
  go_wp2_with fail
  refine (takes_any st nx fi hg co ao n ca _).mono ?_
  rintro en w4 ⟨rfl, hw4⟩
  have xw4 : Ext w w4 := (by repeat (first | with_reducible exact Ext.refl _ | with_reducible assumption | with_reducible refine Ext.alloc ?_ _ | with_reducible refine Ext.drew ?_ | with_reducible refine Ext.drewN ?_ _ | ((with_reducible refine Ext.set ?_ ?_ _); (focus (first | (simp; done) | (simp; omega)))) | with_reducible refine Ext.trans ?_ (by assumption)))
  have kw4_0 := hw4.more (k := w.heap.size) (by first | assumption | (simp; done) | (simp; omega) | omega)
  obtain ⟨cw4_0, fw4_0⟩ := hw4.row (k := w.heap.size) (by first | assumption | (simp; done) | (simp; omega) | omega)
  have kw4_1 := hw4.more (k := w.heap.size + 1) (by first | assumption | (simp; done) | (simp; omega) | omega)
  obtain ⟨cw4_1, fw4_1⟩ := hw4.row (k := w.heap.size + 1) (by first | assumption | (simp; done) | (simp; omega) | omega)
  have kw4_2 := hw4.more (k := w1.heap.size) (by first | assumption | (simp; done) | (simp; omega) | omega)
  obtain ⟨cw4_2, fw4_2⟩ := hw4.row (k := w1.heap.size) (by first | assumption | (simp; done) | (simp; omega) | omega)
  rw [htk]
  go_wp2
  refine bodyPost_ret (v := .tuple #[.agg #[.int .i64 4, .int .i64 nx, .slice none 0 0, .int .i64 f, .int .i64 f, .int .i64 k], .int .i64 0]) (by simp [results, Try.results31, go_sem, *]) rfl ⟨none, 0, rfl, Or.inl rfl, (by repeat (first | with_reducible exact Ext.refl _ | with_reducible assumption | with_reducible refine Ext.alloc ?_ _ | with_reducible refine Ext.drew ?_ | with_reducible refine Ext.drewN ?_ _ | ((with_reducible refine Ext.set ?_ ?_ _); (focus (first | (simp; done) | (simp; omega)))) | with_reducible refine Ext.trans ?_ (by assumption)))⟩
set_option maxHeartbeats 4000000 in
set_option maxRecDepth 100000 in
theorem ReceiveReset_spec_no (st nx fi hg co k f : Int) (ao : Option Addr) (n ca : Nat) (cs : List Ck) (w : World) (hx : ReadC w ao cs) (hn : cs.length = n) (hl : n ≤ 1048576) (hw : WfC cs) (hnx : -9223372036854775808 ≤ nx ∧ nx ≤ 9223372036854775807) (hgo : rrGo st nx fi hg co k f cs = false) :
    Calls Try.prog 30 #[.agg #[.int .i64 st, .int .i64 nx, .slice ao n ca, .int .i64 fi, .int .i64 hg, .int .i64 co], .int .i64 k, .int .i64 f] w (RecvRes st nx fi hg co cs (.int .i64 (rrE st nx fi hg co k f cs)) w) := by
  rcases Bool.eq_false_or_eq_true (recvIs st nx fi hg co cs) with hi | hi
  · -- yes
    rcases Bool.eq_false_or_eq_true (inB 0 k 4611686018427387903) with hk | hk
    · -- yes
      rcases Bool.eq_false_or_eq_true (inB 0 f 4611686018427387903) with hf | hf
      · -- yes
        rcases Bool.eq_false_or_eq_true (contra fi hg f true) with hcn | hcn
        · -- yes
          rw [show rrE st nx fi hg co k f cs = 6 from by simp [rrE, rrOk, *]]
          have hn' := hide hn
          have hx' := hide hx
          have hw' := hide hw
          clear hn hx hw
          go_enter Try.func30, Try.ntmps30
          go_wp2_with fail
          refine (l7Copy_any st nx fi hg co ao n ca cs _ (hx'.out.ext (by repeat (first | with_reducible exact Ext.refl _ | with_reducible assumption | with_reducible refine Ext.alloc ?_ _ | with_reducible refine Ext.drew ?_ | ((with_reducible refine Ext.set ?_ ?_ _); (focus (first | (simp; done) | (simp; omega) | omega)))))) hn'.out hl).mono ?_
          rintro en w1 ⟨ao1, cap1, rfl, ho1, hw1⟩
          have xw1 : Ext w w1 := (by repeat (first | with_reducible exact Ext.refl _ | with_reducible assumption | with_reducible refine Ext.alloc ?_ _ | with_reducible refine Ext.drew ?_ | with_reducible refine Ext.drewN ?_ _ | ((with_reducible refine Ext.set ?_ ?_ _); (focus (first | (simp; done) | (simp; omega)))) | with_reducible refine Ext.trans ?_ (by assumption)))
          have kw1_0 := hw1.more (k := w.heap.size) (by first | assumption | (simp; done) | (simp; omega) | omega)
          obtain ⟨cw1_0, fw1_0⟩ := hw1.row (k := w.heap.size) (by first | assumption | (simp; done) | (simp; omega) | omega)
          have kw1_1 := hw1.more (k := w.heap.size + 1) (by first | assumption | (simp; done) | (simp; omega) | omega)
          obtain ⟨cw1_1, fw1_1⟩ := hw1.row (k := w.heap.size + 1) (by first | assumption | (simp; done) | (simp; omega) | omega)
          replace ho1 := hide (OwnC.mono (lo' := w.heap.size + 2) ho1 (by simp) (Nat.le_refl _))
          have hs1 : w.heap.size + 2 ≤ w1.heap.size := by have := hw1.size; simpa using this
          go_wp2_with fail
          refine (IsReceiver_spec st nx fi hg co ao n ca cs _ (hx'.out.ext (by repeat (first | with_reducible exact Ext.refl _ | with_reducible assumption | with_reducible refine Ext.alloc ?_ _ | with_reducible refine Ext.drew ?_ | ((with_reducible refine Ext.set ?_ ?_ _); (focus (first | (simp; done) | (simp; omega) | omega))) | with_reducible refine Ext.trans ?_ hw1))) hn'.out (by omega) hw'.out hnx).mono ?_
          rintro en w2 ⟨rfl, hw2⟩
          have xw2 : Ext w w2 := (by repeat (first | with_reducible exact Ext.refl _ | with_reducible assumption | with_reducible refine Ext.alloc ?_ _ | with_reducible refine Ext.drew ?_ | with_reducible refine Ext.drewN ?_ _ | ((with_reducible refine Ext.set ?_ ?_ _); (focus (first | (simp; done) | (simp; omega)))) | with_reducible refine Ext.trans ?_ (by assumption)))
          have kw2_0 := hw2.more (k := w.heap.size) (by first | assumption | (simp; done) | (simp; omega) | omega)
          obtain ⟨cw2_0, fw2_0⟩ := hw2.row (k := w.heap.size) (by first | assumption | (simp; done) | (simp; omega) | omega)
          have kw2_1 := hw2.more (k := w.heap.size + 1) (by first | assumption | (simp; done) | (simp; omega) | omega)
          obtain ⟨cw2_1, fw2_1⟩ := hw2.row (k := w.heap.size + 1) (by first | assumption | (simp; done) | (simp; omega) | omega)
          have kw2_2 := hw2.more (k := w1.heap.size) (by first | assumption | (simp; done) | (simp; omega) | omega)
          obtain ⟨cw2_2, fw2_2⟩ := hw2.row (k := w1.heap.size) (by first | assumption | (simp; done) | (simp; omega) | omega)
          rw [hi]
          go_wp2_with fail
          refine (same_ext (l4Quic_any _ _)).mono ?_
          rintro en wk ⟨rfl, hwk⟩
          have xwk : Ext w wk := (by repeat (first | with_reducible exact Ext.refl _ | with_reducible assumption | with_reducible refine Ext.alloc ?_ _ | with_reducible refine Ext.drew ?_ | with_reducible refine Ext.drewN ?_ _ | ((with_reducible refine Ext.set ?_ ?_ _); (focus (first | (simp; done) | (simp; omega)))) | with_reducible refine Ext.trans ?_ (by assumption)))
          have kwk_0 := hwk.more (k := w.heap.size) (by first | assumption | (simp; done) | (simp; omega) | omega)
          obtain ⟨cwk_0, fwk_0⟩ := hwk.row (k := w.heap.size) (by first | assumption | (simp; done) | (simp; omega) | omega)
          have kwk_1 := hwk.more (k := w.heap.size + 1) (by first | assumption | (simp; done) | (simp; omega) | omega)
          obtain ⟨cwk_1, fwk_1⟩ := hwk.row (k := w.heap.size + 1) (by first | assumption | (simp; done) | (simp; omega) | omega)
          have kwk_2 := hwk.more (k := w1.heap.size) (by first | assumption | (simp; done) | (simp; omega) | omega)
          obtain ⟨cwk_2, fwk_2⟩ := hwk.row (k := w1.heap.size) (by first | assumption | (simp; done) | (simp; omega) | omega)
          rw [hk]
          go_wp2_with fail
          refine (same_ext (l4Quic_any _ _)).mono ?_
          rintro en wf ⟨rfl, hwf⟩
          have xwf : Ext w wf := (by repeat (first | with_reducible exact Ext.refl _ | with_reducible assumption | with_reducible refine Ext.alloc ?_ _ | with_reducible refine Ext.drew ?_ | with_reducible refine Ext.drewN ?_ _ | ((with_reducible refine Ext.set ?_ ?_ _); (focus (first | (simp; done) | (simp; omega)))) | with_reducible refine Ext.trans ?_ (by assumption)))
          have kwf_0 := hwf.more (k := w.heap.size) (by first | assumption | (simp; done) | (simp; omega) | omega)
          obtain ⟨cwf_0, fwf_0⟩ := hwf.row (k := w.heap.size) (by first | assumption | (simp; done) | (simp; omega) | omega)
          have kwf_1 := hwf.more (k := w.heap.size + 1) (by first | assumption | (simp; done) | (simp; omega) | omega)
          obtain ⟨cwf_1, fwf_1⟩ := hwf.row (k := w.heap.size + 1) (by first | assumption | (simp; done) | (simp; omega) | omega)
          have kwf_2 := hwf.more (k := w1.heap.size) (by first | assumption | (simp; done) | (simp; omega) | omega)
          obtain ⟨cwf_2, fwf_2⟩ := hwf.row (k := w1.heap.size) (by first | assumption | (simp; done) | (simp; omega) | omega)
          rw [hf]
          have hs2 : w1.heap.size < w2.heap.size := by have := hw2.size; simp at this; omega
          go_wp2_with fail
          refine (l7Final_any st nx fi hg co f true ao n ca _).mono ?_
          rintro en w3 ⟨rfl, hw3⟩
          have xw3 : Ext w w3 := (by repeat (first | with_reducible exact Ext.refl _ | with_reducible assumption | with_reducible refine Ext.alloc ?_ _ | with_reducible refine Ext.drew ?_ | with_reducible refine Ext.drewN ?_ _ | ((with_reducible refine Ext.set ?_ ?_ _); (focus (first | (simp; done) | (simp; omega)))) | with_reducible refine Ext.trans ?_ (by assumption)))
          have kw3_0 := hw3.more (k := w.heap.size) (by first | assumption | (simp; done) | (simp; omega) | omega)
          obtain ⟨cw3_0, fw3_0⟩ := hw3.row (k := w.heap.size) (by first | assumption | (simp; done) | (simp; omega) | omega)
          have kw3_1 := hw3.more (k := w.heap.size + 1) (by first | assumption | (simp; done) | (simp; omega) | omega)
          obtain ⟨cw3_1, fw3_1⟩ := hw3.row (k := w.heap.size + 1) (by first | assumption | (simp; done) | (simp; omega) | omega)
          have kw3_2 := hw3.more (k := w1.heap.size) (by first | assumption | (simp; done) | (simp; omega) | omega)
          obtain ⟨cw3_2, fw3_2⟩ := hw3.row (k := w1.heap.size) (by first | assumption | (simp; done) | (simp; omega) | omega)
          rw [hcn]
          simp only [finE, if_true, if_false, Bool.false_eq_true]
          go_wp2
          refine bodyPost_ret (v := .tuple #[.agg #[.int .i64 st, .int .i64 nx, .slice ao1 cs.length cap1, .int .i64 fi, .int .i64 hg, .int .i64 co], .int .i64 6]) (by simp [results, Try.results30, go_sem, *]) rfl ⟨ao1, cap1, rfl, ?_, ?_⟩
          · refine OwnC.mono (OwnC.chg (S := fun k => k < w.heap.size + 2) ho1.out (by repeat (first | with_reducible exact Chg.refl _ _ | with_reducible assumption | with_reducible refine Chg.alloc ?_ _ | with_reducible refine Chg.drew ?_ | ((with_reducible refine Chg.set ?_ ?_ _); (focus (first | (left; simp; done) | (left; simp; omega) | (right; simp; done) | (right; simp; omega) | (right; omega)))) | with_reducible refine Chg.trans ?_ (Ext.chg hw3 _) | with_reducible refine Chg.trans ?_ (Ext.chg hwf _) | with_reducible refine Chg.trans ?_ (Ext.chg hwk _) | with_reducible refine Chg.trans ?_ (Ext.chg hw2 _))) (fun b h1 h2 h3 => by omega)) (by omega) (by simp; omega)
          · exact (by repeat (first | with_reducible exact Ext.refl _ | with_reducible assumption | with_reducible refine Ext.alloc ?_ _ | with_reducible refine Ext.drew ?_ | with_reducible refine Ext.drewN ?_ _ | ((with_reducible refine Ext.set ?_ ?_ _); (focus (first | (simp; done) | (simp; omega)))) | with_reducible refine Ext.trans ?_ (by assumption)))
        · -- no
          by_cases s0 : st = 0
          · -- equal
            have s0e : (st == 0) = true := by simp [s0]
            have s0n : (st != 0) = false := by simp [s0]
            have s0H := hide s0
            clear s0
            simp [rrGo, rrOk, *] at hgo
          · -- other
            have s0e : (st == 0) = false := by simp [s0]
            have s0n : (st != 0) = true := by simp [s0]
            have s0H := hide s0
            clear s0
            by_cases s1 : st = 1
            · -- equal
              have s1e : (st == 1) = true := by simp [s1]
              have s1n : (st != 1) = false := by simp [s1]
              have s1H := hide s1
              clear s1
              simp [rrGo, rrOk, *] at hgo
            · -- other
              have s1e : (st == 1) = false := by simp [s1]
              have s1n : (st != 1) = true := by simp [s1]
              have s1H := hide s1
              clear s1
              obtain ⟨t0, t5⟩ := recvIs_st hi
              have htk : (st == 0 || st == 1) = false := by simp [*]
              have hgt : decide (1 < st) = true := by
                have := s0H.out
                have := s1H.out
                simp; omega
              clear hgo
              rw [show rrE st nx fi hg co k f cs = 0 from by simp [rrE, rrOk, *]]
              have hn' := hide hn
              have hx' := hide hx
              have hw' := hide hw
              clear hn hx hw
              go_enter Try.func30, Try.ntmps30
              go_wp2_with fail
              refine (l7Copy_any st nx fi hg co ao n ca cs _ (hx'.out.ext (by repeat (first | with_reducible exact Ext.refl _ | with_reducible assumption | with_reducible refine Ext.alloc ?_ _ | with_reducible refine Ext.drew ?_ | ((with_reducible refine Ext.set ?_ ?_ _); (focus (first | (simp; done) | (simp; omega) | omega)))))) hn'.out hl).mono ?_
              rintro en w1 ⟨ao1, cap1, rfl, ho1, hw1⟩
              have xw1 : Ext w w1 := (by repeat (first | with_reducible exact Ext.refl _ | with_reducible assumption | with_reducible refine Ext.alloc ?_ _ | with_reducible refine Ext.drew ?_ | with_reducible refine Ext.drewN ?_ _ | ((with_reducible refine Ext.set ?_ ?_ _); (focus (first | (simp; done) | (simp; omega)))) | with_reducible refine Ext.trans ?_ (by assumption)))
              have kw1_0 := hw1.more (k := w.heap.size) (by first | assumption | (simp; done) | (simp; omega) | omega)
              obtain ⟨cw1_0, fw1_0⟩ := hw1.row (k := w.heap.size) (by first | assumption | (simp; done) | (simp; omega) | omega)
              have kw1_1 := hw1.more (k := w.heap.size + 1) (by first | assumption | (simp; done) | (simp; omega) | omega)
              obtain ⟨cw1_1, fw1_1⟩ := hw1.row (k := w.heap.size + 1) (by first | assumption | (simp; done) | (simp; omega) | omega)
              replace ho1 := hide (OwnC.mono (lo' := w.heap.size + 2) ho1 (by simp) (Nat.le_refl _))
              have hs1 : w.heap.size + 2 ≤ w1.heap.size := by have := hw1.size; simpa using this
              go_wp2_with fail
              refine (IsReceiver_spec st nx fi hg co ao n ca cs _ (hx'.out.ext (by repeat (first | with_reducible exact Ext.refl _ | with_reducible assumption | with_reducible refine Ext.alloc ?_ _ | with_reducible refine Ext.drew ?_ | ((with_reducible refine Ext.set ?_ ?_ _); (focus (first | (simp; done) | (simp; omega) | omega))) | with_reducible refine Ext.trans ?_ hw1))) hn'.out (by omega) hw'.out hnx).mono ?_
              rintro en w2 ⟨rfl, hw2⟩
              have xw2 : Ext w w2 := (by repeat (first | with_reducible exact Ext.refl _ | with_reducible assumption | with_reducible refine Ext.alloc ?_ _ | with_reducible refine Ext.drew ?_ | with_reducible refine Ext.drewN ?_ _ | ((with_reducible refine Ext.set ?_ ?_ _); (focus (first | (simp; done) | (simp; omega)))) | with_reducible refine Ext.trans ?_ (by assumption)))
              have kw2_0 := hw2.more (k := w.heap.size) (by first | assumption | (simp; done) | (simp; omega) | omega)
              obtain ⟨cw2_0, fw2_0⟩ := hw2.row (k := w.heap.size) (by first | assumption | (simp; done) | (simp; omega) | omega)
              have kw2_1 := hw2.more (k := w.heap.size + 1) (by first | assumption | (simp; done) | (simp; omega) | omega)
              obtain ⟨cw2_1, fw2_1⟩ := hw2.row (k := w.heap.size + 1) (by first | assumption | (simp; done) | (simp; omega) | omega)
              have kw2_2 := hw2.more (k := w1.heap.size) (by first | assumption | (simp; done) | (simp; omega) | omega)
              obtain ⟨cw2_2, fw2_2⟩ := hw2.row (k := w1.heap.size) (by first | assumption | (simp; done) | (simp; omega) | omega)
              rw [hi]
              go_wp2_with fail
              refine (same_ext (l4Quic_any _ _)).mono ?_
              rintro en wk ⟨rfl, hwk⟩
              have xwk : Ext w wk := (by repeat (first | with_reducible exact Ext.refl _ | with_reducible assumption | with_reducible refine Ext.alloc ?_ _ | with_reducible refine Ext.drew ?_ | with_reducible refine Ext.drewN ?_ _ | ((with_reducible refine Ext.set ?_ ?_ _); (focus (first | (simp; done) | (simp; omega)))) | with_reducible refine Ext.trans ?_ (by assumption)))
              have kwk_0 := hwk.more (k := w.heap.size) (by first | assumption | (simp; done) | (simp; omega) | omega)
              obtain ⟨cwk_0, fwk_0⟩ := hwk.row (k := w.heap.size) (by first | assumption | (simp; done) | (simp; omega) | omega)
              have kwk_1 := hwk.more (k := w.heap.size + 1) (by first | assumption | (simp; done) | (simp; omega) | omega)
              obtain ⟨cwk_1, fwk_1⟩ := hwk.row (k := w.heap.size + 1) (by first | assumption | (simp; done) | (simp; omega) | omega)
              have kwk_2 := hwk.more (k := w1.heap.size) (by first | assumption | (simp; done) | (simp; omega) | omega)
              obtain ⟨cwk_2, fwk_2⟩ := hwk.row (k := w1.heap.size) (by first | assumption | (simp; done) | (simp; omega) | omega)
              rw [hk]
              go_wp2_with fail
              refine (same_ext (l4Quic_any _ _)).mono ?_
              rintro en wf ⟨rfl, hwf⟩
              have xwf : Ext w wf := (by repeat (first | with_reducible exact Ext.refl _ | with_reducible assumption | with_reducible refine Ext.alloc ?_ _ | with_reducible refine Ext.drew ?_ | with_reducible refine Ext.drewN ?_ _ | ((with_reducible refine Ext.set ?_ ?_ _); (focus (first | (simp; done) | (simp; omega)))) | with_reducible refine Ext.trans ?_ (by assumption)))
              have kwf_0 := hwf.more (k := w.heap.size) (by first | assumption | (simp; done) | (simp; omega) | omega)
              obtain ⟨cwf_0, fwf_0⟩ := hwf.row (k := w.heap.size) (by first | assumption | (simp; done) | (simp; omega) | omega)
              have kwf_1 := hwf.more (k := w.heap.size + 1) (by first | assumption | (simp; done) | (simp; omega) | omega)
              obtain ⟨cwf_1, fwf_1⟩ := hwf.row (k := w.heap.size + 1) (by first | assumption | (simp; done) | (simp; omega) | omega)
              have kwf_2 := hwf.more (k := w1.heap.size) (by first | assumption | (simp; done) | (simp; omega) | omega)
              obtain ⟨cwf_2, fwf_2⟩ := hwf.row (k := w1.heap.size) (by first | assumption | (simp; done) | (simp; omega) | omega)
              rw [hf]
              have hs2 : w1.heap.size < w2.heap.size := by have := hw2.size; simp at this; omega
              go_wp2_with fail
              refine (l7Final_any st nx fi hg co f true ao n ca _).mono ?_
              rintro en w3 ⟨rfl, hw3⟩
              have xw3 : Ext w w3 := (by repeat (first | with_reducible exact Ext.refl _ | with_reducible assumption | with_reducible refine Ext.alloc ?_ _ | with_reducible refine Ext.drew ?_ | with_reducible refine Ext.drewN ?_ _ | ((with_reducible refine Ext.set ?_ ?_ _); (focus (first | (simp; done) | (simp; omega)))) | with_reducible refine Ext.trans ?_ (by assumption)))
              have kw3_0 := hw3.more (k := w.heap.size) (by first | assumption | (simp; done) | (simp; omega) | omega)
              obtain ⟨cw3_0, fw3_0⟩ := hw3.row (k := w.heap.size) (by first | assumption | (simp; done) | (simp; omega) | omega)
              have kw3_1 := hw3.more (k := w.heap.size + 1) (by first | assumption | (simp; done) | (simp; omega) | omega)
              obtain ⟨cw3_1, fw3_1⟩ := hw3.row (k := w.heap.size + 1) (by first | assumption | (simp; done) | (simp; omega) | omega)
              have kw3_2 := hw3.more (k := w1.heap.size) (by first | assumption | (simp; done) | (simp; omega) | omega)
              obtain ⟨cw3_2, fw3_2⟩ := hw3.row (k := w1.heap.size) (by first | assumption | (simp; done) | (simp; omega) | omega)
              rw [hcn]
              simp only [finE, if_true, if_false, Bool.false_eq_true]
              go_wp2
              refine bodyPost_ret (v := .tuple #[.agg #[.int .i64 st, .int .i64 nx, .slice ao1 cs.length cap1, .int .i64 fi, .int .i64 hg, .int .i64 co], .int .i64 0]) (by simp [results, Try.results30, go_sem, *]) rfl ⟨ao1, cap1, rfl, ?_, ?_⟩
              · refine OwnC.mono (OwnC.chg (S := fun k => k < w.heap.size + 2) ho1.out (by repeat (first | with_reducible exact Chg.refl _ _ | with_reducible assumption | with_reducible refine Chg.alloc ?_ _ | with_reducible refine Chg.drew ?_ | ((with_reducible refine Chg.set ?_ ?_ _); (focus (first | (left; simp; done) | (left; simp; omega) | (right; simp; done) | (right; simp; omega) | (right; omega)))) | with_reducible refine Chg.trans ?_ (Ext.chg hw3 _) | with_reducible refine Chg.trans ?_ (Ext.chg hwf _) | with_reducible refine Chg.trans ?_ (Ext.chg hwk _) | with_reducible refine Chg.trans ?_ (Ext.chg hw2 _))) (fun b h1 h2 h3 => by omega)) (by omega) (by simp; omega)
              · exact (by repeat (first | with_reducible exact Ext.refl _ | with_reducible assumption | with_reducible refine Ext.alloc ?_ _ | with_reducible refine Ext.drew ?_ | with_reducible refine Ext.drewN ?_ _ | ((with_reducible refine Ext.set ?_ ?_ _); (focus (first | (simp; done) | (simp; omega)))) | with_reducible refine Ext.trans ?_ (by assumption)))
      · -- no
        rw [show rrE st nx fi hg co k f cs = 7 from by simp [rrE, rrOk, *]]
        have hn' := hide hn
        have hx' := hide hx
        have hw' := hide hw
        clear hn hx hw
        go_enter Try.func30, Try.ntmps30
        go_wp2_with fail
        refine (l7Copy_any st nx fi hg co ao n ca cs _ (hx'.out.ext (by repeat (first | with_reducible exact Ext.refl _ | with_reducible assumption | with_reducible refine Ext.alloc ?_ _ | with_reducible refine Ext.drew ?_ | ((with_reducible refine Ext.set ?_ ?_ _); (focus (first | (simp; done) | (simp; omega) | omega)))))) hn'.out hl).mono ?_
        rintro en w1 ⟨ao1, cap1, rfl, ho1, hw1⟩
        have xw1 : Ext w w1 := (by repeat (first | with_reducible exact Ext.refl _ | with_reducible assumption | with_reducible refine Ext.alloc ?_ _ | with_reducible refine Ext.drew ?_ | with_reducible refine Ext.drewN ?_ _ | ((with_reducible refine Ext.set ?_ ?_ _); (focus (first | (simp; done) | (simp; omega)))) | with_reducible refine Ext.trans ?_ (by assumption)))
        have kw1_0 := hw1.more (k := w.heap.size) (by first | assumption | (simp; done) | (simp; omega) | omega)
        obtain ⟨cw1_0, fw1_0⟩ := hw1.row (k := w.heap.size) (by first | assumption | (simp; done) | (simp; omega) | omega)
        have kw1_1 := hw1.more (k := w.heap.size + 1) (by first | assumption | (simp; done) | (simp; omega) | omega)
        obtain ⟨cw1_1, fw1_1⟩ := hw1.row (k := w.heap.size + 1) (by first | assumption | (simp; done) | (simp; omega) | omega)
        replace ho1 := hide (OwnC.mono (lo' := w.heap.size + 2) ho1 (by simp) (Nat.le_refl _))
        have hs1 : w.heap.size + 2 ≤ w1.heap.size := by have := hw1.size; simpa using this
        go_wp2_with fail
        refine (IsReceiver_spec st nx fi hg co ao n ca cs _ (hx'.out.ext (by repeat (first | with_reducible exact Ext.refl _ | with_reducible assumption | with_reducible refine Ext.alloc ?_ _ | with_reducible refine Ext.drew ?_ | ((with_reducible refine Ext.set ?_ ?_ _); (focus (first | (simp; done) | (simp; omega) | omega))) | with_reducible refine Ext.trans ?_ hw1))) hn'.out (by omega) hw'.out hnx).mono ?_
        rintro en w2 ⟨rfl, hw2⟩
        have xw2 : Ext w w2 := (by repeat (first | with_reducible exact Ext.refl _ | with_reducible assumption | with_reducible refine Ext.alloc ?_ _ | with_reducible refine Ext.drew ?_ | with_reducible refine Ext.drewN ?_ _ | ((with_reducible refine Ext.set ?_ ?_ _); (focus (first | (simp; done) | (simp; omega)))) | with_reducible refine Ext.trans ?_ (by assumption)))
        have kw2_0 := hw2.more (k := w.heap.size) (by first | assumption | (simp; done) | (simp; omega) | omega)
        obtain ⟨cw2_0, fw2_0⟩ := hw2.row (k := w.heap.size) (by first | assumption | (simp; done) | (simp; omega) | omega)
        have kw2_1 := hw2.more (k := w.heap.size + 1) (by first | assumption | (simp; done) | (simp; omega) | omega)
        obtain ⟨cw2_1, fw2_1⟩ := hw2.row (k := w.heap.size + 1) (by first | assumption | (simp; done) | (simp; omega) | omega)
        have kw2_2 := hw2.more (k := w1.heap.size) (by first | assumption | (simp; done) | (simp; omega) | omega)
        obtain ⟨cw2_2, fw2_2⟩ := hw2.row (k := w1.heap.size) (by first | assumption | (simp; done) | (simp; omega) | omega)
        rw [hi]
        go_wp2_with fail
        refine (same_ext (l4Quic_any _ _)).mono ?_
        rintro en wk ⟨rfl, hwk⟩
        have xwk : Ext w wk := (by repeat (first | with_reducible exact Ext.refl _ | with_reducible assumption | with_reducible refine Ext.alloc ?_ _ | with_reducible refine Ext.drew ?_ | with_reducible refine Ext.drewN ?_ _ | ((with_reducible refine Ext.set ?_ ?_ _); (focus (first | (simp; done) | (simp; omega)))) | with_reducible refine Ext.trans ?_ (by assumption)))
        have kwk_0 := hwk.more (k := w.heap.size) (by first | assumption | (simp; done) | (simp; omega) | omega)
        obtain ⟨cwk_0, fwk_0⟩ := hwk.row (k := w.heap.size) (by first | assumption | (simp; done) | (simp; omega) | omega)
        have kwk_1 := hwk.more (k := w.heap.size + 1) (by first | assumption | (simp; done) | (simp; omega) | omega)
        obtain ⟨cwk_1, fwk_1⟩ := hwk.row (k := w.heap.size + 1) (by first | assumption | (simp; done) | (simp; omega) | omega)
        have kwk_2 := hwk.more (k := w1.heap.size) (by first | assumption | (simp; done) | (simp; omega) | omega)
        obtain ⟨cwk_2, fwk_2⟩ := hwk.row (k := w1.heap.size) (by first | assumption | (simp; done) | (simp; omega) | omega)
        rw [hk]
        go_wp2_with fail
        refine (same_ext (l4Quic_any _ _)).mono ?_
        rintro en wf ⟨rfl, hwf⟩
        have xwf : Ext w wf := (by repeat (first | with_reducible exact Ext.refl _ | with_reducible assumption | with_reducible refine Ext.alloc ?_ _ | with_reducible refine Ext.drew ?_ | with_reducible refine Ext.drewN ?_ _ | ((with_reducible refine Ext.set ?_ ?_ _); (focus (first | (simp; done) | (simp; omega)))) | with_reducible refine Ext.trans ?_ (by assumption)))
        have kwf_0 := hwf.more (k := w.heap.size) (by first | assumption | (simp; done) | (simp; omega) | omega)
        obtain ⟨cwf_0, fwf_0⟩ := hwf.row (k := w.heap.size) (by first | assumption | (simp; done) | (simp; omega) | omega)
        have kwf_1 := hwf.more (k := w.heap.size + 1) (by first | assumption | (simp; done) | (simp; omega) | omega)
        obtain ⟨cwf_1, fwf_1⟩ := hwf.row (k := w.heap.size + 1) (by first | assumption | (simp; done) | (simp; omega) | omega)
        have kwf_2 := hwf.more (k := w1.heap.size) (by first | assumption | (simp; done) | (simp; omega) | omega)
        obtain ⟨cwf_2, fwf_2⟩ := hwf.row (k := w1.heap.size) (by first | assumption | (simp; done) | (simp; omega) | omega)
        rw [hf]
        have hs2 : w1.heap.size < w2.heap.size := by have := hw2.size; simp at this; omega
        go_wp2
        refine bodyPost_ret (v := .tuple #[.agg #[.int .i64 st, .int .i64 nx, .slice ao1 cs.length cap1, .int .i64 fi, .int .i64 hg, .int .i64 co], .int .i64 7]) (by simp [results, Try.results30, go_sem, *]) rfl ⟨ao1, cap1, rfl, ?_, ?_⟩
        · refine OwnC.mono (OwnC.chg (S := fun k => k < w.heap.size + 2) ho1.out (by repeat (first | with_reducible exact Chg.refl _ _ | with_reducible assumption | with_reducible refine Chg.alloc ?_ _ | with_reducible refine Chg.drew ?_ | ((with_reducible refine Chg.set ?_ ?_ _); (focus (first | (left; simp; done) | (left; simp; omega) | (right; simp; done) | (right; simp; omega) | (right; omega)))) | with_reducible refine Chg.trans ?_ (Ext.chg hwf _) | with_reducible refine Chg.trans ?_ (Ext.chg hwk _) | with_reducible refine Chg.trans ?_ (Ext.chg hw2 _))) (fun b h1 h2 h3 => by omega)) (by omega) (by simp; omega)
        · exact (by repeat (first | with_reducible exact Ext.refl _ | with_reducible assumption | with_reducible refine Ext.alloc ?_ _ | with_reducible refine Ext.drew ?_ | with_reducible refine Ext.drewN ?_ _ | ((with_reducible refine Ext.set ?_ ?_ _); (focus (first | (simp; done) | (simp; omega)))) | with_reducible refine Ext.trans ?_ (by assumption)))
    · -- no
      rw [show rrE st nx fi hg co k f cs = 7 from by simp [rrE, rrOk, *]]
      have hn' := hide hn
      have hx' := hide hx
      have hw' := hide hw
      clear hn hx hw
      go_enter Try.func30, Try.ntmps30
      go_wp2_with fail
      refine (l7Copy_any st nx fi hg co ao n ca cs _ (hx'.out.ext (by repeat (first | with_reducible exact Ext.refl _ | with_reducible assumption | with_reducible refine Ext.alloc ?_ _ | with_reducible refine Ext.drew ?_ | ((with_reducible refine Ext.set ?_ ?_ _); (focus (first | (simp; done) | (simp; omega) | omega)))))) hn'.out hl).mono ?_
      rintro en w1 ⟨ao1, cap1, rfl, ho1, hw1⟩
      have xw1 : Ext w w1 := (by repeat (first | with_reducible exact Ext.refl _ | with_reducible assumption | with_reducible refine Ext.alloc ?_ _ | with_reducible refine Ext.drew ?_ | with_reducible refine Ext.drewN ?_ _ | ((with_reducible refine Ext.set ?_ ?_ _); (focus (first | (simp; done) | (simp; omega)))) | with_reducible refine Ext.trans ?_ (by assumption)))
      have kw1_0 := hw1.more (k := w.heap.size) (by first | assumption | (simp; done) | (simp; omega) | omega)
      obtain ⟨cw1_0, fw1_0⟩ := hw1.row (k := w.heap.size) (by first | assumption | (simp; done) | (simp; omega) | omega)
      have kw1_1 := hw1.more (k := w.heap.size + 1) (by first | assumption | (simp; done) | (simp; omega) | omega)
      obtain ⟨cw1_1, fw1_1⟩ := hw1.row (k := w.heap.size + 1) (by first | assumption | (simp; done) | (simp; omega) | omega)
      replace ho1 := hide (OwnC.mono (lo' := w.heap.size + 2) ho1 (by simp) (Nat.le_refl _))
      have hs1 : w.heap.size + 2 ≤ w1.heap.size := by have := hw1.size; simpa using this
      go_wp2_with fail
      refine (IsReceiver_spec st nx fi hg co ao n ca cs _ (hx'.out.ext (by repeat (first | with_reducible exact Ext.refl _ | with_reducible assumption | with_reducible refine Ext.alloc ?_ _ | with_reducible refine Ext.drew ?_ | ((with_reducible refine Ext.set ?_ ?_ _); (focus (first | (simp; done) | (simp; omega) | omega))) | with_reducible refine Ext.trans ?_ hw1))) hn'.out (by omega) hw'.out hnx).mono ?_
      rintro en w2 ⟨rfl, hw2⟩
      have xw2 : Ext w w2 := (by repeat (first | with_reducible exact Ext.refl _ | with_reducible assumption | with_reducible refine Ext.alloc ?_ _ | with_reducible refine Ext.drew ?_ | with_reducible refine Ext.drewN ?_ _ | ((with_reducible refine Ext.set ?_ ?_ _); (focus (first | (simp; done) | (simp; omega)))) | with_reducible refine Ext.trans ?_ (by assumption)))
      have kw2_0 := hw2.more (k := w.heap.size) (by first | assumption | (simp; done) | (simp; omega) | omega)
      obtain ⟨cw2_0, fw2_0⟩ := hw2.row (k := w.heap.size) (by first | assumption | (simp; done) | (simp; omega) | omega)
      have kw2_1 := hw2.more (k := w.heap.size + 1) (by first | assumption | (simp; done) | (simp; omega) | omega)
      obtain ⟨cw2_1, fw2_1⟩ := hw2.row (k := w.heap.size + 1) (by first | assumption | (simp; done) | (simp; omega) | omega)
      have kw2_2 := hw2.more (k := w1.heap.size) (by first | assumption | (simp; done) | (simp; omega) | omega)
      obtain ⟨cw2_2, fw2_2⟩ := hw2.row (k := w1.heap.size) (by first | assumption | (simp; done) | (simp; omega) | omega)
      rw [hi]
      go_wp2_with fail
      refine (same_ext (l4Quic_any _ _)).mono ?_
      rintro en wk ⟨rfl, hwk⟩
      have xwk : Ext w wk := (by repeat (first | with_reducible exact Ext.refl _ | with_reducible assumption | with_reducible refine Ext.alloc ?_ _ | with_reducible refine Ext.drew ?_ | with_reducible refine Ext.drewN ?_ _ | ((with_reducible refine Ext.set ?_ ?_ _); (focus (first | (simp; done) | (simp; omega)))) | with_reducible refine Ext.trans ?_ (by assumption)))
      have kwk_0 := hwk.more (k := w.heap.size) (by first | assumption | (simp; done) | (simp; omega) | omega)
      obtain ⟨cwk_0, fwk_0⟩ := hwk.row (k := w.heap.size) (by first | assumption | (simp; done) | (simp; omega) | omega)
      have kwk_1 := hwk.more (k := w.heap.size + 1) (by first | assumption | (simp; done) | (simp; omega) | omega)
      obtain ⟨cwk_1, fwk_1⟩ := hwk.row (k := w.heap.size + 1) (by first | assumption | (simp; done) | (simp; omega) | omega)
      have kwk_2 := hwk.more (k := w1.heap.size) (by first | assumption | (simp; done) | (simp; omega) | omega)
      obtain ⟨cwk_2, fwk_2⟩ := hwk.row (k := w1.heap.size) (by first | assumption | (simp; done) | (simp; omega) | omega)
      rw [hk]
      have hs2 : w1.heap.size < w2.heap.size := by have := hw2.size; simp at this; omega
      go_wp2
      refine bodyPost_ret (v := .tuple #[.agg #[.int .i64 st, .int .i64 nx, .slice ao1 cs.length cap1, .int .i64 fi, .int .i64 hg, .int .i64 co], .int .i64 7]) (by simp [results, Try.results30, go_sem, *]) rfl ⟨ao1, cap1, rfl, ?_, ?_⟩
      · refine OwnC.mono (OwnC.chg (S := fun k => k < w.heap.size + 2) ho1.out (by repeat (first | with_reducible exact Chg.refl _ _ | with_reducible assumption | with_reducible refine Chg.alloc ?_ _ | with_reducible refine Chg.drew ?_ | ((with_reducible refine Chg.set ?_ ?_ _); (focus (first | (left; simp; done) | (left; simp; omega) | (right; simp; done) | (right; simp; omega) | (right; omega)))) | with_reducible refine Chg.trans ?_ (Ext.chg hwk _) | with_reducible refine Chg.trans ?_ (Ext.chg hw2 _))) (fun b h1 h2 h3 => by omega)) (by omega) (by simp; omega)
      · exact (by repeat (first | with_reducible exact Ext.refl _ | with_reducible assumption | with_reducible refine Ext.alloc ?_ _ | with_reducible refine Ext.drew ?_ | with_reducible refine Ext.drewN ?_ _ | ((with_reducible refine Ext.set ?_ ?_ _); (focus (first | (simp; done) | (simp; omega)))) | with_reducible refine Ext.trans ?_ (by assumption)))
  · -- no
    rw [show rrE st nx fi hg co k f cs = 7 from by simp [rrE, rrOk, *]]
    have hn' := hide hn
    have hx' := hide hx
    have hw' := hide hw
    clear hn hx hw
    go_enter Try.func30, Try.ntmps30
    go_wp2_with fail
    refine (l7Copy_any st nx fi hg co ao n ca cs _ (hx'.out.ext (by repeat (first | with_reducible exact Ext.refl _ | with_reducible assumption | with_reducible refine Ext.alloc ?_ _ | with_reducible refine Ext.drew ?_ | ((with_reducible refine Ext.set ?_ ?_ _); (focus (first | (simp; done) | (simp; omega) | omega)))))) hn'.out hl).mono ?_
    rintro en w1 ⟨ao1, cap1, rfl, ho1, hw1⟩
    have xw1 : Ext w w1 := (by repeat (first | with_reducible exact Ext.refl _ | with_reducible assumption | with_reducible refine Ext.alloc ?_ _ | with_reducible refine Ext.drew ?_ | with_reducible refine Ext.drewN ?_ _ | ((with_reducible refine Ext.set ?_ ?_ _); (focus (first | (simp; done) | (simp; omega)))) | with_reducible refine Ext.trans ?_ (by assumption)))
    have kw1_0 := hw1.more (k := w.heap.size) (by first | assumption | (simp; done) | (simp; omega) | omega)
    obtain ⟨cw1_0, fw1_0⟩ := hw1.row (k := w.heap.size) (by first | assumption | (simp; done) | (simp; omega) | omega)
    have kw1_1 := hw1.more (k := w.heap.size + 1) (by first | assumption | (simp; done) | (simp; omega) | omega)
    obtain ⟨cw1_1, fw1_1⟩ := hw1.row (k := w.heap.size + 1) (by first | assumption | (simp; done) | (simp; omega) | omega)
    replace ho1 := hide (OwnC.mono (lo' := w.heap.size + 2) ho1 (by simp) (Nat.le_refl _))
    have hs1 : w.heap.size + 2 ≤ w1.heap.size := by have := hw1.size; simpa using this
    go_wp2_with fail
    refine (IsReceiver_spec st nx fi hg co ao n ca cs _ (hx'.out.ext (by repeat (first | with_reducible exact Ext.refl _ | with_reducible assumption | with_reducible refine Ext.alloc ?_ _ | with_reducible refine Ext.drew ?_ | ((with_reducible refine Ext.set ?_ ?_ _); (focus (first | (simp; done) | (simp; omega) | omega))) | with_reducible refine Ext.trans ?_ hw1))) hn'.out (by omega) hw'.out hnx).mono ?_
    rintro en w2 ⟨rfl, hw2⟩
    have xw2 : Ext w w2 := (by repeat (first | with_reducible exact Ext.refl _ | with_reducible assumption | with_reducible refine Ext.alloc ?_ _ | with_reducible refine Ext.drew ?_ | with_reducible refine Ext.drewN ?_ _ | ((with_reducible refine Ext.set ?_ ?_ _); (focus (first | (simp; done) | (simp; omega)))) | with_reducible refine Ext.trans ?_ (by assumption)))
    have kw2_0 := hw2.more (k := w.heap.size) (by first | assumption | (simp; done) | (simp; omega) | omega)
    obtain ⟨cw2_0, fw2_0⟩ := hw2.row (k := w.heap.size) (by first | assumption | (simp; done) | (simp; omega) | omega)
    have kw2_1 := hw2.more (k := w.heap.size + 1) (by first | assumption | (simp; done) | (simp; omega) | omega)
    obtain ⟨cw2_1, fw2_1⟩ := hw2.row (k := w.heap.size + 1) (by first | assumption | (simp; done) | (simp; omega) | omega)
    have kw2_2 := hw2.more (k := w1.heap.size) (by first | assumption | (simp; done) | (simp; omega) | omega)
    obtain ⟨cw2_2, fw2_2⟩ := hw2.row (k := w1.heap.size) (by first | assumption | (simp; done) | (simp; omega) | omega)
    rw [hi]
    have hs2 : w1.heap.size < w2.heap.size := by have := hw2.size; simp at this; omega
    go_wp2
    refine bodyPost_ret (v := .tuple #[.agg #[.int .i64 st, .int .i64 nx, .slice ao1 cs.length cap1, .int .i64 fi, .int .i64 hg, .int .i64 co], .int .i64 7]) (by simp [results, Try.results30, go_sem, *]) rfl ⟨ao1, cap1, rfl, ?_, ?_⟩
    · refine OwnC.mono (OwnC.chg (S := fun k => k < w.heap.size + 2) ho1.out (by repeat (first | with_reducible exact Chg.refl _ _ | with_reducible assumption | with_reducible refine Chg.alloc ?_ _ | with_reducible refine Chg.drew ?_ | ((with_reducible refine Chg.set ?_ ?_ _); (focus (first | (left; simp; done) | (left; simp; omega) | (right; simp; done) | (right; simp; omega) | (right; omega)))) | with_reducible refine Chg.trans ?_ (Ext.chg hw2 _))) (fun b h1 h2 h3 => by omega)) (by omega) (by simp; omega)
    · exact (by repeat (first | with_reducible exact Ext.refl _ | with_reducible assumption | with_reducible refine Ext.alloc ?_ _ | with_reducible refine Ext.drew ?_ | with_reducible refine Ext.drewN ?_ _ | ((with_reducible refine Ext.set ?_ ?_ _); (focus (first | (simp; done) | (simp; omega)))) | with_reducible refine Ext.trans ?_ (by assumption)))
set_option maxHeartbeats 4000000 in
set_option maxRecDepth 100000 in
theorem ReceiveReset_spec_yes (st nx fi hg co k f : Int) (ao : Option Addr) (n ca : Nat) (cs : List Ck) (w : World) (hx : ReadC w ao cs) (hn : cs.length = n) (hl : n ≤ 1048576) (hw : WfC cs) (hnx : -9223372036854775808 ≤ nx ∧ nx ≤ 9223372036854775807) (hgo : rrGo st nx fi hg co k f cs = true) :
    Calls Try.prog 30 #[.agg #[.int .i64 st, .int .i64 nx, .slice ao n ca, .int .i64 fi, .int .i64 hg, .int .i64 co], .int .i64 k, .int .i64 f] w (RecvRes 4 nx f f k [] (.int .i64 0) w) := by
  have hgo' := hgo
  simp only [rrGo, rrOk, Bool.and_eq_true, Bool.not_eq_true'] at hgo'
  obtain ⟨⟨hi, hk, hf⟩, hcn, htk⟩ := hgo'
  have hgt : decide (1 < st) = false := by
    simp only [Bool.or_eq_true, beq_iff_eq] at htk
    simp; omega
  clear hgo
  have hn' := hide hn
  have hx' := hide hx
  have hw' := hide hw
  clear hn hx hw
  go_enter Try.func30, Try.ntmps30
  go_wp2_with fail
  refine (l7Copy_any st nx fi hg co ao n ca cs _ (hx'.out.ext (by repeat (first | with_reducible exact Ext.refl _ | with_reducible assumption | with_reducible refine Ext.alloc ?_ _ | with_reducible refine Ext.drew ?_ | ((with_reducible refine Ext.set ?_ ?_ _); (focus (first | (simp; done) | (simp; omega) | omega)))))) hn'.out hl).mono ?_
  rintro en w1 ⟨ao1, cap1, rfl, ho1, hw1⟩
  have xw1 : Ext w w1 := (by repeat (first | with_reducible exact Ext.refl _ | with_reducible assumption | with_reducible refine Ext.alloc ?_ _ | with_reducible refine Ext.drew ?_ | with_reducible refine Ext.drewN ?_ _ | ((with_reducible refine Ext.set ?_ ?_ _); (focus (first | (simp; done) | (simp; omega)))) | with_reducible refine Ext.trans ?_ (by assumption)))
  have kw1_0 := hw1.more (k := w.heap.size) (by first | assumption | (simp; done) | (simp; omega) | omega)
  obtain ⟨cw1_0, fw1_0⟩ := hw1.row (k := w.heap.size) (by first | assumption | (simp; done) | (simp; omega) | omega)
  have kw1_1 := hw1.more (k := w.heap.size + 1) (by first | assumption | (simp; done) | (simp; omega) | omega)
  obtain ⟨cw1_1, fw1_1⟩ := hw1.row (k := w.heap.size + 1) (by first | assumption | (simp; done) | (simp; omega) | omega)
  replace ho1 := hide (OwnC.mono (lo' := w.heap.size + 2) ho1 (by simp) (Nat.le_refl _))
  have hs1 : w.heap.size + 2 ≤ w1.heap.size := by have := hw1.size; simpa using this
  go_wp2_with fail
  refine (IsReceiver_spec st nx fi hg co ao n ca cs _ (hx'.out.ext (by repeat (first | with_reducible exact Ext.refl _ | with_reducible assumption | with_reducible refine Ext.alloc ?_ _ | with_reducible refine Ext.drew ?_ | ((with_reducible refine Ext.set ?_ ?_ _); (focus (first | (simp; done) | (simp; omega) | omega))) | with_reducible refine Ext.trans ?_ hw1))) hn'.out (by omega) hw'.out hnx).mono ?_
  rintro en w2 ⟨rfl, hw2⟩
  have xw2 : Ext w w2 := (by repeat (first | with_reducible exact Ext.refl _ | with_reducible assumption | with_reducible refine Ext.alloc ?_ _ | with_reducible refine Ext.drew ?_ | with_reducible refine Ext.drewN ?_ _ | ((with_reducible refine Ext.set ?_ ?_ _); (focus (first | (simp; done) | (simp; omega)))) | with_reducible refine Ext.trans ?_ (by assumption)))
  have kw2_0 := hw2.more (k := w.heap.size) (by first | assumption | (simp; done) | (simp; omega) | omega)
  obtain ⟨cw2_0, fw2_0⟩ := hw2.row (k := w.heap.size) (by first | assumption | (simp; done) | (simp; omega) | omega)
  have kw2_1 := hw2.more (k := w.heap.size + 1) (by first | assumption | (simp; done) | (simp; omega) | omega)
  obtain ⟨cw2_1, fw2_1⟩ := hw2.row (k := w.heap.size + 1) (by first | assumption | (simp; done) | (simp; omega) | omega)
  have kw2_2 := hw2.more (k := w1.heap.size) (by first | assumption | (simp; done) | (simp; omega) | omega)
  obtain ⟨cw2_2, fw2_2⟩ := hw2.row (k := w1.heap.size) (by first | assumption | (simp; done) | (simp; omega) | omega)
  rw [hi]
  go_wp2_with fail
  refine (same_ext (l4Quic_any _ _)).mono ?_
  rintro en wk ⟨rfl, hwk⟩
  have xwk : Ext w wk := (by repeat (first | with_reducible exact Ext.refl _ | with_reducible assumption | with_reducible refine Ext.alloc ?_ _ | with_reducible refine Ext.drew ?_ | with_reducible refine Ext.drewN ?_ _ | ((with_reducible refine Ext.set ?_ ?_ _); (focus (first | (simp; done) | (simp; omega)))) | with_reducible refine Ext.trans ?_ (by assumption)))
  have kwk_0 := hwk.more (k := w.heap.size) (by first | assumption | (simp; done) | (simp; omega) | omega)
  obtain ⟨cwk_0, fwk_0⟩ := hwk.row (k := w.heap.size) (by first | assumption | (simp; done) | (simp; omega) | omega)
  have kwk_1 := hwk.more (k := w.heap.size + 1) (by first | assumption | (simp; done) | (simp; omega) | omega)
  obtain ⟨cwk_1, fwk_1⟩ := hwk.row (k := w.heap.size + 1) (by first | assumption | (simp; done) | (simp; omega) | omega)
  have kwk_2 := hwk.more (k := w1.heap.size) (by first | assumption | (simp; done) | (simp; omega) | omega)
  obtain ⟨cwk_2, fwk_2⟩ := hwk.row (k := w1.heap.size) (by first | assumption | (simp; done) | (simp; omega) | omega)
  rw [hk]
  go_wp2_with fail
  refine (same_ext (l4Quic_any _ _)).mono ?_
  rintro en wf ⟨rfl, hwf⟩
  have xwf : Ext w wf := (by repeat (first | with_reducible exact Ext.refl _ | with_reducible assumption | with_reducible refine Ext.alloc ?_ _ | with_reducible refine Ext.drew ?_ | with_reducible refine Ext.drewN ?_ _ | ((with_reducible refine Ext.set ?_ ?_ _); (focus (first | (simp; done) | (simp; omega)))) | with_reducible refine Ext.trans ?_ (by assumption)))
  have kwf_0 := hwf.more (k := w.heap.size) (by first | assumption | (simp; done) | (simp; omega) | omega)
  obtain ⟨cwf_0, fwf_0⟩ := hwf.row (k := w.heap.size) (by first | assumption | (simp; done) | (simp; omega) | omega)
  have kwf_1 := hwf.more (k := w.heap.size + 1) (by first | assumption | (simp; done) | (simp; omega) | omega)
  obtain ⟨cwf_1, fwf_1⟩ := hwf.row (k := w.heap.size + 1) (by first | assumption | (simp; done) | (simp; omega) | omega)
  have kwf_2 := hwf.more (k := w1.heap.size) (by first | assumption | (simp; done) | (simp; omega) | omega)
  obtain ⟨cwf_2, fwf_2⟩ := hwf.row (k := w1.heap.size) (by first | assumption | (simp; done) | (simp; omega) | omega)
  rw [hf]
  have hs2 : w1.heap.size < w2.heap.size := by have := hw2.size; simp at this; omega
  go_wp2_with fail
  refine (l7Final_any st nx fi hg co f true ao n ca _).mono ?_
  rintro en w3 ⟨rfl, hw3⟩
  have xw3 : Ext w w3 := (by repeat (first | with_reducible exact Ext.refl _ | with_reducible assumption | with_reducible refine Ext.alloc ?_ _ | with_reducible refine Ext.drew ?_ | with_reducible refine Ext.drewN ?_ _ | ((with_reducible refine Ext.set ?_ ?_ _); (focus (first | (simp; done) | (simp; omega)))) | with_reducible refine Ext.trans ?_ (by assumption)))
  have kw3_0 := hw3.more (k := w.heap.size) (by first | assumption | (simp; done) | (simp; omega) | omega)
  obtain ⟨cw3_0, fw3_0⟩ := hw3.row (k := w.heap.size) (by first | assumption | (simp; done) | (simp; omega) | omega)
  have kw3_1 := hw3.more (k := w.heap.size + 1) (by first | assumption | (simp; done) | (simp; omega) | omega)
  obtain ⟨cw3_1, fw3_1⟩ := hw3.row (k := w.heap.size + 1) (by first | assumption | (simp; done) | (simp; omega) | omega)
  have kw3_2 := hw3.more (k := w1.heap.size) (by first | assumption | (simp; done) | (simp; omega) | omega)
  obtain ⟨cw3_2, fw3_2⟩ := hw3.row (k := w1.heap.size) (by first | assumption | (simp; done) | (simp; omega) | omega)
  rw [hcn]
  simp only [finE, if_true, if_false, Bool.false_eq_true]
  go_wp2
  refine bodyPost_ret (v := .tuple #[.agg #[.int .i64 4, .int .i64 nx, .slice none 0 0, .int .i64 f, .int .i64 f, .int .i64 k], .int .i64 0]) (by simp [results, Try.results30, go_sem, *]) rfl ⟨none, 0, rfl, Or.inl rfl, (by repeat (first | with_reducible exact Ext.refl _ | with_reducible assumption | with_reducible refine Ext.alloc ?_ _ | with_reducible refine Ext.drew ?_ | with_reducible refine Ext.drewN ?_ _ | ((with_reducible refine Ext.set ?_ ?_ _); (focus (first | (simp; done) | (simp; omega)))) | with_reducible refine Ext.trans ?_ (by assumption)))⟩
end Go.Proofs.Ytifhbchlmlaanaa

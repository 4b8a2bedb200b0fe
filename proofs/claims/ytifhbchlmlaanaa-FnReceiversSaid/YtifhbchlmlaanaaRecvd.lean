/-
  Contracts of IsReceived and NewBytes. Conditions: the chunks can be read.
-/
import Derived.Test.YtifhbchlmlaanaaIsRecvS
namespace Go.Proofs.Ytifhbchlmlaanaa
open Go.ChangeShapes Go.WideShapes Go.ChangeAt Go.RowKit
set_option linter.unusedSimpArgs false
def recvDone (st nx fi hg co : Int) (cs : List Ck) : Bool := recvIs st nx fi hg co cs && (st == 3 || st == 5)
def newB (st nx fi hg co e : Int) (cs : List Ck) : Int := if recvIs st nx fi hg co cs = true ∧ inB 0 e 4611686018427387903 = true then max (e - hg) 0 else 0
theorem recvIs_hg {st nx fi hg co : Int} {cs : List Ck} (h : recvIs st nx fi hg co cs = true) : 0 ≤ hg ∧ hg ≤ 4611686018427387903 := by
  simp only [recvIs, recvOk, Bool.and_eq_true] at h
  exact inB_true h.1.2.2.1
set_option maxHeartbeats 1000000 in
theorem IsReceived_impl (st nx fi hg co : Int) (ao : Option Addr) (n ca : Nat) (cs : List Ck) (w : World) (hx : ReadC w ao cs) (hn : cs.length = n) (hl : (n : Int) ≤ 9223372036854775807) (hw : WfC cs) (hnx : -9223372036854775808 ≤ nx ∧ nx ≤ 9223372036854775807) :
    Calls Try.prog 27 #[.agg #[.int .i64 st, .int .i64 nx, .slice ao n ca, .int .i64 fi, .int .i64 hg, .int .i64 co]] w fun en w' => en = .returned (.bool (recvDone st nx fi hg co cs)) ∧ Ext w w' := by
  rcases Bool.eq_false_or_eq_true (recvIs st nx fi hg co cs) with hi | hi
  · -- yes
    by_cases s3 : st = 3
    · -- equal
      have s3e : (st == 3) = true := by simp [s3]
      have s3n : (st != 3) = false := by simp [s3]
      have s3H := hide s3
      clear s3
      go_enter Try.func27, Try.ntmps27
      go_wp2_with fail
      refine (IsReceiver_impl st nx fi hg co ao n ca cs _ (hx.ext (by repeat (first | with_reducible exact Ext.refl _ | with_reducible assumption | with_reducible refine Ext.alloc ?_ _ | with_reducible refine Ext.drew ?_ | with_reducible refine Ext.drewN ?_ _ | ((with_reducible refine Ext.set ?_ ?_ _); (focus (first | (simp; done) | (simp; omega)))) | with_reducible refine Ext.trans ?_ (by assumption)))) hn hl hw hnx).mono ?_
      rintro en w1 ⟨rfl, hb⟩
      rw [hi]
      have kb := hb.more (k := w.heap.size) (by first | assumption | (simp; done) | (simp; omega) | omega)
      obtain ⟨c0, f0⟩ := hb.row (k := w.heap.size) (by first | assumption | (simp; done) | (simp; omega) | omega)
      clear hx hn hw
      go_wp2
      go_ret
      exact ⟨by simp [recvDone, *], (by repeat (first | with_reducible exact Ext.refl _ | with_reducible assumption | with_reducible refine Ext.alloc ?_ _ | with_reducible refine Ext.drew ?_ | with_reducible refine Ext.drewN ?_ _ | ((with_reducible refine Ext.set ?_ ?_ _); (focus (first | (simp; done) | (simp; omega)))) | with_reducible refine Ext.trans ?_ (by assumption)))⟩
    · -- other
      have s3e : (st == 3) = false := by simp [s3]
      have s3n : (st != 3) = true := by simp [s3]
      have s3H := hide s3
      clear s3
      by_cases s5 : st = 5
      · -- equal
        have s5e : (st == 5) = true := by simp [s5]
        have s5n : (st != 5) = false := by simp [s5]
        have s5H := hide s5
        clear s5
        go_enter Try.func27, Try.ntmps27
        go_wp2_with fail
        refine (IsReceiver_impl st nx fi hg co ao n ca cs _ (hx.ext (by repeat (first | with_reducible exact Ext.refl _ | with_reducible assumption | with_reducible refine Ext.alloc ?_ _ | with_reducible refine Ext.drew ?_ | with_reducible refine Ext.drewN ?_ _ | ((with_reducible refine Ext.set ?_ ?_ _); (focus (first | (simp; done) | (simp; omega)))) | with_reducible refine Ext.trans ?_ (by assumption)))) hn hl hw hnx).mono ?_
        rintro en w1 ⟨rfl, hb⟩
        rw [hi]
        have kb := hb.more (k := w.heap.size) (by first | assumption | (simp; done) | (simp; omega) | omega)
        obtain ⟨c0, f0⟩ := hb.row (k := w.heap.size) (by first | assumption | (simp; done) | (simp; omega) | omega)
        clear hx hn hw
        go_wp2
        go_ret
        exact ⟨by simp [recvDone, *], (by repeat (first | with_reducible exact Ext.refl _ | with_reducible assumption | with_reducible refine Ext.alloc ?_ _ | with_reducible refine Ext.drew ?_ | with_reducible refine Ext.drewN ?_ _ | ((with_reducible refine Ext.set ?_ ?_ _); (focus (first | (simp; done) | (simp; omega)))) | with_reducible refine Ext.trans ?_ (by assumption)))⟩
      · -- other
        have s5e : (st == 5) = false := by simp [s5]
        have s5n : (st != 5) = true := by simp [s5]
        have s5H := hide s5
        clear s5
        go_enter Try.func27, Try.ntmps27
        go_wp2_with fail
        refine (IsReceiver_impl st nx fi hg co ao n ca cs _ (hx.ext (by repeat (first | with_reducible exact Ext.refl _ | with_reducible assumption | with_reducible refine Ext.alloc ?_ _ | with_reducible refine Ext.drew ?_ | with_reducible refine Ext.drewN ?_ _ | ((with_reducible refine Ext.set ?_ ?_ _); (focus (first | (simp; done) | (simp; omega)))) | with_reducible refine Ext.trans ?_ (by assumption)))) hn hl hw hnx).mono ?_
        rintro en w1 ⟨rfl, hb⟩
        rw [hi]
        have kb := hb.more (k := w.heap.size) (by first | assumption | (simp; done) | (simp; omega) | omega)
        obtain ⟨c0, f0⟩ := hb.row (k := w.heap.size) (by first | assumption | (simp; done) | (simp; omega) | omega)
        clear hx hn hw
        go_wp2
        go_ret
        exact ⟨by simp [recvDone, *], (by repeat (first | with_reducible exact Ext.refl _ | with_reducible assumption | with_reducible refine Ext.alloc ?_ _ | with_reducible refine Ext.drew ?_ | with_reducible refine Ext.drewN ?_ _ | ((with_reducible refine Ext.set ?_ ?_ _); (focus (first | (simp; done) | (simp; omega)))) | with_reducible refine Ext.trans ?_ (by assumption)))⟩
  · -- no
    go_enter Try.func27, Try.ntmps27
    go_wp2_with fail
    refine (IsReceiver_impl st nx fi hg co ao n ca cs _ (hx.ext (by repeat (first | with_reducible exact Ext.refl _ | with_reducible assumption | with_reducible refine Ext.alloc ?_ _ | with_reducible refine Ext.drew ?_ | with_reducible refine Ext.drewN ?_ _ | ((with_reducible refine Ext.set ?_ ?_ _); (focus (first | (simp; done) | (simp; omega)))) | with_reducible refine Ext.trans ?_ (by assumption)))) hn hl hw hnx).mono ?_
    rintro en w1 ⟨rfl, hb⟩
    rw [hi]
    have kb := hb.more (k := w.heap.size) (by first | assumption | (simp; done) | (simp; omega) | omega)
    obtain ⟨c0, f0⟩ := hb.row (k := w.heap.size) (by first | assumption | (simp; done) | (simp; omega) | omega)
    clear hx hn hw
    go_wp2
    go_ret
    exact ⟨by simp [recvDone, *], (by repeat (first | with_reducible exact Ext.refl _ | with_reducible assumption | with_reducible refine Ext.alloc ?_ _ | with_reducible refine Ext.drew ?_ | with_reducible refine Ext.drewN ?_ _ | ((with_reducible refine Ext.set ?_ ?_ _); (focus (first | (simp; done) | (simp; omega)))) | with_reducible refine Ext.trans ?_ (by assumption)))⟩
set_option maxHeartbeats 1000000 in
theorem NewBytes_impl (st nx fi hg co e : Int) (ao : Option Addr) (n ca : Nat) (cs : List Ck) (w : World) (hx : ReadC w ao cs) (hn : cs.length = n) (hl : (n : Int) ≤ 9223372036854775807) (hw : WfC cs) (hnx : -9223372036854775808 ≤ nx ∧ nx ≤ 9223372036854775807) :
    Calls Try.prog 29 #[.agg #[.int .i64 st, .int .i64 nx, .slice ao n ca, .int .i64 fi, .int .i64 hg, .int .i64 co], .int .i64 e] w fun en w' => en = .returned (.int .i64 (newB st nx fi hg co e cs)) ∧ Ext w w' := by
  rcases Bool.eq_false_or_eq_true (recvIs st nx fi hg co cs) with hi | hi
  · -- yes
    rcases Bool.eq_false_or_eq_true (inB 0 e 4611686018427387903) with hq | hq
    · -- yes
      obtain ⟨g1, g2⟩ := recvIs_hg hi
      obtain ⟨g3, g4⟩ := inB_true hq
      have hwr : IntKind.i64.wrap (e - hg) = e - hg := IntWalk.i64_in _ (by omega)
      go_enter Try.func29, Try.ntmps29
      go_wp2_with fail
      refine (IsReceiver_impl st nx fi hg co ao n ca cs _ (hx.ext (by repeat (first | with_reducible exact Ext.refl _ | with_reducible assumption | with_reducible refine Ext.alloc ?_ _ | with_reducible refine Ext.drew ?_ | with_reducible refine Ext.drewN ?_ _ | ((with_reducible refine Ext.set ?_ ?_ _); (focus (first | (simp; done) | (simp; omega)))) | with_reducible refine Ext.trans ?_ (by assumption)))) hn hl hw hnx).mono ?_
      rintro en w1 ⟨rfl, hb⟩
      rw [hi]
      have kb := hb.more (k := w.heap.size) (by first | assumption | (simp; done) | (simp; omega) | omega)
      obtain ⟨c0, f0⟩ := hb.row (k := w.heap.size) (by first | assumption | (simp; done) | (simp; omega) | omega)
      clear hx hn hw
      go_wp2_with (go_at_call 71; refine (isQuic_any _ _).mono ?_; rintro en w9 ⟨rfl, rfl⟩)
      all_goals (go_ret; exact ⟨by first | (simp [newB, hi, *]; done) | (simp [newB, hi, *]; omega), (by repeat (first | with_reducible exact Ext.refl _ | with_reducible assumption | with_reducible refine Ext.alloc ?_ _ | with_reducible refine Ext.drew ?_ | with_reducible refine Ext.drewN ?_ _ | ((with_reducible refine Ext.set ?_ ?_ _); (focus (first | (simp; done) | (simp; omega)))) | with_reducible refine Ext.trans ?_ (by assumption)))⟩)
    · -- no
      go_enter Try.func29, Try.ntmps29
      go_wp2_with fail
      refine (IsReceiver_impl st nx fi hg co ao n ca cs _ (hx.ext (by repeat (first | with_reducible exact Ext.refl _ | with_reducible assumption | with_reducible refine Ext.alloc ?_ _ | with_reducible refine Ext.drew ?_ | with_reducible refine Ext.drewN ?_ _ | ((with_reducible refine Ext.set ?_ ?_ _); (focus (first | (simp; done) | (simp; omega)))) | with_reducible refine Ext.trans ?_ (by assumption)))) hn hl hw hnx).mono ?_
      rintro en w1 ⟨rfl, hb⟩
      rw [hi]
      have kb := hb.more (k := w.heap.size) (by first | assumption | (simp; done) | (simp; omega) | omega)
      obtain ⟨c0, f0⟩ := hb.row (k := w.heap.size) (by first | assumption | (simp; done) | (simp; omega) | omega)
      clear hx hn hw
      go_wp2_with (go_at_call 71; refine (isQuic_any _ _).mono ?_; rintro en w9 ⟨rfl, rfl⟩)
      all_goals (go_ret; exact ⟨by first | (simp [newB, hi, *]; done) | (simp [newB, hi, *]; omega), (by repeat (first | with_reducible exact Ext.refl _ | with_reducible assumption | with_reducible refine Ext.alloc ?_ _ | with_reducible refine Ext.drew ?_ | with_reducible refine Ext.drewN ?_ _ | ((with_reducible refine Ext.set ?_ ?_ _); (focus (first | (simp; done) | (simp; omega)))) | with_reducible refine Ext.trans ?_ (by assumption)))⟩)
  · -- no
    go_enter Try.func29, Try.ntmps29
    go_wp2_with fail
    refine (IsReceiver_impl st nx fi hg co ao n ca cs _ (hx.ext (by repeat (first | with_reducible exact Ext.refl _ | with_reducible assumption | with_reducible refine Ext.alloc ?_ _ | with_reducible refine Ext.drew ?_ | with_reducible refine Ext.drewN ?_ _ | ((with_reducible refine Ext.set ?_ ?_ _); (focus (first | (simp; done) | (simp; omega)))) | with_reducible refine Ext.trans ?_ (by assumption)))) hn hl hw hnx).mono ?_
    rintro en w1 ⟨rfl, hb⟩
    rw [hi]
    have kb := hb.more (k := w.heap.size) (by first | assumption | (simp; done) | (simp; omega) | omega)
    obtain ⟨c0, f0⟩ := hb.row (k := w.heap.size) (by first | assumption | (simp; done) | (simp; omega) | omega)
    clear hx hn hw
    go_wp2_with (go_at_call 71; refine (isQuic_any _ _).mono ?_; rintro en w9 ⟨rfl, rfl⟩)
    all_goals (go_ret; exact ⟨by first | (simp [newB, hi, *]; done) | (simp [newB, hi, *]; omega), (by repeat (first | with_reducible exact Ext.refl _ | with_reducible assumption | with_reducible refine Ext.alloc ?_ _ | with_reducible refine Ext.drew ?_ | with_reducible refine Ext.drewN ?_ _ | ((with_reducible refine Ext.set ?_ ?_ _); (focus (first | (simp; done) | (simp; omega)))) | with_reducible refine Ext.trans ?_ (by assumption)))⟩)
set_option maxHeartbeats 1000000 in
theorem IsReceived_spec (st nx fi hg co : Int) (ao : Option Addr) (n ca : Nat) (cs : List Ck) (w : World) (hx : ReadC w ao cs) (hn : cs.length = n) (hl : (n : Int) ≤ 9223372036854775807) (hw : WfC cs) (hnx : -9223372036854775808 ≤ nx ∧ nx ≤ 9223372036854775807) :
    Calls Try.prog 26 #[.agg #[.int .i64 st, .int .i64 nx, .slice ao n ca, .int .i64 fi, .int .i64 hg, .int .i64 co]] w fun en w' => en = .returned (.bool (recvDone st nx fi hg co cs)) ∧ Ext w w' := by
  rcases Bool.eq_false_or_eq_true (recvIs st nx fi hg co cs) with hi | hi
  · -- yes
    by_cases s3 : st = 3
    · -- equal
      have s3e : (st == 3) = true := by simp [s3]
      have s3n : (st != 3) = false := by simp [s3]
      have s3H := hide s3
      clear s3
      go_enter Try.func26, Try.ntmps26
      go_wp2_with fail
      refine (IsReceiver_spec st nx fi hg co ao n ca cs _ (hx.ext (by repeat (first | with_reducible exact Ext.refl _ | with_reducible assumption | with_reducible refine Ext.alloc ?_ _ | with_reducible refine Ext.drew ?_ | with_reducible refine Ext.drewN ?_ _ | ((with_reducible refine Ext.set ?_ ?_ _); (focus (first | (simp; done) | (simp; omega)))) | with_reducible refine Ext.trans ?_ (by assumption)))) hn hl hw hnx).mono ?_
      rintro en w1 ⟨rfl, hb⟩
      rw [hi]
      have kb := hb.more (k := w.heap.size) (by first | assumption | (simp; done) | (simp; omega) | omega)
      obtain ⟨c0, f0⟩ := hb.row (k := w.heap.size) (by first | assumption | (simp; done) | (simp; omega) | omega)
      clear hx hn hw
      go_wp2
      go_ret
      exact ⟨by simp [recvDone, *], (by repeat (first | with_reducible exact Ext.refl _ | with_reducible assumption | with_reducible refine Ext.alloc ?_ _ | with_reducible refine Ext.drew ?_ | with_reducible refine Ext.drewN ?_ _ | ((with_reducible refine Ext.set ?_ ?_ _); (focus (first | (simp; done) | (simp; omega)))) | with_reducible refine Ext.trans ?_ (by assumption)))⟩
    · -- other
      have s3e : (st == 3) = false := by simp [s3]
      have s3n : (st != 3) = true := by simp [s3]
      have s3H := hide s3
      clear s3
      by_cases s5 : st = 5
      · -- equal
        have s5e : (st == 5) = true := by simp [s5]
        have s5n : (st != 5) = false := by simp [s5]
        have s5H := hide s5
        clear s5
        go_enter Try.func26, Try.ntmps26
        go_wp2_with fail
        refine (IsReceiver_spec st nx fi hg co ao n ca cs _ (hx.ext (by repeat (first | with_reducible exact Ext.refl _ | with_reducible assumption | with_reducible refine Ext.alloc ?_ _ | with_reducible refine Ext.drew ?_ | with_reducible refine Ext.drewN ?_ _ | ((with_reducible refine Ext.set ?_ ?_ _); (focus (first | (simp; done) | (simp; omega)))) | with_reducible refine Ext.trans ?_ (by assumption)))) hn hl hw hnx).mono ?_
        rintro en w1 ⟨rfl, hb⟩
        rw [hi]
        have kb := hb.more (k := w.heap.size) (by first | assumption | (simp; done) | (simp; omega) | omega)
        obtain ⟨c0, f0⟩ := hb.row (k := w.heap.size) (by first | assumption | (simp; done) | (simp; omega) | omega)
        clear hx hn hw
        go_wp2
        go_ret
        exact ⟨by simp [recvDone, *], (by repeat (first | with_reducible exact Ext.refl _ | with_reducible assumption | with_reducible refine Ext.alloc ?_ _ | with_reducible refine Ext.drew ?_ | with_reducible refine Ext.drewN ?_ _ | ((with_reducible refine Ext.set ?_ ?_ _); (focus (first | (simp; done) | (simp; omega)))) | with_reducible refine Ext.trans ?_ (by assumption)))⟩
      · -- other
        have s5e : (st == 5) = false := by simp [s5]
        have s5n : (st != 5) = true := by simp [s5]
        have s5H := hide s5
        clear s5
        go_enter Try.func26, Try.ntmps26
        go_wp2_with fail
        refine (IsReceiver_spec st nx fi hg co ao n ca cs _ (hx.ext (by repeat (first | with_reducible exact Ext.refl _ | with_reducible assumption | with_reducible refine Ext.alloc ?_ _ | with_reducible refine Ext.drew ?_ | with_reducible refine Ext.drewN ?_ _ | ((with_reducible refine Ext.set ?_ ?_ _); (focus (first | (simp; done) | (simp; omega)))) | with_reducible refine Ext.trans ?_ (by assumption)))) hn hl hw hnx).mono ?_
        rintro en w1 ⟨rfl, hb⟩
        rw [hi]
        have kb := hb.more (k := w.heap.size) (by first | assumption | (simp; done) | (simp; omega) | omega)
        obtain ⟨c0, f0⟩ := hb.row (k := w.heap.size) (by first | assumption | (simp; done) | (simp; omega) | omega)
        clear hx hn hw
        go_wp2
        go_ret
        exact ⟨by simp [recvDone, *], (by repeat (first | with_reducible exact Ext.refl _ | with_reducible assumption | with_reducible refine Ext.alloc ?_ _ | with_reducible refine Ext.drew ?_ | with_reducible refine Ext.drewN ?_ _ | ((with_reducible refine Ext.set ?_ ?_ _); (focus (first | (simp; done) | (simp; omega)))) | with_reducible refine Ext.trans ?_ (by assumption)))⟩
  · -- no
    go_enter Try.func26, Try.ntmps26
    go_wp2_with fail
    refine (IsReceiver_spec st nx fi hg co ao n ca cs _ (hx.ext (by repeat (first | with_reducible exact Ext.refl _ | with_reducible assumption | with_reducible refine Ext.alloc ?_ _ | with_reducible refine Ext.drew ?_ | with_reducible refine Ext.drewN ?_ _ | ((with_reducible refine Ext.set ?_ ?_ _); (focus (first | (simp; done) | (simp; omega)))) | with_reducible refine Ext.trans ?_ (by assumption)))) hn hl hw hnx).mono ?_
    rintro en w1 ⟨rfl, hb⟩
    rw [hi]
    have kb := hb.more (k := w.heap.size) (by first | assumption | (simp; done) | (simp; omega) | omega)
    obtain ⟨c0, f0⟩ := hb.row (k := w.heap.size) (by first | assumption | (simp; done) | (simp; omega) | omega)
    clear hx hn hw
    go_wp2
    go_ret
    exact ⟨by simp [recvDone, *], (by repeat (first | with_reducible exact Ext.refl _ | with_reducible assumption | with_reducible refine Ext.alloc ?_ _ | with_reducible refine Ext.drew ?_ | with_reducible refine Ext.drewN ?_ _ | ((with_reducible refine Ext.set ?_ ?_ _); (focus (first | (simp; done) | (simp; omega)))) | with_reducible refine Ext.trans ?_ (by assumption)))⟩
set_option maxHeartbeats 1000000 in
theorem NewBytes_spec (st nx fi hg co e : Int) (ao : Option Addr) (n ca : Nat) (cs : List Ck) (w : World) (hx : ReadC w ao cs) (hn : cs.length = n) (hl : (n : Int) ≤ 9223372036854775807) (hw : WfC cs) (hnx : -9223372036854775808 ≤ nx ∧ nx ≤ 9223372036854775807) :
    Calls Try.prog 28 #[.agg #[.int .i64 st, .int .i64 nx, .slice ao n ca, .int .i64 fi, .int .i64 hg, .int .i64 co], .int .i64 e] w fun en w' => en = .returned (.int .i64 (newB st nx fi hg co e cs)) ∧ Ext w w' := by
  rcases Bool.eq_false_or_eq_true (recvIs st nx fi hg co cs) with hi | hi
  · -- yes
    rcases Bool.eq_false_or_eq_true (inB 0 e 4611686018427387903) with hq | hq
    · -- yes
      obtain ⟨g1, g2⟩ := recvIs_hg hi
      obtain ⟨g3, g4⟩ := inB_true hq
      have hwr : IntKind.i64.wrap (e - hg) = e - hg := IntWalk.i64_in _ (by omega)
      go_enter Try.func28, Try.ntmps28
      go_wp2_with fail
      refine (IsReceiver_spec st nx fi hg co ao n ca cs _ (hx.ext (by repeat (first | with_reducible exact Ext.refl _ | with_reducible assumption | with_reducible refine Ext.alloc ?_ _ | with_reducible refine Ext.drew ?_ | with_reducible refine Ext.drewN ?_ _ | ((with_reducible refine Ext.set ?_ ?_ _); (focus (first | (simp; done) | (simp; omega)))) | with_reducible refine Ext.trans ?_ (by assumption)))) hn hl hw hnx).mono ?_
      rintro en w1 ⟨rfl, hb⟩
      rw [hi]
      have kb := hb.more (k := w.heap.size) (by first | assumption | (simp; done) | (simp; omega) | omega)
      obtain ⟨c0, f0⟩ := hb.row (k := w.heap.size) (by first | assumption | (simp; done) | (simp; omega) | omega)
      clear hx hn hw
      go_wp2_with (go_at_call 70; refine (l4Quic_any _ _).mono ?_; rintro en w9 ⟨rfl, rfl⟩)
      all_goals (go_ret; exact ⟨by first | (simp [newB, hi, *]; done) | (simp [newB, hi, *]; omega), (by repeat (first | with_reducible exact Ext.refl _ | with_reducible assumption | with_reducible refine Ext.alloc ?_ _ | with_reducible refine Ext.drew ?_ | with_reducible refine Ext.drewN ?_ _ | ((with_reducible refine Ext.set ?_ ?_ _); (focus (first | (simp; done) | (simp; omega)))) | with_reducible refine Ext.trans ?_ (by assumption)))⟩)
    · -- no
      go_enter Try.func28, Try.ntmps28
      go_wp2_with fail
      refine (IsReceiver_spec st nx fi hg co ao n ca cs _ (hx.ext (by repeat (first | with_reducible exact Ext.refl _ | with_reducible assumption | with_reducible refine Ext.alloc ?_ _ | with_reducible refine Ext.drew ?_ | with_reducible refine Ext.drewN ?_ _ | ((with_reducible refine Ext.set ?_ ?_ _); (focus (first | (simp; done) | (simp; omega)))) | with_reducible refine Ext.trans ?_ (by assumption)))) hn hl hw hnx).mono ?_
      rintro en w1 ⟨rfl, hb⟩
      rw [hi]
      have kb := hb.more (k := w.heap.size) (by first | assumption | (simp; done) | (simp; omega) | omega)
      obtain ⟨c0, f0⟩ := hb.row (k := w.heap.size) (by first | assumption | (simp; done) | (simp; omega) | omega)
      clear hx hn hw
      go_wp2_with (go_at_call 70; refine (l4Quic_any _ _).mono ?_; rintro en w9 ⟨rfl, rfl⟩)
      all_goals (go_ret; exact ⟨by first | (simp [newB, hi, *]; done) | (simp [newB, hi, *]; omega), (by repeat (first | with_reducible exact Ext.refl _ | with_reducible assumption | with_reducible refine Ext.alloc ?_ _ | with_reducible refine Ext.drew ?_ | with_reducible refine Ext.drewN ?_ _ | ((with_reducible refine Ext.set ?_ ?_ _); (focus (first | (simp; done) | (simp; omega)))) | with_reducible refine Ext.trans ?_ (by assumption)))⟩)
  · -- no
    go_enter Try.func28, Try.ntmps28
    go_wp2_with fail
    refine (IsReceiver_spec st nx fi hg co ao n ca cs _ (hx.ext (by repeat (first | with_reducible exact Ext.refl _ | with_reducible assumption | with_reducible refine Ext.alloc ?_ _ | with_reducible refine Ext.drew ?_ | with_reducible refine Ext.drewN ?_ _ | ((with_reducible refine Ext.set ?_ ?_ _); (focus (first | (simp; done) | (simp; omega)))) | with_reducible refine Ext.trans ?_ (by assumption)))) hn hl hw hnx).mono ?_
    rintro en w1 ⟨rfl, hb⟩
    rw [hi]
    have kb := hb.more (k := w.heap.size) (by first | assumption | (simp; done) | (simp; omega) | omega)
    obtain ⟨c0, f0⟩ := hb.row (k := w.heap.size) (by first | assumption | (simp; done) | (simp; omega) | omega)
    clear hx hn hw
    go_wp2_with (go_at_call 70; refine (l4Quic_any _ _).mono ?_; rintro en w9 ⟨rfl, rfl⟩)
    all_goals (go_ret; exact ⟨by first | (simp [newB, hi, *]; done) | (simp [newB, hi, *]; omega), (by repeat (first | with_reducible exact Ext.refl _ | with_reducible assumption | with_reducible refine Ext.alloc ?_ _ | with_reducible refine Ext.drew ?_ | with_reducible refine Ext.drewN ?_ _ | ((with_reducible refine Ext.set ?_ ?_ _); (focus (first | (simp; done) | (simp; omega)))) | with_reducible refine Ext.trans ?_ (by assumption)))⟩)
end Go.Proofs.Ytifhbchlmlaanaa

/-
  Contracts of ReceiveData. Conditions: the chunks can be read.
-/
import Derived.Test.YtifhbchlmlaanaaRecvReset
import Derived.Test.YtifhbchlmlaanaaInsS
namespace Go.Proofs.Ytifhbchlmlaanaa
open Go.ChangeShapes Go.WideShapes Go.ChangeAt Go.RowKit
set_option linter.unusedSimpArgs false
set_option linter.unusedVariables false
theorem canon_buf : ∀ {cs : List Ck} {lo : Int}, Canon lo cs → (∀ c ∈ cs, c.1 + (c.2.size : Int) ≤ 4611686018427387903) → bufFrom lo cs = true
  | [], _, _, _ => rfl
  | c :: cs, lo, h, k => by
    have h1 := h.1
    have h2 := h.2.1
    have h3 := k c (by simp)
    rw [bufFrom, canon_buf h.2.2 (fun d hd => k d (by simp [hd]))]
    simp only [Bool.and_true, Bool.and_eq_true, decide_eq_true_eq]
    exact ⟨h2, h1, h3⟩
theorem rgsCk_top {f : Int → UInt8} {m lo : Int} : ∀ {l : List Rg}, CanR lo l → TopR m l → ∀ c ∈ rgsCk f l, c.1 + (c.2.size : Int) ≤ m
  | [], _, _, c, hc => by simp [rgsCk] at hc
  | r :: rs, h, ht, c, hc => by
    have e : rgsCk f (r :: rs) = (r.1, bytesOf f r.1 (r.2 - r.1).toNat) :: rgsCk f rs := rfl
    rw [e] at hc
    rcases List.mem_cons.1 hc with rfl | hc
    · have h2 := h.2.1
      have h3 := ht r (by simp)
      have hz := bytesOf_size f r.1 (r.2 - r.1).toNat
      dsimp only
      rw [hz]
      omega
    · exact rgsCk_top h.2.2 (fun x hx => ht x (by simp [hx])) c hc
theorem insOk_parts {nx : Int} {cs : List Ck} {off : Int} {data : ByteArray} (h : insOk nx cs off data = true) : isBuf nx cs = true ∧ (0 < data.size ∧ 0 ≤ off ∧ off + (data.size : Int) ≤ 4611686018427387903 ∧ nx < off + (data.size : Int)) := by
  simp only [insOk, Bool.and_eq_true, decide_eq_true_eq] at h
  exact h
/-- What is inserted into a buffer is one. -/
theorem insC_isBuf {nx : Int} {cs : List Ck} {off : Int} {data : ByteArray} (h : isBuf nx cs = true) : isBuf nx (insC nx cs off data) = true := by
  unfold insC
  split
  · rename_i hk
    obtain ⟨_, _, h0, h1, h2⟩ := insOk_parts hk
    rw [ins_same (isBuf_canon h) (by omega), insS_R]
    have hc : CanR nx (insR nx cs off data) := addRec_can _ _ nx (ckRgs_can (isBuf_canon h)) (by show nx ≤ max off nx; omega) (by show max off nx < off + (data.size : Int); omega)
    simp only [isBuf, Bool.and_eq_true]
    refine ⟨?_, canon_buf (rgsCk_canon _ hc) (rgsCk_top hc (insR_top h h1))⟩
    simp only [isBuf, Bool.and_eq_true] at h
    exact h.1
  · exact h
theorem wb_wf {cs : List Ck} (h : WB cs) : WfC cs := fun c hc => by
  have := h c hc
  omega
theorem insC_wf {nx : Int} {cs : List Ck} {off : Int} {data : ByteArray} (h : WfC cs) : WfC (insC nx cs off data) := by
  by_cases hk : insOk nx cs off data = true
  · exact wb_wf (isBuf_wb (insC_isBuf (insOk_parts hk).1))
  · rw [insC, if_neg hk]; exact h
theorem insC_length (nx : Int) (cs : List Ck) (off : Int) (data : ByteArray) : (insC nx cs off data).length ≤ cs.length + 1 := by
  by_cases hk : insOk nx cs off data = true
  · obtain ⟨hb, _, h0, h1, h2⟩ := insOk_parts hk
    rw [insC, if_pos hk, ins_same (isBuf_canon hb) (by omega), insS_R, rgsCk_length]
    have := addRec_length (ckRgs cs) (max off nx, off + (data.size : Int))
    rw [ckRgs_length] at this
    exact this
  · rw [insC, if_neg hk]; omega
/-- Are the data taken note of? What does it answer? -/
def rdaOk (st nx fi hg co off : Int) (data : ByteArray) (cs : List Ck) : Bool := recvIs st nx fi hg co cs && (decide (0 ≤ off) && decide (off + (data.size : Int) ≤ 4611686018427387903))
def rdaE (st nx fi hg co off : Int) (data : ByteArray) (fin : Bool) (cs : List Ck) : Int := if rdaOk st nx fi hg co off data cs = true then (if contra fi hg (off + (data.size : Int)) fin = true then 6 else 0) else 7
def rdaGo (st nx fi hg co off : Int) (data : ByteArray) (fin : Bool) (cs : List Ck) : Bool := rdaOk st nx fi hg co off data cs && (!contra fi hg (off + (data.size : Int)) fin && (st == 0 || st == 1))
def rdaFi (fi e : Int) (fin : Bool) : Int := if fin = true then e else fi
def rdaSt (st nx fi : Int) (fin : Bool) (ys : List Ck) : Int := if (fi != -1 && (nx + readyB nx ys == fi)) = true then 2 else if fin = true then 1 else st
set_option maxHeartbeats 4000000 in
set_option maxRecDepth 100000 in
theorem ReceiveData_impl_no (st nx fi hg co off : Int) (data : ByteArray) (fin : Bool) (ao : Option Addr) (n ca : Nat) (cs : List Ck) (w : World) (hx : ReadC w ao cs) (hn : cs.length = n) (hl : n ≤ 1048576) (hw : WfC cs) (hnx : -9223372036854775808 ≤ nx ∧ nx ≤ 9223372036854775807) (hoff : -9223372036854775808 ≤ off ∧ off ≤ 9223372036854775807) (hds : (data.size : Int) ≤ 1048576) (hgo : rdaGo st nx fi hg co off data fin cs = false) :
    Calls Try.prog 35 #[.agg #[.int .i64 st, .int .i64 nx, .slice ao n ca, .int .i64 fi, .int .i64 hg, .int .i64 co], .int .i64 off, .string data, .bool fin] w (RecvRes st nx fi hg co cs (.int .i64 (rdaE st nx fi hg co off data fin cs)) w) := by
  rcases Bool.eq_false_or_eq_true (recvIs st nx fi hg co cs) with hi | hi
  · -- yes
    by_cases h0 : off < 0
    · -- yes
      have hE : rdaE st nx fi hg co off data fin cs = 7 := by
        have : decide (0 ≤ off) = false := decide_eq_false (by omega)
        simp [rdaE, rdaOk, this]
      rw [hE]
      clear hE
      have hn' := hide hn
      have hx' := hide hx
      have hw' := hide hw
      clear hn hx hw
      go_enter Try.func35, Try.ntmps35
      go_wp2_with fail
      refine (copyReceiver_any st nx fi hg co ao n ca cs _ (hx'.out.ext (by repeat (first | with_reducible exact Ext.refl _ | with_reducible assumption | with_reducible refine Ext.alloc ?_ _ | with_reducible refine Ext.drew ?_ | ((with_reducible refine Ext.set ?_ ?_ _); (focus (first | (simp; done) | (simp; omega) | omega)))))) hn'.out hl).mono ?_
      rintro en w1 ⟨ao1, cap1, rfl, ho1, hw1⟩
      have xw1 : Ext w w1 := (by repeat (first | with_reducible exact Ext.refl _ | with_reducible assumption | with_reducible refine Ext.alloc ?_ _ | with_reducible refine Ext.drew ?_ | with_reducible refine Ext.drewN ?_ _ | ((with_reducible refine Ext.set ?_ ?_ _); (focus (first | (simp; done) | (simp; omega)))) | with_reducible refine Ext.trans ?_ (by assumption)))
      have kw1_0 := hw1.more (k := w.heap.size) (by first | assumption | (simp; done) | (simp; omega) | omega)
      obtain ⟨cw1_0, fw1_0⟩ := hw1.row (k := w.heap.size) (by first | assumption | (simp; done) | (simp; omega) | omega)
      have kw1_1 := hw1.more (k := w.heap.size + 1) (by first | assumption | (simp; done) | (simp; omega) | omega)
      obtain ⟨cw1_1, fw1_1⟩ := hw1.row (k := w.heap.size + 1) (by first | assumption | (simp; done) | (simp; omega) | omega)
      replace ho1 := hide (OwnC.mono (lo' := w.heap.size + 2) ho1 (by simp) (Nat.le_refl _))
      have hs1 : w.heap.size + 2 ≤ w1.heap.size := by have := hw1.size; simpa using this
      go_wp2_with fail
      refine (IsReceiver_impl st nx fi hg co ao n ca cs _ (hx'.out.ext (by repeat (first | with_reducible exact Ext.refl _ | with_reducible assumption | with_reducible refine Ext.alloc ?_ _ | with_reducible refine Ext.drew ?_ | ((with_reducible refine Ext.set ?_ ?_ _); (focus (first | (simp; done) | (simp; omega) | omega))) | with_reducible refine Ext.trans ?_ hw1))) hn'.out (by omega) hw'.out hnx).mono ?_
      rintro en w2 ⟨rfl, hw2⟩
      have xw2 : Ext w w2 := (by repeat (first | with_reducible exact Ext.refl _ | with_reducible assumption | with_reducible refine Ext.alloc ?_ _ | with_reducible refine Ext.drew ?_ | with_reducible refine Ext.drewN ?_ _ | ((with_reducible refine Ext.set ?_ ?_ _); (focus (first | (simp; done) | (simp; omega)))) | with_reducible refine Ext.trans ?_ (by assumption)))
      have kw2_0 := hw2.more (k := w.heap.size) (by first | assumption | (simp; done) | (simp; omega) | omega)
      obtain ⟨cw2_0, fw2_0⟩ := hw2.row (k := w.heap.size) (by first | assumption | (simp; done) | (simp; omega) | omega)
      have kw2_1 := hw2.more (k := w.heap.size + 1) (by first | assumption | (simp; done) | (simp; omega) | omega)
      obtain ⟨cw2_1, fw2_1⟩ := hw2.row (k := w.heap.size + 1) (by first | assumption | (simp; done) | (simp; omega) | omega)
      have kw2_2 := hw2.more (k := w1.heap.size) (by first | assumption | (simp; done) | (simp; omega) | omega)
      obtain ⟨cw2_2, fw2_2⟩ := hw2.row (k := w1.heap.size) (by first | assumption | (simp; done) | (simp; omega) | omega)
      rw [hi]
      have hs2 : w1.heap.size < w2.heap.size := by have := hw2.size; simp at this; omega
      go_wp2
      refine bodyPost_ret (v := .tuple #[.agg #[.int .i64 st, .int .i64 nx, .slice ao1 cs.length cap1, .int .i64 fi, .int .i64 hg, .int .i64 co], .int .i64 7]) (by simp [results, Try.results35, go_sem, *]) rfl ⟨ao1, cap1, rfl, ?_, ?_⟩
      · refine OwnC.mono (OwnC.chg (S := fun k => k < w.heap.size + 2) ho1.out (by repeat (first | with_reducible exact Chg.refl _ _ | with_reducible assumption | with_reducible refine Chg.alloc ?_ _ | with_reducible refine Chg.drew ?_ | ((with_reducible refine Chg.set ?_ ?_ _); (focus (first | (left; simp; done) | (left; simp; omega) | (left; omega) | (right; simp; done) | (right; simp; omega) | (right; omega)))) | with_reducible refine Chg.trans ?_ (Ext.chg hw2 _))) (fun b h1 h2 h3 => by omega)) (by omega) (by simp; omega)
      · exact (by repeat (first | with_reducible exact Ext.refl _ | with_reducible assumption | with_reducible refine Ext.alloc ?_ _ | with_reducible refine Ext.drew ?_ | with_reducible refine Ext.drewN ?_ _ | ((with_reducible refine Ext.set ?_ ?_ _); (focus (first | (simp; done) | (simp; omega)))) | with_reducible refine Ext.trans ?_ (by assumption)))
    · -- no
      have h0x : ¬ (off < 0) := h0
      have h0d : decide (off < 0) = false := decide_eq_false h0x
      replace h0 : 0 ≤ off := by omega
      by_cases h1 : 4611686018427387903 - (data.size : Int) < off
      · -- yes
        have wr1 : IntKind.i64.wrap (4611686018427387903 - (data.size : Int)) = 4611686018427387903 - (data.size : Int) := IntWalk.i64_in _ (by omega)
        have hE : rdaE st nx fi hg co off data fin cs = 7 := by
          have : decide (off + (data.size : Int) ≤ 4611686018427387903) = false := decide_eq_false (by omega)
          simp [rdaE, rdaOk, this]
        rw [hE]
        clear hE
        have hn' := hide hn
        have hx' := hide hx
        have hw' := hide hw
        clear hn hx hw
        go_enter Try.func35, Try.ntmps35
        go_wp2_with fail
        refine (copyReceiver_any st nx fi hg co ao n ca cs _ (hx'.out.ext (by repeat (first | with_reducible exact Ext.refl _ | with_reducible assumption | with_reducible refine Ext.alloc ?_ _ | with_reducible refine Ext.drew ?_ | ((with_reducible refine Ext.set ?_ ?_ _); (focus (first | (simp; done) | (simp; omega) | omega)))))) hn'.out hl).mono ?_
        rintro en w1 ⟨ao1, cap1, rfl, ho1, hw1⟩
        have xw1 : Ext w w1 := (by repeat (first | with_reducible exact Ext.refl _ | with_reducible assumption | with_reducible refine Ext.alloc ?_ _ | with_reducible refine Ext.drew ?_ | with_reducible refine Ext.drewN ?_ _ | ((with_reducible refine Ext.set ?_ ?_ _); (focus (first | (simp; done) | (simp; omega)))) | with_reducible refine Ext.trans ?_ (by assumption)))
        have kw1_0 := hw1.more (k := w.heap.size) (by first | assumption | (simp; done) | (simp; omega) | omega)
        obtain ⟨cw1_0, fw1_0⟩ := hw1.row (k := w.heap.size) (by first | assumption | (simp; done) | (simp; omega) | omega)
        have kw1_1 := hw1.more (k := w.heap.size + 1) (by first | assumption | (simp; done) | (simp; omega) | omega)
        obtain ⟨cw1_1, fw1_1⟩ := hw1.row (k := w.heap.size + 1) (by first | assumption | (simp; done) | (simp; omega) | omega)
        replace ho1 := hide (OwnC.mono (lo' := w.heap.size + 2) ho1 (by simp) (Nat.le_refl _))
        have hs1 : w.heap.size + 2 ≤ w1.heap.size := by have := hw1.size; simpa using this
        go_wp2_with fail
        refine (IsReceiver_impl st nx fi hg co ao n ca cs _ (hx'.out.ext (by repeat (first | with_reducible exact Ext.refl _ | with_reducible assumption | with_reducible refine Ext.alloc ?_ _ | with_reducible refine Ext.drew ?_ | ((with_reducible refine Ext.set ?_ ?_ _); (focus (first | (simp; done) | (simp; omega) | omega))) | with_reducible refine Ext.trans ?_ hw1))) hn'.out (by omega) hw'.out hnx).mono ?_
        rintro en w2 ⟨rfl, hw2⟩
        have xw2 : Ext w w2 := (by repeat (first | with_reducible exact Ext.refl _ | with_reducible assumption | with_reducible refine Ext.alloc ?_ _ | with_reducible refine Ext.drew ?_ | with_reducible refine Ext.drewN ?_ _ | ((with_reducible refine Ext.set ?_ ?_ _); (focus (first | (simp; done) | (simp; omega)))) | with_reducible refine Ext.trans ?_ (by assumption)))
        have kw2_0 := hw2.more (k := w.heap.size) (by first | assumption | (simp; done) | (simp; omega) | omega)
        obtain ⟨cw2_0, fw2_0⟩ := hw2.row (k := w.heap.size) (by first | assumption | (simp; done) | (simp; omega) | omega)
        have kw2_1 := hw2.more (k := w.heap.size + 1) (by first | assumption | (simp; done) | (simp; omega) | omega)
        obtain ⟨cw2_1, fw2_1⟩ := hw2.row (k := w.heap.size + 1) (by first | assumption | (simp; done) | (simp; omega) | omega)
        have kw2_2 := hw2.more (k := w1.heap.size) (by first | assumption | (simp; done) | (simp; omega) | omega)
        obtain ⟨cw2_2, fw2_2⟩ := hw2.row (k := w1.heap.size) (by first | assumption | (simp; done) | (simp; omega) | omega)
        rw [hi]
        have hs2 : w1.heap.size < w2.heap.size := by have := hw2.size; simp at this; omega
        go_wp2
        refine bodyPost_ret (v := .tuple #[.agg #[.int .i64 st, .int .i64 nx, .slice ao1 cs.length cap1, .int .i64 fi, .int .i64 hg, .int .i64 co], .int .i64 7]) (by simp [results, Try.results35, go_sem, *]) rfl ⟨ao1, cap1, rfl, ?_, ?_⟩
        · refine OwnC.mono (OwnC.chg (S := fun k => k < w.heap.size + 2) ho1.out (by repeat (first | with_reducible exact Chg.refl _ _ | with_reducible assumption | with_reducible refine Chg.alloc ?_ _ | with_reducible refine Chg.drew ?_ | ((with_reducible refine Chg.set ?_ ?_ _); (focus (first | (left; simp; done) | (left; simp; omega) | (left; omega) | (right; simp; done) | (right; simp; omega) | (right; omega)))) | with_reducible refine Chg.trans ?_ (Ext.chg hw2 _))) (fun b h1 h2 h3 => by omega)) (by omega) (by simp; omega)
        · exact (by repeat (first | with_reducible exact Ext.refl _ | with_reducible assumption | with_reducible refine Ext.alloc ?_ _ | with_reducible refine Ext.drew ?_ | with_reducible refine Ext.drewN ?_ _ | ((with_reducible refine Ext.set ?_ ?_ _); (focus (first | (simp; done) | (simp; omega)))) | with_reducible refine Ext.trans ?_ (by assumption)))
      · -- no
        have h1x : ¬ (4611686018427387903 - (data.size : Int) < off) := h1
        have h1d : decide (4611686018427387903 - (data.size : Int) < off) = false := decide_eq_false h1x
        replace h1 : off ≤ 4611686018427387903 - (data.size : Int) := by omega
        rcases Bool.eq_false_or_eq_true (contra fi hg (off + (data.size : Int)) fin) with hcn | hcn
        · -- yes
          have wr1 : IntKind.i64.wrap (4611686018427387903 - (data.size : Int)) = 4611686018427387903 - (data.size : Int) := IntWalk.i64_in _ (by omega)
          have wr2 : IntKind.i64.wrap (off + (data.size : Int)) = off + (data.size : Int) := IntWalk.i64_in _ (by omega)
          have hE : rdaE st nx fi hg co off data fin cs = 6 := by
            have e1 : decide (0 ≤ off) = true := decide_eq_true (by omega)
            have e2 : decide (off + (data.size : Int) ≤ 4611686018427387903) = true := decide_eq_true (by omega)
            simp [rdaE, rdaOk, hi, e1, e2, hcn]
          rw [hE]
          clear hE
          have hn' := hide hn
          have hx' := hide hx
          have hw' := hide hw
          clear hn hx hw
          go_enter Try.func35, Try.ntmps35
          go_wp2_with fail
          refine (copyReceiver_any st nx fi hg co ao n ca cs _ (hx'.out.ext (by repeat (first | with_reducible exact Ext.refl _ | with_reducible assumption | with_reducible refine Ext.alloc ?_ _ | with_reducible refine Ext.drew ?_ | ((with_reducible refine Ext.set ?_ ?_ _); (focus (first | (simp; done) | (simp; omega) | omega)))))) hn'.out hl).mono ?_
          rintro en w1 ⟨ao1, cap1, rfl, ho1, hw1⟩
          have xw1 : Ext w w1 := (by repeat (first | with_reducible exact Ext.refl _ | with_reducible assumption | with_reducible refine Ext.alloc ?_ _ | with_reducible refine Ext.drew ?_ | with_reducible refine Ext.drewN ?_ _ | ((with_reducible refine Ext.set ?_ ?_ _); (focus (first | (simp; done) | (simp; omega)))) | with_reducible refine Ext.trans ?_ (by assumption)))
          have kw1_0 := hw1.more (k := w.heap.size) (by first | assumption | (simp; done) | (simp; omega) | omega)
          obtain ⟨cw1_0, fw1_0⟩ := hw1.row (k := w.heap.size) (by first | assumption | (simp; done) | (simp; omega) | omega)
          have kw1_1 := hw1.more (k := w.heap.size + 1) (by first | assumption | (simp; done) | (simp; omega) | omega)
          obtain ⟨cw1_1, fw1_1⟩ := hw1.row (k := w.heap.size + 1) (by first | assumption | (simp; done) | (simp; omega) | omega)
          replace ho1 := hide (OwnC.mono (lo' := w.heap.size + 2) ho1 (by simp) (Nat.le_refl _))
          have hs1 : w.heap.size + 2 ≤ w1.heap.size := by have := hw1.size; simpa using this
          go_wp2_with fail
          refine (IsReceiver_impl st nx fi hg co ao n ca cs _ (hx'.out.ext (by repeat (first | with_reducible exact Ext.refl _ | with_reducible assumption | with_reducible refine Ext.alloc ?_ _ | with_reducible refine Ext.drew ?_ | ((with_reducible refine Ext.set ?_ ?_ _); (focus (first | (simp; done) | (simp; omega) | omega))) | with_reducible refine Ext.trans ?_ hw1))) hn'.out (by omega) hw'.out hnx).mono ?_
          rintro en w2 ⟨rfl, hw2⟩
          have xw2 : Ext w w2 := (by repeat (first | with_reducible exact Ext.refl _ | with_reducible assumption | with_reducible refine Ext.alloc ?_ _ | with_reducible refine Ext.drew ?_ | with_reducible refine Ext.drewN ?_ _ | ((with_reducible refine Ext.set ?_ ?_ _); (focus (first | (simp; done) | (simp; omega)))) | with_reducible refine Ext.trans ?_ (by assumption)))
          have kw2_0 := hw2.more (k := w.heap.size) (by first | assumption | (simp; done) | (simp; omega) | omega)
          obtain ⟨cw2_0, fw2_0⟩ := hw2.row (k := w.heap.size) (by first | assumption | (simp; done) | (simp; omega) | omega)
          have kw2_1 := hw2.more (k := w.heap.size + 1) (by first | assumption | (simp; done) | (simp; omega) | omega)
          obtain ⟨cw2_1, fw2_1⟩ := hw2.row (k := w.heap.size + 1) (by first | assumption | (simp; done) | (simp; omega) | omega)
          have kw2_2 := hw2.more (k := w1.heap.size) (by first | assumption | (simp; done) | (simp; omega) | omega)
          obtain ⟨cw2_2, fw2_2⟩ := hw2.row (k := w1.heap.size) (by first | assumption | (simp; done) | (simp; omega) | omega)
          rw [hi]
          have hs2 : w1.heap.size < w2.heap.size := by have := hw2.size; simp at this; omega
          go_wp2_with fail
          refine (contradicts_any st nx fi hg co (off + (data.size : Int)) fin ao n ca _).mono ?_
          rintro en w3 ⟨rfl, hw3⟩
          have xw3 : Ext w w3 := (by repeat (first | with_reducible exact Ext.refl _ | with_reducible assumption | with_reducible refine Ext.alloc ?_ _ | with_reducible refine Ext.drew ?_ | with_reducible refine Ext.drewN ?_ _ | ((with_reducible refine Ext.set ?_ ?_ _); (focus (first | (simp; done) | (simp; omega)))) | with_reducible refine Ext.trans ?_ (by assumption)))
          have kw3_0 := hw3.more (k := w.heap.size) (by first | assumption | (simp; done) | (simp; omega) | omega)
          obtain ⟨cw3_0, fw3_0⟩ := hw3.row (k := w.heap.size) (by first | assumption | (simp; done) | (simp; omega) | omega)
          have kw3_1 := hw3.more (k := w.heap.size + 1) (by first | assumption | (simp; done) | (simp; omega) | omega)
          obtain ⟨cw3_1, fw3_1⟩ := hw3.row (k := w.heap.size + 1) (by first | assumption | (simp; done) | (simp; omega) | omega)
          have kw3_2 := hw3.more (k := w1.heap.size) (by first | assumption | (simp; done) | (simp; omega) | omega)
          obtain ⟨cw3_2, fw3_2⟩ := hw3.row (k := w1.heap.size) (by first | assumption | (simp; done) | (simp; omega) | omega)
          rw [hcn]
          go_wp2
          refine bodyPost_ret (v := .tuple #[.agg #[.int .i64 st, .int .i64 nx, .slice ao1 cs.length cap1, .int .i64 fi, .int .i64 hg, .int .i64 co], .int .i64 6]) (by simp [results, Try.results35, go_sem, *]) rfl ⟨ao1, cap1, rfl, ?_, ?_⟩
          · refine OwnC.mono (OwnC.chg (S := fun k => k < w.heap.size + 2) ho1.out (by repeat (first | with_reducible exact Chg.refl _ _ | with_reducible assumption | with_reducible refine Chg.alloc ?_ _ | with_reducible refine Chg.drew ?_ | ((with_reducible refine Chg.set ?_ ?_ _); (focus (first | (left; simp; done) | (left; simp; omega) | (left; omega) | (right; simp; done) | (right; simp; omega) | (right; omega)))) | with_reducible refine Chg.trans ?_ (Ext.chg hw3 _) | with_reducible refine Chg.trans ?_ (Ext.chg hw2 _))) (fun b h1 h2 h3 => by omega)) (by omega) (by simp; omega)
          · exact (by repeat (first | with_reducible exact Ext.refl _ | with_reducible assumption | with_reducible refine Ext.alloc ?_ _ | with_reducible refine Ext.drew ?_ | with_reducible refine Ext.drewN ?_ _ | ((with_reducible refine Ext.set ?_ ?_ _); (focus (first | (simp; done) | (simp; omega)))) | with_reducible refine Ext.trans ?_ (by assumption)))
        · -- no
          by_cases s0 : st = 0
          · -- equal
            have s0e : (st == 0) = true := by simp [s0]
            have s0n : (st != 0) = false := by simp [s0]
            have s0H := hide s0
            clear s0
            have e1 : decide (0 ≤ off) = true := decide_eq_true (by omega)
            have e2 : decide (off + (data.size : Int) ≤ 4611686018427387903) = true := decide_eq_true (by omega)
            simp [rdaGo, rdaOk, *] at hgo
          · -- other
            have s0e : (st == 0) = false := by simp [s0]
            have s0n : (st != 0) = true := by simp [s0]
            have s0H := hide s0
            clear s0
            by_cases s1 : st = 1
            · -- equal
              have s1e : (st == 1) = true := by simp [s1]
              have s1n : (st != 1) = false := by simp [s1]
              have s1H := hide s1
              clear s1
              have e1 : decide (0 ≤ off) = true := decide_eq_true (by omega)
              have e2 : decide (off + (data.size : Int) ≤ 4611686018427387903) = true := decide_eq_true (by omega)
              simp [rdaGo, rdaOk, *] at hgo
            · -- other
              have s1e : (st == 1) = false := by simp [s1]
              have s1n : (st != 1) = true := by simp [s1]
              have s1H := hide s1
              clear s1
              obtain ⟨t0, t5⟩ := recvIs_st hi
              have wr1 : IntKind.i64.wrap (4611686018427387903 - (data.size : Int)) = 4611686018427387903 - (data.size : Int) := IntWalk.i64_in _ (by omega)
              have wr2 : IntKind.i64.wrap (off + (data.size : Int)) = off + (data.size : Int) := IntWalk.i64_in _ (by omega)
              have htk : (st == 0 || st == 1) = false := by simp [*]
              have hgt : decide (1 < st) = true := by
                have := s0H.out
                have := s1H.out
                simp; omega
              clear hgo
              have hE : rdaE st nx fi hg co off data fin cs = 0 := by
                have e1 : decide (0 ≤ off) = true := decide_eq_true (by omega)
                have e2 : decide (off + (data.size : Int) ≤ 4611686018427387903) = true := decide_eq_true (by omega)
                simp [rdaE, rdaOk, hi, e1, e2, hcn]
              rw [hE]
              clear hE
              have hn' := hide hn
              have hx' := hide hx
              have hw' := hide hw
              clear hn hx hw
              go_enter Try.func35, Try.ntmps35
              go_wp2_with fail
              refine (copyReceiver_any st nx fi hg co ao n ca cs _ (hx'.out.ext (by repeat (first | with_reducible exact Ext.refl _ | with_reducible assumption | with_reducible refine Ext.alloc ?_ _ | with_reducible refine Ext.drew ?_ | ((with_reducible refine Ext.set ?_ ?_ _); (focus (first | (simp; done) | (simp; omega) | omega)))))) hn'.out hl).mono ?_
              rintro en w1 ⟨ao1, cap1, rfl, ho1, hw1⟩
              have xw1 : Ext w w1 := (by repeat (first | with_reducible exact Ext.refl _ | with_reducible assumption | with_reducible refine Ext.alloc ?_ _ | with_reducible refine Ext.drew ?_ | with_reducible refine Ext.drewN ?_ _ | ((with_reducible refine Ext.set ?_ ?_ _); (focus (first | (simp; done) | (simp; omega)))) | with_reducible refine Ext.trans ?_ (by assumption)))
              have kw1_0 := hw1.more (k := w.heap.size) (by first | assumption | (simp; done) | (simp; omega) | omega)
              obtain ⟨cw1_0, fw1_0⟩ := hw1.row (k := w.heap.size) (by first | assumption | (simp; done) | (simp; omega) | omega)
              have kw1_1 := hw1.more (k := w.heap.size + 1) (by first | assumption | (simp; done) | (simp; omega) | omega)
              obtain ⟨cw1_1, fw1_1⟩ := hw1.row (k := w.heap.size + 1) (by first | assumption | (simp; done) | (simp; omega) | omega)
              replace ho1 := hide (OwnC.mono (lo' := w.heap.size + 2) ho1 (by simp) (Nat.le_refl _))
              have hs1 : w.heap.size + 2 ≤ w1.heap.size := by have := hw1.size; simpa using this
              go_wp2_with fail
              refine (IsReceiver_impl st nx fi hg co ao n ca cs _ (hx'.out.ext (by repeat (first | with_reducible exact Ext.refl _ | with_reducible assumption | with_reducible refine Ext.alloc ?_ _ | with_reducible refine Ext.drew ?_ | ((with_reducible refine Ext.set ?_ ?_ _); (focus (first | (simp; done) | (simp; omega) | omega))) | with_reducible refine Ext.trans ?_ hw1))) hn'.out (by omega) hw'.out hnx).mono ?_
              rintro en w2 ⟨rfl, hw2⟩
              have xw2 : Ext w w2 := (by repeat (first | with_reducible exact Ext.refl _ | with_reducible assumption | with_reducible refine Ext.alloc ?_ _ | with_reducible refine Ext.drew ?_ | with_reducible refine Ext.drewN ?_ _ | ((with_reducible refine Ext.set ?_ ?_ _); (focus (first | (simp; done) | (simp; omega)))) | with_reducible refine Ext.trans ?_ (by assumption)))
              have kw2_0 := hw2.more (k := w.heap.size) (by first | assumption | (simp; done) | (simp; omega) | omega)
              obtain ⟨cw2_0, fw2_0⟩ := hw2.row (k := w.heap.size) (by first | assumption | (simp; done) | (simp; omega) | omega)
              have kw2_1 := hw2.more (k := w.heap.size + 1) (by first | assumption | (simp; done) | (simp; omega) | omega)
              obtain ⟨cw2_1, fw2_1⟩ := hw2.row (k := w.heap.size + 1) (by first | assumption | (simp; done) | (simp; omega) | omega)
              have kw2_2 := hw2.more (k := w1.heap.size) (by first | assumption | (simp; done) | (simp; omega) | omega)
              obtain ⟨cw2_2, fw2_2⟩ := hw2.row (k := w1.heap.size) (by first | assumption | (simp; done) | (simp; omega) | omega)
              rw [hi]
              have hs2 : w1.heap.size < w2.heap.size := by have := hw2.size; simp at this; omega
              go_wp2_with fail
              refine (contradicts_any st nx fi hg co (off + (data.size : Int)) fin ao n ca _).mono ?_
              rintro en w3 ⟨rfl, hw3⟩
              have xw3 : Ext w w3 := (by repeat (first | with_reducible exact Ext.refl _ | with_reducible assumption | with_reducible refine Ext.alloc ?_ _ | with_reducible refine Ext.drew ?_ | with_reducible refine Ext.drewN ?_ _ | ((with_reducible refine Ext.set ?_ ?_ _); (focus (first | (simp; done) | (simp; omega)))) | with_reducible refine Ext.trans ?_ (by assumption)))
              have kw3_0 := hw3.more (k := w.heap.size) (by first | assumption | (simp; done) | (simp; omega) | omega)
              obtain ⟨cw3_0, fw3_0⟩ := hw3.row (k := w.heap.size) (by first | assumption | (simp; done) | (simp; omega) | omega)
              have kw3_1 := hw3.more (k := w.heap.size + 1) (by first | assumption | (simp; done) | (simp; omega) | omega)
              obtain ⟨cw3_1, fw3_1⟩ := hw3.row (k := w.heap.size + 1) (by first | assumption | (simp; done) | (simp; omega) | omega)
              have kw3_2 := hw3.more (k := w1.heap.size) (by first | assumption | (simp; done) | (simp; omega) | omega)
              obtain ⟨cw3_2, fw3_2⟩ := hw3.row (k := w1.heap.size) (by first | assumption | (simp; done) | (simp; omega) | omega)
              rw [hcn]
              go_wp2_with fail
              refine (takes_any st nx fi hg co ao n ca _).mono ?_
              rintro en w4 ⟨rfl, hw4⟩
              have xw4 : Ext w w4 := (by repeat (first | with_reducible exact Ext.refl _ | with_reducible assumption | with_reducible refine Ext.alloc ?_ _ | with_reducible refine Ext.drew ?_ | with_reducible refine Ext.drewN ?_ _ | ((with_reducible refine Ext.set ?_ ?_ _); (focus (first | (simp; done) | (simp; omega)))) | with_reducible refine Ext.trans ?_ (by assumption)))
              have kw4_0 := hw4.more (k := w.heap.size) (by first | assumption | (simp; done) | (simp; omega) | omega)
              obtain ⟨cw4_0, fw4_0⟩ := hw4.row (k := w.heap.size) (by first | assumption | (simp; done) | (simp; omega) | omega)
              have kw4_1 := hw4.more (k := w.heap.size + 1) (by first | assumption | (simp; done) | (simp; omega) | omega)
              obtain ⟨cw4_1, fw4_1⟩ := hw4.row (k := w.heap.size + 1) (by first | assumption | (simp; done) | (simp; omega) | omega)
              have kw4_2 := hw4.more (k := w1.heap.size) (by first | assumption | (simp; done) | (simp; omega) | omega)
              obtain ⟨cw4_2, fw4_2⟩ := hw4.row (k := w1.heap.size) (by first | assumption | (simp; done) | (simp; omega) | omega)
              rw [htk]
              go_wp2
              refine bodyPost_ret (v := .tuple #[.agg #[.int .i64 st, .int .i64 nx, .slice ao1 cs.length cap1, .int .i64 fi, .int .i64 hg, .int .i64 co], .int .i64 0]) (by simp [results, Try.results35, go_sem, *]) rfl ⟨ao1, cap1, rfl, ?_, ?_⟩
              · refine OwnC.mono (OwnC.chg (S := fun k => k < w.heap.size + 2) ho1.out (by repeat (first | with_reducible exact Chg.refl _ _ | with_reducible assumption | with_reducible refine Chg.alloc ?_ _ | with_reducible refine Chg.drew ?_ | ((with_reducible refine Chg.set ?_ ?_ _); (focus (first | (left; simp; done) | (left; simp; omega) | (left; omega) | (right; simp; done) | (right; simp; omega) | (right; omega)))) | with_reducible refine Chg.trans ?_ (Ext.chg hw4 _) | with_reducible refine Chg.trans ?_ (Ext.chg hw3 _) | with_reducible refine Chg.trans ?_ (Ext.chg hw2 _))) (fun b h1 h2 h3 => by omega)) (by omega) (by simp; omega)
              · exact (by repeat (first | with_reducible exact Ext.refl _ | with_reducible assumption | with_reducible refine Ext.alloc ?_ _ | with_reducible refine Ext.drew ?_ | with_reducible refine Ext.drewN ?_ _ | ((with_reducible refine Ext.set ?_ ?_ _); (focus (first | (simp; done) | (simp; omega)))) | with_reducible refine Ext.trans ?_ (by assumption)))
  · -- no
    have hE : rdaE st nx fi hg co off data fin cs = 7 := by
      simp [rdaE, rdaOk, hi]
    rw [hE]
    clear hE
    have hn' := hide hn
    have hx' := hide hx
    have hw' := hide hw
    clear hn hx hw
    go_enter Try.func35, Try.ntmps35
    go_wp2_with fail
    refine (copyReceiver_any st nx fi hg co ao n ca cs _ (hx'.out.ext (by repeat (first | with_reducible exact Ext.refl _ | with_reducible assumption | with_reducible refine Ext.alloc ?_ _ | with_reducible refine Ext.drew ?_ | ((with_reducible refine Ext.set ?_ ?_ _); (focus (first | (simp; done) | (simp; omega) | omega)))))) hn'.out hl).mono ?_
    rintro en w1 ⟨ao1, cap1, rfl, ho1, hw1⟩
    have xw1 : Ext w w1 := (by repeat (first | with_reducible exact Ext.refl _ | with_reducible assumption | with_reducible refine Ext.alloc ?_ _ | with_reducible refine Ext.drew ?_ | with_reducible refine Ext.drewN ?_ _ | ((with_reducible refine Ext.set ?_ ?_ _); (focus (first | (simp; done) | (simp; omega)))) | with_reducible refine Ext.trans ?_ (by assumption)))
    have kw1_0 := hw1.more (k := w.heap.size) (by first | assumption | (simp; done) | (simp; omega) | omega)
    obtain ⟨cw1_0, fw1_0⟩ := hw1.row (k := w.heap.size) (by first | assumption | (simp; done) | (simp; omega) | omega)
    have kw1_1 := hw1.more (k := w.heap.size + 1) (by first | assumption | (simp; done) | (simp; omega) | omega)
    obtain ⟨cw1_1, fw1_1⟩ := hw1.row (k := w.heap.size + 1) (by first | assumption | (simp; done) | (simp; omega) | omega)
    replace ho1 := hide (OwnC.mono (lo' := w.heap.size + 2) ho1 (by simp) (Nat.le_refl _))
    have hs1 : w.heap.size + 2 ≤ w1.heap.size := by have := hw1.size; simpa using this
    go_wp2_with fail
    refine (IsReceiver_impl st nx fi hg co ao n ca cs _ (hx'.out.ext (by repeat (first | with_reducible exact Ext.refl _ | with_reducible assumption | with_reducible refine Ext.alloc ?_ _ | with_reducible refine Ext.drew ?_ | ((with_reducible refine Ext.set ?_ ?_ _); (focus (first | (simp; done) | (simp; omega) | omega))) | with_reducible refine Ext.trans ?_ hw1))) hn'.out (by omega) hw'.out hnx).mono ?_
    rintro en w2 ⟨rfl, hw2⟩
    have xw2 : Ext w w2 := (by repeat (first | with_reducible exact Ext.refl _ | with_reducible assumption | with_reducible refine Ext.alloc ?_ _ | with_reducible refine Ext.drew ?_ | with_reducible refine Ext.drewN ?_ _ | ((with_reducible refine Ext.set ?_ ?_ _); (focus (first | (simp; done) | (simp; omega)))) | with_reducible refine Ext.trans ?_ (by assumption)))
    have kw2_0 := hw2.more (k := w.heap.size) (by first | assumption | (simp; done) | (simp; omega) | omega)
    obtain ⟨cw2_0, fw2_0⟩ := hw2.row (k := w.heap.size) (by first | assumption | (simp; done) | (simp; omega) | omega)
    have kw2_1 := hw2.more (k := w.heap.size + 1) (by first | assumption | (simp; done) | (simp; omega) | omega)
    obtain ⟨cw2_1, fw2_1⟩ := hw2.row (k := w.heap.size + 1) (by first | assumption | (simp; done) | (simp; omega) | omega)
    have kw2_2 := hw2.more (k := w1.heap.size) (by first | assumption | (simp; done) | (simp; omega) | omega)
    obtain ⟨cw2_2, fw2_2⟩ := hw2.row (k := w1.heap.size) (by first | assumption | (simp; done) | (simp; omega) | omega)
    rw [hi]
    have hs2 : w1.heap.size < w2.heap.size := by have := hw2.size; simp at this; omega
    go_wp2
    refine bodyPost_ret (v := .tuple #[.agg #[.int .i64 st, .int .i64 nx, .slice ao1 cs.length cap1, .int .i64 fi, .int .i64 hg, .int .i64 co], .int .i64 7]) (by simp [results, Try.results35, go_sem, *]) rfl ⟨ao1, cap1, rfl, ?_, ?_⟩
    · refine OwnC.mono (OwnC.chg (S := fun k => k < w.heap.size + 2) ho1.out (by repeat (first | with_reducible exact Chg.refl _ _ | with_reducible assumption | with_reducible refine Chg.alloc ?_ _ | with_reducible refine Chg.drew ?_ | ((with_reducible refine Chg.set ?_ ?_ _); (focus (first | (left; simp; done) | (left; simp; omega) | (left; omega) | (right; simp; done) | (right; simp; omega) | (right; omega)))) | with_reducible refine Chg.trans ?_ (Ext.chg hw2 _))) (fun b h1 h2 h3 => by omega)) (by omega) (by simp; omega)
    · exact (by repeat (first | with_reducible exact Ext.refl _ | with_reducible assumption | with_reducible refine Ext.alloc ?_ _ | with_reducible refine Ext.drew ?_ | with_reducible refine Ext.drewN ?_ _ | ((with_reducible refine Ext.set ?_ ?_ _); (focus (first | (simp; done) | (simp; omega)))) | with_reducible refine Ext.trans ?_ (by assumption)))
set_option maxHeartbeats 8000000 in
set_option maxRecDepth 100000 in
theorem ReceiveData_impl_yes (st nx fi hg co off : Int) (data : ByteArray) (fin : Bool) (ao : Option Addr) (n ca : Nat) (cs : List Ck) (w : World) (hx : ReadC w ao cs) (hn : cs.length = n) (hl : n ≤ 1048576) (hw : WfC cs) (hnx : -9223372036854775808 ≤ nx ∧ nx ≤ 9223372036854775807) (hoff : -9223372036854775808 ≤ off ∧ off ≤ 9223372036854775807) (hds : (data.size : Int) ≤ 1048576) (hgo : rdaGo st nx fi hg co off data fin cs = true) :
    Calls Try.prog 35 #[.agg #[.int .i64 st, .int .i64 nx, .slice ao n ca, .int .i64 fi, .int .i64 hg, .int .i64 co], .int .i64 off, .string data, .bool fin] w (RecvRes (rdaSt st nx (rdaFi fi (off + (data.size : Int)) fin) fin (insC nx cs off data)) nx (rdaFi fi (off + (data.size : Int)) fin) (max hg (off + (data.size : Int))) co (insC nx cs off data) (.int .i64 0) w) := by
  have hgo' := hgo
  simp only [rdaGo, rdaOk, Bool.and_eq_true, Bool.not_eq_true', decide_eq_true_eq] at hgo'
  obtain ⟨⟨hi, h0, h1⟩, hcn, htk⟩ := hgo'
  have hgt : decide (1 < st) = false := by
    simp only [Bool.or_eq_true, beq_iff_eq] at htk
    simp; omega
  have wr1 : IntKind.i64.wrap (4611686018427387903 - (data.size : Int)) = 4611686018427387903 - (data.size : Int) := IntWalk.i64_in _ (by omega)
  have wr2 : IntKind.i64.wrap (off + (data.size : Int)) = off + (data.size : Int) := IntWalk.i64_in _ (by omega)
  have d0 : decide (off < 0) = false := decide_eq_false (by omega)
  have d1 : decide (4611686018427387903 - (data.size : Int) < off) = false := decide_eq_false (by omega)
  have d2 : ((off + (data.size : Int)) != -1) = true := by simp; omega
  have d3 : ((off + (data.size : Int)) == -1) = false := by simp; omega
  clear hgo
  rcases Bool.eq_false_or_eq_true (fin) with hfi | hfi
  · -- yes
    rcases Bool.eq_false_or_eq_true ((nx + readyB nx (insC nx cs off data) == off + (data.size : Int))) with hq | hq
    · -- yes
      subst hfi
      have hF : rdaFi fi (off + (data.size : Int)) true = (off + (data.size : Int)) := by simp [rdaFi]
      rw [hF]
      have hT : rdaSt st nx (off + (data.size : Int)) true (insC nx cs off data) = 2 := by simp [rdaSt, *]
      rw [hT]
      clear hF hT
      have hwf := hide (insC_wf (nx := nx) (off := off) (data := data) hw)
      have hbd := readyB_bd nx (insC nx cs off data)
      have hyl := insC_length nx cs off data
      have hwr : IntKind.i64.wrap (nx + readyB nx (insC nx cs off data)) = nx + readyB nx (insC nx cs off data) := IntWalk.i64_in _ (by omega)
      have hyl2 : (insC nx cs off data).length ≤ 1048577 := by omega
      clear hyl
      have hn' := hide hn
      have hx' := hide hx
      have hw' := hide hw
      clear hn hx hw
      go_enter Try.func35, Try.ntmps35
      go_wp2_with fail
      refine (copyReceiver_any st nx fi hg co ao n ca cs _ (hx'.out.ext (by repeat (first | with_reducible exact Ext.refl _ | with_reducible assumption | with_reducible refine Ext.alloc ?_ _ | with_reducible refine Ext.drew ?_ | ((with_reducible refine Ext.set ?_ ?_ _); (focus (first | (simp; done) | (simp; omega) | omega)))))) hn'.out hl).mono ?_
      rintro en w1 ⟨ao1, cap1, rfl, ho1, hw1⟩
      have xw1 : Ext w w1 := (by repeat (first | with_reducible exact Ext.refl _ | with_reducible assumption | with_reducible refine Ext.alloc ?_ _ | with_reducible refine Ext.drew ?_ | with_reducible refine Ext.drewN ?_ _ | ((with_reducible refine Ext.set ?_ ?_ _); (focus (first | (simp; done) | (simp; omega)))) | with_reducible refine Ext.trans ?_ (by assumption)))
      have kw1_0 := hw1.more (k := w.heap.size) (by first | assumption | (simp; done) | (simp; omega) | omega)
      obtain ⟨cw1_0, fw1_0⟩ := hw1.row (k := w.heap.size) (by first | assumption | (simp; done) | (simp; omega) | omega)
      have kw1_1 := hw1.more (k := w.heap.size + 1) (by first | assumption | (simp; done) | (simp; omega) | omega)
      obtain ⟨cw1_1, fw1_1⟩ := hw1.row (k := w.heap.size + 1) (by first | assumption | (simp; done) | (simp; omega) | omega)
      replace ho1 := hide (OwnC.mono (lo' := w.heap.size + 2) ho1 (by simp) (Nat.le_refl _))
      have hs1 : w.heap.size + 2 ≤ w1.heap.size := by have := hw1.size; simpa using this
      go_wp2_with fail
      refine (IsReceiver_impl st nx fi hg co ao n ca cs _ (hx'.out.ext (by repeat (first | with_reducible exact Ext.refl _ | with_reducible assumption | with_reducible refine Ext.alloc ?_ _ | with_reducible refine Ext.drew ?_ | ((with_reducible refine Ext.set ?_ ?_ _); (focus (first | (simp; done) | (simp; omega) | omega))) | with_reducible refine Ext.trans ?_ hw1))) hn'.out (by omega) hw'.out hnx).mono ?_
      rintro en w2 ⟨rfl, hw2⟩
      have xw2 : Ext w w2 := (by repeat (first | with_reducible exact Ext.refl _ | with_reducible assumption | with_reducible refine Ext.alloc ?_ _ | with_reducible refine Ext.drew ?_ | with_reducible refine Ext.drewN ?_ _ | ((with_reducible refine Ext.set ?_ ?_ _); (focus (first | (simp; done) | (simp; omega)))) | with_reducible refine Ext.trans ?_ (by assumption)))
      have kw2_0 := hw2.more (k := w.heap.size) (by first | assumption | (simp; done) | (simp; omega) | omega)
      obtain ⟨cw2_0, fw2_0⟩ := hw2.row (k := w.heap.size) (by first | assumption | (simp; done) | (simp; omega) | omega)
      have kw2_1 := hw2.more (k := w.heap.size + 1) (by first | assumption | (simp; done) | (simp; omega) | omega)
      obtain ⟨cw2_1, fw2_1⟩ := hw2.row (k := w.heap.size + 1) (by first | assumption | (simp; done) | (simp; omega) | omega)
      have kw2_2 := hw2.more (k := w1.heap.size) (by first | assumption | (simp; done) | (simp; omega) | omega)
      obtain ⟨cw2_2, fw2_2⟩ := hw2.row (k := w1.heap.size) (by first | assumption | (simp; done) | (simp; omega) | omega)
      rw [hi]
      have hs2 : w1.heap.size < w2.heap.size := by have := hw2.size; simp at this; omega
      go_wp2_with fail
      refine (contradicts_any st nx fi hg co (off + (data.size : Int)) true ao n ca _).mono ?_
      rintro en w3 ⟨rfl, hw3⟩
      have xw3 : Ext w w3 := (by repeat (first | with_reducible exact Ext.refl _ | with_reducible assumption | with_reducible refine Ext.alloc ?_ _ | with_reducible refine Ext.drew ?_ | with_reducible refine Ext.drewN ?_ _ | ((with_reducible refine Ext.set ?_ ?_ _); (focus (first | (simp; done) | (simp; omega)))) | with_reducible refine Ext.trans ?_ (by assumption)))
      have kw3_0 := hw3.more (k := w.heap.size) (by first | assumption | (simp; done) | (simp; omega) | omega)
      obtain ⟨cw3_0, fw3_0⟩ := hw3.row (k := w.heap.size) (by first | assumption | (simp; done) | (simp; omega) | omega)
      have kw3_1 := hw3.more (k := w.heap.size + 1) (by first | assumption | (simp; done) | (simp; omega) | omega)
      obtain ⟨cw3_1, fw3_1⟩ := hw3.row (k := w.heap.size + 1) (by first | assumption | (simp; done) | (simp; omega) | omega)
      have kw3_2 := hw3.more (k := w1.heap.size) (by first | assumption | (simp; done) | (simp; omega) | omega)
      obtain ⟨cw3_2, fw3_2⟩ := hw3.row (k := w1.heap.size) (by first | assumption | (simp; done) | (simp; omega) | omega)
      rw [hcn]
      go_wp2_with fail
      refine (takes_any st nx fi hg co ao n ca _).mono ?_
      rintro en w4 ⟨rfl, hw4⟩
      have xw4 : Ext w w4 := (by repeat (first | with_reducible exact Ext.refl _ | with_reducible assumption | with_reducible refine Ext.alloc ?_ _ | with_reducible refine Ext.drew ?_ | with_reducible refine Ext.drewN ?_ _ | ((with_reducible refine Ext.set ?_ ?_ _); (focus (first | (simp; done) | (simp; omega)))) | with_reducible refine Ext.trans ?_ (by assumption)))
      have kw4_0 := hw4.more (k := w.heap.size) (by first | assumption | (simp; done) | (simp; omega) | omega)
      obtain ⟨cw4_0, fw4_0⟩ := hw4.row (k := w.heap.size) (by first | assumption | (simp; done) | (simp; omega) | omega)
      have kw4_1 := hw4.more (k := w.heap.size + 1) (by first | assumption | (simp; done) | (simp; omega) | omega)
      obtain ⟨cw4_1, fw4_1⟩ := hw4.row (k := w.heap.size + 1) (by first | assumption | (simp; done) | (simp; omega) | omega)
      have kw4_2 := hw4.more (k := w1.heap.size) (by first | assumption | (simp; done) | (simp; omega) | omega)
      obtain ⟨cw4_2, fw4_2⟩ := hw4.row (k := w1.heap.size) (by first | assumption | (simp; done) | (simp; omega) | omega)
      rw [htk]
      go_wp2_with fail
      refine (InsertData_impl nx off data ao n ca cs _ (hx'.out.ext (by repeat (first | with_reducible exact Ext.refl _ | with_reducible assumption | with_reducible refine Ext.alloc ?_ _ | with_reducible refine Ext.drew ?_ | ((with_reducible refine Ext.set ?_ ?_ _); (focus (first | (simp; done) | (simp; omega) | omega))) | with_reducible refine Ext.trans ?_ hw4 | with_reducible refine Ext.trans ?_ hw3 | with_reducible refine Ext.trans ?_ hw2 | with_reducible refine Ext.trans ?_ hw1))) hn'.out hl hw'.out hoff hds).mono ?_
      rintro en w5 ⟨ao3, cap3, rfl, ho3, hw5⟩
      have xw5 : Ext w w5 := (by repeat (first | with_reducible exact Ext.refl _ | with_reducible assumption | with_reducible refine Ext.alloc ?_ _ | with_reducible refine Ext.drew ?_ | with_reducible refine Ext.drewN ?_ _ | ((with_reducible refine Ext.set ?_ ?_ _); (focus (first | (simp; done) | (simp; omega)))) | with_reducible refine Ext.trans ?_ (by assumption)))
      have kw5_0 := hw5.more (k := w.heap.size) (by first | assumption | (simp; done) | (simp; omega) | omega)
      obtain ⟨cw5_0, fw5_0⟩ := hw5.row (k := w.heap.size) (by first | assumption | (simp; done) | (simp; omega) | omega)
      have kw5_1 := hw5.more (k := w.heap.size + 1) (by first | assumption | (simp; done) | (simp; omega) | omega)
      obtain ⟨cw5_1, fw5_1⟩ := hw5.row (k := w.heap.size + 1) (by first | assumption | (simp; done) | (simp; omega) | omega)
      have kw5_2 := hw5.more (k := w1.heap.size) (by first | assumption | (simp; done) | (simp; omega) | omega)
      obtain ⟨cw5_2, fw5_2⟩ := hw5.row (k := w1.heap.size) (by first | assumption | (simp; done) | (simp; omega) | omega)
      generalize insC nx cs off data = ys at *
      have hs4 : w1.heap.size < w4.heap.size := Nat.lt_of_lt_of_le hs2 (by first | exact Nat.le_refl _ | exact hw3.size | exact Nat.le_trans hw3.size hw4.size)
      have hs5 : w1.heap.size < w5.heap.size := Nat.lt_of_lt_of_le hs4 (by have := hw5.size; simpa using this)
      have ho5 := hide (OwnC.chg (S := fun k => k = w1.heap.size) (OwnC.mono (lo' := w4.heap.size) (hi' := w5.heap.size) ho3 (by simp) (Nat.le_refl _)) (Chg.set (S := fun k => k = w1.heap.size) (p := ⟨w1.heap.size, 2, none⟩) (Or.inl rfl) (Chg.set (S := fun k => k = w1.heap.size) (p := ⟨w1.heap.size, 1, none⟩) (Or.inl rfl) (Chg.refl _ w5) (.int .i64 nx)) (.slice ao3 ys.length cap3)) (fun b h1 h2 h3 => by (try dsimp only at h3); omega))
      clear ho3
      go_wp2_with fail
      refine wp_region_seq (Ext _) (by kernel_rfl) (by kernel_rfl) ((Ext.refl _).drew) ?_
      iterate 11 (((first | (refine wpSeqS_off rfl (by rfl) ?_) | (refine wpSeqS_plain (v := ?_) rfl (by rfl) ?_ ?_; rotate_left; (focus (intro ws hws; obtain ⟨q0, p0⟩ := hws.row (k := w.heap.size + 1) (by first | assumption | (simp; done) | (simp; omega) | omega); obtain ⟨q1, p1⟩ := hws.row (k := w1.heap.size) (by first | assumption | (simp; done) | (simp; omega) | omega); go_simp; (try with_reducible rfl); done))) | (refine wpSeqS_call (v := ?_) 73 ?_ rfl (by rfl) ?_ ?_ ?_; rotate_left; rotate_left; (focus (intro ws hws; skip; go_simp; (try with_reducible rfl); done)); (focus (intro ws hws; refine (readyEnd_any nx ao3 ys.length cap3 ys ws (ho5.out.read.ext hws) rfl (by omega) hwf.out hnx).mono ?_; rintro e w' ⟨rfl, h2⟩; refine ⟨?_, hws.trans h2⟩; (try simp only [*]); (try with_reducible rfl); done))) | fail)); (try simp only [Act.put, List.getElem_toArray, List.getElem_cons_zero, List.getElem_cons_succ, List.setIfInBounds_toArray, List.set_cons_zero, List.set_cons_succ]))
      refine wpSeqS_done (by kernel_rfl) (fun w6 hw6 => ?_)
      have ho6 := hide (OwnC.chg (S := fun _ => False) ho5.out (hw6.chg _) (fun _ _ _ h => h))
      obtain ⟨x1_6, y1_6⟩ := hw6.row (k := w.heap.size + 1) (by simp; omega)
      obtain ⟨x2_6, y2_6⟩ := hw6.row (k := w1.heap.size) (by simp; omega)
      have hs6 : w5.heap.size ≤ w6.heap.size := by have := hw6.size; simpa using this
      have k6_1 : w.heap.size + 1 < w6.heap.size := by omega
      have k6_2 : w1.heap.size < w6.heap.size := by omega
      have hgX : Chg (fun k => k = w1.heap.size ∨ w.heap.size ≤ k) w w6 := Chg.trans (Chg.trans (Ext.chg xw5 _) (Chg.set (p := ⟨w1.heap.size, 2, none⟩) (Or.inl (Or.inl rfl)) (Chg.set (p := ⟨w1.heap.size, 1, none⟩) (Or.inl (Or.inl rfl)) (Chg.refl _ w5) _) _)) (hw6.chg _)
      clear ho5
      have r0 : w6.cell? ⟨w1.heap.size, 0, none⟩ = some (.int .i64 1) := (by rw [x2_6]; simp [go_sem, *])
      have r1 : w6.cell? ⟨w1.heap.size, 1, none⟩ = some (.int .i64 nx) := (by rw [x2_6]; simp [go_sem, *])
      have r2 : w6.cell? ⟨w1.heap.size, 2, none⟩ = some (.slice ao3 ys.length cap3) := (by rw [x2_6]; simp [go_sem, *])
      have r3 : w6.cell? ⟨w1.heap.size, 3, none⟩ = some (.int .i64 (off + (data.size : Int))) := (by rw [x2_6]; simp [go_sem, *])
      have r4 : w6.cell? ⟨w1.heap.size, 4, none⟩ = some (.int .i64 (max hg (off + (data.size : Int)))) := (by rw [x2_6]; simp [go_sem, *])
      have r5 : w6.cell? ⟨w1.heap.size, 5, none⟩ = some (.int .i64 co) := (by rw [x2_6]; simp [go_sem, *])
      have rF : ∀ o, w6.frozen? ⟨w1.heap.size, o, none⟩ = false := fun o => (by rw [y2_6]; simp [go_sem, *])
      have s0 : w6.cell? ⟨w.heap.size + 1, 0, none⟩ = some (.int .i64 0) := (by rw [x1_6]; simp [go_sem, *])
      have s1 : w6.cell? ⟨w.heap.size + 1, 1, none⟩ = some (.int .i64 0) := (by rw [x1_6]; simp [go_sem, *])
      have s2 : w6.cell? ⟨w.heap.size + 1, 2, none⟩ = some (.slice none 0 0) := (by rw [x1_6]; simp [go_sem, *])
      have s3 : w6.cell? ⟨w.heap.size + 1, 3, none⟩ = some (.int .i64 0) := (by rw [x1_6]; simp [go_sem, *])
      have s4 : w6.cell? ⟨w.heap.size + 1, 4, none⟩ = some (.int .i64 0) := (by rw [x1_6]; simp [go_sem, *])
      have s5 : w6.cell? ⟨w.heap.size + 1, 5, none⟩ = some (.int .i64 0) := (by rw [x1_6]; simp [go_sem, *])
      have sF : ∀ o, w6.frozen? ⟨w.heap.size + 1, o, none⟩ = false := fun o => (by rw [y1_6]; simp [go_sem, *])
      have hneb : w1.heap.size ≠ w.heap.size + 1 := by omega
      have hneb2 : w.heap.size + 1 ≠ w1.heap.size := by omega
      clear x1_6 y1_6 x2_6 y2_6
      clear cw1_0 fw1_0 cw1_1 fw1_1 cw2_0 fw2_0 cw2_1 fw2_1 cw2_2 fw2_2 cw3_0 fw3_0 cw3_1 fw3_1 cw3_2 fw3_2 cw4_0 fw4_0 cw4_1 fw4_1 cw4_2 fw4_2 cw5_0 fw5_0 cw5_1 fw5_1 cw5_2 fw5_2
      go_wp2
      refine bodyPost_ret (v := .tuple #[.agg #[.int .i64 2, .int .i64 nx, .slice ao3 ys.length cap3, .int .i64 (off + (data.size : Int)), .int .i64 (max hg (off + (data.size : Int))), .int .i64 co], .int .i64 0]) (by simp [results, Try.results35, go_sem, *]) rfl ⟨ao3, cap3, rfl, ?_, ?_⟩
      · refine OwnC.mono (OwnC.chg (S := fun k => k = w1.heap.size ∨ k = w.heap.size + 1) ho6.out (by repeat (first | with_reducible exact Chg.refl _ _ | with_reducible assumption | with_reducible refine Chg.alloc ?_ _ | with_reducible refine Chg.drew ?_ | ((with_reducible refine Chg.set ?_ ?_ _); (focus (first | (left; simp; done) | (left; simp; omega) | (left; omega) | (right; simp; done) | (right; simp; omega) | (right; omega)))))) (fun b h1 h2 h3 => by (try dsimp only at h3); omega)) (by omega) (by simp; omega)
      · exact Chg.ext (S := fun k => k = w1.heap.size ∨ w.heap.size ≤ k) (Chg.trans hgX (by repeat (first | with_reducible exact Chg.refl _ _ | with_reducible assumption | with_reducible refine Chg.alloc ?_ _ | with_reducible refine Chg.drew ?_ | ((with_reducible refine Chg.set ?_ ?_ _); (focus (first | (left; simp; done) | (left; simp; omega) | (left; omega) | (right; simp; done) | (right; simp; omega) | (right; omega))))))) (fun k hk h => by (try dsimp only at h); omega)
    · -- no
      subst hfi
      have hF : rdaFi fi (off + (data.size : Int)) true = (off + (data.size : Int)) := by simp [rdaFi]
      rw [hF]
      have hT : rdaSt st nx (off + (data.size : Int)) true (insC nx cs off data) = 1 := by simp [rdaSt, *]
      rw [hT]
      clear hF hT
      have hwf := hide (insC_wf (nx := nx) (off := off) (data := data) hw)
      have hbd := readyB_bd nx (insC nx cs off data)
      have hyl := insC_length nx cs off data
      have hwr : IntKind.i64.wrap (nx + readyB nx (insC nx cs off data)) = nx + readyB nx (insC nx cs off data) := IntWalk.i64_in _ (by omega)
      have hyl2 : (insC nx cs off data).length ≤ 1048577 := by omega
      clear hyl
      have hn' := hide hn
      have hx' := hide hx
      have hw' := hide hw
      clear hn hx hw
      go_enter Try.func35, Try.ntmps35
      go_wp2_with fail
      refine (copyReceiver_any st nx fi hg co ao n ca cs _ (hx'.out.ext (by repeat (first | with_reducible exact Ext.refl _ | with_reducible assumption | with_reducible refine Ext.alloc ?_ _ | with_reducible refine Ext.drew ?_ | ((with_reducible refine Ext.set ?_ ?_ _); (focus (first | (simp; done) | (simp; omega) | omega)))))) hn'.out hl).mono ?_
      rintro en w1 ⟨ao1, cap1, rfl, ho1, hw1⟩
      have xw1 : Ext w w1 := (by repeat (first | with_reducible exact Ext.refl _ | with_reducible assumption | with_reducible refine Ext.alloc ?_ _ | with_reducible refine Ext.drew ?_ | with_reducible refine Ext.drewN ?_ _ | ((with_reducible refine Ext.set ?_ ?_ _); (focus (first | (simp; done) | (simp; omega)))) | with_reducible refine Ext.trans ?_ (by assumption)))
      have kw1_0 := hw1.more (k := w.heap.size) (by first | assumption | (simp; done) | (simp; omega) | omega)
      obtain ⟨cw1_0, fw1_0⟩ := hw1.row (k := w.heap.size) (by first | assumption | (simp; done) | (simp; omega) | omega)
      have kw1_1 := hw1.more (k := w.heap.size + 1) (by first | assumption | (simp; done) | (simp; omega) | omega)
      obtain ⟨cw1_1, fw1_1⟩ := hw1.row (k := w.heap.size + 1) (by first | assumption | (simp; done) | (simp; omega) | omega)
      replace ho1 := hide (OwnC.mono (lo' := w.heap.size + 2) ho1 (by simp) (Nat.le_refl _))
      have hs1 : w.heap.size + 2 ≤ w1.heap.size := by have := hw1.size; simpa using this
      go_wp2_with fail
      refine (IsReceiver_impl st nx fi hg co ao n ca cs _ (hx'.out.ext (by repeat (first | with_reducible exact Ext.refl _ | with_reducible assumption | with_reducible refine Ext.alloc ?_ _ | with_reducible refine Ext.drew ?_ | ((with_reducible refine Ext.set ?_ ?_ _); (focus (first | (simp; done) | (simp; omega) | omega))) | with_reducible refine Ext.trans ?_ hw1))) hn'.out (by omega) hw'.out hnx).mono ?_
      rintro en w2 ⟨rfl, hw2⟩
      have xw2 : Ext w w2 := (by repeat (first | with_reducible exact Ext.refl _ | with_reducible assumption | with_reducible refine Ext.alloc ?_ _ | with_reducible refine Ext.drew ?_ | with_reducible refine Ext.drewN ?_ _ | ((with_reducible refine Ext.set ?_ ?_ _); (focus (first | (simp; done) | (simp; omega)))) | with_reducible refine Ext.trans ?_ (by assumption)))
      have kw2_0 := hw2.more (k := w.heap.size) (by first | assumption | (simp; done) | (simp; omega) | omega)
      obtain ⟨cw2_0, fw2_0⟩ := hw2.row (k := w.heap.size) (by first | assumption | (simp; done) | (simp; omega) | omega)
      have kw2_1 := hw2.more (k := w.heap.size + 1) (by first | assumption | (simp; done) | (simp; omega) | omega)
      obtain ⟨cw2_1, fw2_1⟩ := hw2.row (k := w.heap.size + 1) (by first | assumption | (simp; done) | (simp; omega) | omega)
      have kw2_2 := hw2.more (k := w1.heap.size) (by first | assumption | (simp; done) | (simp; omega) | omega)
      obtain ⟨cw2_2, fw2_2⟩ := hw2.row (k := w1.heap.size) (by first | assumption | (simp; done) | (simp; omega) | omega)
      rw [hi]
      have hs2 : w1.heap.size < w2.heap.size := by have := hw2.size; simp at this; omega
      go_wp2_with fail
      refine (contradicts_any st nx fi hg co (off + (data.size : Int)) true ao n ca _).mono ?_
      rintro en w3 ⟨rfl, hw3⟩
      have xw3 : Ext w w3 := (by repeat (first | with_reducible exact Ext.refl _ | with_reducible assumption | with_reducible refine Ext.alloc ?_ _ | with_reducible refine Ext.drew ?_ | with_reducible refine Ext.drewN ?_ _ | ((with_reducible refine Ext.set ?_ ?_ _); (focus (first | (simp; done) | (simp; omega)))) | with_reducible refine Ext.trans ?_ (by assumption)))
      have kw3_0 := hw3.more (k := w.heap.size) (by first | assumption | (simp; done) | (simp; omega) | omega)
      obtain ⟨cw3_0, fw3_0⟩ := hw3.row (k := w.heap.size) (by first | assumption | (simp; done) | (simp; omega) | omega)
      have kw3_1 := hw3.more (k := w.heap.size + 1) (by first | assumption | (simp; done) | (simp; omega) | omega)
      obtain ⟨cw3_1, fw3_1⟩ := hw3.row (k := w.heap.size + 1) (by first | assumption | (simp; done) | (simp; omega) | omega)
      have kw3_2 := hw3.more (k := w1.heap.size) (by first | assumption | (simp; done) | (simp; omega) | omega)
      obtain ⟨cw3_2, fw3_2⟩ := hw3.row (k := w1.heap.size) (by first | assumption | (simp; done) | (simp; omega) | omega)
      rw [hcn]
      go_wp2_with fail
      refine (takes_any st nx fi hg co ao n ca _).mono ?_
      rintro en w4 ⟨rfl, hw4⟩
      have xw4 : Ext w w4 := (by repeat (first | with_reducible exact Ext.refl _ | with_reducible assumption | with_reducible refine Ext.alloc ?_ _ | with_reducible refine Ext.drew ?_ | with_reducible refine Ext.drewN ?_ _ | ((with_reducible refine Ext.set ?_ ?_ _); (focus (first | (simp; done) | (simp; omega)))) | with_reducible refine Ext.trans ?_ (by assumption)))
      have kw4_0 := hw4.more (k := w.heap.size) (by first | assumption | (simp; done) | (simp; omega) | omega)
      obtain ⟨cw4_0, fw4_0⟩ := hw4.row (k := w.heap.size) (by first | assumption | (simp; done) | (simp; omega) | omega)
      have kw4_1 := hw4.more (k := w.heap.size + 1) (by first | assumption | (simp; done) | (simp; omega) | omega)
      obtain ⟨cw4_1, fw4_1⟩ := hw4.row (k := w.heap.size + 1) (by first | assumption | (simp; done) | (simp; omega) | omega)
      have kw4_2 := hw4.more (k := w1.heap.size) (by first | assumption | (simp; done) | (simp; omega) | omega)
      obtain ⟨cw4_2, fw4_2⟩ := hw4.row (k := w1.heap.size) (by first | assumption | (simp; done) | (simp; omega) | omega)
      rw [htk]
      go_wp2_with fail
      refine (InsertData_impl nx off data ao n ca cs _ (hx'.out.ext (by repeat (first | with_reducible exact Ext.refl _ | with_reducible assumption | with_reducible refine Ext.alloc ?_ _ | with_reducible refine Ext.drew ?_ | ((with_reducible refine Ext.set ?_ ?_ _); (focus (first | (simp; done) | (simp; omega) | omega))) | with_reducible refine Ext.trans ?_ hw4 | with_reducible refine Ext.trans ?_ hw3 | with_reducible refine Ext.trans ?_ hw2 | with_reducible refine Ext.trans ?_ hw1))) hn'.out hl hw'.out hoff hds).mono ?_
      rintro en w5 ⟨ao3, cap3, rfl, ho3, hw5⟩
      have xw5 : Ext w w5 := (by repeat (first | with_reducible exact Ext.refl _ | with_reducible assumption | with_reducible refine Ext.alloc ?_ _ | with_reducible refine Ext.drew ?_ | with_reducible refine Ext.drewN ?_ _ | ((with_reducible refine Ext.set ?_ ?_ _); (focus (first | (simp; done) | (simp; omega)))) | with_reducible refine Ext.trans ?_ (by assumption)))
      have kw5_0 := hw5.more (k := w.heap.size) (by first | assumption | (simp; done) | (simp; omega) | omega)
      obtain ⟨cw5_0, fw5_0⟩ := hw5.row (k := w.heap.size) (by first | assumption | (simp; done) | (simp; omega) | omega)
      have kw5_1 := hw5.more (k := w.heap.size + 1) (by first | assumption | (simp; done) | (simp; omega) | omega)
      obtain ⟨cw5_1, fw5_1⟩ := hw5.row (k := w.heap.size + 1) (by first | assumption | (simp; done) | (simp; omega) | omega)
      have kw5_2 := hw5.more (k := w1.heap.size) (by first | assumption | (simp; done) | (simp; omega) | omega)
      obtain ⟨cw5_2, fw5_2⟩ := hw5.row (k := w1.heap.size) (by first | assumption | (simp; done) | (simp; omega) | omega)
      generalize insC nx cs off data = ys at *
      have hs4 : w1.heap.size < w4.heap.size := Nat.lt_of_lt_of_le hs2 (by first | exact Nat.le_refl _ | exact hw3.size | exact Nat.le_trans hw3.size hw4.size)
      have hs5 : w1.heap.size < w5.heap.size := Nat.lt_of_lt_of_le hs4 (by have := hw5.size; simpa using this)
      have ho5 := hide (OwnC.chg (S := fun k => k = w1.heap.size) (OwnC.mono (lo' := w4.heap.size) (hi' := w5.heap.size) ho3 (by simp) (Nat.le_refl _)) (Chg.set (S := fun k => k = w1.heap.size) (p := ⟨w1.heap.size, 2, none⟩) (Or.inl rfl) (Chg.set (S := fun k => k = w1.heap.size) (p := ⟨w1.heap.size, 1, none⟩) (Or.inl rfl) (Chg.refl _ w5) (.int .i64 nx)) (.slice ao3 ys.length cap3)) (fun b h1 h2 h3 => by (try dsimp only at h3); omega))
      clear ho3
      go_wp2_with fail
      refine wp_region_seq (Ext _) (by kernel_rfl) (by kernel_rfl) ((Ext.refl _).drew) ?_
      iterate 11 (((first | (refine wpSeqS_off rfl (by rfl) ?_) | (refine wpSeqS_plain (v := ?_) rfl (by rfl) ?_ ?_; rotate_left; (focus (intro ws hws; obtain ⟨q0, p0⟩ := hws.row (k := w.heap.size + 1) (by first | assumption | (simp; done) | (simp; omega) | omega); obtain ⟨q1, p1⟩ := hws.row (k := w1.heap.size) (by first | assumption | (simp; done) | (simp; omega) | omega); go_simp; (try with_reducible rfl); done))) | (refine wpSeqS_call (v := ?_) 73 ?_ rfl (by rfl) ?_ ?_ ?_; rotate_left; rotate_left; (focus (intro ws hws; skip; go_simp; (try with_reducible rfl); done)); (focus (intro ws hws; refine (readyEnd_any nx ao3 ys.length cap3 ys ws (ho5.out.read.ext hws) rfl (by omega) hwf.out hnx).mono ?_; rintro e w' ⟨rfl, h2⟩; refine ⟨?_, hws.trans h2⟩; (try simp only [*]); (try with_reducible rfl); done))) | fail)); (try simp only [Act.put, List.getElem_toArray, List.getElem_cons_zero, List.getElem_cons_succ, List.setIfInBounds_toArray, List.set_cons_zero, List.set_cons_succ]))
      refine wpSeqS_done (by kernel_rfl) (fun w6 hw6 => ?_)
      have ho6 := hide (OwnC.chg (S := fun _ => False) ho5.out (hw6.chg _) (fun _ _ _ h => h))
      obtain ⟨x1_6, y1_6⟩ := hw6.row (k := w.heap.size + 1) (by simp; omega)
      obtain ⟨x2_6, y2_6⟩ := hw6.row (k := w1.heap.size) (by simp; omega)
      have hs6 : w5.heap.size ≤ w6.heap.size := by have := hw6.size; simpa using this
      have k6_1 : w.heap.size + 1 < w6.heap.size := by omega
      have k6_2 : w1.heap.size < w6.heap.size := by omega
      have hgX : Chg (fun k => k = w1.heap.size ∨ w.heap.size ≤ k) w w6 := Chg.trans (Chg.trans (Ext.chg xw5 _) (Chg.set (p := ⟨w1.heap.size, 2, none⟩) (Or.inl (Or.inl rfl)) (Chg.set (p := ⟨w1.heap.size, 1, none⟩) (Or.inl (Or.inl rfl)) (Chg.refl _ w5) _) _)) (hw6.chg _)
      clear ho5
      have r0 : w6.cell? ⟨w1.heap.size, 0, none⟩ = some (.int .i64 1) := (by rw [x2_6]; simp [go_sem, *])
      have r1 : w6.cell? ⟨w1.heap.size, 1, none⟩ = some (.int .i64 nx) := (by rw [x2_6]; simp [go_sem, *])
      have r2 : w6.cell? ⟨w1.heap.size, 2, none⟩ = some (.slice ao3 ys.length cap3) := (by rw [x2_6]; simp [go_sem, *])
      have r3 : w6.cell? ⟨w1.heap.size, 3, none⟩ = some (.int .i64 (off + (data.size : Int))) := (by rw [x2_6]; simp [go_sem, *])
      have r4 : w6.cell? ⟨w1.heap.size, 4, none⟩ = some (.int .i64 (max hg (off + (data.size : Int)))) := (by rw [x2_6]; simp [go_sem, *])
      have r5 : w6.cell? ⟨w1.heap.size, 5, none⟩ = some (.int .i64 co) := (by rw [x2_6]; simp [go_sem, *])
      have rF : ∀ o, w6.frozen? ⟨w1.heap.size, o, none⟩ = false := fun o => (by rw [y2_6]; simp [go_sem, *])
      have s0 : w6.cell? ⟨w.heap.size + 1, 0, none⟩ = some (.int .i64 0) := (by rw [x1_6]; simp [go_sem, *])
      have s1 : w6.cell? ⟨w.heap.size + 1, 1, none⟩ = some (.int .i64 0) := (by rw [x1_6]; simp [go_sem, *])
      have s2 : w6.cell? ⟨w.heap.size + 1, 2, none⟩ = some (.slice none 0 0) := (by rw [x1_6]; simp [go_sem, *])
      have s3 : w6.cell? ⟨w.heap.size + 1, 3, none⟩ = some (.int .i64 0) := (by rw [x1_6]; simp [go_sem, *])
      have s4 : w6.cell? ⟨w.heap.size + 1, 4, none⟩ = some (.int .i64 0) := (by rw [x1_6]; simp [go_sem, *])
      have s5 : w6.cell? ⟨w.heap.size + 1, 5, none⟩ = some (.int .i64 0) := (by rw [x1_6]; simp [go_sem, *])
      have sF : ∀ o, w6.frozen? ⟨w.heap.size + 1, o, none⟩ = false := fun o => (by rw [y1_6]; simp [go_sem, *])
      have hneb : w1.heap.size ≠ w.heap.size + 1 := by omega
      have hneb2 : w.heap.size + 1 ≠ w1.heap.size := by omega
      clear x1_6 y1_6 x2_6 y2_6
      clear cw1_0 fw1_0 cw1_1 fw1_1 cw2_0 fw2_0 cw2_1 fw2_1 cw2_2 fw2_2 cw3_0 fw3_0 cw3_1 fw3_1 cw3_2 fw3_2 cw4_0 fw4_0 cw4_1 fw4_1 cw4_2 fw4_2 cw5_0 fw5_0 cw5_1 fw5_1 cw5_2 fw5_2
      go_wp2
      refine bodyPost_ret (v := .tuple #[.agg #[.int .i64 1, .int .i64 nx, .slice ao3 ys.length cap3, .int .i64 (off + (data.size : Int)), .int .i64 (max hg (off + (data.size : Int))), .int .i64 co], .int .i64 0]) (by simp [results, Try.results35, go_sem, *]) rfl ⟨ao3, cap3, rfl, ?_, ?_⟩
      · refine OwnC.mono (OwnC.chg (S := fun k => k = w1.heap.size ∨ k = w.heap.size + 1) ho6.out (by repeat (first | with_reducible exact Chg.refl _ _ | with_reducible assumption | with_reducible refine Chg.alloc ?_ _ | with_reducible refine Chg.drew ?_ | ((with_reducible refine Chg.set ?_ ?_ _); (focus (first | (left; simp; done) | (left; simp; omega) | (left; omega) | (right; simp; done) | (right; simp; omega) | (right; omega)))))) (fun b h1 h2 h3 => by (try dsimp only at h3); omega)) (by omega) (by simp; omega)
      · exact Chg.ext (S := fun k => k = w1.heap.size ∨ w.heap.size ≤ k) (Chg.trans hgX (by repeat (first | with_reducible exact Chg.refl _ _ | with_reducible assumption | with_reducible refine Chg.alloc ?_ _ | with_reducible refine Chg.drew ?_ | ((with_reducible refine Chg.set ?_ ?_ _); (focus (first | (left; simp; done) | (left; simp; omega) | (left; omega) | (right; simp; done) | (right; simp; omega) | (right; omega))))))) (fun k hk h => by (try dsimp only at h); omega)
  · -- no
    by_cases hf1 : fi = -1
    · -- equal
      have hf1e : (fi == -1) = true := by simp [hf1]
      have hf1n : (fi != -1) = false := by simp [hf1]
      have hf1H := hide hf1
      clear hf1
      subst hfi
      have hF : rdaFi fi (off + (data.size : Int)) false = fi := by simp [rdaFi]
      rw [hF]
      have hT : rdaSt st nx fi false (insC nx cs off data) = st := by simp [rdaSt, *]
      rw [hT]
      clear hF hT
      have hwf := hide (insC_wf (nx := nx) (off := off) (data := data) hw)
      have hbd := readyB_bd nx (insC nx cs off data)
      have hyl := insC_length nx cs off data
      have hwr : IntKind.i64.wrap (nx + readyB nx (insC nx cs off data)) = nx + readyB nx (insC nx cs off data) := IntWalk.i64_in _ (by omega)
      have hyl2 : (insC nx cs off data).length ≤ 1048577 := by omega
      clear hyl
      have hn' := hide hn
      have hx' := hide hx
      have hw' := hide hw
      clear hn hx hw
      go_enter Try.func35, Try.ntmps35
      go_wp2_with fail
      refine (copyReceiver_any st nx fi hg co ao n ca cs _ (hx'.out.ext (by repeat (first | with_reducible exact Ext.refl _ | with_reducible assumption | with_reducible refine Ext.alloc ?_ _ | with_reducible refine Ext.drew ?_ | ((with_reducible refine Ext.set ?_ ?_ _); (focus (first | (simp; done) | (simp; omega) | omega)))))) hn'.out hl).mono ?_
      rintro en w1 ⟨ao1, cap1, rfl, ho1, hw1⟩
      have xw1 : Ext w w1 := (by repeat (first | with_reducible exact Ext.refl _ | with_reducible assumption | with_reducible refine Ext.alloc ?_ _ | with_reducible refine Ext.drew ?_ | with_reducible refine Ext.drewN ?_ _ | ((with_reducible refine Ext.set ?_ ?_ _); (focus (first | (simp; done) | (simp; omega)))) | with_reducible refine Ext.trans ?_ (by assumption)))
      have kw1_0 := hw1.more (k := w.heap.size) (by first | assumption | (simp; done) | (simp; omega) | omega)
      obtain ⟨cw1_0, fw1_0⟩ := hw1.row (k := w.heap.size) (by first | assumption | (simp; done) | (simp; omega) | omega)
      have kw1_1 := hw1.more (k := w.heap.size + 1) (by first | assumption | (simp; done) | (simp; omega) | omega)
      obtain ⟨cw1_1, fw1_1⟩ := hw1.row (k := w.heap.size + 1) (by first | assumption | (simp; done) | (simp; omega) | omega)
      replace ho1 := hide (OwnC.mono (lo' := w.heap.size + 2) ho1 (by simp) (Nat.le_refl _))
      have hs1 : w.heap.size + 2 ≤ w1.heap.size := by have := hw1.size; simpa using this
      go_wp2_with fail
      refine (IsReceiver_impl st nx fi hg co ao n ca cs _ (hx'.out.ext (by repeat (first | with_reducible exact Ext.refl _ | with_reducible assumption | with_reducible refine Ext.alloc ?_ _ | with_reducible refine Ext.drew ?_ | ((with_reducible refine Ext.set ?_ ?_ _); (focus (first | (simp; done) | (simp; omega) | omega))) | with_reducible refine Ext.trans ?_ hw1))) hn'.out (by omega) hw'.out hnx).mono ?_
      rintro en w2 ⟨rfl, hw2⟩
      have xw2 : Ext w w2 := (by repeat (first | with_reducible exact Ext.refl _ | with_reducible assumption | with_reducible refine Ext.alloc ?_ _ | with_reducible refine Ext.drew ?_ | with_reducible refine Ext.drewN ?_ _ | ((with_reducible refine Ext.set ?_ ?_ _); (focus (first | (simp; done) | (simp; omega)))) | with_reducible refine Ext.trans ?_ (by assumption)))
      have kw2_0 := hw2.more (k := w.heap.size) (by first | assumption | (simp; done) | (simp; omega) | omega)
      obtain ⟨cw2_0, fw2_0⟩ := hw2.row (k := w.heap.size) (by first | assumption | (simp; done) | (simp; omega) | omega)
      have kw2_1 := hw2.more (k := w.heap.size + 1) (by first | assumption | (simp; done) | (simp; omega) | omega)
      obtain ⟨cw2_1, fw2_1⟩ := hw2.row (k := w.heap.size + 1) (by first | assumption | (simp; done) | (simp; omega) | omega)
      have kw2_2 := hw2.more (k := w1.heap.size) (by first | assumption | (simp; done) | (simp; omega) | omega)
      obtain ⟨cw2_2, fw2_2⟩ := hw2.row (k := w1.heap.size) (by first | assumption | (simp; done) | (simp; omega) | omega)
      rw [hi]
      have hs2 : w1.heap.size < w2.heap.size := by have := hw2.size; simp at this; omega
      go_wp2_with fail
      refine (contradicts_any st nx fi hg co (off + (data.size : Int)) false ao n ca _).mono ?_
      rintro en w3 ⟨rfl, hw3⟩
      have xw3 : Ext w w3 := (by repeat (first | with_reducible exact Ext.refl _ | with_reducible assumption | with_reducible refine Ext.alloc ?_ _ | with_reducible refine Ext.drew ?_ | with_reducible refine Ext.drewN ?_ _ | ((with_reducible refine Ext.set ?_ ?_ _); (focus (first | (simp; done) | (simp; omega)))) | with_reducible refine Ext.trans ?_ (by assumption)))
      have kw3_0 := hw3.more (k := w.heap.size) (by first | assumption | (simp; done) | (simp; omega) | omega)
      obtain ⟨cw3_0, fw3_0⟩ := hw3.row (k := w.heap.size) (by first | assumption | (simp; done) | (simp; omega) | omega)
      have kw3_1 := hw3.more (k := w.heap.size + 1) (by first | assumption | (simp; done) | (simp; omega) | omega)
      obtain ⟨cw3_1, fw3_1⟩ := hw3.row (k := w.heap.size + 1) (by first | assumption | (simp; done) | (simp; omega) | omega)
      have kw3_2 := hw3.more (k := w1.heap.size) (by first | assumption | (simp; done) | (simp; omega) | omega)
      obtain ⟨cw3_2, fw3_2⟩ := hw3.row (k := w1.heap.size) (by first | assumption | (simp; done) | (simp; omega) | omega)
      rw [hcn]
      go_wp2_with fail
      refine (takes_any st nx fi hg co ao n ca _).mono ?_
      rintro en w4 ⟨rfl, hw4⟩
      have xw4 : Ext w w4 := (by repeat (first | with_reducible exact Ext.refl _ | with_reducible assumption | with_reducible refine Ext.alloc ?_ _ | with_reducible refine Ext.drew ?_ | with_reducible refine Ext.drewN ?_ _ | ((with_reducible refine Ext.set ?_ ?_ _); (focus (first | (simp; done) | (simp; omega)))) | with_reducible refine Ext.trans ?_ (by assumption)))
      have kw4_0 := hw4.more (k := w.heap.size) (by first | assumption | (simp; done) | (simp; omega) | omega)
      obtain ⟨cw4_0, fw4_0⟩ := hw4.row (k := w.heap.size) (by first | assumption | (simp; done) | (simp; omega) | omega)
      have kw4_1 := hw4.more (k := w.heap.size + 1) (by first | assumption | (simp; done) | (simp; omega) | omega)
      obtain ⟨cw4_1, fw4_1⟩ := hw4.row (k := w.heap.size + 1) (by first | assumption | (simp; done) | (simp; omega) | omega)
      have kw4_2 := hw4.more (k := w1.heap.size) (by first | assumption | (simp; done) | (simp; omega) | omega)
      obtain ⟨cw4_2, fw4_2⟩ := hw4.row (k := w1.heap.size) (by first | assumption | (simp; done) | (simp; omega) | omega)
      rw [htk]
      go_wp2_with fail
      refine (InsertData_impl nx off data ao n ca cs _ (hx'.out.ext (by repeat (first | with_reducible exact Ext.refl _ | with_reducible assumption | with_reducible refine Ext.alloc ?_ _ | with_reducible refine Ext.drew ?_ | ((with_reducible refine Ext.set ?_ ?_ _); (focus (first | (simp; done) | (simp; omega) | omega))) | with_reducible refine Ext.trans ?_ hw4 | with_reducible refine Ext.trans ?_ hw3 | with_reducible refine Ext.trans ?_ hw2 | with_reducible refine Ext.trans ?_ hw1))) hn'.out hl hw'.out hoff hds).mono ?_
      rintro en w5 ⟨ao3, cap3, rfl, ho3, hw5⟩
      have xw5 : Ext w w5 := (by repeat (first | with_reducible exact Ext.refl _ | with_reducible assumption | with_reducible refine Ext.alloc ?_ _ | with_reducible refine Ext.drew ?_ | with_reducible refine Ext.drewN ?_ _ | ((with_reducible refine Ext.set ?_ ?_ _); (focus (first | (simp; done) | (simp; omega)))) | with_reducible refine Ext.trans ?_ (by assumption)))
      have kw5_0 := hw5.more (k := w.heap.size) (by first | assumption | (simp; done) | (simp; omega) | omega)
      obtain ⟨cw5_0, fw5_0⟩ := hw5.row (k := w.heap.size) (by first | assumption | (simp; done) | (simp; omega) | omega)
      have kw5_1 := hw5.more (k := w.heap.size + 1) (by first | assumption | (simp; done) | (simp; omega) | omega)
      obtain ⟨cw5_1, fw5_1⟩ := hw5.row (k := w.heap.size + 1) (by first | assumption | (simp; done) | (simp; omega) | omega)
      have kw5_2 := hw5.more (k := w1.heap.size) (by first | assumption | (simp; done) | (simp; omega) | omega)
      obtain ⟨cw5_2, fw5_2⟩ := hw5.row (k := w1.heap.size) (by first | assumption | (simp; done) | (simp; omega) | omega)
      generalize insC nx cs off data = ys at *
      have hs4 : w1.heap.size < w4.heap.size := Nat.lt_of_lt_of_le hs2 (by first | exact Nat.le_refl _ | exact hw3.size | exact Nat.le_trans hw3.size hw4.size)
      have hs5 : w1.heap.size < w5.heap.size := Nat.lt_of_lt_of_le hs4 (by have := hw5.size; simpa using this)
      have ho5 := hide (OwnC.chg (S := fun k => k = w1.heap.size) (OwnC.mono (lo' := w4.heap.size) (hi' := w5.heap.size) ho3 (by simp) (Nat.le_refl _)) (Chg.set (S := fun k => k = w1.heap.size) (p := ⟨w1.heap.size, 2, none⟩) (Or.inl rfl) (Chg.set (S := fun k => k = w1.heap.size) (p := ⟨w1.heap.size, 1, none⟩) (Or.inl rfl) (Chg.refl _ w5) (.int .i64 nx)) (.slice ao3 ys.length cap3)) (fun b h1 h2 h3 => by (try dsimp only at h3); omega))
      clear ho3
      go_wp2_with fail
      refine wp_region_seq (Ext _) (by kernel_rfl) (by kernel_rfl) ((Ext.refl _).drew) ?_
      iterate 11 (((first | (refine wpSeqS_off rfl (by rfl) ?_) | (refine wpSeqS_plain (v := ?_) rfl (by rfl) ?_ ?_; rotate_left; (focus (intro ws hws; obtain ⟨q0, p0⟩ := hws.row (k := w.heap.size + 1) (by first | assumption | (simp; done) | (simp; omega) | omega); obtain ⟨q1, p1⟩ := hws.row (k := w1.heap.size) (by first | assumption | (simp; done) | (simp; omega) | omega); go_simp; (try with_reducible rfl); done))) | (refine wpSeqS_call (v := ?_) 73 ?_ rfl (by rfl) ?_ ?_ ?_; rotate_left; rotate_left; (focus (intro ws hws; skip; go_simp; (try with_reducible rfl); done)); (focus (intro ws hws; refine (readyEnd_any nx ao3 ys.length cap3 ys ws (ho5.out.read.ext hws) rfl (by omega) hwf.out hnx).mono ?_; rintro e w' ⟨rfl, h2⟩; refine ⟨?_, hws.trans h2⟩; (try simp only [*]); (try with_reducible rfl); done))) | fail)); (try simp only [Act.put, List.getElem_toArray, List.getElem_cons_zero, List.getElem_cons_succ, List.setIfInBounds_toArray, List.set_cons_zero, List.set_cons_succ]))
      refine wpSeqS_done (by kernel_rfl) (fun w6 hw6 => ?_)
      have ho6 := hide (OwnC.chg (S := fun _ => False) ho5.out (hw6.chg _) (fun _ _ _ h => h))
      obtain ⟨x1_6, y1_6⟩ := hw6.row (k := w.heap.size + 1) (by simp; omega)
      obtain ⟨x2_6, y2_6⟩ := hw6.row (k := w1.heap.size) (by simp; omega)
      have hs6 : w5.heap.size ≤ w6.heap.size := by have := hw6.size; simpa using this
      have k6_1 : w.heap.size + 1 < w6.heap.size := by omega
      have k6_2 : w1.heap.size < w6.heap.size := by omega
      have hgX : Chg (fun k => k = w1.heap.size ∨ w.heap.size ≤ k) w w6 := Chg.trans (Chg.trans (Ext.chg xw5 _) (Chg.set (p := ⟨w1.heap.size, 2, none⟩) (Or.inl (Or.inl rfl)) (Chg.set (p := ⟨w1.heap.size, 1, none⟩) (Or.inl (Or.inl rfl)) (Chg.refl _ w5) _) _)) (hw6.chg _)
      clear ho5
      have r0 : w6.cell? ⟨w1.heap.size, 0, none⟩ = some (.int .i64 st) := (by rw [x2_6]; simp [go_sem, *])
      have r1 : w6.cell? ⟨w1.heap.size, 1, none⟩ = some (.int .i64 nx) := (by rw [x2_6]; simp [go_sem, *])
      have r2 : w6.cell? ⟨w1.heap.size, 2, none⟩ = some (.slice ao3 ys.length cap3) := (by rw [x2_6]; simp [go_sem, *])
      have r3 : w6.cell? ⟨w1.heap.size, 3, none⟩ = some (.int .i64 fi) := (by rw [x2_6]; simp [go_sem, *])
      have r4 : w6.cell? ⟨w1.heap.size, 4, none⟩ = some (.int .i64 (max hg (off + (data.size : Int)))) := (by rw [x2_6]; simp [go_sem, *])
      have r5 : w6.cell? ⟨w1.heap.size, 5, none⟩ = some (.int .i64 co) := (by rw [x2_6]; simp [go_sem, *])
      have rF : ∀ o, w6.frozen? ⟨w1.heap.size, o, none⟩ = false := fun o => (by rw [y2_6]; simp [go_sem, *])
      have s0 : w6.cell? ⟨w.heap.size + 1, 0, none⟩ = some (.int .i64 0) := (by rw [x1_6]; simp [go_sem, *])
      have s1 : w6.cell? ⟨w.heap.size + 1, 1, none⟩ = some (.int .i64 0) := (by rw [x1_6]; simp [go_sem, *])
      have s2 : w6.cell? ⟨w.heap.size + 1, 2, none⟩ = some (.slice none 0 0) := (by rw [x1_6]; simp [go_sem, *])
      have s3 : w6.cell? ⟨w.heap.size + 1, 3, none⟩ = some (.int .i64 0) := (by rw [x1_6]; simp [go_sem, *])
      have s4 : w6.cell? ⟨w.heap.size + 1, 4, none⟩ = some (.int .i64 0) := (by rw [x1_6]; simp [go_sem, *])
      have s5 : w6.cell? ⟨w.heap.size + 1, 5, none⟩ = some (.int .i64 0) := (by rw [x1_6]; simp [go_sem, *])
      have sF : ∀ o, w6.frozen? ⟨w.heap.size + 1, o, none⟩ = false := fun o => (by rw [y1_6]; simp [go_sem, *])
      have hneb : w1.heap.size ≠ w.heap.size + 1 := by omega
      have hneb2 : w.heap.size + 1 ≠ w1.heap.size := by omega
      clear x1_6 y1_6 x2_6 y2_6
      clear cw1_0 fw1_0 cw1_1 fw1_1 cw2_0 fw2_0 cw2_1 fw2_1 cw2_2 fw2_2 cw3_0 fw3_0 cw3_1 fw3_1 cw3_2 fw3_2 cw4_0 fw4_0 cw4_1 fw4_1 cw4_2 fw4_2 cw5_0 fw5_0 cw5_1 fw5_1 cw5_2 fw5_2
      go_wp2
      refine bodyPost_ret (v := .tuple #[.agg #[.int .i64 st, .int .i64 nx, .slice ao3 ys.length cap3, .int .i64 fi, .int .i64 (max hg (off + (data.size : Int))), .int .i64 co], .int .i64 0]) (by simp [results, Try.results35, go_sem, *]) rfl ⟨ao3, cap3, rfl, ?_, ?_⟩
      · refine OwnC.mono (OwnC.chg (S := fun k => k = w1.heap.size ∨ k = w.heap.size + 1) ho6.out (by repeat (first | with_reducible exact Chg.refl _ _ | with_reducible assumption | with_reducible refine Chg.alloc ?_ _ | with_reducible refine Chg.drew ?_ | ((with_reducible refine Chg.set ?_ ?_ _); (focus (first | (left; simp; done) | (left; simp; omega) | (left; omega) | (right; simp; done) | (right; simp; omega) | (right; omega)))))) (fun b h1 h2 h3 => by (try dsimp only at h3); omega)) (by omega) (by simp; omega)
      · exact Chg.ext (S := fun k => k = w1.heap.size ∨ w.heap.size ≤ k) (Chg.trans hgX (by repeat (first | with_reducible exact Chg.refl _ _ | with_reducible assumption | with_reducible refine Chg.alloc ?_ _ | with_reducible refine Chg.drew ?_ | ((with_reducible refine Chg.set ?_ ?_ _); (focus (first | (left; simp; done) | (left; simp; omega) | (left; omega) | (right; simp; done) | (right; simp; omega) | (right; omega))))))) (fun k hk h => by (try dsimp only at h); omega)
    · -- other
      have hf1e : (fi == -1) = false := by simp [hf1]
      have hf1n : (fi != -1) = true := by simp [hf1]
      have hf1H := hide hf1
      clear hf1
      rcases Bool.eq_false_or_eq_true ((nx + readyB nx (insC nx cs off data) == fi)) with hq | hq
      · -- yes
        subst hfi
        have hF : rdaFi fi (off + (data.size : Int)) false = fi := by simp [rdaFi]
        rw [hF]
        have hT : rdaSt st nx fi false (insC nx cs off data) = 2 := by simp [rdaSt, *]
        rw [hT]
        clear hF hT
        have hwf := hide (insC_wf (nx := nx) (off := off) (data := data) hw)
        have hbd := readyB_bd nx (insC nx cs off data)
        have hyl := insC_length nx cs off data
        have hwr : IntKind.i64.wrap (nx + readyB nx (insC nx cs off data)) = nx + readyB nx (insC nx cs off data) := IntWalk.i64_in _ (by omega)
        have hyl2 : (insC nx cs off data).length ≤ 1048577 := by omega
        clear hyl
        have hn' := hide hn
        have hx' := hide hx
        have hw' := hide hw
        clear hn hx hw
        go_enter Try.func35, Try.ntmps35
        go_wp2_with fail
        refine (copyReceiver_any st nx fi hg co ao n ca cs _ (hx'.out.ext (by repeat (first | with_reducible exact Ext.refl _ | with_reducible assumption | with_reducible refine Ext.alloc ?_ _ | with_reducible refine Ext.drew ?_ | ((with_reducible refine Ext.set ?_ ?_ _); (focus (first | (simp; done) | (simp; omega) | omega)))))) hn'.out hl).mono ?_
        rintro en w1 ⟨ao1, cap1, rfl, ho1, hw1⟩
        have xw1 : Ext w w1 := (by repeat (first | with_reducible exact Ext.refl _ | with_reducible assumption | with_reducible refine Ext.alloc ?_ _ | with_reducible refine Ext.drew ?_ | with_reducible refine Ext.drewN ?_ _ | ((with_reducible refine Ext.set ?_ ?_ _); (focus (first | (simp; done) | (simp; omega)))) | with_reducible refine Ext.trans ?_ (by assumption)))
        have kw1_0 := hw1.more (k := w.heap.size) (by first | assumption | (simp; done) | (simp; omega) | omega)
        obtain ⟨cw1_0, fw1_0⟩ := hw1.row (k := w.heap.size) (by first | assumption | (simp; done) | (simp; omega) | omega)
        have kw1_1 := hw1.more (k := w.heap.size + 1) (by first | assumption | (simp; done) | (simp; omega) | omega)
        obtain ⟨cw1_1, fw1_1⟩ := hw1.row (k := w.heap.size + 1) (by first | assumption | (simp; done) | (simp; omega) | omega)
        replace ho1 := hide (OwnC.mono (lo' := w.heap.size + 2) ho1 (by simp) (Nat.le_refl _))
        have hs1 : w.heap.size + 2 ≤ w1.heap.size := by have := hw1.size; simpa using this
        go_wp2_with fail
        refine (IsReceiver_impl st nx fi hg co ao n ca cs _ (hx'.out.ext (by repeat (first | with_reducible exact Ext.refl _ | with_reducible assumption | with_reducible refine Ext.alloc ?_ _ | with_reducible refine Ext.drew ?_ | ((with_reducible refine Ext.set ?_ ?_ _); (focus (first | (simp; done) | (simp; omega) | omega))) | with_reducible refine Ext.trans ?_ hw1))) hn'.out (by omega) hw'.out hnx).mono ?_
        rintro en w2 ⟨rfl, hw2⟩
        have xw2 : Ext w w2 := (by repeat (first | with_reducible exact Ext.refl _ | with_reducible assumption | with_reducible refine Ext.alloc ?_ _ | with_reducible refine Ext.drew ?_ | with_reducible refine Ext.drewN ?_ _ | ((with_reducible refine Ext.set ?_ ?_ _); (focus (first | (simp; done) | (simp; omega)))) | with_reducible refine Ext.trans ?_ (by assumption)))
        have kw2_0 := hw2.more (k := w.heap.size) (by first | assumption | (simp; done) | (simp; omega) | omega)
        obtain ⟨cw2_0, fw2_0⟩ := hw2.row (k := w.heap.size) (by first | assumption | (simp; done) | (simp; omega) | omega)
        have kw2_1 := hw2.more (k := w.heap.size + 1) (by first | assumption | (simp; done) | (simp; omega) | omega)
        obtain ⟨cw2_1, fw2_1⟩ := hw2.row (k := w.heap.size + 1) (by first | assumption | (simp; done) | (simp; omega) | omega)
        have kw2_2 := hw2.more (k := w1.heap.size) (by first | assumption | (simp; done) | (simp; omega) | omega)
        obtain ⟨cw2_2, fw2_2⟩ := hw2.row (k := w1.heap.size) (by first | assumption | (simp; done) | (simp; omega) | omega)
        rw [hi]
        have hs2 : w1.heap.size < w2.heap.size := by have := hw2.size; simp at this; omega
        go_wp2_with fail
        refine (contradicts_any st nx fi hg co (off + (data.size : Int)) false ao n ca _).mono ?_
        rintro en w3 ⟨rfl, hw3⟩
        have xw3 : Ext w w3 := (by repeat (first | with_reducible exact Ext.refl _ | with_reducible assumption | with_reducible refine Ext.alloc ?_ _ | with_reducible refine Ext.drew ?_ | with_reducible refine Ext.drewN ?_ _ | ((with_reducible refine Ext.set ?_ ?_ _); (focus (first | (simp; done) | (simp; omega)))) | with_reducible refine Ext.trans ?_ (by assumption)))
        have kw3_0 := hw3.more (k := w.heap.size) (by first | assumption | (simp; done) | (simp; omega) | omega)
        obtain ⟨cw3_0, fw3_0⟩ := hw3.row (k := w.heap.size) (by first | assumption | (simp; done) | (simp; omega) | omega)
        have kw3_1 := hw3.more (k := w.heap.size + 1) (by first | assumption | (simp; done) | (simp; omega) | omega)
        obtain ⟨cw3_1, fw3_1⟩ := hw3.row (k := w.heap.size + 1) (by first | assumption | (simp; done) | (simp; omega) | omega)
        have kw3_2 := hw3.more (k := w1.heap.size) (by first | assumption | (simp; done) | (simp; omega) | omega)
        obtain ⟨cw3_2, fw3_2⟩ := hw3.row (k := w1.heap.size) (by first | assumption | (simp; done) | (simp; omega) | omega)
        rw [hcn]
        go_wp2_with fail
        refine (takes_any st nx fi hg co ao n ca _).mono ?_
        rintro en w4 ⟨rfl, hw4⟩
        have xw4 : Ext w w4 := (by repeat (first | with_reducible exact Ext.refl _ | with_reducible assumption | with_reducible refine Ext.alloc ?_ _ | with_reducible refine Ext.drew ?_ | with_reducible refine Ext.drewN ?_ _ | ((with_reducible refine Ext.set ?_ ?_ _); (focus (first | (simp; done) | (simp; omega)))) | with_reducible refine Ext.trans ?_ (by assumption)))
        have kw4_0 := hw4.more (k := w.heap.size) (by first | assumption | (simp; done) | (simp; omega) | omega)
        obtain ⟨cw4_0, fw4_0⟩ := hw4.row (k := w.heap.size) (by first | assumption | (simp; done) | (simp; omega) | omega)
        have kw4_1 := hw4.more (k := w.heap.size + 1) (by first | assumption | (simp; done) | (simp; omega) | omega)
        obtain ⟨cw4_1, fw4_1⟩ := hw4.row (k := w.heap.size + 1) (by first | assumption | (simp; done) | (simp; omega) | omega)
        have kw4_2 := hw4.more (k := w1.heap.size) (by first | assumption | (simp; done) | (simp; omega) | omega)
        obtain ⟨cw4_2, fw4_2⟩ := hw4.row (k := w1.heap.size) (by first | assumption | (simp; done) | (simp; omega) | omega)
        rw [htk]
        go_wp2_with fail
        refine (InsertData_impl nx off data ao n ca cs _ (hx'.out.ext (by repeat (first | with_reducible exact Ext.refl _ | with_reducible assumption | with_reducible refine Ext.alloc ?_ _ | with_reducible refine Ext.drew ?_ | ((with_reducible refine Ext.set ?_ ?_ _); (focus (first | (simp; done) | (simp; omega) | omega))) | with_reducible refine Ext.trans ?_ hw4 | with_reducible refine Ext.trans ?_ hw3 | with_reducible refine Ext.trans ?_ hw2 | with_reducible refine Ext.trans ?_ hw1))) hn'.out hl hw'.out hoff hds).mono ?_
        rintro en w5 ⟨ao3, cap3, rfl, ho3, hw5⟩
        have xw5 : Ext w w5 := (by repeat (first | with_reducible exact Ext.refl _ | with_reducible assumption | with_reducible refine Ext.alloc ?_ _ | with_reducible refine Ext.drew ?_ | with_reducible refine Ext.drewN ?_ _ | ((with_reducible refine Ext.set ?_ ?_ _); (focus (first | (simp; done) | (simp; omega)))) | with_reducible refine Ext.trans ?_ (by assumption)))
        have kw5_0 := hw5.more (k := w.heap.size) (by first | assumption | (simp; done) | (simp; omega) | omega)
        obtain ⟨cw5_0, fw5_0⟩ := hw5.row (k := w.heap.size) (by first | assumption | (simp; done) | (simp; omega) | omega)
        have kw5_1 := hw5.more (k := w.heap.size + 1) (by first | assumption | (simp; done) | (simp; omega) | omega)
        obtain ⟨cw5_1, fw5_1⟩ := hw5.row (k := w.heap.size + 1) (by first | assumption | (simp; done) | (simp; omega) | omega)
        have kw5_2 := hw5.more (k := w1.heap.size) (by first | assumption | (simp; done) | (simp; omega) | omega)
        obtain ⟨cw5_2, fw5_2⟩ := hw5.row (k := w1.heap.size) (by first | assumption | (simp; done) | (simp; omega) | omega)
        generalize insC nx cs off data = ys at *
        have hs4 : w1.heap.size < w4.heap.size := Nat.lt_of_lt_of_le hs2 (by first | exact Nat.le_refl _ | exact hw3.size | exact Nat.le_trans hw3.size hw4.size)
        have hs5 : w1.heap.size < w5.heap.size := Nat.lt_of_lt_of_le hs4 (by have := hw5.size; simpa using this)
        have ho5 := hide (OwnC.chg (S := fun k => k = w1.heap.size) (OwnC.mono (lo' := w4.heap.size) (hi' := w5.heap.size) ho3 (by simp) (Nat.le_refl _)) (Chg.set (S := fun k => k = w1.heap.size) (p := ⟨w1.heap.size, 2, none⟩) (Or.inl rfl) (Chg.set (S := fun k => k = w1.heap.size) (p := ⟨w1.heap.size, 1, none⟩) (Or.inl rfl) (Chg.refl _ w5) (.int .i64 nx)) (.slice ao3 ys.length cap3)) (fun b h1 h2 h3 => by (try dsimp only at h3); omega))
        clear ho3
        go_wp2_with fail
        refine wp_region_seq (Ext _) (by kernel_rfl) (by kernel_rfl) ((Ext.refl _).drew) ?_
        iterate 11 (((first | (refine wpSeqS_off rfl (by rfl) ?_) | (refine wpSeqS_plain (v := ?_) rfl (by rfl) ?_ ?_; rotate_left; (focus (intro ws hws; obtain ⟨q0, p0⟩ := hws.row (k := w.heap.size + 1) (by first | assumption | (simp; done) | (simp; omega) | omega); obtain ⟨q1, p1⟩ := hws.row (k := w1.heap.size) (by first | assumption | (simp; done) | (simp; omega) | omega); go_simp; (try with_reducible rfl); done))) | (refine wpSeqS_call (v := ?_) 73 ?_ rfl (by rfl) ?_ ?_ ?_; rotate_left; rotate_left; (focus (intro ws hws; skip; go_simp; (try with_reducible rfl); done)); (focus (intro ws hws; refine (readyEnd_any nx ao3 ys.length cap3 ys ws (ho5.out.read.ext hws) rfl (by omega) hwf.out hnx).mono ?_; rintro e w' ⟨rfl, h2⟩; refine ⟨?_, hws.trans h2⟩; (try simp only [*]); (try with_reducible rfl); done))) | fail)); (try simp only [Act.put, List.getElem_toArray, List.getElem_cons_zero, List.getElem_cons_succ, List.setIfInBounds_toArray, List.set_cons_zero, List.set_cons_succ]))
        refine wpSeqS_done (by kernel_rfl) (fun w6 hw6 => ?_)
        have ho6 := hide (OwnC.chg (S := fun _ => False) ho5.out (hw6.chg _) (fun _ _ _ h => h))
        obtain ⟨x1_6, y1_6⟩ := hw6.row (k := w.heap.size + 1) (by simp; omega)
        obtain ⟨x2_6, y2_6⟩ := hw6.row (k := w1.heap.size) (by simp; omega)
        have hs6 : w5.heap.size ≤ w6.heap.size := by have := hw6.size; simpa using this
        have k6_1 : w.heap.size + 1 < w6.heap.size := by omega
        have k6_2 : w1.heap.size < w6.heap.size := by omega
        have hgX : Chg (fun k => k = w1.heap.size ∨ w.heap.size ≤ k) w w6 := Chg.trans (Chg.trans (Ext.chg xw5 _) (Chg.set (p := ⟨w1.heap.size, 2, none⟩) (Or.inl (Or.inl rfl)) (Chg.set (p := ⟨w1.heap.size, 1, none⟩) (Or.inl (Or.inl rfl)) (Chg.refl _ w5) _) _)) (hw6.chg _)
        clear ho5
        have r0 : w6.cell? ⟨w1.heap.size, 0, none⟩ = some (.int .i64 st) := (by rw [x2_6]; simp [go_sem, *])
        have r1 : w6.cell? ⟨w1.heap.size, 1, none⟩ = some (.int .i64 nx) := (by rw [x2_6]; simp [go_sem, *])
        have r2 : w6.cell? ⟨w1.heap.size, 2, none⟩ = some (.slice ao3 ys.length cap3) := (by rw [x2_6]; simp [go_sem, *])
        have r3 : w6.cell? ⟨w1.heap.size, 3, none⟩ = some (.int .i64 fi) := (by rw [x2_6]; simp [go_sem, *])
        have r4 : w6.cell? ⟨w1.heap.size, 4, none⟩ = some (.int .i64 (max hg (off + (data.size : Int)))) := (by rw [x2_6]; simp [go_sem, *])
        have r5 : w6.cell? ⟨w1.heap.size, 5, none⟩ = some (.int .i64 co) := (by rw [x2_6]; simp [go_sem, *])
        have rF : ∀ o, w6.frozen? ⟨w1.heap.size, o, none⟩ = false := fun o => (by rw [y2_6]; simp [go_sem, *])
        have s0 : w6.cell? ⟨w.heap.size + 1, 0, none⟩ = some (.int .i64 0) := (by rw [x1_6]; simp [go_sem, *])
        have s1 : w6.cell? ⟨w.heap.size + 1, 1, none⟩ = some (.int .i64 0) := (by rw [x1_6]; simp [go_sem, *])
        have s2 : w6.cell? ⟨w.heap.size + 1, 2, none⟩ = some (.slice none 0 0) := (by rw [x1_6]; simp [go_sem, *])
        have s3 : w6.cell? ⟨w.heap.size + 1, 3, none⟩ = some (.int .i64 0) := (by rw [x1_6]; simp [go_sem, *])
        have s4 : w6.cell? ⟨w.heap.size + 1, 4, none⟩ = some (.int .i64 0) := (by rw [x1_6]; simp [go_sem, *])
        have s5 : w6.cell? ⟨w.heap.size + 1, 5, none⟩ = some (.int .i64 0) := (by rw [x1_6]; simp [go_sem, *])
        have sF : ∀ o, w6.frozen? ⟨w.heap.size + 1, o, none⟩ = false := fun o => (by rw [y1_6]; simp [go_sem, *])
        have hneb : w1.heap.size ≠ w.heap.size + 1 := by omega
        have hneb2 : w.heap.size + 1 ≠ w1.heap.size := by omega
        clear x1_6 y1_6 x2_6 y2_6
        clear cw1_0 fw1_0 cw1_1 fw1_1 cw2_0 fw2_0 cw2_1 fw2_1 cw2_2 fw2_2 cw3_0 fw3_0 cw3_1 fw3_1 cw3_2 fw3_2 cw4_0 fw4_0 cw4_1 fw4_1 cw4_2 fw4_2 cw5_0 fw5_0 cw5_1 fw5_1 cw5_2 fw5_2
        go_wp2
        refine bodyPost_ret (v := .tuple #[.agg #[.int .i64 2, .int .i64 nx, .slice ao3 ys.length cap3, .int .i64 fi, .int .i64 (max hg (off + (data.size : Int))), .int .i64 co], .int .i64 0]) (by simp [results, Try.results35, go_sem, *]) rfl ⟨ao3, cap3, rfl, ?_, ?_⟩
        · refine OwnC.mono (OwnC.chg (S := fun k => k = w1.heap.size ∨ k = w.heap.size + 1) ho6.out (by repeat (first | with_reducible exact Chg.refl _ _ | with_reducible assumption | with_reducible refine Chg.alloc ?_ _ | with_reducible refine Chg.drew ?_ | ((with_reducible refine Chg.set ?_ ?_ _); (focus (first | (left; simp; done) | (left; simp; omega) | (left; omega) | (right; simp; done) | (right; simp; omega) | (right; omega)))))) (fun b h1 h2 h3 => by (try dsimp only at h3); omega)) (by omega) (by simp; omega)
        · exact Chg.ext (S := fun k => k = w1.heap.size ∨ w.heap.size ≤ k) (Chg.trans hgX (by repeat (first | with_reducible exact Chg.refl _ _ | with_reducible assumption | with_reducible refine Chg.alloc ?_ _ | with_reducible refine Chg.drew ?_ | ((with_reducible refine Chg.set ?_ ?_ _); (focus (first | (left; simp; done) | (left; simp; omega) | (left; omega) | (right; simp; done) | (right; simp; omega) | (right; omega))))))) (fun k hk h => by (try dsimp only at h); omega)
      · -- no
        subst hfi
        have hF : rdaFi fi (off + (data.size : Int)) false = fi := by simp [rdaFi]
        rw [hF]
        have hT : rdaSt st nx fi false (insC nx cs off data) = st := by simp [rdaSt, *]
        rw [hT]
        clear hF hT
        have hwf := hide (insC_wf (nx := nx) (off := off) (data := data) hw)
        have hbd := readyB_bd nx (insC nx cs off data)
        have hyl := insC_length nx cs off data
        have hwr : IntKind.i64.wrap (nx + readyB nx (insC nx cs off data)) = nx + readyB nx (insC nx cs off data) := IntWalk.i64_in _ (by omega)
        have hyl2 : (insC nx cs off data).length ≤ 1048577 := by omega
        clear hyl
        have hn' := hide hn
        have hx' := hide hx
        have hw' := hide hw
        clear hn hx hw
        go_enter Try.func35, Try.ntmps35
        go_wp2_with fail
        refine (copyReceiver_any st nx fi hg co ao n ca cs _ (hx'.out.ext (by repeat (first | with_reducible exact Ext.refl _ | with_reducible assumption | with_reducible refine Ext.alloc ?_ _ | with_reducible refine Ext.drew ?_ | ((with_reducible refine Ext.set ?_ ?_ _); (focus (first | (simp; done) | (simp; omega) | omega)))))) hn'.out hl).mono ?_
        rintro en w1 ⟨ao1, cap1, rfl, ho1, hw1⟩
        have xw1 : Ext w w1 := (by repeat (first | with_reducible exact Ext.refl _ | with_reducible assumption | with_reducible refine Ext.alloc ?_ _ | with_reducible refine Ext.drew ?_ | with_reducible refine Ext.drewN ?_ _ | ((with_reducible refine Ext.set ?_ ?_ _); (focus (first | (simp; done) | (simp; omega)))) | with_reducible refine Ext.trans ?_ (by assumption)))
        have kw1_0 := hw1.more (k := w.heap.size) (by first | assumption | (simp; done) | (simp; omega) | omega)
        obtain ⟨cw1_0, fw1_0⟩ := hw1.row (k := w.heap.size) (by first | assumption | (simp; done) | (simp; omega) | omega)
        have kw1_1 := hw1.more (k := w.heap.size + 1) (by first | assumption | (simp; done) | (simp; omega) | omega)
        obtain ⟨cw1_1, fw1_1⟩ := hw1.row (k := w.heap.size + 1) (by first | assumption | (simp; done) | (simp; omega) | omega)
        replace ho1 := hide (OwnC.mono (lo' := w.heap.size + 2) ho1 (by simp) (Nat.le_refl _))
        have hs1 : w.heap.size + 2 ≤ w1.heap.size := by have := hw1.size; simpa using this
        go_wp2_with fail
        refine (IsReceiver_impl st nx fi hg co ao n ca cs _ (hx'.out.ext (by repeat (first | with_reducible exact Ext.refl _ | with_reducible assumption | with_reducible refine Ext.alloc ?_ _ | with_reducible refine Ext.drew ?_ | ((with_reducible refine Ext.set ?_ ?_ _); (focus (first | (simp; done) | (simp; omega) | omega))) | with_reducible refine Ext.trans ?_ hw1))) hn'.out (by omega) hw'.out hnx).mono ?_
        rintro en w2 ⟨rfl, hw2⟩
        have xw2 : Ext w w2 := (by repeat (first | with_reducible exact Ext.refl _ | with_reducible assumption | with_reducible refine Ext.alloc ?_ _ | with_reducible refine Ext.drew ?_ | with_reducible refine Ext.drewN ?_ _ | ((with_reducible refine Ext.set ?_ ?_ _); (focus (first | (simp; done) | (simp; omega)))) | with_reducible refine Ext.trans ?_ (by assumption)))
        have kw2_0 := hw2.more (k := w.heap.size) (by first | assumption | (simp; done) | (simp; omega) | omega)
        obtain ⟨cw2_0, fw2_0⟩ := hw2.row (k := w.heap.size) (by first | assumption | (simp; done) | (simp; omega) | omega)
        have kw2_1 := hw2.more (k := w.heap.size + 1) (by first | assumption | (simp; done) | (simp; omega) | omega)
        obtain ⟨cw2_1, fw2_1⟩ := hw2.row (k := w.heap.size + 1) (by first | assumption | (simp; done) | (simp; omega) | omega)
        have kw2_2 := hw2.more (k := w1.heap.size) (by first | assumption | (simp; done) | (simp; omega) | omega)
        obtain ⟨cw2_2, fw2_2⟩ := hw2.row (k := w1.heap.size) (by first | assumption | (simp; done) | (simp; omega) | omega)
        rw [hi]
        have hs2 : w1.heap.size < w2.heap.size := by have := hw2.size; simp at this; omega
        go_wp2_with fail
        refine (contradicts_any st nx fi hg co (off + (data.size : Int)) false ao n ca _).mono ?_
        rintro en w3 ⟨rfl, hw3⟩
        have xw3 : Ext w w3 := (by repeat (first | with_reducible exact Ext.refl _ | with_reducible assumption | with_reducible refine Ext.alloc ?_ _ | with_reducible refine Ext.drew ?_ | with_reducible refine Ext.drewN ?_ _ | ((with_reducible refine Ext.set ?_ ?_ _); (focus (first | (simp; done) | (simp; omega)))) | with_reducible refine Ext.trans ?_ (by assumption)))
        have kw3_0 := hw3.more (k := w.heap.size) (by first | assumption | (simp; done) | (simp; omega) | omega)
        obtain ⟨cw3_0, fw3_0⟩ := hw3.row (k := w.heap.size) (by first | assumption | (simp; done) | (simp; omega) | omega)
        have kw3_1 := hw3.more (k := w.heap.size + 1) (by first | assumption | (simp; done) | (simp; omega) | omega)
        obtain ⟨cw3_1, fw3_1⟩ := hw3.row (k := w.heap.size + 1) (by first | assumption | (simp; done) | (simp; omega) | omega)
        have kw3_2 := hw3.more (k := w1.heap.size) (by first | assumption | (simp; done) | (simp; omega) | omega)
        obtain ⟨cw3_2, fw3_2⟩ := hw3.row (k := w1.heap.size) (by first | assumption | (simp; done) | (simp; omega) | omega)
        rw [hcn]
        go_wp2_with fail
        refine (takes_any st nx fi hg co ao n ca _).mono ?_
        rintro en w4 ⟨rfl, hw4⟩
        have xw4 : Ext w w4 := (by repeat (first | with_reducible exact Ext.refl _ | with_reducible assumption | with_reducible refine Ext.alloc ?_ _ | with_reducible refine Ext.drew ?_ | with_reducible refine Ext.drewN ?_ _ | ((with_reducible refine Ext.set ?_ ?_ _); (focus (first | (simp; done) | (simp; omega)))) | with_reducible refine Ext.trans ?_ (by assumption)))
        have kw4_0 := hw4.more (k := w.heap.size) (by first | assumption | (simp; done) | (simp; omega) | omega)
        obtain ⟨cw4_0, fw4_0⟩ := hw4.row (k := w.heap.size) (by first | assumption | (simp; done) | (simp; omega) | omega)
        have kw4_1 := hw4.more (k := w.heap.size + 1) (by first | assumption | (simp; done) | (simp; omega) | omega)
        obtain ⟨cw4_1, fw4_1⟩ := hw4.row (k := w.heap.size + 1) (by first | assumption | (simp; done) | (simp; omega) | omega)
        have kw4_2 := hw4.more (k := w1.heap.size) (by first | assumption | (simp; done) | (simp; omega) | omega)
        obtain ⟨cw4_2, fw4_2⟩ := hw4.row (k := w1.heap.size) (by first | assumption | (simp; done) | (simp; omega) | omega)
        rw [htk]
        go_wp2_with fail
        refine (InsertData_impl nx off data ao n ca cs _ (hx'.out.ext (by repeat (first | with_reducible exact Ext.refl _ | with_reducible assumption | with_reducible refine Ext.alloc ?_ _ | with_reducible refine Ext.drew ?_ | ((with_reducible refine Ext.set ?_ ?_ _); (focus (first | (simp; done) | (simp; omega) | omega))) | with_reducible refine Ext.trans ?_ hw4 | with_reducible refine Ext.trans ?_ hw3 | with_reducible refine Ext.trans ?_ hw2 | with_reducible refine Ext.trans ?_ hw1))) hn'.out hl hw'.out hoff hds).mono ?_
        rintro en w5 ⟨ao3, cap3, rfl, ho3, hw5⟩
        have xw5 : Ext w w5 := (by repeat (first | with_reducible exact Ext.refl _ | with_reducible assumption | with_reducible refine Ext.alloc ?_ _ | with_reducible refine Ext.drew ?_ | with_reducible refine Ext.drewN ?_ _ | ((with_reducible refine Ext.set ?_ ?_ _); (focus (first | (simp; done) | (simp; omega)))) | with_reducible refine Ext.trans ?_ (by assumption)))
        have kw5_0 := hw5.more (k := w.heap.size) (by first | assumption | (simp; done) | (simp; omega) | omega)
        obtain ⟨cw5_0, fw5_0⟩ := hw5.row (k := w.heap.size) (by first | assumption | (simp; done) | (simp; omega) | omega)
        have kw5_1 := hw5.more (k := w.heap.size + 1) (by first | assumption | (simp; done) | (simp; omega) | omega)
        obtain ⟨cw5_1, fw5_1⟩ := hw5.row (k := w.heap.size + 1) (by first | assumption | (simp; done) | (simp; omega) | omega)
        have kw5_2 := hw5.more (k := w1.heap.size) (by first | assumption | (simp; done) | (simp; omega) | omega)
        obtain ⟨cw5_2, fw5_2⟩ := hw5.row (k := w1.heap.size) (by first | assumption | (simp; done) | (simp; omega) | omega)
        generalize insC nx cs off data = ys at *
        have hs4 : w1.heap.size < w4.heap.size := Nat.lt_of_lt_of_le hs2 (by first | exact Nat.le_refl _ | exact hw3.size | exact Nat.le_trans hw3.size hw4.size)
        have hs5 : w1.heap.size < w5.heap.size := Nat.lt_of_lt_of_le hs4 (by have := hw5.size; simpa using this)
        have ho5 := hide (OwnC.chg (S := fun k => k = w1.heap.size) (OwnC.mono (lo' := w4.heap.size) (hi' := w5.heap.size) ho3 (by simp) (Nat.le_refl _)) (Chg.set (S := fun k => k = w1.heap.size) (p := ⟨w1.heap.size, 2, none⟩) (Or.inl rfl) (Chg.set (S := fun k => k = w1.heap.size) (p := ⟨w1.heap.size, 1, none⟩) (Or.inl rfl) (Chg.refl _ w5) (.int .i64 nx)) (.slice ao3 ys.length cap3)) (fun b h1 h2 h3 => by (try dsimp only at h3); omega))
        clear ho3
        go_wp2_with fail
        refine wp_region_seq (Ext _) (by kernel_rfl) (by kernel_rfl) ((Ext.refl _).drew) ?_
        iterate 11 (((first | (refine wpSeqS_off rfl (by rfl) ?_) | (refine wpSeqS_plain (v := ?_) rfl (by rfl) ?_ ?_; rotate_left; (focus (intro ws hws; obtain ⟨q0, p0⟩ := hws.row (k := w.heap.size + 1) (by first | assumption | (simp; done) | (simp; omega) | omega); obtain ⟨q1, p1⟩ := hws.row (k := w1.heap.size) (by first | assumption | (simp; done) | (simp; omega) | omega); go_simp; (try with_reducible rfl); done))) | (refine wpSeqS_call (v := ?_) 73 ?_ rfl (by rfl) ?_ ?_ ?_; rotate_left; rotate_left; (focus (intro ws hws; skip; go_simp; (try with_reducible rfl); done)); (focus (intro ws hws; refine (readyEnd_any nx ao3 ys.length cap3 ys ws (ho5.out.read.ext hws) rfl (by omega) hwf.out hnx).mono ?_; rintro e w' ⟨rfl, h2⟩; refine ⟨?_, hws.trans h2⟩; (try simp only [*]); (try with_reducible rfl); done))) | fail)); (try simp only [Act.put, List.getElem_toArray, List.getElem_cons_zero, List.getElem_cons_succ, List.setIfInBounds_toArray, List.set_cons_zero, List.set_cons_succ]))
        refine wpSeqS_done (by kernel_rfl) (fun w6 hw6 => ?_)
        have ho6 := hide (OwnC.chg (S := fun _ => False) ho5.out (hw6.chg _) (fun _ _ _ h => h))
        obtain ⟨x1_6, y1_6⟩ := hw6.row (k := w.heap.size + 1) (by simp; omega)
        obtain ⟨x2_6, y2_6⟩ := hw6.row (k := w1.heap.size) (by simp; omega)
        have hs6 : w5.heap.size ≤ w6.heap.size := by have := hw6.size; simpa using this
        have k6_1 : w.heap.size + 1 < w6.heap.size := by omega
        have k6_2 : w1.heap.size < w6.heap.size := by omega
        have hgX : Chg (fun k => k = w1.heap.size ∨ w.heap.size ≤ k) w w6 := Chg.trans (Chg.trans (Ext.chg xw5 _) (Chg.set (p := ⟨w1.heap.size, 2, none⟩) (Or.inl (Or.inl rfl)) (Chg.set (p := ⟨w1.heap.size, 1, none⟩) (Or.inl (Or.inl rfl)) (Chg.refl _ w5) _) _)) (hw6.chg _)
        clear ho5
        have r0 : w6.cell? ⟨w1.heap.size, 0, none⟩ = some (.int .i64 st) := (by rw [x2_6]; simp [go_sem, *])
        have r1 : w6.cell? ⟨w1.heap.size, 1, none⟩ = some (.int .i64 nx) := (by rw [x2_6]; simp [go_sem, *])
        have r2 : w6.cell? ⟨w1.heap.size, 2, none⟩ = some (.slice ao3 ys.length cap3) := (by rw [x2_6]; simp [go_sem, *])
        have r3 : w6.cell? ⟨w1.heap.size, 3, none⟩ = some (.int .i64 fi) := (by rw [x2_6]; simp [go_sem, *])
        have r4 : w6.cell? ⟨w1.heap.size, 4, none⟩ = some (.int .i64 (max hg (off + (data.size : Int)))) := (by rw [x2_6]; simp [go_sem, *])
        have r5 : w6.cell? ⟨w1.heap.size, 5, none⟩ = some (.int .i64 co) := (by rw [x2_6]; simp [go_sem, *])
        have rF : ∀ o, w6.frozen? ⟨w1.heap.size, o, none⟩ = false := fun o => (by rw [y2_6]; simp [go_sem, *])
        have s0 : w6.cell? ⟨w.heap.size + 1, 0, none⟩ = some (.int .i64 0) := (by rw [x1_6]; simp [go_sem, *])
        have s1 : w6.cell? ⟨w.heap.size + 1, 1, none⟩ = some (.int .i64 0) := (by rw [x1_6]; simp [go_sem, *])
        have s2 : w6.cell? ⟨w.heap.size + 1, 2, none⟩ = some (.slice none 0 0) := (by rw [x1_6]; simp [go_sem, *])
        have s3 : w6.cell? ⟨w.heap.size + 1, 3, none⟩ = some (.int .i64 0) := (by rw [x1_6]; simp [go_sem, *])
        have s4 : w6.cell? ⟨w.heap.size + 1, 4, none⟩ = some (.int .i64 0) := (by rw [x1_6]; simp [go_sem, *])
        have s5 : w6.cell? ⟨w.heap.size + 1, 5, none⟩ = some (.int .i64 0) := (by rw [x1_6]; simp [go_sem, *])
        have sF : ∀ o, w6.frozen? ⟨w.heap.size + 1, o, none⟩ = false := fun o => (by rw [y1_6]; simp [go_sem, *])
        have hneb : w1.heap.size ≠ w.heap.size + 1 := by omega
        have hneb2 : w.heap.size + 1 ≠ w1.heap.size := by omega
        clear x1_6 y1_6 x2_6 y2_6
        clear cw1_0 fw1_0 cw1_1 fw1_1 cw2_0 fw2_0 cw2_1 fw2_1 cw2_2 fw2_2 cw3_0 fw3_0 cw3_1 fw3_1 cw3_2 fw3_2 cw4_0 fw4_0 cw4_1 fw4_1 cw4_2 fw4_2 cw5_0 fw5_0 cw5_1 fw5_1 cw5_2 fw5_2
        go_wp2
        refine bodyPost_ret (v := .tuple #[.agg #[.int .i64 st, .int .i64 nx, .slice ao3 ys.length cap3, .int .i64 fi, .int .i64 (max hg (off + (data.size : Int))), .int .i64 co], .int .i64 0]) (by simp [results, Try.results35, go_sem, *]) rfl ⟨ao3, cap3, rfl, ?_, ?_⟩
        · refine OwnC.mono (OwnC.chg (S := fun k => k = w1.heap.size ∨ k = w.heap.size + 1) ho6.out (by repeat (first | with_reducible exact Chg.refl _ _ | with_reducible assumption | with_reducible refine Chg.alloc ?_ _ | with_reducible refine Chg.drew ?_ | ((with_reducible refine Chg.set ?_ ?_ _); (focus (first | (left; simp; done) | (left; simp; omega) | (left; omega) | (right; simp; done) | (right; simp; omega) | (right; omega)))))) (fun b h1 h2 h3 => by (try dsimp only at h3); omega)) (by omega) (by simp; omega)
        · exact Chg.ext (S := fun k => k = w1.heap.size ∨ w.heap.size ≤ k) (Chg.trans hgX (by repeat (first | with_reducible exact Chg.refl _ _ | with_reducible assumption | with_reducible refine Chg.alloc ?_ _ | with_reducible refine Chg.drew ?_ | ((with_reducible refine Chg.set ?_ ?_ _); (focus (first | (left; simp; done) | (left; simp; omega) | (left; omega) | (right; simp; done) | (right; simp; omega) | (right; omega))))))) (fun k hk h => by (try dsimp only at h); omega)
set_option maxHeartbeats 4000000 in
set_option maxRecDepth 100000 in
theorem ReceiveData_spec_no (st nx fi hg co off : Int) (data : ByteArray) (fin : Bool) (ao : Option Addr) (n ca : Nat) (cs : List Ck) (w : World) (hx : ReadC w ao cs) (hn : cs.length = n) (hl : n ≤ 1048576) (hw : WfC cs) (hnx : -9223372036854775808 ≤ nx ∧ nx ≤ 9223372036854775807) (hoff : -9223372036854775808 ≤ off ∧ off ≤ 9223372036854775807) (hds : (data.size : Int) ≤ 1048576) (hgo : rdaGo st nx fi hg co off data fin cs = false) :
    Calls Try.prog 34 #[.agg #[.int .i64 st, .int .i64 nx, .slice ao n ca, .int .i64 fi, .int .i64 hg, .int .i64 co], .int .i64 off, .string data, .bool fin] w (RecvRes st nx fi hg co cs (.int .i64 (rdaE st nx fi hg co off data fin cs)) w) := by
  rcases Bool.eq_false_or_eq_true (recvIs st nx fi hg co cs) with hi | hi
  · -- yes
    by_cases h0 : off < 0
    · -- yes
      have hE : rdaE st nx fi hg co off data fin cs = 7 := by
        have : decide (0 ≤ off) = false := decide_eq_false (by omega)
        simp [rdaE, rdaOk, this]
      rw [hE]
      clear hE
      have hn' := hide hn
      have hx' := hide hx
      have hw' := hide hw
      clear hn hx hw
      go_enter Try.func34, Try.ntmps34
      go_wp2_with fail
      refine (l7Copy_any st nx fi hg co ao n ca cs _ (hx'.out.ext (by repeat (first | with_reducible exact Ext.refl _ | with_reducible assumption | with_reducible refine Ext.alloc ?_ _ | with_reducible refine Ext.drew ?_ | ((with_reducible refine Ext.set ?_ ?_ _); (focus (first | (simp; done) | (simp; omega) | omega)))))) hn'.out hl).mono ?_
      rintro en w1 ⟨ao1, cap1, rfl, ho1, hw1⟩
      have xw1 : Ext w w1 := (by repeat (first | with_reducible exact Ext.refl _ | with_reducible assumption | with_reducible refine Ext.alloc ?_ _ | with_reducible refine Ext.drew ?_ | with_reducible refine Ext.drewN ?_ _ | ((with_reducible refine Ext.set ?_ ?_ _); (focus (first | (simp; done) | (simp; omega)))) | with_reducible refine Ext.trans ?_ (by assumption)))
      have kw1_0 := hw1.more (k := w.heap.size) (by first | assumption | (simp; done) | (simp; omega) | omega)
      obtain ⟨cw1_0, fw1_0⟩ := hw1.row (k := w.heap.size) (by first | assumption | (simp; done) | (simp; omega) | omega)
      have kw1_1 := hw1.more (k := w.heap.size + 1) (by first | assumption | (simp; done) | (simp; omega) | omega)
      obtain ⟨cw1_1, fw1_1⟩ := hw1.row (k := w.heap.size + 1) (by first | assumption | (simp; done) | (simp; omega) | omega)
      replace ho1 := hide (OwnC.mono (lo' := w.heap.size + 2) ho1 (by simp) (Nat.le_refl _))
      have hs1 : w.heap.size + 2 ≤ w1.heap.size := by have := hw1.size; simpa using this
      go_wp2_with fail
      refine (IsReceiver_spec st nx fi hg co ao n ca cs _ (hx'.out.ext (by repeat (first | with_reducible exact Ext.refl _ | with_reducible assumption | with_reducible refine Ext.alloc ?_ _ | with_reducible refine Ext.drew ?_ | ((with_reducible refine Ext.set ?_ ?_ _); (focus (first | (simp; done) | (simp; omega) | omega))) | with_reducible refine Ext.trans ?_ hw1))) hn'.out (by omega) hw'.out hnx).mono ?_
      rintro en w2 ⟨rfl, hw2⟩
      have xw2 : Ext w w2 := (by repeat (first | with_reducible exact Ext.refl _ | with_reducible assumption | with_reducible refine Ext.alloc ?_ _ | with_reducible refine Ext.drew ?_ | with_reducible refine Ext.drewN ?_ _ | ((with_reducible refine Ext.set ?_ ?_ _); (focus (first | (simp; done) | (simp; omega)))) | with_reducible refine Ext.trans ?_ (by assumption)))
      have kw2_0 := hw2.more (k := w.heap.size) (by first | assumption | (simp; done) | (simp; omega) | omega)
      obtain ⟨cw2_0, fw2_0⟩ := hw2.row (k := w.heap.size) (by first | assumption | (simp; done) | (simp; omega) | omega)
      have kw2_1 := hw2.more (k := w.heap.size + 1) (by first | assumption | (simp; done) | (simp; omega) | omega)
      obtain ⟨cw2_1, fw2_1⟩ := hw2.row (k := w.heap.size + 1) (by first | assumption | (simp; done) | (simp; omega) | omega)
      have kw2_2 := hw2.more (k := w1.heap.size) (by first | assumption | (simp; done) | (simp; omega) | omega)
      obtain ⟨cw2_2, fw2_2⟩ := hw2.row (k := w1.heap.size) (by first | assumption | (simp; done) | (simp; omega) | omega)
      rw [hi]
      have hs2 : w1.heap.size < w2.heap.size := by have := hw2.size; simp at this; omega
      go_wp2
      refine bodyPost_ret (v := .tuple #[.agg #[.int .i64 st, .int .i64 nx, .slice ao1 cs.length cap1, .int .i64 fi, .int .i64 hg, .int .i64 co], .int .i64 7]) (by simp [results, Try.results34, go_sem, *]) rfl ⟨ao1, cap1, rfl, ?_, ?_⟩
      · refine OwnC.mono (OwnC.chg (S := fun k => k < w.heap.size + 2) ho1.out (by repeat (first | with_reducible exact Chg.refl _ _ | with_reducible assumption | with_reducible refine Chg.alloc ?_ _ | with_reducible refine Chg.drew ?_ | ((with_reducible refine Chg.set ?_ ?_ _); (focus (first | (left; simp; done) | (left; simp; omega) | (left; omega) | (right; simp; done) | (right; simp; omega) | (right; omega)))) | with_reducible refine Chg.trans ?_ (Ext.chg hw2 _))) (fun b h1 h2 h3 => by omega)) (by omega) (by simp; omega)
      · exact (by repeat (first | with_reducible exact Ext.refl _ | with_reducible assumption | with_reducible refine Ext.alloc ?_ _ | with_reducible refine Ext.drew ?_ | with_reducible refine Ext.drewN ?_ _ | ((with_reducible refine Ext.set ?_ ?_ _); (focus (first | (simp; done) | (simp; omega)))) | with_reducible refine Ext.trans ?_ (by assumption)))
    · -- no
      have h0x : ¬ (off < 0) := h0
      have h0d : decide (off < 0) = false := decide_eq_false h0x
      replace h0 : 0 ≤ off := by omega
      by_cases h1 : 4611686018427387903 - (data.size : Int) < off
      · -- yes
        have wr1 : IntKind.i64.wrap (4611686018427387903 - (data.size : Int)) = 4611686018427387903 - (data.size : Int) := IntWalk.i64_in _ (by omega)
        have hE : rdaE st nx fi hg co off data fin cs = 7 := by
          have : decide (off + (data.size : Int) ≤ 4611686018427387903) = false := decide_eq_false (by omega)
          simp [rdaE, rdaOk, this]
        rw [hE]
        clear hE
        have hn' := hide hn
        have hx' := hide hx
        have hw' := hide hw
        clear hn hx hw
        go_enter Try.func34, Try.ntmps34
        go_wp2_with fail
        refine (l7Copy_any st nx fi hg co ao n ca cs _ (hx'.out.ext (by repeat (first | with_reducible exact Ext.refl _ | with_reducible assumption | with_reducible refine Ext.alloc ?_ _ | with_reducible refine Ext.drew ?_ | ((with_reducible refine Ext.set ?_ ?_ _); (focus (first | (simp; done) | (simp; omega) | omega)))))) hn'.out hl).mono ?_
        rintro en w1 ⟨ao1, cap1, rfl, ho1, hw1⟩
        have xw1 : Ext w w1 := (by repeat (first | with_reducible exact Ext.refl _ | with_reducible assumption | with_reducible refine Ext.alloc ?_ _ | with_reducible refine Ext.drew ?_ | with_reducible refine Ext.drewN ?_ _ | ((with_reducible refine Ext.set ?_ ?_ _); (focus (first | (simp; done) | (simp; omega)))) | with_reducible refine Ext.trans ?_ (by assumption)))
        have kw1_0 := hw1.more (k := w.heap.size) (by first | assumption | (simp; done) | (simp; omega) | omega)
        obtain ⟨cw1_0, fw1_0⟩ := hw1.row (k := w.heap.size) (by first | assumption | (simp; done) | (simp; omega) | omega)
        have kw1_1 := hw1.more (k := w.heap.size + 1) (by first | assumption | (simp; done) | (simp; omega) | omega)
        obtain ⟨cw1_1, fw1_1⟩ := hw1.row (k := w.heap.size + 1) (by first | assumption | (simp; done) | (simp; omega) | omega)
        replace ho1 := hide (OwnC.mono (lo' := w.heap.size + 2) ho1 (by simp) (Nat.le_refl _))
        have hs1 : w.heap.size + 2 ≤ w1.heap.size := by have := hw1.size; simpa using this
        go_wp2_with fail
        refine (IsReceiver_spec st nx fi hg co ao n ca cs _ (hx'.out.ext (by repeat (first | with_reducible exact Ext.refl _ | with_reducible assumption | with_reducible refine Ext.alloc ?_ _ | with_reducible refine Ext.drew ?_ | ((with_reducible refine Ext.set ?_ ?_ _); (focus (first | (simp; done) | (simp; omega) | omega))) | with_reducible refine Ext.trans ?_ hw1))) hn'.out (by omega) hw'.out hnx).mono ?_
        rintro en w2 ⟨rfl, hw2⟩
        have xw2 : Ext w w2 := (by repeat (first | with_reducible exact Ext.refl _ | with_reducible assumption | with_reducible refine Ext.alloc ?_ _ | with_reducible refine Ext.drew ?_ | with_reducible refine Ext.drewN ?_ _ | ((with_reducible refine Ext.set ?_ ?_ _); (focus (first | (simp; done) | (simp; omega)))) | with_reducible refine Ext.trans ?_ (by assumption)))
        have kw2_0 := hw2.more (k := w.heap.size) (by first | assumption | (simp; done) | (simp; omega) | omega)
        obtain ⟨cw2_0, fw2_0⟩ := hw2.row (k := w.heap.size) (by first | assumption | (simp; done) | (simp; omega) | omega)
        have kw2_1 := hw2.more (k := w.heap.size + 1) (by first | assumption | (simp; done) | (simp; omega) | omega)
        obtain ⟨cw2_1, fw2_1⟩ := hw2.row (k := w.heap.size + 1) (by first | assumption | (simp; done) | (simp; omega) | omega)
        have kw2_2 := hw2.more (k := w1.heap.size) (by first | assumption | (simp; done) | (simp; omega) | omega)
        obtain ⟨cw2_2, fw2_2⟩ := hw2.row (k := w1.heap.size) (by first | assumption | (simp; done) | (simp; omega) | omega)
        rw [hi]
        have hs2 : w1.heap.size < w2.heap.size := by have := hw2.size; simp at this; omega
        go_wp2
        refine bodyPost_ret (v := .tuple #[.agg #[.int .i64 st, .int .i64 nx, .slice ao1 cs.length cap1, .int .i64 fi, .int .i64 hg, .int .i64 co], .int .i64 7]) (by simp [results, Try.results34, go_sem, *]) rfl ⟨ao1, cap1, rfl, ?_, ?_⟩
        · refine OwnC.mono (OwnC.chg (S := fun k => k < w.heap.size + 2) ho1.out (by repeat (first | with_reducible exact Chg.refl _ _ | with_reducible assumption | with_reducible refine Chg.alloc ?_ _ | with_reducible refine Chg.drew ?_ | ((with_reducible refine Chg.set ?_ ?_ _); (focus (first | (left; simp; done) | (left; simp; omega) | (left; omega) | (right; simp; done) | (right; simp; omega) | (right; omega)))) | with_reducible refine Chg.trans ?_ (Ext.chg hw2 _))) (fun b h1 h2 h3 => by omega)) (by omega) (by simp; omega)
        · exact (by repeat (first | with_reducible exact Ext.refl _ | with_reducible assumption | with_reducible refine Ext.alloc ?_ _ | with_reducible refine Ext.drew ?_ | with_reducible refine Ext.drewN ?_ _ | ((with_reducible refine Ext.set ?_ ?_ _); (focus (first | (simp; done) | (simp; omega)))) | with_reducible refine Ext.trans ?_ (by assumption)))
      · -- no
        have h1x : ¬ (4611686018427387903 - (data.size : Int) < off) := h1
        have h1d : decide (4611686018427387903 - (data.size : Int) < off) = false := decide_eq_false h1x
        replace h1 : off ≤ 4611686018427387903 - (data.size : Int) := by omega
        rcases Bool.eq_false_or_eq_true (contra fi hg (off + (data.size : Int)) fin) with hcn | hcn
        · -- yes
          have wr1 : IntKind.i64.wrap (4611686018427387903 - (data.size : Int)) = 4611686018427387903 - (data.size : Int) := IntWalk.i64_in _ (by omega)
          have wr2 : IntKind.i64.wrap (off + (data.size : Int)) = off + (data.size : Int) := IntWalk.i64_in _ (by omega)
          have hE : rdaE st nx fi hg co off data fin cs = 6 := by
            have e1 : decide (0 ≤ off) = true := decide_eq_true (by omega)
            have e2 : decide (off + (data.size : Int) ≤ 4611686018427387903) = true := decide_eq_true (by omega)
            simp [rdaE, rdaOk, hi, e1, e2, hcn]
          rw [hE]
          clear hE
          have hn' := hide hn
          have hx' := hide hx
          have hw' := hide hw
          clear hn hx hw
          go_enter Try.func34, Try.ntmps34
          go_wp2_with fail
          refine (l7Copy_any st nx fi hg co ao n ca cs _ (hx'.out.ext (by repeat (first | with_reducible exact Ext.refl _ | with_reducible assumption | with_reducible refine Ext.alloc ?_ _ | with_reducible refine Ext.drew ?_ | ((with_reducible refine Ext.set ?_ ?_ _); (focus (first | (simp; done) | (simp; omega) | omega)))))) hn'.out hl).mono ?_
          rintro en w1 ⟨ao1, cap1, rfl, ho1, hw1⟩
          have xw1 : Ext w w1 := (by repeat (first | with_reducible exact Ext.refl _ | with_reducible assumption | with_reducible refine Ext.alloc ?_ _ | with_reducible refine Ext.drew ?_ | with_reducible refine Ext.drewN ?_ _ | ((with_reducible refine Ext.set ?_ ?_ _); (focus (first | (simp; done) | (simp; omega)))) | with_reducible refine Ext.trans ?_ (by assumption)))
          have kw1_0 := hw1.more (k := w.heap.size) (by first | assumption | (simp; done) | (simp; omega) | omega)
          obtain ⟨cw1_0, fw1_0⟩ := hw1.row (k := w.heap.size) (by first | assumption | (simp; done) | (simp; omega) | omega)
          have kw1_1 := hw1.more (k := w.heap.size + 1) (by first | assumption | (simp; done) | (simp; omega) | omega)
          obtain ⟨cw1_1, fw1_1⟩ := hw1.row (k := w.heap.size + 1) (by first | assumption | (simp; done) | (simp; omega) | omega)
          replace ho1 := hide (OwnC.mono (lo' := w.heap.size + 2) ho1 (by simp) (Nat.le_refl _))
          have hs1 : w.heap.size + 2 ≤ w1.heap.size := by have := hw1.size; simpa using this
          go_wp2_with fail
          refine (IsReceiver_spec st nx fi hg co ao n ca cs _ (hx'.out.ext (by repeat (first | with_reducible exact Ext.refl _ | with_reducible assumption | with_reducible refine Ext.alloc ?_ _ | with_reducible refine Ext.drew ?_ | ((with_reducible refine Ext.set ?_ ?_ _); (focus (first | (simp; done) | (simp; omega) | omega))) | with_reducible refine Ext.trans ?_ hw1))) hn'.out (by omega) hw'.out hnx).mono ?_
          rintro en w2 ⟨rfl, hw2⟩
          have xw2 : Ext w w2 := (by repeat (first | with_reducible exact Ext.refl _ | with_reducible assumption | with_reducible refine Ext.alloc ?_ _ | with_reducible refine Ext.drew ?_ | with_reducible refine Ext.drewN ?_ _ | ((with_reducible refine Ext.set ?_ ?_ _); (focus (first | (simp; done) | (simp; omega)))) | with_reducible refine Ext.trans ?_ (by assumption)))
          have kw2_0 := hw2.more (k := w.heap.size) (by first | assumption | (simp; done) | (simp; omega) | omega)
          obtain ⟨cw2_0, fw2_0⟩ := hw2.row (k := w.heap.size) (by first | assumption | (simp; done) | (simp; omega) | omega)
          have kw2_1 := hw2.more (k := w.heap.size + 1) (by first | assumption | (simp; done) | (simp; omega) | omega)
          obtain ⟨cw2_1, fw2_1⟩ := hw2.row (k := w.heap.size + 1) (by first | assumption | (simp; done) | (simp; omega) | omega)
          have kw2_2 := hw2.more (k := w1.heap.size) (by first | assumption | (simp; done) | (simp; omega) | omega)
          obtain ⟨cw2_2, fw2_2⟩ := hw2.row (k := w1.heap.size) (by first | assumption | (simp; done) | (simp; omega) | omega)
          rw [hi]
          have hs2 : w1.heap.size < w2.heap.size := by have := hw2.size; simp at this; omega
          go_wp2_with fail
          refine (l7Final_any st nx fi hg co (off + (data.size : Int)) fin ao n ca _).mono ?_
          rintro en w3 ⟨rfl, hw3⟩
          have xw3 : Ext w w3 := (by repeat (first | with_reducible exact Ext.refl _ | with_reducible assumption | with_reducible refine Ext.alloc ?_ _ | with_reducible refine Ext.drew ?_ | with_reducible refine Ext.drewN ?_ _ | ((with_reducible refine Ext.set ?_ ?_ _); (focus (first | (simp; done) | (simp; omega)))) | with_reducible refine Ext.trans ?_ (by assumption)))
          have kw3_0 := hw3.more (k := w.heap.size) (by first | assumption | (simp; done) | (simp; omega) | omega)
          obtain ⟨cw3_0, fw3_0⟩ := hw3.row (k := w.heap.size) (by first | assumption | (simp; done) | (simp; omega) | omega)
          have kw3_1 := hw3.more (k := w.heap.size + 1) (by first | assumption | (simp; done) | (simp; omega) | omega)
          obtain ⟨cw3_1, fw3_1⟩ := hw3.row (k := w.heap.size + 1) (by first | assumption | (simp; done) | (simp; omega) | omega)
          have kw3_2 := hw3.more (k := w1.heap.size) (by first | assumption | (simp; done) | (simp; omega) | omega)
          obtain ⟨cw3_2, fw3_2⟩ := hw3.row (k := w1.heap.size) (by first | assumption | (simp; done) | (simp; omega) | omega)
          rw [hcn]
          simp only [finE, if_true, if_false, Bool.false_eq_true]
          go_wp2
          refine bodyPost_ret (v := .tuple #[.agg #[.int .i64 st, .int .i64 nx, .slice ao1 cs.length cap1, .int .i64 fi, .int .i64 hg, .int .i64 co], .int .i64 6]) (by simp [results, Try.results34, go_sem, *]) rfl ⟨ao1, cap1, rfl, ?_, ?_⟩
          · refine OwnC.mono (OwnC.chg (S := fun k => k < w.heap.size + 2) ho1.out (by repeat (first | with_reducible exact Chg.refl _ _ | with_reducible assumption | with_reducible refine Chg.alloc ?_ _ | with_reducible refine Chg.drew ?_ | ((with_reducible refine Chg.set ?_ ?_ _); (focus (first | (left; simp; done) | (left; simp; omega) | (left; omega) | (right; simp; done) | (right; simp; omega) | (right; omega)))) | with_reducible refine Chg.trans ?_ (Ext.chg hw3 _) | with_reducible refine Chg.trans ?_ (Ext.chg hw2 _))) (fun b h1 h2 h3 => by omega)) (by omega) (by simp; omega)
          · exact (by repeat (first | with_reducible exact Ext.refl _ | with_reducible assumption | with_reducible refine Ext.alloc ?_ _ | with_reducible refine Ext.drew ?_ | with_reducible refine Ext.drewN ?_ _ | ((with_reducible refine Ext.set ?_ ?_ _); (focus (first | (simp; done) | (simp; omega)))) | with_reducible refine Ext.trans ?_ (by assumption)))
        · -- no
          by_cases s0 : st = 0
          · -- equal
            have s0e : (st == 0) = true := by simp [s0]
            have s0n : (st != 0) = false := by simp [s0]
            have s0H := hide s0
            clear s0
            have e1 : decide (0 ≤ off) = true := decide_eq_true (by omega)
            have e2 : decide (off + (data.size : Int) ≤ 4611686018427387903) = true := decide_eq_true (by omega)
            simp [rdaGo, rdaOk, *] at hgo
          · -- other
            have s0e : (st == 0) = false := by simp [s0]
            have s0n : (st != 0) = true := by simp [s0]
            have s0H := hide s0
            clear s0
            by_cases s1 : st = 1
            · -- equal
              have s1e : (st == 1) = true := by simp [s1]
              have s1n : (st != 1) = false := by simp [s1]
              have s1H := hide s1
              clear s1
              have e1 : decide (0 ≤ off) = true := decide_eq_true (by omega)
              have e2 : decide (off + (data.size : Int) ≤ 4611686018427387903) = true := decide_eq_true (by omega)
              simp [rdaGo, rdaOk, *] at hgo
            · -- other
              have s1e : (st == 1) = false := by simp [s1]
              have s1n : (st != 1) = true := by simp [s1]
              have s1H := hide s1
              clear s1
              obtain ⟨t0, t5⟩ := recvIs_st hi
              have wr1 : IntKind.i64.wrap (4611686018427387903 - (data.size : Int)) = 4611686018427387903 - (data.size : Int) := IntWalk.i64_in _ (by omega)
              have wr2 : IntKind.i64.wrap (off + (data.size : Int)) = off + (data.size : Int) := IntWalk.i64_in _ (by omega)
              have htk : (st == 0 || st == 1) = false := by simp [*]
              have hgt : decide (1 < st) = true := by
                have := s0H.out
                have := s1H.out
                simp; omega
              clear hgo
              have hE : rdaE st nx fi hg co off data fin cs = 0 := by
                have e1 : decide (0 ≤ off) = true := decide_eq_true (by omega)
                have e2 : decide (off + (data.size : Int) ≤ 4611686018427387903) = true := decide_eq_true (by omega)
                simp [rdaE, rdaOk, hi, e1, e2, hcn]
              rw [hE]
              clear hE
              have hn' := hide hn
              have hx' := hide hx
              have hw' := hide hw
              clear hn hx hw
              go_enter Try.func34, Try.ntmps34
              go_wp2_with fail
              refine (l7Copy_any st nx fi hg co ao n ca cs _ (hx'.out.ext (by repeat (first | with_reducible exact Ext.refl _ | with_reducible assumption | with_reducible refine Ext.alloc ?_ _ | with_reducible refine Ext.drew ?_ | ((with_reducible refine Ext.set ?_ ?_ _); (focus (first | (simp; done) | (simp; omega) | omega)))))) hn'.out hl).mono ?_
              rintro en w1 ⟨ao1, cap1, rfl, ho1, hw1⟩
              have xw1 : Ext w w1 := (by repeat (first | with_reducible exact Ext.refl _ | with_reducible assumption | with_reducible refine Ext.alloc ?_ _ | with_reducible refine Ext.drew ?_ | with_reducible refine Ext.drewN ?_ _ | ((with_reducible refine Ext.set ?_ ?_ _); (focus (first | (simp; done) | (simp; omega)))) | with_reducible refine Ext.trans ?_ (by assumption)))
              have kw1_0 := hw1.more (k := w.heap.size) (by first | assumption | (simp; done) | (simp; omega) | omega)
              obtain ⟨cw1_0, fw1_0⟩ := hw1.row (k := w.heap.size) (by first | assumption | (simp; done) | (simp; omega) | omega)
              have kw1_1 := hw1.more (k := w.heap.size + 1) (by first | assumption | (simp; done) | (simp; omega) | omega)
              obtain ⟨cw1_1, fw1_1⟩ := hw1.row (k := w.heap.size + 1) (by first | assumption | (simp; done) | (simp; omega) | omega)
              replace ho1 := hide (OwnC.mono (lo' := w.heap.size + 2) ho1 (by simp) (Nat.le_refl _))
              have hs1 : w.heap.size + 2 ≤ w1.heap.size := by have := hw1.size; simpa using this
              go_wp2_with fail
              refine (IsReceiver_spec st nx fi hg co ao n ca cs _ (hx'.out.ext (by repeat (first | with_reducible exact Ext.refl _ | with_reducible assumption | with_reducible refine Ext.alloc ?_ _ | with_reducible refine Ext.drew ?_ | ((with_reducible refine Ext.set ?_ ?_ _); (focus (first | (simp; done) | (simp; omega) | omega))) | with_reducible refine Ext.trans ?_ hw1))) hn'.out (by omega) hw'.out hnx).mono ?_
              rintro en w2 ⟨rfl, hw2⟩
              have xw2 : Ext w w2 := (by repeat (first | with_reducible exact Ext.refl _ | with_reducible assumption | with_reducible refine Ext.alloc ?_ _ | with_reducible refine Ext.drew ?_ | with_reducible refine Ext.drewN ?_ _ | ((with_reducible refine Ext.set ?_ ?_ _); (focus (first | (simp; done) | (simp; omega)))) | with_reducible refine Ext.trans ?_ (by assumption)))
              have kw2_0 := hw2.more (k := w.heap.size) (by first | assumption | (simp; done) | (simp; omega) | omega)
              obtain ⟨cw2_0, fw2_0⟩ := hw2.row (k := w.heap.size) (by first | assumption | (simp; done) | (simp; omega) | omega)
              have kw2_1 := hw2.more (k := w.heap.size + 1) (by first | assumption | (simp; done) | (simp; omega) | omega)
              obtain ⟨cw2_1, fw2_1⟩ := hw2.row (k := w.heap.size + 1) (by first | assumption | (simp; done) | (simp; omega) | omega)
              have kw2_2 := hw2.more (k := w1.heap.size) (by first | assumption | (simp; done) | (simp; omega) | omega)
              obtain ⟨cw2_2, fw2_2⟩ := hw2.row (k := w1.heap.size) (by first | assumption | (simp; done) | (simp; omega) | omega)
              rw [hi]
              have hs2 : w1.heap.size < w2.heap.size := by have := hw2.size; simp at this; omega
              go_wp2_with fail
              refine (l7Final_any st nx fi hg co (off + (data.size : Int)) fin ao n ca _).mono ?_
              rintro en w3 ⟨rfl, hw3⟩
              have xw3 : Ext w w3 := (by repeat (first | with_reducible exact Ext.refl _ | with_reducible assumption | with_reducible refine Ext.alloc ?_ _ | with_reducible refine Ext.drew ?_ | with_reducible refine Ext.drewN ?_ _ | ((with_reducible refine Ext.set ?_ ?_ _); (focus (first | (simp; done) | (simp; omega)))) | with_reducible refine Ext.trans ?_ (by assumption)))
              have kw3_0 := hw3.more (k := w.heap.size) (by first | assumption | (simp; done) | (simp; omega) | omega)
              obtain ⟨cw3_0, fw3_0⟩ := hw3.row (k := w.heap.size) (by first | assumption | (simp; done) | (simp; omega) | omega)
              have kw3_1 := hw3.more (k := w.heap.size + 1) (by first | assumption | (simp; done) | (simp; omega) | omega)
              obtain ⟨cw3_1, fw3_1⟩ := hw3.row (k := w.heap.size + 1) (by first | assumption | (simp; done) | (simp; omega) | omega)
              have kw3_2 := hw3.more (k := w1.heap.size) (by first | assumption | (simp; done) | (simp; omega) | omega)
              obtain ⟨cw3_2, fw3_2⟩ := hw3.row (k := w1.heap.size) (by first | assumption | (simp; done) | (simp; omega) | omega)
              rw [hcn]
              simp only [finE, if_true, if_false, Bool.false_eq_true]
              go_wp2
              refine bodyPost_ret (v := .tuple #[.agg #[.int .i64 st, .int .i64 nx, .slice ao1 cs.length cap1, .int .i64 fi, .int .i64 hg, .int .i64 co], .int .i64 0]) (by simp [results, Try.results34, go_sem, *]) rfl ⟨ao1, cap1, rfl, ?_, ?_⟩
              · refine OwnC.mono (OwnC.chg (S := fun k => k < w.heap.size + 2) ho1.out (by repeat (first | with_reducible exact Chg.refl _ _ | with_reducible assumption | with_reducible refine Chg.alloc ?_ _ | with_reducible refine Chg.drew ?_ | ((with_reducible refine Chg.set ?_ ?_ _); (focus (first | (left; simp; done) | (left; simp; omega) | (left; omega) | (right; simp; done) | (right; simp; omega) | (right; omega)))) | with_reducible refine Chg.trans ?_ (Ext.chg hw3 _) | with_reducible refine Chg.trans ?_ (Ext.chg hw2 _))) (fun b h1 h2 h3 => by omega)) (by omega) (by simp; omega)
              · exact (by repeat (first | with_reducible exact Ext.refl _ | with_reducible assumption | with_reducible refine Ext.alloc ?_ _ | with_reducible refine Ext.drew ?_ | with_reducible refine Ext.drewN ?_ _ | ((with_reducible refine Ext.set ?_ ?_ _); (focus (first | (simp; done) | (simp; omega)))) | with_reducible refine Ext.trans ?_ (by assumption)))
  · -- no
    have hE : rdaE st nx fi hg co off data fin cs = 7 := by
      simp [rdaE, rdaOk, hi]
    rw [hE]
    clear hE
    have hn' := hide hn
    have hx' := hide hx
    have hw' := hide hw
    clear hn hx hw
    go_enter Try.func34, Try.ntmps34
    go_wp2_with fail
    refine (l7Copy_any st nx fi hg co ao n ca cs _ (hx'.out.ext (by repeat (first | with_reducible exact Ext.refl _ | with_reducible assumption | with_reducible refine Ext.alloc ?_ _ | with_reducible refine Ext.drew ?_ | ((with_reducible refine Ext.set ?_ ?_ _); (focus (first | (simp; done) | (simp; omega) | omega)))))) hn'.out hl).mono ?_
    rintro en w1 ⟨ao1, cap1, rfl, ho1, hw1⟩
    have xw1 : Ext w w1 := (by repeat (first | with_reducible exact Ext.refl _ | with_reducible assumption | with_reducible refine Ext.alloc ?_ _ | with_reducible refine Ext.drew ?_ | with_reducible refine Ext.drewN ?_ _ | ((with_reducible refine Ext.set ?_ ?_ _); (focus (first | (simp; done) | (simp; omega)))) | with_reducible refine Ext.trans ?_ (by assumption)))
    have kw1_0 := hw1.more (k := w.heap.size) (by first | assumption | (simp; done) | (simp; omega) | omega)
    obtain ⟨cw1_0, fw1_0⟩ := hw1.row (k := w.heap.size) (by first | assumption | (simp; done) | (simp; omega) | omega)
    have kw1_1 := hw1.more (k := w.heap.size + 1) (by first | assumption | (simp; done) | (simp; omega) | omega)
    obtain ⟨cw1_1, fw1_1⟩ := hw1.row (k := w.heap.size + 1) (by first | assumption | (simp; done) | (simp; omega) | omega)
    replace ho1 := hide (OwnC.mono (lo' := w.heap.size + 2) ho1 (by simp) (Nat.le_refl _))
    have hs1 : w.heap.size + 2 ≤ w1.heap.size := by have := hw1.size; simpa using this
    go_wp2_with fail
    refine (IsReceiver_spec st nx fi hg co ao n ca cs _ (hx'.out.ext (by repeat (first | with_reducible exact Ext.refl _ | with_reducible assumption | with_reducible refine Ext.alloc ?_ _ | with_reducible refine Ext.drew ?_ | ((with_reducible refine Ext.set ?_ ?_ _); (focus (first | (simp; done) | (simp; omega) | omega))) | with_reducible refine Ext.trans ?_ hw1))) hn'.out (by omega) hw'.out hnx).mono ?_
    rintro en w2 ⟨rfl, hw2⟩
    have xw2 : Ext w w2 := (by repeat (first | with_reducible exact Ext.refl _ | with_reducible assumption | with_reducible refine Ext.alloc ?_ _ | with_reducible refine Ext.drew ?_ | with_reducible refine Ext.drewN ?_ _ | ((with_reducible refine Ext.set ?_ ?_ _); (focus (first | (simp; done) | (simp; omega)))) | with_reducible refine Ext.trans ?_ (by assumption)))
    have kw2_0 := hw2.more (k := w.heap.size) (by first | assumption | (simp; done) | (simp; omega) | omega)
    obtain ⟨cw2_0, fw2_0⟩ := hw2.row (k := w.heap.size) (by first | assumption | (simp; done) | (simp; omega) | omega)
    have kw2_1 := hw2.more (k := w.heap.size + 1) (by first | assumption | (simp; done) | (simp; omega) | omega)
    obtain ⟨cw2_1, fw2_1⟩ := hw2.row (k := w.heap.size + 1) (by first | assumption | (simp; done) | (simp; omega) | omega)
    have kw2_2 := hw2.more (k := w1.heap.size) (by first | assumption | (simp; done) | (simp; omega) | omega)
    obtain ⟨cw2_2, fw2_2⟩ := hw2.row (k := w1.heap.size) (by first | assumption | (simp; done) | (simp; omega) | omega)
    rw [hi]
    have hs2 : w1.heap.size < w2.heap.size := by have := hw2.size; simp at this; omega
    go_wp2
    refine bodyPost_ret (v := .tuple #[.agg #[.int .i64 st, .int .i64 nx, .slice ao1 cs.length cap1, .int .i64 fi, .int .i64 hg, .int .i64 co], .int .i64 7]) (by simp [results, Try.results34, go_sem, *]) rfl ⟨ao1, cap1, rfl, ?_, ?_⟩
    · refine OwnC.mono (OwnC.chg (S := fun k => k < w.heap.size + 2) ho1.out (by repeat (first | with_reducible exact Chg.refl _ _ | with_reducible assumption | with_reducible refine Chg.alloc ?_ _ | with_reducible refine Chg.drew ?_ | ((with_reducible refine Chg.set ?_ ?_ _); (focus (first | (left; simp; done) | (left; simp; omega) | (left; omega) | (right; simp; done) | (right; simp; omega) | (right; omega)))) | with_reducible refine Chg.trans ?_ (Ext.chg hw2 _))) (fun b h1 h2 h3 => by omega)) (by omega) (by simp; omega)
    · exact (by repeat (first | with_reducible exact Ext.refl _ | with_reducible assumption | with_reducible refine Ext.alloc ?_ _ | with_reducible refine Ext.drew ?_ | with_reducible refine Ext.drewN ?_ _ | ((with_reducible refine Ext.set ?_ ?_ _); (focus (first | (simp; done) | (simp; omega)))) | with_reducible refine Ext.trans ?_ (by assumption)))
set_option maxHeartbeats 8000000 in
set_option maxRecDepth 100000 in
theorem ReceiveData_spec_yes (st nx fi hg co off : Int) (data : ByteArray) (fin : Bool) (ao : Option Addr) (n ca : Nat) (cs : List Ck) (w : World) (hx : ReadC w ao cs) (hn : cs.length = n) (hl : n ≤ 1048576) (hw : WfC cs) (hnx : -9223372036854775808 ≤ nx ∧ nx ≤ 9223372036854775807) (hoff : -9223372036854775808 ≤ off ∧ off ≤ 9223372036854775807) (hds : (data.size : Int) ≤ 1048576) (hgo : rdaGo st nx fi hg co off data fin cs = true) :
    Calls Try.prog 34 #[.agg #[.int .i64 st, .int .i64 nx, .slice ao n ca, .int .i64 fi, .int .i64 hg, .int .i64 co], .int .i64 off, .string data, .bool fin] w (RecvRes (rdaSt st nx (rdaFi fi (off + (data.size : Int)) fin) fin (insC nx cs off data)) nx (rdaFi fi (off + (data.size : Int)) fin) (max hg (off + (data.size : Int))) co (insC nx cs off data) (.int .i64 0) w) := by
  have hgo' := hgo
  simp only [rdaGo, rdaOk, Bool.and_eq_true, Bool.not_eq_true', decide_eq_true_eq] at hgo'
  obtain ⟨⟨hi, h0, h1⟩, hcn, htk⟩ := hgo'
  have hgt : decide (1 < st) = false := by
    simp only [Bool.or_eq_true, beq_iff_eq] at htk
    simp; omega
  have wr1 : IntKind.i64.wrap (4611686018427387903 - (data.size : Int)) = 4611686018427387903 - (data.size : Int) := IntWalk.i64_in _ (by omega)
  have wr2 : IntKind.i64.wrap (off + (data.size : Int)) = off + (data.size : Int) := IntWalk.i64_in _ (by omega)
  have d0 : decide (off < 0) = false := decide_eq_false (by omega)
  have d1 : decide (4611686018427387903 - (data.size : Int) < off) = false := decide_eq_false (by omega)
  have d2 : ((off + (data.size : Int)) != -1) = true := by simp; omega
  have d3 : ((off + (data.size : Int)) == -1) = false := by simp; omega
  clear hgo
  rcases Bool.eq_false_or_eq_true (fin) with hfi | hfi
  · -- yes
    rcases Bool.eq_false_or_eq_true ((nx + readyB nx (insC nx cs off data) == off + (data.size : Int))) with hq | hq
    · -- yes
      subst hfi
      have hF : rdaFi fi (off + (data.size : Int)) true = (off + (data.size : Int)) := by simp [rdaFi]
      rw [hF]
      have hT : rdaSt st nx (off + (data.size : Int)) true (insC nx cs off data) = 2 := by simp [rdaSt, *]
      rw [hT]
      clear hF hT
      have hwf := hide (insC_wf (nx := nx) (off := off) (data := data) hw)
      have hbd := readyB_bd nx (insC nx cs off data)
      have hyl := insC_length nx cs off data
      have hwr : IntKind.i64.wrap (nx + readyB nx (insC nx cs off data)) = nx + readyB nx (insC nx cs off data) := IntWalk.i64_in _ (by omega)
      have hyl2 : (insC nx cs off data).length ≤ 1048577 := by omega
      clear hyl
      have hn' := hide hn
      have hx' := hide hx
      have hw' := hide hw
      clear hn hx hw
      go_enter Try.func34, Try.ntmps34
      go_wp2_with fail
      refine (l7Copy_any st nx fi hg co ao n ca cs _ (hx'.out.ext (by repeat (first | with_reducible exact Ext.refl _ | with_reducible assumption | with_reducible refine Ext.alloc ?_ _ | with_reducible refine Ext.drew ?_ | ((with_reducible refine Ext.set ?_ ?_ _); (focus (first | (simp; done) | (simp; omega) | omega)))))) hn'.out hl).mono ?_
      rintro en w1 ⟨ao1, cap1, rfl, ho1, hw1⟩
      have xw1 : Ext w w1 := (by repeat (first | with_reducible exact Ext.refl _ | with_reducible assumption | with_reducible refine Ext.alloc ?_ _ | with_reducible refine Ext.drew ?_ | with_reducible refine Ext.drewN ?_ _ | ((with_reducible refine Ext.set ?_ ?_ _); (focus (first | (simp; done) | (simp; omega)))) | with_reducible refine Ext.trans ?_ (by assumption)))
      have kw1_0 := hw1.more (k := w.heap.size) (by first | assumption | (simp; done) | (simp; omega) | omega)
      obtain ⟨cw1_0, fw1_0⟩ := hw1.row (k := w.heap.size) (by first | assumption | (simp; done) | (simp; omega) | omega)
      have kw1_1 := hw1.more (k := w.heap.size + 1) (by first | assumption | (simp; done) | (simp; omega) | omega)
      obtain ⟨cw1_1, fw1_1⟩ := hw1.row (k := w.heap.size + 1) (by first | assumption | (simp; done) | (simp; omega) | omega)
      replace ho1 := hide (OwnC.mono (lo' := w.heap.size + 2) ho1 (by simp) (Nat.le_refl _))
      have hs1 : w.heap.size + 2 ≤ w1.heap.size := by have := hw1.size; simpa using this
      go_wp2_with fail
      refine (IsReceiver_spec st nx fi hg co ao n ca cs _ (hx'.out.ext (by repeat (first | with_reducible exact Ext.refl _ | with_reducible assumption | with_reducible refine Ext.alloc ?_ _ | with_reducible refine Ext.drew ?_ | ((with_reducible refine Ext.set ?_ ?_ _); (focus (first | (simp; done) | (simp; omega) | omega))) | with_reducible refine Ext.trans ?_ hw1))) hn'.out (by omega) hw'.out hnx).mono ?_
      rintro en w2 ⟨rfl, hw2⟩
      have xw2 : Ext w w2 := (by repeat (first | with_reducible exact Ext.refl _ | with_reducible assumption | with_reducible refine Ext.alloc ?_ _ | with_reducible refine Ext.drew ?_ | with_reducible refine Ext.drewN ?_ _ | ((with_reducible refine Ext.set ?_ ?_ _); (focus (first | (simp; done) | (simp; omega)))) | with_reducible refine Ext.trans ?_ (by assumption)))
      have kw2_0 := hw2.more (k := w.heap.size) (by first | assumption | (simp; done) | (simp; omega) | omega)
      obtain ⟨cw2_0, fw2_0⟩ := hw2.row (k := w.heap.size) (by first | assumption | (simp; done) | (simp; omega) | omega)
      have kw2_1 := hw2.more (k := w.heap.size + 1) (by first | assumption | (simp; done) | (simp; omega) | omega)
      obtain ⟨cw2_1, fw2_1⟩ := hw2.row (k := w.heap.size + 1) (by first | assumption | (simp; done) | (simp; omega) | omega)
      have kw2_2 := hw2.more (k := w1.heap.size) (by first | assumption | (simp; done) | (simp; omega) | omega)
      obtain ⟨cw2_2, fw2_2⟩ := hw2.row (k := w1.heap.size) (by first | assumption | (simp; done) | (simp; omega) | omega)
      rw [hi]
      have hs2 : w1.heap.size < w2.heap.size := by have := hw2.size; simp at this; omega
      go_wp2_with fail
      refine (l7Final_any st nx fi hg co (off + (data.size : Int)) true ao n ca _).mono ?_
      rintro en w3 ⟨rfl, hw3⟩
      have xw3 : Ext w w3 := (by repeat (first | with_reducible exact Ext.refl _ | with_reducible assumption | with_reducible refine Ext.alloc ?_ _ | with_reducible refine Ext.drew ?_ | with_reducible refine Ext.drewN ?_ _ | ((with_reducible refine Ext.set ?_ ?_ _); (focus (first | (simp; done) | (simp; omega)))) | with_reducible refine Ext.trans ?_ (by assumption)))
      have kw3_0 := hw3.more (k := w.heap.size) (by first | assumption | (simp; done) | (simp; omega) | omega)
      obtain ⟨cw3_0, fw3_0⟩ := hw3.row (k := w.heap.size) (by first | assumption | (simp; done) | (simp; omega) | omega)
      have kw3_1 := hw3.more (k := w.heap.size + 1) (by first | assumption | (simp; done) | (simp; omega) | omega)
      obtain ⟨cw3_1, fw3_1⟩ := hw3.row (k := w.heap.size + 1) (by first | assumption | (simp; done) | (simp; omega) | omega)
      have kw3_2 := hw3.more (k := w1.heap.size) (by first | assumption | (simp; done) | (simp; omega) | omega)
      obtain ⟨cw3_2, fw3_2⟩ := hw3.row (k := w1.heap.size) (by first | assumption | (simp; done) | (simp; omega) | omega)
      rw [hcn]
      simp only [finE, if_true, if_false, Bool.false_eq_true]
      go_wp2_with fail
      refine (InsertData_spec nx off data ao n ca cs _ (hx'.out.ext (by repeat (first | with_reducible exact Ext.refl _ | with_reducible assumption | with_reducible refine Ext.alloc ?_ _ | with_reducible refine Ext.drew ?_ | ((with_reducible refine Ext.set ?_ ?_ _); (focus (first | (simp; done) | (simp; omega) | omega))) | with_reducible refine Ext.trans ?_ hw3 | with_reducible refine Ext.trans ?_ hw2 | with_reducible refine Ext.trans ?_ hw1))) hn'.out hl hw'.out hoff hds).mono ?_
      rintro en w5 ⟨ao3, cap3, rfl, ho3, hw5⟩
      have xw5 : Ext w w5 := (by repeat (first | with_reducible exact Ext.refl _ | with_reducible assumption | with_reducible refine Ext.alloc ?_ _ | with_reducible refine Ext.drew ?_ | with_reducible refine Ext.drewN ?_ _ | ((with_reducible refine Ext.set ?_ ?_ _); (focus (first | (simp; done) | (simp; omega)))) | with_reducible refine Ext.trans ?_ (by assumption)))
      have kw5_0 := hw5.more (k := w.heap.size) (by first | assumption | (simp; done) | (simp; omega) | omega)
      obtain ⟨cw5_0, fw5_0⟩ := hw5.row (k := w.heap.size) (by first | assumption | (simp; done) | (simp; omega) | omega)
      have kw5_1 := hw5.more (k := w.heap.size + 1) (by first | assumption | (simp; done) | (simp; omega) | omega)
      obtain ⟨cw5_1, fw5_1⟩ := hw5.row (k := w.heap.size + 1) (by first | assumption | (simp; done) | (simp; omega) | omega)
      have kw5_2 := hw5.more (k := w1.heap.size) (by first | assumption | (simp; done) | (simp; omega) | omega)
      obtain ⟨cw5_2, fw5_2⟩ := hw5.row (k := w1.heap.size) (by first | assumption | (simp; done) | (simp; omega) | omega)
      generalize insC nx cs off data = ys at *
      have hs4 : w1.heap.size < w3.heap.size := Nat.lt_of_lt_of_le hs2 (by first | exact Nat.le_refl _ | exact hw3.size | exact Nat.le_trans hw3.size hw4.size)
      have hs5 : w1.heap.size < w5.heap.size := Nat.lt_of_lt_of_le hs4 (by have := hw5.size; simpa using this)
      have ho5 := hide (OwnC.chg (S := fun k => k = w1.heap.size) (OwnC.mono (lo' := w3.heap.size) (hi' := w5.heap.size) ho3 (by simp) (Nat.le_refl _)) (Chg.set (S := fun k => k = w1.heap.size) (p := ⟨w1.heap.size, 2, none⟩) (Or.inl rfl) (Chg.set (S := fun k => k = w1.heap.size) (p := ⟨w1.heap.size, 1, none⟩) (Or.inl rfl) (Chg.refl _ w5) (.int .i64 nx)) (.slice ao3 ys.length cap3)) (fun b h1 h2 h3 => by (try dsimp only at h3); omega))
      clear ho3
      go_wp2_with fail
      refine wp_region_seq (Ext _) (by kernel_rfl) (by kernel_rfl) ((Ext.refl _).drew) ?_
      iterate 15 (((first | (refine wpSeqS_off rfl (by rfl) ?_) | (refine wpSeqS_plain (v := ?_) rfl (by rfl) ?_ ?_; rotate_left; (focus (intro ws hws; obtain ⟨q0, p0⟩ := hws.row (k := w.heap.size + 1) (by first | assumption | (simp; done) | (simp; omega) | omega); obtain ⟨q1, p1⟩ := hws.row (k := w1.heap.size) (by first | assumption | (simp; done) | (simp; omega) | omega); go_simp; (try with_reducible rfl); done))) | (refine wpSeqS_call (v := ?_) 62 ?_ rfl (by rfl) ?_ ?_ ?_; rotate_left; rotate_left; (focus (intro ws hws; skip; go_simp; (try with_reducible rfl); done)); (focus (intro ws hws; refine (ReadyBytes_spec nx ao3 ys.length cap3 ys ws (ho5.out.read.ext hws) rfl (by omega) hwf.out).mono ?_; rintro e w' ⟨rfl, h2⟩; refine ⟨?_, hws.trans h2⟩; (try simp only [*]); (try with_reducible rfl); done))) | fail)); (try simp only [Act.put, List.getElem_toArray, List.getElem_cons_zero, List.getElem_cons_succ, List.setIfInBounds_toArray, List.set_cons_zero, List.set_cons_succ]))
      refine wpSeqS_done (by kernel_rfl) (fun w6 hw6 => ?_)
      have ho6 := hide (OwnC.chg (S := fun _ => False) ho5.out (hw6.chg _) (fun _ _ _ h => h))
      obtain ⟨x1_6, y1_6⟩ := hw6.row (k := w.heap.size + 1) (by simp; omega)
      obtain ⟨x2_6, y2_6⟩ := hw6.row (k := w1.heap.size) (by simp; omega)
      have hs6 : w5.heap.size ≤ w6.heap.size := by have := hw6.size; simpa using this
      have k6_1 : w.heap.size + 1 < w6.heap.size := by omega
      have k6_2 : w1.heap.size < w6.heap.size := by omega
      have hgX : Chg (fun k => k = w1.heap.size ∨ w.heap.size ≤ k) w w6 := Chg.trans (Chg.trans (Ext.chg xw5 _) (Chg.set (p := ⟨w1.heap.size, 2, none⟩) (Or.inl (Or.inl rfl)) (Chg.set (p := ⟨w1.heap.size, 1, none⟩) (Or.inl (Or.inl rfl)) (Chg.refl _ w5) _) _)) (hw6.chg _)
      clear ho5
      have r0 : w6.cell? ⟨w1.heap.size, 0, none⟩ = some (.int .i64 1) := (by rw [x2_6]; simp [go_sem, *])
      have r1 : w6.cell? ⟨w1.heap.size, 1, none⟩ = some (.int .i64 nx) := (by rw [x2_6]; simp [go_sem, *])
      have r2 : w6.cell? ⟨w1.heap.size, 2, none⟩ = some (.slice ao3 ys.length cap3) := (by rw [x2_6]; simp [go_sem, *])
      have r3 : w6.cell? ⟨w1.heap.size, 3, none⟩ = some (.int .i64 (off + (data.size : Int))) := (by rw [x2_6]; simp [go_sem, *])
      have r4 : w6.cell? ⟨w1.heap.size, 4, none⟩ = some (.int .i64 (max hg (off + (data.size : Int)))) := (by rw [x2_6]; simp [go_sem, *])
      have r5 : w6.cell? ⟨w1.heap.size, 5, none⟩ = some (.int .i64 co) := (by rw [x2_6]; simp [go_sem, *])
      have rF : ∀ o, w6.frozen? ⟨w1.heap.size, o, none⟩ = false := fun o => (by rw [y2_6]; simp [go_sem, *])
      have s0 : w6.cell? ⟨w.heap.size + 1, 0, none⟩ = some (.int .i64 0) := (by rw [x1_6]; simp [go_sem, *])
      have s1 : w6.cell? ⟨w.heap.size + 1, 1, none⟩ = some (.int .i64 0) := (by rw [x1_6]; simp [go_sem, *])
      have s2 : w6.cell? ⟨w.heap.size + 1, 2, none⟩ = some (.slice none 0 0) := (by rw [x1_6]; simp [go_sem, *])
      have s3 : w6.cell? ⟨w.heap.size + 1, 3, none⟩ = some (.int .i64 0) := (by rw [x1_6]; simp [go_sem, *])
      have s4 : w6.cell? ⟨w.heap.size + 1, 4, none⟩ = some (.int .i64 0) := (by rw [x1_6]; simp [go_sem, *])
      have s5 : w6.cell? ⟨w.heap.size + 1, 5, none⟩ = some (.int .i64 0) := (by rw [x1_6]; simp [go_sem, *])
      have sF : ∀ o, w6.frozen? ⟨w.heap.size + 1, o, none⟩ = false := fun o => (by rw [y1_6]; simp [go_sem, *])
      have hneb : w1.heap.size ≠ w.heap.size + 1 := by omega
      have hneb2 : w.heap.size + 1 ≠ w1.heap.size := by omega
      clear x1_6 y1_6 x2_6 y2_6
      clear cw1_0 fw1_0 cw1_1 fw1_1 cw2_0 fw2_0 cw2_1 fw2_1 cw2_2 fw2_2 cw3_0 fw3_0 cw3_1 fw3_1 cw3_2 fw3_2 cw5_0 fw5_0 cw5_1 fw5_1 cw5_2 fw5_2
      go_wp2
      refine bodyPost_ret (v := .tuple #[.agg #[.int .i64 2, .int .i64 nx, .slice ao3 ys.length cap3, .int .i64 (off + (data.size : Int)), .int .i64 (max hg (off + (data.size : Int))), .int .i64 co], .int .i64 0]) (by simp [results, Try.results34, go_sem, *]) rfl ⟨ao3, cap3, rfl, ?_, ?_⟩
      · refine OwnC.mono (OwnC.chg (S := fun k => k = w1.heap.size ∨ k = w.heap.size + 1) ho6.out (by repeat (first | with_reducible exact Chg.refl _ _ | with_reducible assumption | with_reducible refine Chg.alloc ?_ _ | with_reducible refine Chg.drew ?_ | ((with_reducible refine Chg.set ?_ ?_ _); (focus (first | (left; simp; done) | (left; simp; omega) | (left; omega) | (right; simp; done) | (right; simp; omega) | (right; omega)))))) (fun b h1 h2 h3 => by (try dsimp only at h3); omega)) (by omega) (by simp; omega)
      · exact Chg.ext (S := fun k => k = w1.heap.size ∨ w.heap.size ≤ k) (Chg.trans hgX (by repeat (first | with_reducible exact Chg.refl _ _ | with_reducible assumption | with_reducible refine Chg.alloc ?_ _ | with_reducible refine Chg.drew ?_ | ((with_reducible refine Chg.set ?_ ?_ _); (focus (first | (left; simp; done) | (left; simp; omega) | (left; omega) | (right; simp; done) | (right; simp; omega) | (right; omega))))))) (fun k hk h => by (try dsimp only at h); omega)
    · -- no
      subst hfi
      have hF : rdaFi fi (off + (data.size : Int)) true = (off + (data.size : Int)) := by simp [rdaFi]
      rw [hF]
      have hT : rdaSt st nx (off + (data.size : Int)) true (insC nx cs off data) = 1 := by simp [rdaSt, *]
      rw [hT]
      clear hF hT
      have hwf := hide (insC_wf (nx := nx) (off := off) (data := data) hw)
      have hbd := readyB_bd nx (insC nx cs off data)
      have hyl := insC_length nx cs off data
      have hwr : IntKind.i64.wrap (nx + readyB nx (insC nx cs off data)) = nx + readyB nx (insC nx cs off data) := IntWalk.i64_in _ (by omega)
      have hyl2 : (insC nx cs off data).length ≤ 1048577 := by omega
      clear hyl
      have hn' := hide hn
      have hx' := hide hx
      have hw' := hide hw
      clear hn hx hw
      go_enter Try.func34, Try.ntmps34
      go_wp2_with fail
      refine (l7Copy_any st nx fi hg co ao n ca cs _ (hx'.out.ext (by repeat (first | with_reducible exact Ext.refl _ | with_reducible assumption | with_reducible refine Ext.alloc ?_ _ | with_reducible refine Ext.drew ?_ | ((with_reducible refine Ext.set ?_ ?_ _); (focus (first | (simp; done) | (simp; omega) | omega)))))) hn'.out hl).mono ?_
      rintro en w1 ⟨ao1, cap1, rfl, ho1, hw1⟩
      have xw1 : Ext w w1 := (by repeat (first | with_reducible exact Ext.refl _ | with_reducible assumption | with_reducible refine Ext.alloc ?_ _ | with_reducible refine Ext.drew ?_ | with_reducible refine Ext.drewN ?_ _ | ((with_reducible refine Ext.set ?_ ?_ _); (focus (first | (simp; done) | (simp; omega)))) | with_reducible refine Ext.trans ?_ (by assumption)))
      have kw1_0 := hw1.more (k := w.heap.size) (by first | assumption | (simp; done) | (simp; omega) | omega)
      obtain ⟨cw1_0, fw1_0⟩ := hw1.row (k := w.heap.size) (by first | assumption | (simp; done) | (simp; omega) | omega)
      have kw1_1 := hw1.more (k := w.heap.size + 1) (by first | assumption | (simp; done) | (simp; omega) | omega)
      obtain ⟨cw1_1, fw1_1⟩ := hw1.row (k := w.heap.size + 1) (by first | assumption | (simp; done) | (simp; omega) | omega)
      replace ho1 := hide (OwnC.mono (lo' := w.heap.size + 2) ho1 (by simp) (Nat.le_refl _))
      have hs1 : w.heap.size + 2 ≤ w1.heap.size := by have := hw1.size; simpa using this
      go_wp2_with fail
      refine (IsReceiver_spec st nx fi hg co ao n ca cs _ (hx'.out.ext (by repeat (first | with_reducible exact Ext.refl _ | with_reducible assumption | with_reducible refine Ext.alloc ?_ _ | with_reducible refine Ext.drew ?_ | ((with_reducible refine Ext.set ?_ ?_ _); (focus (first | (simp; done) | (simp; omega) | omega))) | with_reducible refine Ext.trans ?_ hw1))) hn'.out (by omega) hw'.out hnx).mono ?_
      rintro en w2 ⟨rfl, hw2⟩
      have xw2 : Ext w w2 := (by repeat (first | with_reducible exact Ext.refl _ | with_reducible assumption | with_reducible refine Ext.alloc ?_ _ | with_reducible refine Ext.drew ?_ | with_reducible refine Ext.drewN ?_ _ | ((with_reducible refine Ext.set ?_ ?_ _); (focus (first | (simp; done) | (simp; omega)))) | with_reducible refine Ext.trans ?_ (by assumption)))
      have kw2_0 := hw2.more (k := w.heap.size) (by first | assumption | (simp; done) | (simp; omega) | omega)
      obtain ⟨cw2_0, fw2_0⟩ := hw2.row (k := w.heap.size) (by first | assumption | (simp; done) | (simp; omega) | omega)
      have kw2_1 := hw2.more (k := w.heap.size + 1) (by first | assumption | (simp; done) | (simp; omega) | omega)
      obtain ⟨cw2_1, fw2_1⟩ := hw2.row (k := w.heap.size + 1) (by first | assumption | (simp; done) | (simp; omega) | omega)
      have kw2_2 := hw2.more (k := w1.heap.size) (by first | assumption | (simp; done) | (simp; omega) | omega)
      obtain ⟨cw2_2, fw2_2⟩ := hw2.row (k := w1.heap.size) (by first | assumption | (simp; done) | (simp; omega) | omega)
      rw [hi]
      have hs2 : w1.heap.size < w2.heap.size := by have := hw2.size; simp at this; omega
      go_wp2_with fail
      refine (l7Final_any st nx fi hg co (off + (data.size : Int)) true ao n ca _).mono ?_
      rintro en w3 ⟨rfl, hw3⟩
      have xw3 : Ext w w3 := (by repeat (first | with_reducible exact Ext.refl _ | with_reducible assumption | with_reducible refine Ext.alloc ?_ _ | with_reducible refine Ext.drew ?_ | with_reducible refine Ext.drewN ?_ _ | ((with_reducible refine Ext.set ?_ ?_ _); (focus (first | (simp; done) | (simp; omega)))) | with_reducible refine Ext.trans ?_ (by assumption)))
      have kw3_0 := hw3.more (k := w.heap.size) (by first | assumption | (simp; done) | (simp; omega) | omega)
      obtain ⟨cw3_0, fw3_0⟩ := hw3.row (k := w.heap.size) (by first | assumption | (simp; done) | (simp; omega) | omega)
      have kw3_1 := hw3.more (k := w.heap.size + 1) (by first | assumption | (simp; done) | (simp; omega) | omega)
      obtain ⟨cw3_1, fw3_1⟩ := hw3.row (k := w.heap.size + 1) (by first | assumption | (simp; done) | (simp; omega) | omega)
      have kw3_2 := hw3.more (k := w1.heap.size) (by first | assumption | (simp; done) | (simp; omega) | omega)
      obtain ⟨cw3_2, fw3_2⟩ := hw3.row (k := w1.heap.size) (by first | assumption | (simp; done) | (simp; omega) | omega)
      rw [hcn]
      simp only [finE, if_true, if_false, Bool.false_eq_true]
      go_wp2_with fail
      refine (InsertData_spec nx off data ao n ca cs _ (hx'.out.ext (by repeat (first | with_reducible exact Ext.refl _ | with_reducible assumption | with_reducible refine Ext.alloc ?_ _ | with_reducible refine Ext.drew ?_ | ((with_reducible refine Ext.set ?_ ?_ _); (focus (first | (simp; done) | (simp; omega) | omega))) | with_reducible refine Ext.trans ?_ hw3 | with_reducible refine Ext.trans ?_ hw2 | with_reducible refine Ext.trans ?_ hw1))) hn'.out hl hw'.out hoff hds).mono ?_
      rintro en w5 ⟨ao3, cap3, rfl, ho3, hw5⟩
      have xw5 : Ext w w5 := (by repeat (first | with_reducible exact Ext.refl _ | with_reducible assumption | with_reducible refine Ext.alloc ?_ _ | with_reducible refine Ext.drew ?_ | with_reducible refine Ext.drewN ?_ _ | ((with_reducible refine Ext.set ?_ ?_ _); (focus (first | (simp; done) | (simp; omega)))) | with_reducible refine Ext.trans ?_ (by assumption)))
      have kw5_0 := hw5.more (k := w.heap.size) (by first | assumption | (simp; done) | (simp; omega) | omega)
      obtain ⟨cw5_0, fw5_0⟩ := hw5.row (k := w.heap.size) (by first | assumption | (simp; done) | (simp; omega) | omega)
      have kw5_1 := hw5.more (k := w.heap.size + 1) (by first | assumption | (simp; done) | (simp; omega) | omega)
      obtain ⟨cw5_1, fw5_1⟩ := hw5.row (k := w.heap.size + 1) (by first | assumption | (simp; done) | (simp; omega) | omega)
      have kw5_2 := hw5.more (k := w1.heap.size) (by first | assumption | (simp; done) | (simp; omega) | omega)
      obtain ⟨cw5_2, fw5_2⟩ := hw5.row (k := w1.heap.size) (by first | assumption | (simp; done) | (simp; omega) | omega)
      generalize insC nx cs off data = ys at *
      have hs4 : w1.heap.size < w3.heap.size := Nat.lt_of_lt_of_le hs2 (by first | exact Nat.le_refl _ | exact hw3.size | exact Nat.le_trans hw3.size hw4.size)
      have hs5 : w1.heap.size < w5.heap.size := Nat.lt_of_lt_of_le hs4 (by have := hw5.size; simpa using this)
      have ho5 := hide (OwnC.chg (S := fun k => k = w1.heap.size) (OwnC.mono (lo' := w3.heap.size) (hi' := w5.heap.size) ho3 (by simp) (Nat.le_refl _)) (Chg.set (S := fun k => k = w1.heap.size) (p := ⟨w1.heap.size, 2, none⟩) (Or.inl rfl) (Chg.set (S := fun k => k = w1.heap.size) (p := ⟨w1.heap.size, 1, none⟩) (Or.inl rfl) (Chg.refl _ w5) (.int .i64 nx)) (.slice ao3 ys.length cap3)) (fun b h1 h2 h3 => by (try dsimp only at h3); omega))
      clear ho3
      go_wp2_with fail
      refine wp_region_seq (Ext _) (by kernel_rfl) (by kernel_rfl) ((Ext.refl _).drew) ?_
      iterate 15 (((first | (refine wpSeqS_off rfl (by rfl) ?_) | (refine wpSeqS_plain (v := ?_) rfl (by rfl) ?_ ?_; rotate_left; (focus (intro ws hws; obtain ⟨q0, p0⟩ := hws.row (k := w.heap.size + 1) (by first | assumption | (simp; done) | (simp; omega) | omega); obtain ⟨q1, p1⟩ := hws.row (k := w1.heap.size) (by first | assumption | (simp; done) | (simp; omega) | omega); go_simp; (try with_reducible rfl); done))) | (refine wpSeqS_call (v := ?_) 62 ?_ rfl (by rfl) ?_ ?_ ?_; rotate_left; rotate_left; (focus (intro ws hws; skip; go_simp; (try with_reducible rfl); done)); (focus (intro ws hws; refine (ReadyBytes_spec nx ao3 ys.length cap3 ys ws (ho5.out.read.ext hws) rfl (by omega) hwf.out).mono ?_; rintro e w' ⟨rfl, h2⟩; refine ⟨?_, hws.trans h2⟩; (try simp only [*]); (try with_reducible rfl); done))) | fail)); (try simp only [Act.put, List.getElem_toArray, List.getElem_cons_zero, List.getElem_cons_succ, List.setIfInBounds_toArray, List.set_cons_zero, List.set_cons_succ]))
      refine wpSeqS_done (by kernel_rfl) (fun w6 hw6 => ?_)
      have ho6 := hide (OwnC.chg (S := fun _ => False) ho5.out (hw6.chg _) (fun _ _ _ h => h))
      obtain ⟨x1_6, y1_6⟩ := hw6.row (k := w.heap.size + 1) (by simp; omega)
      obtain ⟨x2_6, y2_6⟩ := hw6.row (k := w1.heap.size) (by simp; omega)
      have hs6 : w5.heap.size ≤ w6.heap.size := by have := hw6.size; simpa using this
      have k6_1 : w.heap.size + 1 < w6.heap.size := by omega
      have k6_2 : w1.heap.size < w6.heap.size := by omega
      have hgX : Chg (fun k => k = w1.heap.size ∨ w.heap.size ≤ k) w w6 := Chg.trans (Chg.trans (Ext.chg xw5 _) (Chg.set (p := ⟨w1.heap.size, 2, none⟩) (Or.inl (Or.inl rfl)) (Chg.set (p := ⟨w1.heap.size, 1, none⟩) (Or.inl (Or.inl rfl)) (Chg.refl _ w5) _) _)) (hw6.chg _)
      clear ho5
      have r0 : w6.cell? ⟨w1.heap.size, 0, none⟩ = some (.int .i64 1) := (by rw [x2_6]; simp [go_sem, *])
      have r1 : w6.cell? ⟨w1.heap.size, 1, none⟩ = some (.int .i64 nx) := (by rw [x2_6]; simp [go_sem, *])
      have r2 : w6.cell? ⟨w1.heap.size, 2, none⟩ = some (.slice ao3 ys.length cap3) := (by rw [x2_6]; simp [go_sem, *])
      have r3 : w6.cell? ⟨w1.heap.size, 3, none⟩ = some (.int .i64 (off + (data.size : Int))) := (by rw [x2_6]; simp [go_sem, *])
      have r4 : w6.cell? ⟨w1.heap.size, 4, none⟩ = some (.int .i64 (max hg (off + (data.size : Int)))) := (by rw [x2_6]; simp [go_sem, *])
      have r5 : w6.cell? ⟨w1.heap.size, 5, none⟩ = some (.int .i64 co) := (by rw [x2_6]; simp [go_sem, *])
      have rF : ∀ o, w6.frozen? ⟨w1.heap.size, o, none⟩ = false := fun o => (by rw [y2_6]; simp [go_sem, *])
      have s0 : w6.cell? ⟨w.heap.size + 1, 0, none⟩ = some (.int .i64 0) := (by rw [x1_6]; simp [go_sem, *])
      have s1 : w6.cell? ⟨w.heap.size + 1, 1, none⟩ = some (.int .i64 0) := (by rw [x1_6]; simp [go_sem, *])
      have s2 : w6.cell? ⟨w.heap.size + 1, 2, none⟩ = some (.slice none 0 0) := (by rw [x1_6]; simp [go_sem, *])
      have s3 : w6.cell? ⟨w.heap.size + 1, 3, none⟩ = some (.int .i64 0) := (by rw [x1_6]; simp [go_sem, *])
      have s4 : w6.cell? ⟨w.heap.size + 1, 4, none⟩ = some (.int .i64 0) := (by rw [x1_6]; simp [go_sem, *])
      have s5 : w6.cell? ⟨w.heap.size + 1, 5, none⟩ = some (.int .i64 0) := (by rw [x1_6]; simp [go_sem, *])
      have sF : ∀ o, w6.frozen? ⟨w.heap.size + 1, o, none⟩ = false := fun o => (by rw [y1_6]; simp [go_sem, *])
      have hneb : w1.heap.size ≠ w.heap.size + 1 := by omega
      have hneb2 : w.heap.size + 1 ≠ w1.heap.size := by omega
      clear x1_6 y1_6 x2_6 y2_6
      clear cw1_0 fw1_0 cw1_1 fw1_1 cw2_0 fw2_0 cw2_1 fw2_1 cw2_2 fw2_2 cw3_0 fw3_0 cw3_1 fw3_1 cw3_2 fw3_2 cw5_0 fw5_0 cw5_1 fw5_1 cw5_2 fw5_2
      go_wp2
      refine bodyPost_ret (v := .tuple #[.agg #[.int .i64 1, .int .i64 nx, .slice ao3 ys.length cap3, .int .i64 (off + (data.size : Int)), .int .i64 (max hg (off + (data.size : Int))), .int .i64 co], .int .i64 0]) (by simp [results, Try.results34, go_sem, *]) rfl ⟨ao3, cap3, rfl, ?_, ?_⟩
      · refine OwnC.mono (OwnC.chg (S := fun k => k = w1.heap.size ∨ k = w.heap.size + 1) ho6.out (by repeat (first | with_reducible exact Chg.refl _ _ | with_reducible assumption | with_reducible refine Chg.alloc ?_ _ | with_reducible refine Chg.drew ?_ | ((with_reducible refine Chg.set ?_ ?_ _); (focus (first | (left; simp; done) | (left; simp; omega) | (left; omega) | (right; simp; done) | (right; simp; omega) | (right; omega)))))) (fun b h1 h2 h3 => by (try dsimp only at h3); omega)) (by omega) (by simp; omega)
      · exact Chg.ext (S := fun k => k = w1.heap.size ∨ w.heap.size ≤ k) (Chg.trans hgX (by repeat (first | with_reducible exact Chg.refl _ _ | with_reducible assumption | with_reducible refine Chg.alloc ?_ _ | with_reducible refine Chg.drew ?_ | ((with_reducible refine Chg.set ?_ ?_ _); (focus (first | (left; simp; done) | (left; simp; omega) | (left; omega) | (right; simp; done) | (right; simp; omega) | (right; omega))))))) (fun k hk h => by (try dsimp only at h); omega)
  · -- no
    by_cases hf1 : fi = -1
    · -- equal
      have hf1e : (fi == -1) = true := by simp [hf1]
      have hf1n : (fi != -1) = false := by simp [hf1]
      have hf1H := hide hf1
      clear hf1
      subst hfi
      have hF : rdaFi fi (off + (data.size : Int)) false = fi := by simp [rdaFi]
      rw [hF]
      have hT : rdaSt st nx fi false (insC nx cs off data) = st := by simp [rdaSt, *]
      rw [hT]
      clear hF hT
      have hwf := hide (insC_wf (nx := nx) (off := off) (data := data) hw)
      have hbd := readyB_bd nx (insC nx cs off data)
      have hyl := insC_length nx cs off data
      have hwr : IntKind.i64.wrap (nx + readyB nx (insC nx cs off data)) = nx + readyB nx (insC nx cs off data) := IntWalk.i64_in _ (by omega)
      have hyl2 : (insC nx cs off data).length ≤ 1048577 := by omega
      clear hyl
      have hn' := hide hn
      have hx' := hide hx
      have hw' := hide hw
      clear hn hx hw
      go_enter Try.func34, Try.ntmps34
      go_wp2_with fail
      refine (l7Copy_any st nx fi hg co ao n ca cs _ (hx'.out.ext (by repeat (first | with_reducible exact Ext.refl _ | with_reducible assumption | with_reducible refine Ext.alloc ?_ _ | with_reducible refine Ext.drew ?_ | ((with_reducible refine Ext.set ?_ ?_ _); (focus (first | (simp; done) | (simp; omega) | omega)))))) hn'.out hl).mono ?_
      rintro en w1 ⟨ao1, cap1, rfl, ho1, hw1⟩
      have xw1 : Ext w w1 := (by repeat (first | with_reducible exact Ext.refl _ | with_reducible assumption | with_reducible refine Ext.alloc ?_ _ | with_reducible refine Ext.drew ?_ | with_reducible refine Ext.drewN ?_ _ | ((with_reducible refine Ext.set ?_ ?_ _); (focus (first | (simp; done) | (simp; omega)))) | with_reducible refine Ext.trans ?_ (by assumption)))
      have kw1_0 := hw1.more (k := w.heap.size) (by first | assumption | (simp; done) | (simp; omega) | omega)
      obtain ⟨cw1_0, fw1_0⟩ := hw1.row (k := w.heap.size) (by first | assumption | (simp; done) | (simp; omega) | omega)
      have kw1_1 := hw1.more (k := w.heap.size + 1) (by first | assumption | (simp; done) | (simp; omega) | omega)
      obtain ⟨cw1_1, fw1_1⟩ := hw1.row (k := w.heap.size + 1) (by first | assumption | (simp; done) | (simp; omega) | omega)
      replace ho1 := hide (OwnC.mono (lo' := w.heap.size + 2) ho1 (by simp) (Nat.le_refl _))
      have hs1 : w.heap.size + 2 ≤ w1.heap.size := by have := hw1.size; simpa using this
      go_wp2_with fail
      refine (IsReceiver_spec st nx fi hg co ao n ca cs _ (hx'.out.ext (by repeat (first | with_reducible exact Ext.refl _ | with_reducible assumption | with_reducible refine Ext.alloc ?_ _ | with_reducible refine Ext.drew ?_ | ((with_reducible refine Ext.set ?_ ?_ _); (focus (first | (simp; done) | (simp; omega) | omega))) | with_reducible refine Ext.trans ?_ hw1))) hn'.out (by omega) hw'.out hnx).mono ?_
      rintro en w2 ⟨rfl, hw2⟩
      have xw2 : Ext w w2 := (by repeat (first | with_reducible exact Ext.refl _ | with_reducible assumption | with_reducible refine Ext.alloc ?_ _ | with_reducible refine Ext.drew ?_ | with_reducible refine Ext.drewN ?_ _ | ((with_reducible refine Ext.set ?_ ?_ _); (focus (first | (simp; done) | (simp; omega)))) | with_reducible refine Ext.trans ?_ (by assumption)))
      have kw2_0 := hw2.more (k := w.heap.size) (by first | assumption | (simp; done) | (simp; omega) | omega)
      obtain ⟨cw2_0, fw2_0⟩ := hw2.row (k := w.heap.size) (by first | assumption | (simp; done) | (simp; omega) | omega)
      have kw2_1 := hw2.more (k := w.heap.size + 1) (by first | assumption | (simp; done) | (simp; omega) | omega)
      obtain ⟨cw2_1, fw2_1⟩ := hw2.row (k := w.heap.size + 1) (by first | assumption | (simp; done) | (simp; omega) | omega)
      have kw2_2 := hw2.more (k := w1.heap.size) (by first | assumption | (simp; done) | (simp; omega) | omega)
      obtain ⟨cw2_2, fw2_2⟩ := hw2.row (k := w1.heap.size) (by first | assumption | (simp; done) | (simp; omega) | omega)
      rw [hi]
      have hs2 : w1.heap.size < w2.heap.size := by have := hw2.size; simp at this; omega
      go_wp2_with fail
      refine (l7Final_any st nx fi hg co (off + (data.size : Int)) false ao n ca _).mono ?_
      rintro en w3 ⟨rfl, hw3⟩
      have xw3 : Ext w w3 := (by repeat (first | with_reducible exact Ext.refl _ | with_reducible assumption | with_reducible refine Ext.alloc ?_ _ | with_reducible refine Ext.drew ?_ | with_reducible refine Ext.drewN ?_ _ | ((with_reducible refine Ext.set ?_ ?_ _); (focus (first | (simp; done) | (simp; omega)))) | with_reducible refine Ext.trans ?_ (by assumption)))
      have kw3_0 := hw3.more (k := w.heap.size) (by first | assumption | (simp; done) | (simp; omega) | omega)
      obtain ⟨cw3_0, fw3_0⟩ := hw3.row (k := w.heap.size) (by first | assumption | (simp; done) | (simp; omega) | omega)
      have kw3_1 := hw3.more (k := w.heap.size + 1) (by first | assumption | (simp; done) | (simp; omega) | omega)
      obtain ⟨cw3_1, fw3_1⟩ := hw3.row (k := w.heap.size + 1) (by first | assumption | (simp; done) | (simp; omega) | omega)
      have kw3_2 := hw3.more (k := w1.heap.size) (by first | assumption | (simp; done) | (simp; omega) | omega)
      obtain ⟨cw3_2, fw3_2⟩ := hw3.row (k := w1.heap.size) (by first | assumption | (simp; done) | (simp; omega) | omega)
      rw [hcn]
      simp only [finE, if_true, if_false, Bool.false_eq_true]
      go_wp2_with fail
      refine (InsertData_spec nx off data ao n ca cs _ (hx'.out.ext (by repeat (first | with_reducible exact Ext.refl _ | with_reducible assumption | with_reducible refine Ext.alloc ?_ _ | with_reducible refine Ext.drew ?_ | ((with_reducible refine Ext.set ?_ ?_ _); (focus (first | (simp; done) | (simp; omega) | omega))) | with_reducible refine Ext.trans ?_ hw3 | with_reducible refine Ext.trans ?_ hw2 | with_reducible refine Ext.trans ?_ hw1))) hn'.out hl hw'.out hoff hds).mono ?_
      rintro en w5 ⟨ao3, cap3, rfl, ho3, hw5⟩
      have xw5 : Ext w w5 := (by repeat (first | with_reducible exact Ext.refl _ | with_reducible assumption | with_reducible refine Ext.alloc ?_ _ | with_reducible refine Ext.drew ?_ | with_reducible refine Ext.drewN ?_ _ | ((with_reducible refine Ext.set ?_ ?_ _); (focus (first | (simp; done) | (simp; omega)))) | with_reducible refine Ext.trans ?_ (by assumption)))
      have kw5_0 := hw5.more (k := w.heap.size) (by first | assumption | (simp; done) | (simp; omega) | omega)
      obtain ⟨cw5_0, fw5_0⟩ := hw5.row (k := w.heap.size) (by first | assumption | (simp; done) | (simp; omega) | omega)
      have kw5_1 := hw5.more (k := w.heap.size + 1) (by first | assumption | (simp; done) | (simp; omega) | omega)
      obtain ⟨cw5_1, fw5_1⟩ := hw5.row (k := w.heap.size + 1) (by first | assumption | (simp; done) | (simp; omega) | omega)
      have kw5_2 := hw5.more (k := w1.heap.size) (by first | assumption | (simp; done) | (simp; omega) | omega)
      obtain ⟨cw5_2, fw5_2⟩ := hw5.row (k := w1.heap.size) (by first | assumption | (simp; done) | (simp; omega) | omega)
      generalize insC nx cs off data = ys at *
      have hs4 : w1.heap.size < w3.heap.size := Nat.lt_of_lt_of_le hs2 (by first | exact Nat.le_refl _ | exact hw3.size | exact Nat.le_trans hw3.size hw4.size)
      have hs5 : w1.heap.size < w5.heap.size := Nat.lt_of_lt_of_le hs4 (by have := hw5.size; simpa using this)
      have ho5 := hide (OwnC.chg (S := fun k => k = w1.heap.size) (OwnC.mono (lo' := w3.heap.size) (hi' := w5.heap.size) ho3 (by simp) (Nat.le_refl _)) (Chg.set (S := fun k => k = w1.heap.size) (p := ⟨w1.heap.size, 2, none⟩) (Or.inl rfl) (Chg.set (S := fun k => k = w1.heap.size) (p := ⟨w1.heap.size, 1, none⟩) (Or.inl rfl) (Chg.refl _ w5) (.int .i64 nx)) (.slice ao3 ys.length cap3)) (fun b h1 h2 h3 => by (try dsimp only at h3); omega))
      clear ho3
      go_wp2_with fail
      refine wp_region_seq (Ext _) (by kernel_rfl) (by kernel_rfl) ((Ext.refl _).drew) ?_
      iterate 15 (((first | (refine wpSeqS_off rfl (by rfl) ?_) | (refine wpSeqS_plain (v := ?_) rfl (by rfl) ?_ ?_; rotate_left; (focus (intro ws hws; obtain ⟨q0, p0⟩ := hws.row (k := w.heap.size + 1) (by first | assumption | (simp; done) | (simp; omega) | omega); obtain ⟨q1, p1⟩ := hws.row (k := w1.heap.size) (by first | assumption | (simp; done) | (simp; omega) | omega); go_simp; (try with_reducible rfl); done))) | (refine wpSeqS_call (v := ?_) 62 ?_ rfl (by rfl) ?_ ?_ ?_; rotate_left; rotate_left; (focus (intro ws hws; skip; go_simp; (try with_reducible rfl); done)); (focus (intro ws hws; refine (ReadyBytes_spec nx ao3 ys.length cap3 ys ws (ho5.out.read.ext hws) rfl (by omega) hwf.out).mono ?_; rintro e w' ⟨rfl, h2⟩; refine ⟨?_, hws.trans h2⟩; (try simp only [*]); (try with_reducible rfl); done))) | fail)); (try simp only [Act.put, List.getElem_toArray, List.getElem_cons_zero, List.getElem_cons_succ, List.setIfInBounds_toArray, List.set_cons_zero, List.set_cons_succ]))
      refine wpSeqS_done (by kernel_rfl) (fun w6 hw6 => ?_)
      have ho6 := hide (OwnC.chg (S := fun _ => False) ho5.out (hw6.chg _) (fun _ _ _ h => h))
      obtain ⟨x1_6, y1_6⟩ := hw6.row (k := w.heap.size + 1) (by simp; omega)
      obtain ⟨x2_6, y2_6⟩ := hw6.row (k := w1.heap.size) (by simp; omega)
      have hs6 : w5.heap.size ≤ w6.heap.size := by have := hw6.size; simpa using this
      have k6_1 : w.heap.size + 1 < w6.heap.size := by omega
      have k6_2 : w1.heap.size < w6.heap.size := by omega
      have hgX : Chg (fun k => k = w1.heap.size ∨ w.heap.size ≤ k) w w6 := Chg.trans (Chg.trans (Ext.chg xw5 _) (Chg.set (p := ⟨w1.heap.size, 2, none⟩) (Or.inl (Or.inl rfl)) (Chg.set (p := ⟨w1.heap.size, 1, none⟩) (Or.inl (Or.inl rfl)) (Chg.refl _ w5) _) _)) (hw6.chg _)
      clear ho5
      have r0 : w6.cell? ⟨w1.heap.size, 0, none⟩ = some (.int .i64 st) := (by rw [x2_6]; simp [go_sem, *])
      have r1 : w6.cell? ⟨w1.heap.size, 1, none⟩ = some (.int .i64 nx) := (by rw [x2_6]; simp [go_sem, *])
      have r2 : w6.cell? ⟨w1.heap.size, 2, none⟩ = some (.slice ao3 ys.length cap3) := (by rw [x2_6]; simp [go_sem, *])
      have r3 : w6.cell? ⟨w1.heap.size, 3, none⟩ = some (.int .i64 fi) := (by rw [x2_6]; simp [go_sem, *])
      have r4 : w6.cell? ⟨w1.heap.size, 4, none⟩ = some (.int .i64 (max hg (off + (data.size : Int)))) := (by rw [x2_6]; simp [go_sem, *])
      have r5 : w6.cell? ⟨w1.heap.size, 5, none⟩ = some (.int .i64 co) := (by rw [x2_6]; simp [go_sem, *])
      have rF : ∀ o, w6.frozen? ⟨w1.heap.size, o, none⟩ = false := fun o => (by rw [y2_6]; simp [go_sem, *])
      have s0 : w6.cell? ⟨w.heap.size + 1, 0, none⟩ = some (.int .i64 0) := (by rw [x1_6]; simp [go_sem, *])
      have s1 : w6.cell? ⟨w.heap.size + 1, 1, none⟩ = some (.int .i64 0) := (by rw [x1_6]; simp [go_sem, *])
      have s2 : w6.cell? ⟨w.heap.size + 1, 2, none⟩ = some (.slice none 0 0) := (by rw [x1_6]; simp [go_sem, *])
      have s3 : w6.cell? ⟨w.heap.size + 1, 3, none⟩ = some (.int .i64 0) := (by rw [x1_6]; simp [go_sem, *])
      have s4 : w6.cell? ⟨w.heap.size + 1, 4, none⟩ = some (.int .i64 0) := (by rw [x1_6]; simp [go_sem, *])
      have s5 : w6.cell? ⟨w.heap.size + 1, 5, none⟩ = some (.int .i64 0) := (by rw [x1_6]; simp [go_sem, *])
      have sF : ∀ o, w6.frozen? ⟨w.heap.size + 1, o, none⟩ = false := fun o => (by rw [y1_6]; simp [go_sem, *])
      have hneb : w1.heap.size ≠ w.heap.size + 1 := by omega
      have hneb2 : w.heap.size + 1 ≠ w1.heap.size := by omega
      clear x1_6 y1_6 x2_6 y2_6
      clear cw1_0 fw1_0 cw1_1 fw1_1 cw2_0 fw2_0 cw2_1 fw2_1 cw2_2 fw2_2 cw3_0 fw3_0 cw3_1 fw3_1 cw3_2 fw3_2 cw5_0 fw5_0 cw5_1 fw5_1 cw5_2 fw5_2
      go_wp2
      refine bodyPost_ret (v := .tuple #[.agg #[.int .i64 st, .int .i64 nx, .slice ao3 ys.length cap3, .int .i64 fi, .int .i64 (max hg (off + (data.size : Int))), .int .i64 co], .int .i64 0]) (by simp [results, Try.results34, go_sem, *]) rfl ⟨ao3, cap3, rfl, ?_, ?_⟩
      · refine OwnC.mono (OwnC.chg (S := fun k => k = w1.heap.size ∨ k = w.heap.size + 1) ho6.out (by repeat (first | with_reducible exact Chg.refl _ _ | with_reducible assumption | with_reducible refine Chg.alloc ?_ _ | with_reducible refine Chg.drew ?_ | ((with_reducible refine Chg.set ?_ ?_ _); (focus (first | (left; simp; done) | (left; simp; omega) | (left; omega) | (right; simp; done) | (right; simp; omega) | (right; omega)))))) (fun b h1 h2 h3 => by (try dsimp only at h3); omega)) (by omega) (by simp; omega)
      · exact Chg.ext (S := fun k => k = w1.heap.size ∨ w.heap.size ≤ k) (Chg.trans hgX (by repeat (first | with_reducible exact Chg.refl _ _ | with_reducible assumption | with_reducible refine Chg.alloc ?_ _ | with_reducible refine Chg.drew ?_ | ((with_reducible refine Chg.set ?_ ?_ _); (focus (first | (left; simp; done) | (left; simp; omega) | (left; omega) | (right; simp; done) | (right; simp; omega) | (right; omega))))))) (fun k hk h => by (try dsimp only at h); omega)
    · -- other
      have hf1e : (fi == -1) = false := by simp [hf1]
      have hf1n : (fi != -1) = true := by simp [hf1]
      have hf1H := hide hf1
      clear hf1
      rcases Bool.eq_false_or_eq_true ((nx + readyB nx (insC nx cs off data) == fi)) with hq | hq
      · -- yes
        subst hfi
        have hF : rdaFi fi (off + (data.size : Int)) false = fi := by simp [rdaFi]
        rw [hF]
        have hT : rdaSt st nx fi false (insC nx cs off data) = 2 := by simp [rdaSt, *]
        rw [hT]
        clear hF hT
        have hwf := hide (insC_wf (nx := nx) (off := off) (data := data) hw)
        have hbd := readyB_bd nx (insC nx cs off data)
        have hyl := insC_length nx cs off data
        have hwr : IntKind.i64.wrap (nx + readyB nx (insC nx cs off data)) = nx + readyB nx (insC nx cs off data) := IntWalk.i64_in _ (by omega)
        have hyl2 : (insC nx cs off data).length ≤ 1048577 := by omega
        clear hyl
        have hn' := hide hn
        have hx' := hide hx
        have hw' := hide hw
        clear hn hx hw
        go_enter Try.func34, Try.ntmps34
        go_wp2_with fail
        refine (l7Copy_any st nx fi hg co ao n ca cs _ (hx'.out.ext (by repeat (first | with_reducible exact Ext.refl _ | with_reducible assumption | with_reducible refine Ext.alloc ?_ _ | with_reducible refine Ext.drew ?_ | ((with_reducible refine Ext.set ?_ ?_ _); (focus (first | (simp; done) | (simp; omega) | omega)))))) hn'.out hl).mono ?_
        rintro en w1 ⟨ao1, cap1, rfl, ho1, hw1⟩
        have xw1 : Ext w w1 := (by repeat (first | with_reducible exact Ext.refl _ | with_reducible assumption | with_reducible refine Ext.alloc ?_ _ | with_reducible refine Ext.drew ?_ | with_reducible refine Ext.drewN ?_ _ | ((with_reducible refine Ext.set ?_ ?_ _); (focus (first | (simp; done) | (simp; omega)))) | with_reducible refine Ext.trans ?_ (by assumption)))
        have kw1_0 := hw1.more (k := w.heap.size) (by first | assumption | (simp; done) | (simp; omega) | omega)
        obtain ⟨cw1_0, fw1_0⟩ := hw1.row (k := w.heap.size) (by first | assumption | (simp; done) | (simp; omega) | omega)
        have kw1_1 := hw1.more (k := w.heap.size + 1) (by first | assumption | (simp; done) | (simp; omega) | omega)
        obtain ⟨cw1_1, fw1_1⟩ := hw1.row (k := w.heap.size + 1) (by first | assumption | (simp; done) | (simp; omega) | omega)
        replace ho1 := hide (OwnC.mono (lo' := w.heap.size + 2) ho1 (by simp) (Nat.le_refl _))
        have hs1 : w.heap.size + 2 ≤ w1.heap.size := by have := hw1.size; simpa using this
        go_wp2_with fail
        refine (IsReceiver_spec st nx fi hg co ao n ca cs _ (hx'.out.ext (by repeat (first | with_reducible exact Ext.refl _ | with_reducible assumption | with_reducible refine Ext.alloc ?_ _ | with_reducible refine Ext.drew ?_ | ((with_reducible refine Ext.set ?_ ?_ _); (focus (first | (simp; done) | (simp; omega) | omega))) | with_reducible refine Ext.trans ?_ hw1))) hn'.out (by omega) hw'.out hnx).mono ?_
        rintro en w2 ⟨rfl, hw2⟩
        have xw2 : Ext w w2 := (by repeat (first | with_reducible exact Ext.refl _ | with_reducible assumption | with_reducible refine Ext.alloc ?_ _ | with_reducible refine Ext.drew ?_ | with_reducible refine Ext.drewN ?_ _ | ((with_reducible refine Ext.set ?_ ?_ _); (focus (first | (simp; done) | (simp; omega)))) | with_reducible refine Ext.trans ?_ (by assumption)))
        have kw2_0 := hw2.more (k := w.heap.size) (by first | assumption | (simp; done) | (simp; omega) | omega)
        obtain ⟨cw2_0, fw2_0⟩ := hw2.row (k := w.heap.size) (by first | assumption | (simp; done) | (simp; omega) | omega)
        have kw2_1 := hw2.more (k := w.heap.size + 1) (by first | assumption | (simp; done) | (simp; omega) | omega)
        obtain ⟨cw2_1, fw2_1⟩ := hw2.row (k := w.heap.size + 1) (by first | assumption | (simp; done) | (simp; omega) | omega)
        have kw2_2 := hw2.more (k := w1.heap.size) (by first | assumption | (simp; done) | (simp; omega) | omega)
        obtain ⟨cw2_2, fw2_2⟩ := hw2.row (k := w1.heap.size) (by first | assumption | (simp; done) | (simp; omega) | omega)
        rw [hi]
        have hs2 : w1.heap.size < w2.heap.size := by have := hw2.size; simp at this; omega
        go_wp2_with fail
        refine (l7Final_any st nx fi hg co (off + (data.size : Int)) false ao n ca _).mono ?_
        rintro en w3 ⟨rfl, hw3⟩
        have xw3 : Ext w w3 := (by repeat (first | with_reducible exact Ext.refl _ | with_reducible assumption | with_reducible refine Ext.alloc ?_ _ | with_reducible refine Ext.drew ?_ | with_reducible refine Ext.drewN ?_ _ | ((with_reducible refine Ext.set ?_ ?_ _); (focus (first | (simp; done) | (simp; omega)))) | with_reducible refine Ext.trans ?_ (by assumption)))
        have kw3_0 := hw3.more (k := w.heap.size) (by first | assumption | (simp; done) | (simp; omega) | omega)
        obtain ⟨cw3_0, fw3_0⟩ := hw3.row (k := w.heap.size) (by first | assumption | (simp; done) | (simp; omega) | omega)
        have kw3_1 := hw3.more (k := w.heap.size + 1) (by first | assumption | (simp; done) | (simp; omega) | omega)
        obtain ⟨cw3_1, fw3_1⟩ := hw3.row (k := w.heap.size + 1) (by first | assumption | (simp; done) | (simp; omega) | omega)
        have kw3_2 := hw3.more (k := w1.heap.size) (by first | assumption | (simp; done) | (simp; omega) | omega)
        obtain ⟨cw3_2, fw3_2⟩ := hw3.row (k := w1.heap.size) (by first | assumption | (simp; done) | (simp; omega) | omega)
        rw [hcn]
        simp only [finE, if_true, if_false, Bool.false_eq_true]
        go_wp2_with fail
        refine (InsertData_spec nx off data ao n ca cs _ (hx'.out.ext (by repeat (first | with_reducible exact Ext.refl _ | with_reducible assumption | with_reducible refine Ext.alloc ?_ _ | with_reducible refine Ext.drew ?_ | ((with_reducible refine Ext.set ?_ ?_ _); (focus (first | (simp; done) | (simp; omega) | omega))) | with_reducible refine Ext.trans ?_ hw3 | with_reducible refine Ext.trans ?_ hw2 | with_reducible refine Ext.trans ?_ hw1))) hn'.out hl hw'.out hoff hds).mono ?_
        rintro en w5 ⟨ao3, cap3, rfl, ho3, hw5⟩
        have xw5 : Ext w w5 := (by repeat (first | with_reducible exact Ext.refl _ | with_reducible assumption | with_reducible refine Ext.alloc ?_ _ | with_reducible refine Ext.drew ?_ | with_reducible refine Ext.drewN ?_ _ | ((with_reducible refine Ext.set ?_ ?_ _); (focus (first | (simp; done) | (simp; omega)))) | with_reducible refine Ext.trans ?_ (by assumption)))
        have kw5_0 := hw5.more (k := w.heap.size) (by first | assumption | (simp; done) | (simp; omega) | omega)
        obtain ⟨cw5_0, fw5_0⟩ := hw5.row (k := w.heap.size) (by first | assumption | (simp; done) | (simp; omega) | omega)
        have kw5_1 := hw5.more (k := w.heap.size + 1) (by first | assumption | (simp; done) | (simp; omega) | omega)
        obtain ⟨cw5_1, fw5_1⟩ := hw5.row (k := w.heap.size + 1) (by first | assumption | (simp; done) | (simp; omega) | omega)
        have kw5_2 := hw5.more (k := w1.heap.size) (by first | assumption | (simp; done) | (simp; omega) | omega)
        obtain ⟨cw5_2, fw5_2⟩ := hw5.row (k := w1.heap.size) (by first | assumption | (simp; done) | (simp; omega) | omega)
        generalize insC nx cs off data = ys at *
        have hs4 : w1.heap.size < w3.heap.size := Nat.lt_of_lt_of_le hs2 (by first | exact Nat.le_refl _ | exact hw3.size | exact Nat.le_trans hw3.size hw4.size)
        have hs5 : w1.heap.size < w5.heap.size := Nat.lt_of_lt_of_le hs4 (by have := hw5.size; simpa using this)
        have ho5 := hide (OwnC.chg (S := fun k => k = w1.heap.size) (OwnC.mono (lo' := w3.heap.size) (hi' := w5.heap.size) ho3 (by simp) (Nat.le_refl _)) (Chg.set (S := fun k => k = w1.heap.size) (p := ⟨w1.heap.size, 2, none⟩) (Or.inl rfl) (Chg.set (S := fun k => k = w1.heap.size) (p := ⟨w1.heap.size, 1, none⟩) (Or.inl rfl) (Chg.refl _ w5) (.int .i64 nx)) (.slice ao3 ys.length cap3)) (fun b h1 h2 h3 => by (try dsimp only at h3); omega))
        clear ho3
        go_wp2_with fail
        refine wp_region_seq (Ext _) (by kernel_rfl) (by kernel_rfl) ((Ext.refl _).drew) ?_
        iterate 15 (((first | (refine wpSeqS_off rfl (by rfl) ?_) | (refine wpSeqS_plain (v := ?_) rfl (by rfl) ?_ ?_; rotate_left; (focus (intro ws hws; obtain ⟨q0, p0⟩ := hws.row (k := w.heap.size + 1) (by first | assumption | (simp; done) | (simp; omega) | omega); obtain ⟨q1, p1⟩ := hws.row (k := w1.heap.size) (by first | assumption | (simp; done) | (simp; omega) | omega); go_simp; (try with_reducible rfl); done))) | (refine wpSeqS_call (v := ?_) 62 ?_ rfl (by rfl) ?_ ?_ ?_; rotate_left; rotate_left; (focus (intro ws hws; skip; go_simp; (try with_reducible rfl); done)); (focus (intro ws hws; refine (ReadyBytes_spec nx ao3 ys.length cap3 ys ws (ho5.out.read.ext hws) rfl (by omega) hwf.out).mono ?_; rintro e w' ⟨rfl, h2⟩; refine ⟨?_, hws.trans h2⟩; (try simp only [*]); (try with_reducible rfl); done))) | fail)); (try simp only [Act.put, List.getElem_toArray, List.getElem_cons_zero, List.getElem_cons_succ, List.setIfInBounds_toArray, List.set_cons_zero, List.set_cons_succ]))
        refine wpSeqS_done (by kernel_rfl) (fun w6 hw6 => ?_)
        have ho6 := hide (OwnC.chg (S := fun _ => False) ho5.out (hw6.chg _) (fun _ _ _ h => h))
        obtain ⟨x1_6, y1_6⟩ := hw6.row (k := w.heap.size + 1) (by simp; omega)
        obtain ⟨x2_6, y2_6⟩ := hw6.row (k := w1.heap.size) (by simp; omega)
        have hs6 : w5.heap.size ≤ w6.heap.size := by have := hw6.size; simpa using this
        have k6_1 : w.heap.size + 1 < w6.heap.size := by omega
        have k6_2 : w1.heap.size < w6.heap.size := by omega
        have hgX : Chg (fun k => k = w1.heap.size ∨ w.heap.size ≤ k) w w6 := Chg.trans (Chg.trans (Ext.chg xw5 _) (Chg.set (p := ⟨w1.heap.size, 2, none⟩) (Or.inl (Or.inl rfl)) (Chg.set (p := ⟨w1.heap.size, 1, none⟩) (Or.inl (Or.inl rfl)) (Chg.refl _ w5) _) _)) (hw6.chg _)
        clear ho5
        have r0 : w6.cell? ⟨w1.heap.size, 0, none⟩ = some (.int .i64 st) := (by rw [x2_6]; simp [go_sem, *])
        have r1 : w6.cell? ⟨w1.heap.size, 1, none⟩ = some (.int .i64 nx) := (by rw [x2_6]; simp [go_sem, *])
        have r2 : w6.cell? ⟨w1.heap.size, 2, none⟩ = some (.slice ao3 ys.length cap3) := (by rw [x2_6]; simp [go_sem, *])
        have r3 : w6.cell? ⟨w1.heap.size, 3, none⟩ = some (.int .i64 fi) := (by rw [x2_6]; simp [go_sem, *])
        have r4 : w6.cell? ⟨w1.heap.size, 4, none⟩ = some (.int .i64 (max hg (off + (data.size : Int)))) := (by rw [x2_6]; simp [go_sem, *])
        have r5 : w6.cell? ⟨w1.heap.size, 5, none⟩ = some (.int .i64 co) := (by rw [x2_6]; simp [go_sem, *])
        have rF : ∀ o, w6.frozen? ⟨w1.heap.size, o, none⟩ = false := fun o => (by rw [y2_6]; simp [go_sem, *])
        have s0 : w6.cell? ⟨w.heap.size + 1, 0, none⟩ = some (.int .i64 0) := (by rw [x1_6]; simp [go_sem, *])
        have s1 : w6.cell? ⟨w.heap.size + 1, 1, none⟩ = some (.int .i64 0) := (by rw [x1_6]; simp [go_sem, *])
        have s2 : w6.cell? ⟨w.heap.size + 1, 2, none⟩ = some (.slice none 0 0) := (by rw [x1_6]; simp [go_sem, *])
        have s3 : w6.cell? ⟨w.heap.size + 1, 3, none⟩ = some (.int .i64 0) := (by rw [x1_6]; simp [go_sem, *])
        have s4 : w6.cell? ⟨w.heap.size + 1, 4, none⟩ = some (.int .i64 0) := (by rw [x1_6]; simp [go_sem, *])
        have s5 : w6.cell? ⟨w.heap.size + 1, 5, none⟩ = some (.int .i64 0) := (by rw [x1_6]; simp [go_sem, *])
        have sF : ∀ o, w6.frozen? ⟨w.heap.size + 1, o, none⟩ = false := fun o => (by rw [y1_6]; simp [go_sem, *])
        have hneb : w1.heap.size ≠ w.heap.size + 1 := by omega
        have hneb2 : w.heap.size + 1 ≠ w1.heap.size := by omega
        clear x1_6 y1_6 x2_6 y2_6
        clear cw1_0 fw1_0 cw1_1 fw1_1 cw2_0 fw2_0 cw2_1 fw2_1 cw2_2 fw2_2 cw3_0 fw3_0 cw3_1 fw3_1 cw3_2 fw3_2 cw5_0 fw5_0 cw5_1 fw5_1 cw5_2 fw5_2
        go_wp2
        refine bodyPost_ret (v := .tuple #[.agg #[.int .i64 2, .int .i64 nx, .slice ao3 ys.length cap3, .int .i64 fi, .int .i64 (max hg (off + (data.size : Int))), .int .i64 co], .int .i64 0]) (by simp [results, Try.results34, go_sem, *]) rfl ⟨ao3, cap3, rfl, ?_, ?_⟩
        · refine OwnC.mono (OwnC.chg (S := fun k => k = w1.heap.size ∨ k = w.heap.size + 1) ho6.out (by repeat (first | with_reducible exact Chg.refl _ _ | with_reducible assumption | with_reducible refine Chg.alloc ?_ _ | with_reducible refine Chg.drew ?_ | ((with_reducible refine Chg.set ?_ ?_ _); (focus (first | (left; simp; done) | (left; simp; omega) | (left; omega) | (right; simp; done) | (right; simp; omega) | (right; omega)))))) (fun b h1 h2 h3 => by (try dsimp only at h3); omega)) (by omega) (by simp; omega)
        · exact Chg.ext (S := fun k => k = w1.heap.size ∨ w.heap.size ≤ k) (Chg.trans hgX (by repeat (first | with_reducible exact Chg.refl _ _ | with_reducible assumption | with_reducible refine Chg.alloc ?_ _ | with_reducible refine Chg.drew ?_ | ((with_reducible refine Chg.set ?_ ?_ _); (focus (first | (left; simp; done) | (left; simp; omega) | (left; omega) | (right; simp; done) | (right; simp; omega) | (right; omega))))))) (fun k hk h => by (try dsimp only at h); omega)
      · -- no
        subst hfi
        have hF : rdaFi fi (off + (data.size : Int)) false = fi := by simp [rdaFi]
        rw [hF]
        have hT : rdaSt st nx fi false (insC nx cs off data) = st := by simp [rdaSt, *]
        rw [hT]
        clear hF hT
        have hwf := hide (insC_wf (nx := nx) (off := off) (data := data) hw)
        have hbd := readyB_bd nx (insC nx cs off data)
        have hyl := insC_length nx cs off data
        have hwr : IntKind.i64.wrap (nx + readyB nx (insC nx cs off data)) = nx + readyB nx (insC nx cs off data) := IntWalk.i64_in _ (by omega)
        have hyl2 : (insC nx cs off data).length ≤ 1048577 := by omega
        clear hyl
        have hn' := hide hn
        have hx' := hide hx
        have hw' := hide hw
        clear hn hx hw
        go_enter Try.func34, Try.ntmps34
        go_wp2_with fail
        refine (l7Copy_any st nx fi hg co ao n ca cs _ (hx'.out.ext (by repeat (first | with_reducible exact Ext.refl _ | with_reducible assumption | with_reducible refine Ext.alloc ?_ _ | with_reducible refine Ext.drew ?_ | ((with_reducible refine Ext.set ?_ ?_ _); (focus (first | (simp; done) | (simp; omega) | omega)))))) hn'.out hl).mono ?_
        rintro en w1 ⟨ao1, cap1, rfl, ho1, hw1⟩
        have xw1 : Ext w w1 := (by repeat (first | with_reducible exact Ext.refl _ | with_reducible assumption | with_reducible refine Ext.alloc ?_ _ | with_reducible refine Ext.drew ?_ | with_reducible refine Ext.drewN ?_ _ | ((with_reducible refine Ext.set ?_ ?_ _); (focus (first | (simp; done) | (simp; omega)))) | with_reducible refine Ext.trans ?_ (by assumption)))
        have kw1_0 := hw1.more (k := w.heap.size) (by first | assumption | (simp; done) | (simp; omega) | omega)
        obtain ⟨cw1_0, fw1_0⟩ := hw1.row (k := w.heap.size) (by first | assumption | (simp; done) | (simp; omega) | omega)
        have kw1_1 := hw1.more (k := w.heap.size + 1) (by first | assumption | (simp; done) | (simp; omega) | omega)
        obtain ⟨cw1_1, fw1_1⟩ := hw1.row (k := w.heap.size + 1) (by first | assumption | (simp; done) | (simp; omega) | omega)
        replace ho1 := hide (OwnC.mono (lo' := w.heap.size + 2) ho1 (by simp) (Nat.le_refl _))
        have hs1 : w.heap.size + 2 ≤ w1.heap.size := by have := hw1.size; simpa using this
        go_wp2_with fail
        refine (IsReceiver_spec st nx fi hg co ao n ca cs _ (hx'.out.ext (by repeat (first | with_reducible exact Ext.refl _ | with_reducible assumption | with_reducible refine Ext.alloc ?_ _ | with_reducible refine Ext.drew ?_ | ((with_reducible refine Ext.set ?_ ?_ _); (focus (first | (simp; done) | (simp; omega) | omega))) | with_reducible refine Ext.trans ?_ hw1))) hn'.out (by omega) hw'.out hnx).mono ?_
        rintro en w2 ⟨rfl, hw2⟩
        have xw2 : Ext w w2 := (by repeat (first | with_reducible exact Ext.refl _ | with_reducible assumption | with_reducible refine Ext.alloc ?_ _ | with_reducible refine Ext.drew ?_ | with_reducible refine Ext.drewN ?_ _ | ((with_reducible refine Ext.set ?_ ?_ _); (focus (first | (simp; done) | (simp; omega)))) | with_reducible refine Ext.trans ?_ (by assumption)))
        have kw2_0 := hw2.more (k := w.heap.size) (by first | assumption | (simp; done) | (simp; omega) | omega)
        obtain ⟨cw2_0, fw2_0⟩ := hw2.row (k := w.heap.size) (by first | assumption | (simp; done) | (simp; omega) | omega)
        have kw2_1 := hw2.more (k := w.heap.size + 1) (by first | assumption | (simp; done) | (simp; omega) | omega)
        obtain ⟨cw2_1, fw2_1⟩ := hw2.row (k := w.heap.size + 1) (by first | assumption | (simp; done) | (simp; omega) | omega)
        have kw2_2 := hw2.more (k := w1.heap.size) (by first | assumption | (simp; done) | (simp; omega) | omega)
        obtain ⟨cw2_2, fw2_2⟩ := hw2.row (k := w1.heap.size) (by first | assumption | (simp; done) | (simp; omega) | omega)
        rw [hi]
        have hs2 : w1.heap.size < w2.heap.size := by have := hw2.size; simp at this; omega
        go_wp2_with fail
        refine (l7Final_any st nx fi hg co (off + (data.size : Int)) false ao n ca _).mono ?_
        rintro en w3 ⟨rfl, hw3⟩
        have xw3 : Ext w w3 := (by repeat (first | with_reducible exact Ext.refl _ | with_reducible assumption | with_reducible refine Ext.alloc ?_ _ | with_reducible refine Ext.drew ?_ | with_reducible refine Ext.drewN ?_ _ | ((with_reducible refine Ext.set ?_ ?_ _); (focus (first | (simp; done) | (simp; omega)))) | with_reducible refine Ext.trans ?_ (by assumption)))
        have kw3_0 := hw3.more (k := w.heap.size) (by first | assumption | (simp; done) | (simp; omega) | omega)
        obtain ⟨cw3_0, fw3_0⟩ := hw3.row (k := w.heap.size) (by first | assumption | (simp; done) | (simp; omega) | omega)
        have kw3_1 := hw3.more (k := w.heap.size + 1) (by first | assumption | (simp; done) | (simp; omega) | omega)
        obtain ⟨cw3_1, fw3_1⟩ := hw3.row (k := w.heap.size + 1) (by first | assumption | (simp; done) | (simp; omega) | omega)
        have kw3_2 := hw3.more (k := w1.heap.size) (by first | assumption | (simp; done) | (simp; omega) | omega)
        obtain ⟨cw3_2, fw3_2⟩ := hw3.row (k := w1.heap.size) (by first | assumption | (simp; done) | (simp; omega) | omega)
        rw [hcn]
        simp only [finE, if_true, if_false, Bool.false_eq_true]
        go_wp2_with fail
        refine (InsertData_spec nx off data ao n ca cs _ (hx'.out.ext (by repeat (first | with_reducible exact Ext.refl _ | with_reducible assumption | with_reducible refine Ext.alloc ?_ _ | with_reducible refine Ext.drew ?_ | ((with_reducible refine Ext.set ?_ ?_ _); (focus (first | (simp; done) | (simp; omega) | omega))) | with_reducible refine Ext.trans ?_ hw3 | with_reducible refine Ext.trans ?_ hw2 | with_reducible refine Ext.trans ?_ hw1))) hn'.out hl hw'.out hoff hds).mono ?_
        rintro en w5 ⟨ao3, cap3, rfl, ho3, hw5⟩
        have xw5 : Ext w w5 := (by repeat (first | with_reducible exact Ext.refl _ | with_reducible assumption | with_reducible refine Ext.alloc ?_ _ | with_reducible refine Ext.drew ?_ | with_reducible refine Ext.drewN ?_ _ | ((with_reducible refine Ext.set ?_ ?_ _); (focus (first | (simp; done) | (simp; omega)))) | with_reducible refine Ext.trans ?_ (by assumption)))
        have kw5_0 := hw5.more (k := w.heap.size) (by first | assumption | (simp; done) | (simp; omega) | omega)
        obtain ⟨cw5_0, fw5_0⟩ := hw5.row (k := w.heap.size) (by first | assumption | (simp; done) | (simp; omega) | omega)
        have kw5_1 := hw5.more (k := w.heap.size + 1) (by first | assumption | (simp; done) | (simp; omega) | omega)
        obtain ⟨cw5_1, fw5_1⟩ := hw5.row (k := w.heap.size + 1) (by first | assumption | (simp; done) | (simp; omega) | omega)
        have kw5_2 := hw5.more (k := w1.heap.size) (by first | assumption | (simp; done) | (simp; omega) | omega)
        obtain ⟨cw5_2, fw5_2⟩ := hw5.row (k := w1.heap.size) (by first | assumption | (simp; done) | (simp; omega) | omega)
        generalize insC nx cs off data = ys at *
        have hs4 : w1.heap.size < w3.heap.size := Nat.lt_of_lt_of_le hs2 (by first | exact Nat.le_refl _ | exact hw3.size | exact Nat.le_trans hw3.size hw4.size)
        have hs5 : w1.heap.size < w5.heap.size := Nat.lt_of_lt_of_le hs4 (by have := hw5.size; simpa using this)
        have ho5 := hide (OwnC.chg (S := fun k => k = w1.heap.size) (OwnC.mono (lo' := w3.heap.size) (hi' := w5.heap.size) ho3 (by simp) (Nat.le_refl _)) (Chg.set (S := fun k => k = w1.heap.size) (p := ⟨w1.heap.size, 2, none⟩) (Or.inl rfl) (Chg.set (S := fun k => k = w1.heap.size) (p := ⟨w1.heap.size, 1, none⟩) (Or.inl rfl) (Chg.refl _ w5) (.int .i64 nx)) (.slice ao3 ys.length cap3)) (fun b h1 h2 h3 => by (try dsimp only at h3); omega))
        clear ho3
        go_wp2_with fail
        refine wp_region_seq (Ext _) (by kernel_rfl) (by kernel_rfl) ((Ext.refl _).drew) ?_
        iterate 15 (((first | (refine wpSeqS_off rfl (by rfl) ?_) | (refine wpSeqS_plain (v := ?_) rfl (by rfl) ?_ ?_; rotate_left; (focus (intro ws hws; obtain ⟨q0, p0⟩ := hws.row (k := w.heap.size + 1) (by first | assumption | (simp; done) | (simp; omega) | omega); obtain ⟨q1, p1⟩ := hws.row (k := w1.heap.size) (by first | assumption | (simp; done) | (simp; omega) | omega); go_simp; (try with_reducible rfl); done))) | (refine wpSeqS_call (v := ?_) 62 ?_ rfl (by rfl) ?_ ?_ ?_; rotate_left; rotate_left; (focus (intro ws hws; skip; go_simp; (try with_reducible rfl); done)); (focus (intro ws hws; refine (ReadyBytes_spec nx ao3 ys.length cap3 ys ws (ho5.out.read.ext hws) rfl (by omega) hwf.out).mono ?_; rintro e w' ⟨rfl, h2⟩; refine ⟨?_, hws.trans h2⟩; (try simp only [*]); (try with_reducible rfl); done))) | fail)); (try simp only [Act.put, List.getElem_toArray, List.getElem_cons_zero, List.getElem_cons_succ, List.setIfInBounds_toArray, List.set_cons_zero, List.set_cons_succ]))
        refine wpSeqS_done (by kernel_rfl) (fun w6 hw6 => ?_)
        have ho6 := hide (OwnC.chg (S := fun _ => False) ho5.out (hw6.chg _) (fun _ _ _ h => h))
        obtain ⟨x1_6, y1_6⟩ := hw6.row (k := w.heap.size + 1) (by simp; omega)
        obtain ⟨x2_6, y2_6⟩ := hw6.row (k := w1.heap.size) (by simp; omega)
        have hs6 : w5.heap.size ≤ w6.heap.size := by have := hw6.size; simpa using this
        have k6_1 : w.heap.size + 1 < w6.heap.size := by omega
        have k6_2 : w1.heap.size < w6.heap.size := by omega
        have hgX : Chg (fun k => k = w1.heap.size ∨ w.heap.size ≤ k) w w6 := Chg.trans (Chg.trans (Ext.chg xw5 _) (Chg.set (p := ⟨w1.heap.size, 2, none⟩) (Or.inl (Or.inl rfl)) (Chg.set (p := ⟨w1.heap.size, 1, none⟩) (Or.inl (Or.inl rfl)) (Chg.refl _ w5) _) _)) (hw6.chg _)
        clear ho5
        have r0 : w6.cell? ⟨w1.heap.size, 0, none⟩ = some (.int .i64 st) := (by rw [x2_6]; simp [go_sem, *])
        have r1 : w6.cell? ⟨w1.heap.size, 1, none⟩ = some (.int .i64 nx) := (by rw [x2_6]; simp [go_sem, *])
        have r2 : w6.cell? ⟨w1.heap.size, 2, none⟩ = some (.slice ao3 ys.length cap3) := (by rw [x2_6]; simp [go_sem, *])
        have r3 : w6.cell? ⟨w1.heap.size, 3, none⟩ = some (.int .i64 fi) := (by rw [x2_6]; simp [go_sem, *])
        have r4 : w6.cell? ⟨w1.heap.size, 4, none⟩ = some (.int .i64 (max hg (off + (data.size : Int)))) := (by rw [x2_6]; simp [go_sem, *])
        have r5 : w6.cell? ⟨w1.heap.size, 5, none⟩ = some (.int .i64 co) := (by rw [x2_6]; simp [go_sem, *])
        have rF : ∀ o, w6.frozen? ⟨w1.heap.size, o, none⟩ = false := fun o => (by rw [y2_6]; simp [go_sem, *])
        have s0 : w6.cell? ⟨w.heap.size + 1, 0, none⟩ = some (.int .i64 0) := (by rw [x1_6]; simp [go_sem, *])
        have s1 : w6.cell? ⟨w.heap.size + 1, 1, none⟩ = some (.int .i64 0) := (by rw [x1_6]; simp [go_sem, *])
        have s2 : w6.cell? ⟨w.heap.size + 1, 2, none⟩ = some (.slice none 0 0) := (by rw [x1_6]; simp [go_sem, *])
        have s3 : w6.cell? ⟨w.heap.size + 1, 3, none⟩ = some (.int .i64 0) := (by rw [x1_6]; simp [go_sem, *])
        have s4 : w6.cell? ⟨w.heap.size + 1, 4, none⟩ = some (.int .i64 0) := (by rw [x1_6]; simp [go_sem, *])
        have s5 : w6.cell? ⟨w.heap.size + 1, 5, none⟩ = some (.int .i64 0) := (by rw [x1_6]; simp [go_sem, *])
        have sF : ∀ o, w6.frozen? ⟨w.heap.size + 1, o, none⟩ = false := fun o => (by rw [y1_6]; simp [go_sem, *])
        have hneb : w1.heap.size ≠ w.heap.size + 1 := by omega
        have hneb2 : w.heap.size + 1 ≠ w1.heap.size := by omega
        clear x1_6 y1_6 x2_6 y2_6
        clear cw1_0 fw1_0 cw1_1 fw1_1 cw2_0 fw2_0 cw2_1 fw2_1 cw2_2 fw2_2 cw3_0 fw3_0 cw3_1 fw3_1 cw3_2 fw3_2 cw5_0 fw5_0 cw5_1 fw5_1 cw5_2 fw5_2
        go_wp2
        refine bodyPost_ret (v := .tuple #[.agg #[.int .i64 st, .int .i64 nx, .slice ao3 ys.length cap3, .int .i64 fi, .int .i64 (max hg (off + (data.size : Int))), .int .i64 co], .int .i64 0]) (by simp [results, Try.results34, go_sem, *]) rfl ⟨ao3, cap3, rfl, ?_, ?_⟩
        · refine OwnC.mono (OwnC.chg (S := fun k => k = w1.heap.size ∨ k = w.heap.size + 1) ho6.out (by repeat (first | with_reducible exact Chg.refl _ _ | with_reducible assumption | with_reducible refine Chg.alloc ?_ _ | with_reducible refine Chg.drew ?_ | ((with_reducible refine Chg.set ?_ ?_ _); (focus (first | (left; simp; done) | (left; simp; omega) | (left; omega) | (right; simp; done) | (right; simp; omega) | (right; omega)))))) (fun b h1 h2 h3 => by (try dsimp only at h3); omega)) (by omega) (by simp; omega)
        · exact Chg.ext (S := fun k => k = w1.heap.size ∨ w.heap.size ≤ k) (Chg.trans hgX (by repeat (first | with_reducible exact Chg.refl _ _ | with_reducible assumption | with_reducible refine Chg.alloc ?_ _ | with_reducible refine Chg.drew ?_ | ((with_reducible refine Chg.set ?_ ?_ _); (focus (first | (left; simp; done) | (left; simp; omega) | (left; omega) | (right; simp; done) | (right; simp; omega) | (right; omega))))))) (fun k hk h => by (try dsimp only at h); omega)
end Go.Proofs.Ytifhbchlmlaanaa

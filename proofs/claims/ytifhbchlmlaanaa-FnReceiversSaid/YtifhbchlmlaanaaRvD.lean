/-
  Plain facts on receivers and data: data that came leave a receiver, and data that come again change nothing. Conditions: each lemma bears its own.
-/
import Derived.Test.YtifhbchlmlaanaaRvQ
import Derived.Test.YtifhbchlmlaanaaRecvd
namespace Go.Proofs.Ytifhbchlmlaanaa
open Go.ChangeShapes Go.WideShapes Go.ChangeAt Go.RowKit
set_option linter.unusedSimpArgs false
set_option linter.unusedVariables false
theorem ready_end {nx : Int} {cs : List Ck} (h : isBuf nx cs = true) : nx + readyB nx cs ≤ endOf nx cs := by
  have hb := readyB_bd nx cs
  have hge := endOf_ge h
  by_cases h0 : readyB nx cs = 0
  · omega
  · obtain ⟨_, r2, r3, r4⟩ := readyB_pos (nx := nx) (cs := cs) (by omega)
    have h4 := last_can (isBuf_canon h) r2
    have h5 := endOf_pos h r2
    omega
/-- An end that contradicts nothing. -/
theorem contra_no {fi hg e : Int} {fin : Bool} (h : contra fi hg e fin = false) : (fi = -1 ∨ e ≤ fi) ∧ (fin = true → (fi = -1 ∨ e = fi) ∧ hg ≤ e) := by
  cases fin
  · refine ⟨?_, fun h => by cases h⟩
    by_cases h1 : fi = -1
    · exact Or.inl h1
    · right
      by_cases h2 : fi < e
      · simp [contra, h1, h2] at h
      · omega
  · by_cases h3 : e < hg
    · simp [contra, h3] at h
    · by_cases h1 : fi = -1
      · exact ⟨Or.inl h1, fun _ => ⟨Or.inl h1, by omega⟩⟩
      · by_cases h2 : e = fi
        · exact ⟨Or.inr (by omega), fun _ => ⟨Or.inr h2, by omega⟩⟩
        · simp [contra, h1, h2] at h
theorem contra_mk {fi hg e : Int} {fin : Bool} (h1 : fi = -1 ∨ e ≤ fi) (h2 : fin = true → (fi = -1 ∨ e = fi) ∧ hg ≤ e) : contra fi hg e fin = false := by
  have h3 : (fi != -1 && decide (fi < e)) = false := by
    rcases h1 with h | h
    · simp [h]
    · simp; omega
  unfold contra
  rw [h3]
  cases fin
  · rfl
  · obtain ⟨a, b⟩ := h2 rfl
    have b2 : decide (e < hg) = false := decide_eq_false (by omega)
    rcases a with a | a
    · simp [a, b2]
    · simp [a]; omega
theorem rdaSt_again (st nx fi : Int) (fin : Bool) (ys : List Ck) : rdaSt (rdaSt st nx fi fin ys) nx fi fin ys = rdaSt st nx fi fin ys := by
  unfold rdaSt
  by_cases h : (fi != -1 && (nx + readyB nx ys == fi)) = true
  · rw [if_pos h, if_pos h]
  · rw [if_neg h, if_neg h]
    split <;> rfl
theorem rdaFi_again (fi e : Int) (fin : Bool) : rdaFi (rdaFi fi e fin) e fin = rdaFi fi e fin := by
  cases fin <;> rfl
theorem rdaOk_mk {r : Rv} {off : Int} {data : ByteArray} (hI : rvIs r = true) (h0 : 0 ≤ off) (h1 : off + (data.size : Int) ≤ 4611686018427387903) : rdaOk r.st r.nx r.fi r.hg r.co off data r.cs = true := by
  unfold rdaOk
  rw [show recvIs r.st r.nx r.fi r.hg r.co r.cs = true from hI, decide_eq_true h0, decide_eq_true h1]
  rfl
theorem data_bad {r : Rv} {off : Int} {data : ByteArray} {fin : Bool} (hI : rvIs r = true) (h0 : 0 ≤ off) (h1 : off + (data.size : Int) ≤ 4611686018427387903) (hc : contra r.fi r.hg (off + (data.size : Int)) fin = true) :
    rdaW r off data fin = 6 ∧ rdaV r off data fin = r := by
  have hok := rdaOk_mk hI h0 h1
  have hgo : rdaGo r.st r.nx r.fi r.hg r.co off data fin r.cs = false := by unfold rdaGo; rw [hok, hc]; rfl
  refine ⟨?_, if_neg (by rw [hgo]; decide)⟩
  show (if rdaGo r.st r.nx r.fi r.hg r.co off data fin r.cs = true then 0 else rdaE r.st r.nx r.fi r.hg r.co off data fin r.cs) = 6
  rw [if_neg (by rw [hgo]; decide)]
  unfold rdaE
  rw [if_pos hok, if_pos hc]
theorem data_zero {r : Rv} {off : Int} {data : ByteArray} {fin : Bool} (hI : rvIs r = true) (h0 : 0 ≤ off) (h1 : off + (data.size : Int) ≤ 4611686018427387903) (hc : contra r.fi r.hg (off + (data.size : Int)) fin = false) :
    rdaW r off data fin = 0 := by
  have hok := rdaOk_mk hI h0 h1
  show (if rdaGo r.st r.nx r.fi r.hg r.co off data fin r.cs = true then 0 else rdaE r.st r.nx r.fi r.hg r.co off data fin r.cs) = 0
  split
  · rfl
  · unfold rdaE
    rw [if_pos hok, if_neg (by rw [hc]; decide)]
/-- What data that were taken leave. -/
theorem data_ok {r : Rv} {off : Int} {data : ByteArray} {fin : Bool} (hI : rvIs r = true) (h0 : 0 ≤ off) (h1 : off + (data.size : Int) ≤ 4611686018427387903) (hc : contra r.fi r.hg (off + (data.size : Int)) fin = false) :
    rvIs (rdaV r off data fin) = true ∧ contra (rdaV r off data fin).fi (rdaV r off data fin).hg (off + (data.size : Int)) fin = false ∧ rdaV (rdaV r off data fin) off data fin = rdaV r off data fin ∧ off + (data.size : Int) ≤ (rdaV r off data fin).hg := by
  obtain ⟨c1, c2⟩ := contra_no hc
  obtain ⟨⟨p1, p2, p3, p4, p5⟩, p6⟩ := recvIs_iff.1 (show recvIs r.st r.nx r.fi r.hg r.co r.cs = true from hI)
  have hok := rdaOk_mk hI h0 h1
  have hnx := recv_nx (show recvIs r.st r.nx r.fi r.hg r.co r.cs = true from hI)
  have hre := ready_end p1
  rcases Bool.eq_false_or_eq_true (rdaGo r.st r.nx r.fi r.hg r.co off data fin r.cs) with hgo | hgo
  · have e : rdaV r off data fin = ⟨rdaSt r.st r.nx (rdaFi r.fi (off + (data.size : Int)) fin) fin (insC r.nx r.cs off data), r.nx, rdaFi r.fi (off + (data.size : Int)) fin, max r.hg (off + (data.size : Int)), r.co, insC r.nx r.cs off data⟩ := if_pos hgo
    have hs : r.st = 0 ∨ r.st = 1 := by
      unfold rdaGo at hgo
      rw [hok, hc] at hgo
      simpa using hgo
    have b1 := insC_isBuf (off := off) (data := data) p1
    have b2 := (insC_end (off := off) (data := data) p1).2
    have hF : rdaFi r.fi (off + (data.size : Int)) fin = -1 ∨ (max r.hg (off + (data.size : Int)) ≤ rdaFi r.fi (off + (data.size : Int)) fin ∧ rdaFi r.fi (off + (data.size : Int)) fin ≤ 4611686018427387903) := by
      cases fin
      · show r.fi = -1 ∨ (_ ≤ r.fi ∧ r.fi ≤ _)
        omega
      · show off + (data.size : Int) = -1 ∨ (_ ≤ off + (data.size : Int) ∧ off + (data.size : Int) ≤ _)
        have := (c2 rfl).2
        omega
    have hS : (rdaSt r.st r.nx (rdaFi r.fi (off + (data.size : Int)) fin) fin (insC r.nx r.cs off data) = 0 ∧ rdaFi r.fi (off + (data.size : Int)) fin = -1 ∧ r.co = 0) ∨ (rdaSt r.st r.nx (rdaFi r.fi (off + (data.size : Int)) fin) fin (insC r.nx r.cs off data) = 1 ∧ rdaFi r.fi (off + (data.size : Int)) fin ≠ -1 ∧ r.nx + readyB r.nx (insC r.nx r.cs off data) ≠ rdaFi r.fi (off + (data.size : Int)) fin ∧ r.co = 0) ∨ (rdaSt r.st r.nx (rdaFi r.fi (off + (data.size : Int)) fin) fin (insC r.nx r.cs off data) = 2 ∧ rdaFi r.fi (off + (data.size : Int)) fin ≠ -1 ∧ r.nx + readyB r.nx (insC r.nx r.cs off data) = rdaFi r.fi (off + (data.size : Int)) fin ∧ r.co = 0) := by
      have hco : r.co = 0 := by omega
      generalize hR : readyB r.nx (insC r.nx r.cs off data) = R
      unfold rdaSt
      rw [hR]
      by_cases hw : (rdaFi r.fi (off + (data.size : Int)) fin != -1 && (r.nx + R == rdaFi r.fi (off + (data.size : Int)) fin)) = true
      · rw [if_pos hw]
        simp only [Bool.and_eq_true, bne_iff_ne, beq_iff_eq] at hw
        exact Or.inr (Or.inr ⟨rfl, hw.1, hw.2, hco⟩)
      · rw [if_neg hw]
        have hw' : rdaFi r.fi (off + (data.size : Int)) fin ≠ -1 → r.nx + R ≠ rdaFi r.fi (off + (data.size : Int)) fin := by
          intro a b
          apply hw
          rw [Bool.and_eq_true]
          exact ⟨by simpa using a, by simpa using b⟩
        cases fin
        · rw [if_neg (by decide)]
          have eF : rdaFi r.fi (off + (data.size : Int)) false = r.fi := rfl
          rw [eF] at hw' ⊢
          rcases hs with hs | hs
          · exact Or.inl ⟨hs, by omega, hco⟩
          · have hn : r.fi ≠ -1 := by omega
            exact Or.inr (Or.inl ⟨hs, hn, hw' hn, hco⟩)
        · rw [if_pos rfl]
          have eF : rdaFi r.fi (off + (data.size : Int)) true = off + (data.size : Int) := rfl
          rw [eF] at hw' ⊢
          have hn : off + (data.size : Int) ≠ -1 := by omega
          exact Or.inr (Or.inl ⟨rfl, hn, hw' hn, hco⟩)
    have hIs : rvIs (rdaV r off data fin) = true := by
      rw [e]
      show recvIs _ _ _ _ _ _ = true
      refine recvIs_iff.2 ⟨⟨b1, by dsimp only; omega, by dsimp only; omega, p4, hF⟩, ?_⟩
      rcases hS with h | h | h
      · exact Or.inl h
      · exact Or.inr (Or.inl h)
      · exact Or.inr (Or.inr (Or.inl h))
    have hC : contra (rdaV r off data fin).fi (rdaV r off data fin).hg (off + (data.size : Int)) fin = false := by
      rw [e]
      dsimp only
      refine contra_mk ?_ ?_
      · omega
      · intro hf
        subst hf
        show (off + (data.size : Int) = -1 ∨ off + (data.size : Int) = off + (data.size : Int)) ∧ _
        have := (c2 rfl).2
        exact ⟨Or.inr rfl, by omega⟩
    refine ⟨hIs, hC, ?_, by rw [e]; dsimp only; omega⟩
    rcases Bool.eq_false_or_eq_true (rdaGo (rdaV r off data fin).st (rdaV r off data fin).nx (rdaV r off data fin).fi (rdaV r off data fin).hg (rdaV r off data fin).co off data fin (rdaV r off data fin).cs) with hg2 | hg2
    · have e2 : rdaV (rdaV r off data fin) off data fin = _ := if_pos hg2
      rw [e2, e]
      dsimp only
      rw [insC_again, rdaFi_again, rdaSt_again]
      have em : max (max r.hg (off + (data.size : Int))) (off + (data.size : Int)) = max r.hg (off + (data.size : Int)) := by omega
      rw [em]
    · exact if_neg (by rw [hg2]; decide)
  · have e : rdaV r off data fin = r := if_neg (by rw [hgo]; decide)
    rw [e]
    refine ⟨hI, hc, e, ?_⟩
    have hs : ¬ (r.st = 0 ∨ r.st = 1) := by
      intro h
      unfold rdaGo at hgo
      rw [hok, hc] at hgo
      have h2 : (r.st == 0 || r.st == 1) = true := by simpa using h
      rw [h2] at hgo
      cases hgo
    rcases p6 with h | h | h | h | h
    · omega
    · omega
    · omega
    · omega
    · omega
theorem newB_zero {r : Rv} {e : Int} (h : e ≤ r.hg) : newB r.st r.nx r.fi r.hg r.co e r.cs = 0 := by
  unfold newB
  split <;> omega
end Go.Proofs.Ytifhbchlmlaanaa

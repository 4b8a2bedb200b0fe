/-
  Contracts of ReceiveData. Conditions: the chunks can be read.
-/
import Derived.Test.YtjnbiacnhimkgaaRecvReset
import Derived.Test.YtjnbiacnhimkgaaInsS
namespace Go.Proofs.Ytjnbiacnhimkgaa
open Go.ChangeShapes Go.WideShapes Go.ChangeAt Go.RowKit
set_option linter.unusedSimpArgs false
set_option linter.unusedVariables false
theorem canon_buf : ∀ {cs : List Ck} {lo : Int}, Canon lo cs → (∀ c ∈ cs, c.1 + (c.2.size : Int) ≤ 4611686018427387903) → bufFrom lo cs = true
  | [], _, _, _ => rfl
  | c :: cs, lo, h, k => by
    have h1 := h.1
    have h2 := h.2.1
    have h3 := k c (by simp)
    rw [bufFrom, canon_buf h.2.2 (fun d hd => k d (by simp [hd]))]
    simp only [Bool.and_true, Bool.and_eq_true, decide_eq_true_eq]
    exact ⟨h2, h1, h3⟩
theorem rgsCk_top {f : Int → UInt8} {m lo : Int} : ∀ {l : List Rg}, CanR lo l → TopR m l → ∀ c ∈ rgsCk f l, c.1 + (c.2.size : Int) ≤ m
  | [], _, _, c, hc => by simp [rgsCk] at hc
  | r :: rs, h, ht, c, hc => by
    have e : rgsCk f (r :: rs) = (r.1, bytesOf f r.1 (r.2 - r.1).toNat) :: rgsCk f rs := rfl
    rw [e] at hc
    rcases List.mem_cons.1 hc with rfl | hc
    · have h2 := h.2.1
      have h3 := ht r (by simp)
      have hz := bytesOf_size f r.1 (r.2 - r.1).toNat
      dsimp only
      rw [hz]
      omega
    · exact rgsCk_top h.2.2 (fun x hx => ht x (by simp [hx])) c hc
theorem insOk_parts {nx : Int} {cs : List Ck} {off : Int} {data : ByteArray} (h : insOk nx cs off data = true) : isBuf nx cs = true ∧ (0 < data.size ∧ 0 ≤ off ∧ off + (data.size : Int) ≤ 4611686018427387903 ∧ nx < off + (data.size : Int)) := by
  simp only [insOk, Bool.and_eq_true, decide_eq_true_eq] at h
  exact h
/-- What is inserted into a buffer is one. -/
theorem insC_isBuf {nx : Int} {cs : List Ck} {off : Int} {data : ByteArray} (h : isBuf nx cs = true) : isBuf nx (insC nx cs off data) = true := by
  unfold insC
  split
  · rename_i hk
    obtain ⟨_, _, h0, h1, h2⟩ := insOk_parts hk
    rw [ins_same (isBuf_canon h) (by omega), insS_R]
    have hc : CanR nx (insR nx cs off data) := addRec_can _ _ nx (ckRgs_can (isBuf_canon h)) (by show nx ≤ max off nx; omega) (by show max off nx < off + (data.size : Int); omega)
    simp only [isBuf, Bool.and_eq_true]
    refine ⟨?_, canon_buf (rgsCk_canon _ hc) (rgsCk_top hc (insR_top h h1))⟩
    simp only [isBuf, Bool.and_eq_true] at h
    exact h.1
  · exact h
theorem wb_wf {cs : List Ck} (h : WB cs) : WfC cs := fun c hc => by
  have := h c hc
  omega
theorem insC_wf {nx : Int} {cs : List Ck} {off : Int} {data : ByteArray} (h : WfC cs) : WfC (insC nx cs off data) := by
  by_cases hk : insOk nx cs off data = true
  · exact wb_wf (isBuf_wb (insC_isBuf (insOk_parts hk).1))
  · rw [insC, if_neg hk]; exact h
theorem insC_length (nx : Int) (cs : List Ck) (off : Int) (data : ByteArray) : (insC nx cs off data).length ≤ cs.length + 1 := by
  by_cases hk : insOk nx cs off data = true
  · obtain ⟨hb, _, h0, h1, h2⟩ := insOk_parts hk
    rw [insC, if_pos hk, ins_same (isBuf_canon hb) (by omega), insS_R, rgsCk_length]
    have := addRec_length (ckRgs cs) (max off nx, off + (data.size : Int))
    rw [ckRgs_length] at this
    exact this
  · rw [insC, if_neg hk]; omega
/-- Are the data taken note of? What does it answer? -/
def rdaOk (st nx fi hg co off : Int) (data : ByteArray) (cs : List Ck) : Bool := recvIs st nx fi hg co cs && (decide (0 ≤ off) && decide (off + (data.size : Int) ≤ 4611686018427387903))
def rdaE (st nx fi hg co off : Int) (data : ByteArray) (fin : Bool) (cs : List Ck) : Int := if rdaOk st nx fi hg co off data cs = true then (if contra fi hg (off + (data.size : Int)) fin = true then 6 else 0) else 7
def rdaGo (st nx fi hg co off : Int) (data : ByteArray) (fin : Bool) (cs : List Ck) : Bool := rdaOk st nx fi hg co off data cs && (!contra fi hg (off + (data.size : Int)) fin && (st == 0 || st == 1))
def rdaFi (fi e : Int) (fin : Bool) : Int := if fin = true then e else fi
def rdaSt (st nx fi : Int) (fin : Bool) (ys : List Ck) : Int := if (fi != -1 && (nx + readyB nx ys == fi)) = true then 2 else if fin = true then 1 else st
end Go.Proofs.Ytjnbiacnhimkgaa

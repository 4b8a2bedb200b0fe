/-
  Plain facts on receivers: what a reset, a read and data leave is a receiver; data that come again change nothing. Conditions: each lemma bears its own.
-/
import Derived.Test.YtjnbiacnhimkgaaRv
namespace Go.Proofs.Ytjnbiacnhimkgaa
open Go.ChangeShapes Go.WideShapes Go.ChangeAt Go.RowKit
set_option linter.unusedSimpArgs false
set_option linter.unusedVariables false
/-- When is it a receiver? -/
theorem recvIs_iff {st nx fi hg co : Int} {cs : List Ck} : recvIs st nx fi hg co cs = true ↔
    (isBuf nx cs = true ∧ endOf nx cs ≤ hg ∧ (0 ≤ hg ∧ hg ≤ 4611686018427387903) ∧ (0 ≤ co ∧ co ≤ 4611686018427387903) ∧ (fi = -1 ∨ (hg ≤ fi ∧ fi ≤ 4611686018427387903))) ∧
    ((st = 0 ∧ fi = -1 ∧ co = 0) ∨ (st = 1 ∧ fi ≠ -1 ∧ nx + readyB nx cs ≠ fi ∧ co = 0) ∨ (st = 2 ∧ fi ≠ -1 ∧ nx + readyB nx cs = fi ∧ co = 0) ∨ (st = 3 ∧ fi ≠ -1 ∧ nx + readyB nx cs = fi ∧ co = 0 ∧ cs.length = 0) ∨ ((st = 4 ∨ st = 5) ∧ fi = hg ∧ cs.length = 0)) := by
  unfold recvIs
  rw [Bool.and_eq_true]
  refine and_congr ?_ ?_
  · unfold recvOk inB
    simp only [Bool.and_eq_true, Bool.or_eq_true, decide_eq_true_eq, beq_iff_eq]
  · unfold whole
    by_cases h0 : st = 0
    · subst h0; simp
    by_cases h1 : st = 1
    · subst h1; simp
      intro h _; simp [h]
    by_cases h2 : st = 2
    · subst h2; simp [and_assoc]
    by_cases h3 : st = 3
    · subst h3; simp [and_assoc]
    by_cases h4 : st = 4 ∨ st = 5
    · rw [if_neg h0, if_neg h1, if_neg h2, if_neg h3, if_pos h4]
      simp [h0, h1, h2, h3, h4]
    · rw [if_neg h0, if_neg h1, if_neg h2, if_neg h3, if_neg h4]
      simp [h0, h1, h2, h3, h4]
theorem isBuf_nil {nx : Int} {cs : List Ck} (h : isBuf nx cs = true) : isBuf nx [] = true := by
  simp only [isBuf, Bool.and_eq_true] at h ⊢
  exact ⟨h.1, rfl⟩
theorem endOf_nil (nx : Int) : endOf nx [] = nx := by simp [endOf]
theorem readyB_nil (nx : Int) : readyB nx [] = 0 := by simp [readyB]
theorem endOf_ge {nx : Int} {cs : List Ck} (h : isBuf nx cs = true) : nx ≤ endOf nx cs := by
  unfold endOf
  split
  · rename_i k
    have := isBuf_at h (k := cs.length - 1) (by omega)
    omega
  · exact Int.le_refl _
/-- The end of a list in order. -/
theorem last_can {lo : Int} : ∀ {cs : List Ck} {k : Nat}, Canon lo cs → k < cs.length → (cs.getD k dk).1 + ((cs.getD k dk).2.size : Int) ≤ (cs.getD (cs.length - 1) dk).1 + ((cs.getD (cs.length - 1) dk).2.size : Int)
  | [], _, _, h => absurd h (by simp)
  | [c], 0, _, _ => Int.le_refl _
  | c :: d :: ds, 0, h, _ => by
    have h1 := last_can (lo := c.1 + c.2.size + 1) (cs := d :: ds) (k := 0) h.2.2 (by simp)
    have e : (c :: d :: ds).getD ((c :: d :: ds).length - 1) dk = (d :: ds).getD ((d :: ds).length - 1) dk := by simp [List.getD]
    rw [e]
    have h2 := h.2.2.1
    have h3 := h.2.2.2.1
    have e0 : (c :: d :: ds).getD 0 dk = c := rfl
    have e1 : (d :: ds).getD 0 dk = d := rfl
    rw [e0]
    rw [e1] at h1
    omega
  | c :: d :: ds, k + 1, h, hk => by
    have h1 := last_can (lo := c.1 + c.2.size + 1) (cs := d :: ds) (k := k) h.2.2 (by simpa using hk)
    have e : (c :: d :: ds).getD ((c :: d :: ds).length - 1) dk = (d :: ds).getD ((d :: ds).length - 1) dk := by simp [List.getD]
    have e0 : (c :: d :: ds).getD (k + 1) dk = (d :: ds).getD k dk := by simp [List.getD]
    rw [e, e0]
    exact h1
/-- Every place with a byte lies ahead of the end; the last byte lies there. -/
theorem endOf_at {nx : Int} {cs : List Ck} (h : isBuf nx cs = true) {n : Int} {b : UInt8} (hb : atC cs n = some b) : nx ≤ n ∧ n < endOf nx cs := by
  have hc := isBuf_canon h
  have hex : ∃ k, k < cs.length ∧ (cs.getD k dk).1 ≤ n ∧ n < (cs.getD k dk).1 + (cs.getD k dk).2.size := by
    clear h hc
    induction cs with
    | nil => cases hb
    | cons c cs ih =>
      rw [atC] at hb
      split at hb
      · rename_i k
        exact ⟨0, by simp, k⟩
      · obtain ⟨k, h1, h2⟩ := ih hb
        exact ⟨k + 1, by simpa using h1, by simpa [List.getD] using h2⟩
  obtain ⟨k, hk, h1, h2⟩ := hex
  have h3 := isBuf_at h hk
  have h4 := last_can hc hk
  refine ⟨by omega, ?_⟩
  unfold endOf
  rw [if_pos ⟨h, by omega⟩]
  omega
theorem atC_mem {lo : Int} : ∀ {cs : List Ck} {k : Nat} {n : Int}, Srt lo cs → k < cs.length → (cs.getD k dk).1 ≤ n → n < (cs.getD k dk).1 + (cs.getD k dk).2.size → ∃ b, atC cs n = some b
  | [], _, _, _, h, _, _ => absurd h (by simp)
  | c :: cs, 0, n, _, _, h1, h2 => atC_head h1 h2
  | c :: cs, k + 1, n, h, hk, h1, h2 => by
    have e0 : (c :: cs).getD (k + 1) dk = cs.getD k dk := by simp [List.getD]
    rw [e0] at h1 h2
    obtain ⟨b, hb⟩ := atC_mem h.2.2 (by simpa using hk) h1 h2
    by_cases hc : c.1 ≤ n ∧ n < c.1 + c.2.size
    · exact atC_head hc.1 hc.2
    · exact ⟨b, by rw [atC, if_neg hc]; exact hb⟩
theorem endOf_last {nx : Int} {cs : List Ck} (h : isBuf nx cs = true) : endOf nx cs = nx ∨ ∃ b, atC cs (endOf nx cs - 1) = some b := by
  by_cases hp : 0 < cs.length
  · right
    have e : endOf nx cs = (cs.getD (cs.length - 1) dk).1 + ((cs.getD (cs.length - 1) dk).2.size : Int) := if_pos ⟨h, hp⟩
    have h1 := isBuf_at h (k := cs.length - 1) (by omega)
    refine atC_mem (isBuf_canon h).srt (k := cs.length - 1) (by omega) ?_ ?_ <;> rw [e] <;> omega
  · left
    unfold endOf
    rw [if_neg (by omega)]
/-- What lies in a buffer behind an insertion. -/
theorem insC_at {nx : Int} {cs : List Ck} {off : Int} {data : ByteArray} (hk : insOk nx cs off data = true) (n : Int) : atC (insC nx cs off data) n = (atC cs n).or (if max off nx ≤ n ∧ n < off + data.size then data.data[(n - off).toNat]? else none) := by
  obtain ⟨hb, _, h0, h1, h2⟩ := insOk_parts hk
  have s1 : Srt nx (gapL off data (max off nx) cs) := gapL_srt cs _ nx (isBuf_canon hb).srt (by omega) (by omega) (Or.inr trivial)
  rw [insC, if_pos hk]
  show atC (joined (gapL off data (max off nx) cs)) n = _
  rw [joined_at s1, gapL_at cs _ nx (isBuf_canon hb).srt (by omega)]
theorem insC_end {nx : Int} {cs : List Ck} {off : Int} {data : ByteArray} (h : isBuf nx cs = true) : endOf nx cs ≤ endOf nx (insC nx cs off data) ∧ endOf nx (insC nx cs off data) ≤ max (endOf nx cs) (off + (data.size : Int)) := by
  have hy := insC_isBuf (off := off) (data := data) h
  have hge := endOf_ge h
  have hgy := endOf_ge hy
  by_cases hk : insOk nx cs off data = true
  · have hat := insC_at hk
    constructor
    · rcases endOf_last h with e | ⟨b, hb⟩
      · omega
      · have := (endOf_at hy (n := endOf nx cs - 1) (b := b) (by rw [hat, hb]; rfl)).2
        omega
    · rcases endOf_last hy with e | ⟨b, hb⟩
      · omega
      · rw [hat] at hb
        cases hc : atC cs (endOf nx (insC nx cs off data) - 1) with
        | some b' =>
          have := (endOf_at h hc).2
          omega
        | none =>
          rw [hc, Option.none_or] at hb
          split at hb
          · rename_i q; omega
          · cases hb
  · rw [insC, if_neg hk]
    omega
/-- Data that come again change nothing. -/
theorem insC_again {nx : Int} {cs : List Ck} {off : Int} {data : ByteArray} : insC nx (insC nx cs off data) off data = insC nx cs off data := by
  by_cases hk : insOk nx cs off data = true
  · have hb := (insOk_parts hk).1
    have hy := insC_isBuf (off := off) (data := data) hb
    by_cases hk2 : insOk nx (insC nx cs off data) off data = true
    · have hy2 := insC_isBuf (off := off) (data := data) hy
      refine canon_ext (isBuf_canon hy2) (isBuf_canon hy) fun n => ?_
      rw [insC_at hk2, insC_at hk]
      cases atC cs n with
      | some b => rfl
      | none => simp
    · rw [insC, if_neg hk2]
  · have e : insC nx cs off data = cs := if_neg hk
    rw [e, e]
theorem recv_nx {st nx fi hg co : Int} {cs : List Ck} (h : recvIs st nx fi hg co cs = true) : nx ≤ hg := by
  obtain ⟨⟨h1, h2, _⟩, _⟩ := recvIs_iff.1 h
  have := endOf_ge h1
  omega
/-- What a reset that was taken note of leaves. -/
theorem reset_ok {r : Rv} {k f : Int} (hI : recvIs r.st r.nx r.fi r.hg r.co r.cs = true) (h0 : rrW r k f = 0) :
    recvIs (rrV r k f).st (rrV r k f).nx (rrV r k f).fi (rrV r k f).hg (rrV r k f).co (rrV r k f).cs = true ∧ (rrV r k f).fi = f ∧ (1 < r.st → rrV r k f = r) ∧ (r.st ≤ 1 → (rrV r k f).st = 4 ∧ (rrV r k f).cs = []) := by
  obtain ⟨⟨p1, p2, p3, p4, p5⟩, p6⟩ := recvIs_iff.1 hI
  have hnx := recv_nx hI
  rcases Bool.eq_false_or_eq_true (rrGo r.st r.nx r.fi r.hg r.co k f r.cs) with hgo | hgo
  · have e : rrV r k f = ⟨4, r.nx, f, f, k, []⟩ := if_pos hgo
    rw [e]
    simp only [rrGo, rrOk, Bool.and_eq_true, Bool.not_eq_true', Bool.or_eq_true, beq_iff_eq] at hgo
    obtain ⟨⟨_, hk, hf⟩, hcn, hs⟩ := hgo
    have hf' := inB_true hf
    have hk' := inB_true hk
    have hcn2 : ¬ f < r.hg := fun hlt => by simp [contra, hlt] at hcn
    refine ⟨recvIs_iff.2 ⟨⟨isBuf_nil p1, ?_, hf', hk', Or.inr ⟨Int.le_refl _, hf'.2⟩⟩, Or.inr (Or.inr (Or.inr (Or.inr ⟨Or.inl rfl, rfl, rfl⟩)))⟩, rfl, fun h => by omega, fun _ => ⟨rfl, rfl⟩⟩
    show endOf r.nx [] ≤ f
    rw [endOf_nil]
    omega
  · have e : rrV r k f = r := if_neg (by simp [hgo])
    have e2 : rrW r k f = rrE r.st r.nx r.fi r.hg r.co k f r.cs := if_neg (by simp [hgo])
    rw [e2] at h0
    rw [e]
    have hok : rrOk r.st r.nx r.fi r.hg r.co k f r.cs = true := by
      rcases Bool.eq_false_or_eq_true (rrOk r.st r.nx r.fi r.hg r.co k f r.cs) with h | h
      · exact h
      · simp [rrE, h] at h0
    have hcn : contra r.fi r.hg f true = false := by
      rcases Bool.eq_false_or_eq_true (contra r.fi r.hg f true) with h | h
      · simp [rrE, hok, h] at h0
      · exact h
    have hs : 1 < r.st := by
      simp only [rrGo, hok, hcn, Bool.not_false, Bool.true_and, Bool.or_eq_false_iff, beq_eq_false_iff_ne] at hgo
      omega
    refine ⟨hI, ?_, fun _ => rfl, fun h => by omega⟩
    have hfi : r.fi ≠ -1 := by omega
    have h1 : (r.fi != -1) = true := by simpa using hfi
    simp [contra, h1] at hcn
    omega
theorem bufFrom_mono {l l' : Int} : ∀ {cs : List Ck}, bufFrom l cs = true → l' ≤ l → bufFrom l' cs = true
  | [], _, _ => rfl
  | c :: cs, h, hl => by
    simp only [bufFrom, Bool.and_eq_true, decide_eq_true_eq] at h ⊢
    exact ⟨h.1, by omega, h.2.2⟩
theorem extract_size {s : ByteArray} {q : Nat} (h : q ≤ s.size) : (s.extract q s.size).size = s.size - q := by
  rw [ByteArray.size_extract]; omega
theorem endOf_pos {nx : Int} {cs : List Ck} (h : isBuf nx cs = true) (hl : 0 < cs.length) : endOf nx cs = (cs.getD (cs.length - 1) dk).1 + ((cs.getD (cs.length - 1) dk).2.size : Int) := if_pos ⟨h, hl⟩
/-- What a take leaves. -/
theorem take_ok {nx q : Int} {cs : List Ck} (h : isBuf nx cs = true) :
    isBuf (takeX nx q cs) (takeC nx q cs) = true ∧ takeX nx q cs + readyB (takeX nx q cs) (takeC nx q cs) = nx + readyB nx cs ∧ endOf (takeX nx q cs) (takeC nx q cs) ≤ max (endOf nx cs) nx ∧ nx ≤ takeX nx q cs ∧ takeX nx q cs ≤ nx + readyB nx cs ∧ (takeC nx q cs).length ≤ cs.length := by
  have hb := readyB_bd nx cs
  have hge := endOf_ge h
  have hlen := takeC_length nx q cs
  have hN : 0 ≤ takeN nx q cs ∧ takeN nx q cs ≤ readyB nx cs := by unfold takeN; omega
  by_cases h0 : takeN nx q cs = 0
  · have e1 : takeX nx q cs = nx := by unfold takeX; omega
    have e2 : takeC nx q cs = cs := by unfold takeC; rw [if_pos h0]
    rw [e1, e2]
    exact ⟨h, rfl, by omega, by omega, by omega, Nat.le_refl _⟩
  · have hp : 0 < readyB nx cs := by omega
    obtain ⟨r1, r2, r3, r4⟩ := readyB_pos hp
    rcases cs with _ | ⟨c, cs⟩
    · simp at r2
    have e0 : (c :: cs).getD 0 dk = c := rfl
    rw [e0] at r3 r4
    have hc := isBuf_canon h
    have hbf := h
    simp only [isBuf, Bool.and_eq_true, bufFrom, decide_eq_true_eq] at hbf
    obtain ⟨hn, b1, b2, b3, b4⟩ := hbf
    have hn' := inB_true hn
    have hX : takeX nx q (c :: cs) = nx + takeN nx q (c :: cs) := rfl
    have hend : endOf nx (c :: cs) = ((c :: cs).getD ((c :: cs).length - 1) dk).1 + (((c :: cs).getD ((c :: cs).length - 1) dk).2.size : Int) := if_pos ⟨h, by simp⟩
    by_cases h1 : takeN nx q (c :: cs) = (c.2.size : Int)
    · have e2 : takeC nx q (c :: cs) = cs := by unfold takeC; rw [if_neg h0, e0, if_pos h1]; rfl
      have hbt : isBuf (takeX nx q (c :: cs)) cs = true := by
        simp only [isBuf, Bool.and_eq_true]
        refine ⟨inB_mk (by omega) (by omega), bufFrom_mono b4 (by omega)⟩
      rw [e2]
      have hr0 : readyB (takeX nx q (c :: cs)) cs = 0 := by
        unfold readyB
        rw [if_neg]
        rintro ⟨_, k1, k2⟩
        rcases cs with _ | ⟨d, ds⟩
        · simp at k1
        · simp only [bufFrom, Bool.and_eq_true, decide_eq_true_eq] at b4
          have e1 : (d :: ds).getD 0 dk = d := rfl
          rw [e1] at k2
          omega
      refine ⟨hbt, by omega, ?_, by omega, by omega, by simp⟩
      rcases cs with _ | ⟨d, ds⟩
      · rw [endOf_nil]
        have : endOf nx [c] = c.1 + c.2.size := by rw [hend]; rfl
        omega
      · have : endOf (takeX nx q (c :: d :: ds)) (d :: ds) = ((d :: ds).getD ((d :: ds).length - 1) dk).1 + (((d :: ds).getD ((d :: ds).length - 1) dk).2.size : Int) := if_pos ⟨hbt, by simp⟩
        rw [this]
        have e : (c :: d :: ds).getD ((c :: d :: ds).length - 1) dk = (d :: ds).getD ((d :: ds).length - 1) dk := by simp [List.getD]
        rw [e] at hend
        omega
    · have e2 : takeC nx q (c :: cs) = (nx + takeN nx q (c :: cs), c.2.extract (takeN nx q (c :: cs)).toNat c.2.size) :: cs := by unfold takeC; rw [if_neg h0, e0, if_neg h1]; rfl
      have hz := extract_size (s := c.2) (q := (takeN nx q (c :: cs)).toNat) (by omega)
      have hbt : isBuf (takeX nx q (c :: cs)) (takeC nx q (c :: cs)) = true := by
        rw [e2]
        simp only [isBuf, Bool.and_eq_true, bufFrom, decide_eq_true_eq]
        rw [hz]
        refine ⟨inB_mk (by omega) (by omega), by omega, by omega, by omega, bufFrom_mono b4 (by omega)⟩
      have hr1 : readyB (takeX nx q (c :: cs)) (takeC nx q (c :: cs)) = (c.2.size : Int) - takeN nx q (c :: cs) := by
        unfold readyB
        rw [if_pos ⟨hbt, by rw [e2]; simp, by rw [e2]; rfl⟩, e2]
        show ((c.2.extract (takeN nx q (c :: cs)).toNat c.2.size).size : Int) = _
        rw [hz]
        omega
      refine ⟨hbt, by omega, ?_, by omega, by omega, hlen⟩
      have hend2 : endOf (takeX nx q (c :: cs)) (takeC nx q (c :: cs)) = ((takeC nx q (c :: cs)).getD ((takeC nx q (c :: cs)).length - 1) dk).1 + (((takeC nx q (c :: cs)).getD ((takeC nx q (c :: cs)).length - 1) dk).2.size : Int) := if_pos ⟨hbt, by rw [e2]; simp⟩
      rw [hend2, hend, e2]
      rcases cs with _ | ⟨d, ds⟩
      · show nx + takeN nx q [c] + ((c.2.extract (takeN nx q [c]).toNat c.2.size).size : Int) ≤ max (c.1 + (c.2.size : Int)) nx
        rw [hz]
        omega
      · have e : ∀ x : Ck, (x :: d :: ds).getD ((x :: d :: ds).length - 1) dk = (d :: ds).getD ((d :: ds).length - 1) dk := fun x => by simp [List.getD]
        rw [e, e]
        omega
/-- What a read leaves. -/
theorem read_ok {r : Rv} {q : Int} (hI : recvIs r.st r.nx r.fi r.hg r.co r.cs = true) :
    recvIs (rdV r q).st (rdV r q).nx (rdV r q).fi (rdV r q).hg (rdV r q).co (rdV r q).cs = true ∧ r.st ≤ (rdV r q).st := by
  obtain ⟨⟨p1, p2, p3, p4, p5⟩, p6⟩ := recvIs_iff.1 hI
  have hnx := recv_nx hI
  obtain ⟨t1, t2, t3, t4, t5, t6⟩ := take_ok (q := q) p1
  have hge := endOf_ge p1
  have hE : endOf (takeX r.nx q r.cs) (takeC r.nx q r.cs) ≤ r.hg := by omega
  by_cases h4 : r.st = 4
  · have e4 : (r.st == 4) = true := by simp [h4]
    have e : rdV r q = ⟨5, r.nx, r.fi, r.hg, r.co, r.cs⟩ := by
      unfold rdV rdT rdX rdC rdGo
      simp [hI, e4]
    rw [e]
    refine ⟨recvIs_iff.2 ⟨⟨p1, p2, p3, p4, p5⟩, ?_⟩, by show r.st ≤ 5; omega⟩
    refine Or.inr (Or.inr (Or.inr (Or.inr ⟨Or.inr rfl, ?_, ?_⟩))) <;> dsimp only <;> omega
  · have e4 : (r.st == 4) = false := by simp [h4]
    have hg : rdGo r.st r.nx r.fi r.hg r.co r.cs = true := by simp [rdGo, hI, e4]
    by_cases h2 : r.st = 2 ∧ takeX r.nx q r.cs = r.fi
    · have e : rdV r q = ⟨3, takeX r.nx q r.cs, r.fi, r.hg, r.co, takeC r.nx q r.cs⟩ := by
        have eT : rdT r.st r.nx r.fi r.hg r.co q r.cs = 3 := by unfold rdT; rw [if_pos hI, if_neg (by simp [e4]), if_pos (by simp [h2.1, h2.2])]
        have eX : rdX r.st r.nx r.fi r.hg r.co q r.cs = takeX r.nx q r.cs := if_pos hg
        have eC : rdC r.st r.nx r.fi r.hg r.co q r.cs = takeC r.nx q r.cs := if_pos hg
        unfold rdV
        rw [eT, eX, eC]
      rw [e]
      refine ⟨recvIs_iff.2 ⟨⟨t1, hE, p3, p4, p5⟩, Or.inr (Or.inr (Or.inr (Or.inl ⟨rfl, ?_, ?_, ?_, ?_⟩)))⟩, by show r.st ≤ 3; omega⟩
      · show r.fi ≠ -1; omega
      · show takeX r.nx q r.cs + readyB (takeX r.nx q r.cs) (takeC r.nx q r.cs) = r.fi; omega
      · show r.co = 0; omega
      · show (takeC r.nx q r.cs).length = 0
        rcases hl : takeC r.nx q r.cs with _ | ⟨c, cs⟩
        · rfl
        · exfalso
          have hl0 : 0 < (takeC r.nx q r.cs).length := by rw [hl]; simp
          clear hl
          have hp := isBuf_at t1 (k := (takeC r.nx q r.cs).length - 1) (by omega)
          have he := endOf_pos t1 hl0
          omega
    · have e : rdV r q = ⟨r.st, takeX r.nx q r.cs, r.fi, r.hg, r.co, takeC r.nx q r.cs⟩ := by
        have hn : (r.st == 2 && takeX r.nx q r.cs == r.fi) = false := by
          rcases Bool.eq_false_or_eq_true (r.st == 2 && takeX r.nx q r.cs == r.fi) with h | h
          · simp only [Bool.and_eq_true, beq_iff_eq] at h
            exact absurd h h2
          · exact h
        have eT : rdT r.st r.nx r.fi r.hg r.co q r.cs = r.st := by unfold rdT; rw [if_pos hI, if_neg (by simp [e4]), if_neg (by simp [hn])]
        have eX : rdX r.st r.nx r.fi r.hg r.co q r.cs = takeX r.nx q r.cs := if_pos hg
        have eC : rdC r.st r.nx r.fi r.hg r.co q r.cs = takeC r.nx q r.cs := if_pos hg
        unfold rdV
        rw [eT, eX, eC]
      rw [e]
      refine ⟨recvIs_iff.2 ⟨⟨t1, hE, p3, p4, p5⟩, ?_⟩, Int.le_refl _⟩
      dsimp only
      rw [t2]
      rcases p6 with ⟨a, b, c⟩ | ⟨a, b, c, d⟩ | ⟨a, b, c, d⟩ | ⟨a, b, c, d, e⟩ | ⟨a, b, c⟩
      · exact Or.inl ⟨a, b, c⟩
      · exact Or.inr (Or.inl ⟨a, b, c, d⟩)
      · exact Or.inr (Or.inr (Or.inl ⟨a, b, c, d⟩))
      · exact Or.inr (Or.inr (Or.inr (Or.inl ⟨a, b, c, d, by omega⟩)))
      · exact Or.inr (Or.inr (Or.inr (Or.inr ⟨a, b, by omega⟩)))
theorem read_none {r : Rv} {q : Int} (hI : recvIs r.st r.nx r.fi r.hg r.co r.cs = false) : rdText r q = ⟨#[]⟩ := by
  simp [rdText, rdS, rdGo, hI]
theorem read_end {st nx fi hg co : Int} {cs : List Ck} (h : recvIs st nx fi hg co cs = true) (h3 : st = 3) : nx = fi := by
  obtain ⟨_, p⟩ := recvIs_iff.1 h
  have : cs.length = 0 := by omega
  have e : cs = [] := List.eq_nil_of_length_eq_zero this
  rw [e, readyB_nil] at p
  omega
end Go.Proofs.Ytjnbiacnhimkgaa

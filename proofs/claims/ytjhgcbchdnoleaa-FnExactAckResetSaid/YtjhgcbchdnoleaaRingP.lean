/-
  Plain facts on rings: what is written and dropped leaves a ring; what is read back. No program in sight. Conditions: each lemma bears its own.
-/
import Derived.Test.YtjhgcbchdnoleaaWrite
namespace Go.Proofs.Ytjhgcbchdnoleaa
set_option linter.unusedSimpArgs false
set_option linter.unusedVariables false
theorem isRing_parts {z b e : Int} {xs : List Int} : isRing z b e xs = true ↔ ringSz z = true ∧ (xs.length : Int) = z ∧ (∀ x ∈ xs, 0 ≤ x ∧ x ≤ 255) ∧ (0 ≤ b ∧ b ≤ e ∧ e ≤ b + z ∧ e ≤ 4611686018427387903) := by
  simp only [isRing, Bool.and_eq_true, beq_iff_eq, Bool.not_eq_true', List.any_eq_false, Bool.not_eq_true, Bool.not_eq_false', inB, decide_eq_true_eq]
  constructor
  · rintro ⟨h1, h2, h3, h4, h5⟩
    refine ⟨h1, h2, fun x hx => ?_, by omega, by omega, by omega, by omega⟩
    have := h3 x hx
    simpa using this
  · rintro ⟨h1, h2, h3, h4, h5, h6, h7⟩
    refine ⟨h1, h2, fun x hx => ?_, by omega, by omega, by omega⟩
    have := h3 x hx
    simpa using this
theorem setN_mem (xs : List Int) (z o : Int) (f : Nat → Int) : ∀ (k : Nat) (x : Int), x ∈ setN xs z o f k → x ∈ xs ∨ ∃ i, i < k ∧ x = f i
  | 0, _, h => Or.inl h
  | k + 1, x, h => by
    rw [setN] at h
    rcases List.mem_or_eq_of_mem_set h with h | h
    · rcases setN_mem xs z o f k x h with h | ⟨i, hi, e⟩
      · exact Or.inl h
      · exact Or.inr ⟨i, by omega, e⟩
    · exact Or.inr ⟨k, by omega, h⟩
theorem byteAt_bd (s : ByteArray) (i : Nat) : 0 ≤ byteAt s i ∧ byteAt s i ≤ 255 := by
  unfold byteAt
  split
  · rename_i h
    have := (s[i]'h).toNat_lt
    omega
  · omega
theorem ring_wr {z b e : Int} {xs : List Int} (h : isRing z b e xs = true) (s : ByteArray) (m : Nat) (h1 : (m : Int) ≤ z - (e - b)) (h2 : (m : Int) ≤ 4611686018427387903 - e) : isRing z b (e + m) (setN xs z e (byteAt s) m) = true := by
  obtain ⟨a1, a2, a3, a4, a5, a6, a7⟩ := isRing_parts.1 h
  refine isRing_parts.2 ⟨a1, by rw [setN_length]; exact a2, fun x hx => ?_, a4, by omega, by omega, by omega⟩
  rcases setN_mem _ _ _ _ _ _ hx with hx | ⟨i, _, rfl⟩
  · exact a3 x hx
  · exact byteAt_bd s i
theorem ring_drop {z b e u : Int} {xs : List Int} (h : isRing z b e xs = true) (h1 : b ≤ u) (h2 : u ≤ e) (k : Nat) : isRing z u e (setN xs z b (fun _ => 0) k) = true := by
  obtain ⟨a1, a2, a3, a4, a5, a6, a7⟩ := isRing_parts.1 h
  refine isRing_parts.2 ⟨a1, by rw [setN_length]; exact a2, fun x hx => ?_, by omega, h2, by omega, by omega⟩
  rcases setN_mem _ _ _ _ _ _ hx with hx | ⟨i, _, rfl⟩
  · exact a3 x hx
  · omega
theorem ring_zero {z b : Int} (hz : ringSz z = true) (h0 : 0 ≤ b) (h1 : b ≤ 4611686018427387903) : isRing z b b (List.replicate z.toNat 0) = true := by
  have := ringSz_bd hz
  refine isRing_parts.2 ⟨hz, by simp; omega, fun x hx => ?_, h0, by omega, by omega, by omega⟩
  rw [List.eq_of_mem_replicate hx]; omega
theorem cellIx_ne {z o p : Int} {i j : Nat} (hz : 0 < z) (ho : 0 ≤ o) (hp : 0 ≤ p) (h1 : o + i < p + j) (h2 : p + j - (o + i) < z) : cellIx z o i ≠ cellIx z p j := by
  intro h
  unfold cellIx at h
  rw [Int.tmod_eq_emod_of_nonneg (by omega), Int.tmod_eq_emod_of_nonneg (by omega)] at h
  have q1 := Int.emod_nonneg (o + (i : Int)) (by omega : z ≠ 0)
  have q2 := Int.emod_nonneg (p + (j : Int)) (by omega : z ≠ 0)
  have e : (p + (j : Int)) % z = (o + (i : Int)) % z := by omega
  have d := Int.emod_emod_of_dvd (p + (j : Int) - (o + i)) (Int.dvd_refl z)
  have k := (Int.emod_eq_emod_iff_emod_sub_eq_zero).1 e
  rw [Int.emod_eq_of_lt (by omega) h2] at k
  omega
theorem cellIx_bd {z o : Int} {k : Nat} {xs : List Int} (hz : 0 < z) (ho : 0 ≤ o) (hl : (xs.length : Int) = z) : cellIx z o k < xs.length := by
  have := (cellIx_lt (k := k) hz ho).1
  omega
theorem setN_old {z o p : Int} {xs : List Int} {f : Nat → Int} (hz : 0 < z) (hp : 0 ≤ p) (ho : 0 ≤ o) (i : Nat) : ∀ m : Nat, (∀ j : Nat, j < m → o + i < p + j ∧ p + j - (o + i) < z) → (setN xs z p f m).getD (cellIx z o i) 0 = xs.getD (cellIx z o i) 0
  | 0, _ => rfl
  | m + 1, h => by
    have hm := h m (by omega)
    rw [setN, List.getD, List.getElem?_set_ne (cellIx_ne hz ho hp hm.1 hm.2).symm]
    exact setN_old hz hp ho i m (fun j hj => h j (by omega))
theorem setN_new {z p : Int} {xs : List Int} {f : Nat → Int} (hz : 0 < z) (hp : 0 ≤ p) (hl : (xs.length : Int) = z) : ∀ (m i : Nat), i < m → (m : Int) ≤ z → (setN xs z p f m).getD (cellIx z p i) 0 = f i
  | 0, i, h, _ => absurd h (by omega)
  | m + 1, i, h, hm => by
    rw [setN, List.getD]
    by_cases e : i = m
    · subst e
      have hlt : cellIx z p i < (setN xs z p f i).length := by rw [setN_length]; exact cellIx_bd hz hp hl
      rw [List.getElem?_set_self hlt]
      rfl
    · rw [List.getElem?_set_ne (cellIx_ne hz hp hp (by omega) (by omega)).symm]
      exact setN_new hz hp hl m i (by omega) (by omega)
/-- What is read back behind a write: what was there, and what was written. -/
theorem peek_wr {z b e : Int} {xs : List Int} (h : isRing z b e xs = true) (d : ByteArray) (m : Nat) (hm : m ≤ d.size) (hr : (m : Int) ≤ z - (e - b)) :
    peekS (setN xs z e (byteAt d) m) z b ((e - b).toNat + m) = peekS xs z b (e - b).toNat ++ d.extract 0 m := by
  obtain ⟨b1, b2, b3, b4, b5, b6, b7⟩ := isRing_bd h
  apply ByteArray.ext
  apply Array.ext'
  simp only [peekS, ByteArray.data_append, ByteArray.data_extract, Array.toList_append, Array.toList_extract, List.extract_eq_take_drop]
  apply List.ext_getElem?
  intro i
  by_cases h1 : i < (e - b).toNat
  · rw [List.getElem?_append_left (by rw [peekL_length]; exact h1)]
    simp only [peekL, List.getElem?_map]
    rw [List.getElem?_range (by omega), List.getElem?_range h1]
    simp only [Option.map_some, cellAt]
    rw [setN_old (by omega) (by omega) (by omega) i m (fun j hj => by omega)]
  · by_cases h2 : i < (e - b).toNat + m
    · obtain ⟨j, rfl⟩ : ∃ j, i = (e - b).toNat + j := ⟨i - (e - b).toNat, by omega⟩
      have hj : j < m := by omega
      rw [List.getElem?_append_right (by rw [peekL_length]; omega), peekL_length]
      have ej : (e - b).toNat + j - (e - b).toNat = j := by omega
      rw [ej]
      simp only [peekL, List.getElem?_map]
      rw [List.getElem?_range h2]
      simp only [Option.map_some, cellAt]
      have ec : cellIx z b ((e - b).toNat + j) = cellIx z e j := by
        unfold cellIx
        congr 2
        omega
      rw [ec, setN_new (by omega) (by omega) b3 m j hj (by omega)]
      have hjd : j < d.size := by omega
      have e1 : byteAt d j = (d[j].toNat : Int) := by unfold byteAt; rw [dif_pos hjd]
      rw [e1]
      have hd : j < d.data.toList.length := hjd
      simp only [List.drop_zero, Nat.sub_zero]
      rw [List.getElem?_take_of_lt hj, List.getElem?_eq_getElem hd]
      congr 1
      simp [ByteArray.getElem_eq_getElem_data]
    · rw [List.getElem?_eq_none (by rw [peekL_length]; omega), List.getElem?_eq_none]
      simp [peekL_length]
      omega
end Go.Proofs.Ytjhgcbchdnoleaa

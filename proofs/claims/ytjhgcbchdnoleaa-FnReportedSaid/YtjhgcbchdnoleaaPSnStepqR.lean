/-
  Part of the proof: SnStep.
-/
import Derived.Test.YtjhgcbchdnoleaaPDropqR
import Derived.Test.YtjhgcbchdnoleaaPG5
namespace Go.Proofs.Ytjhgcbchdnoleaa
section
set_option linter.unusedSimpArgs false
set_option linter.unusedVariables false
/-- No report takes a sender back. -/
theorem st_up {st b b' e fk se : Int} {fin : Bool} (h : st = stI st b e fk se) (h2 : st ≤ 2) (h0 : 0 ≤ fk) (h3 : fk ≤ 3) : st ≤ stI st b' e (finV fin fk 3) se ∧ st ≤ stI st b e (finV fin fk 1) se := by
  have hk : fk = 0 ∨ fk = 1 ∨ fk = 2 ∨ fk = 3 := by omega
  rcases hk with rfl | rfl | rfl | rfl <;> cases fin <;> simp [stI, finV] at h ⊢ <;> (repeat' split at h) <;> (repeat' split) <;> omega
/-- What is acknowledged stays so. -/
theorem ak_keeps {s : Sn} (h : Vld s) {off : Int} {n : Nat} (h0 : 0 ≤ off) (h1 : off + n ≤ s.e) (m : Int) (hm : inR s.k m) : inR (akK s off n) m := by
  obtain ⟨e0, e1⟩ := h.e_nat
  obtain ⟨c1, c2⟩ := hit_in (n := n) h.hd.rf h0 (by omega)
  exact ((fold_join h.hd.rk c1).2 m).2 (Or.inl hm)
/-- Nothing of what was acknowledged is in flight any more. -/
theorem ak_hit {s : Sn} (h : Vld s) {off : Int} {n : Nat} {fin : Bool} (h0 : 0 ≤ off) (h1 : off + n ≤ s.e) : hit (akV s off n fin).f off n = [] := by
  obtain ⟨e0, e1⟩ := h.e_nat
  obtain ⟨c1, c2⟩ := hit_in (n := n) h.hd.rf h0 (by omega)
  obtain ⟨b1, b2⟩ := fold_rem h.hd.rf c1
  obtain ⟨k1, k2⟩ := hit_in (l := (akV s off n fin).f) (n := n) b1 h0 (by omega)
  rcases hl : hit (akV s off n fin).f off n with _ | ⟨x, xs⟩
  · rfl
  · exfalso
    have hx : rgFine x = true := k1 x (by rw [hl]; simp)
    have hb := rgFine_bd hx
    have hin : inR (hit (akV s off n fin).f off n) x.1 := by rw [hl]; exact (inR_cons _ _ _).2 (Or.inl ⟨Int.le_refl _, hb.2.1⟩)
    obtain ⟨q1, q2⟩ := (k2 _).1 hin
    obtain ⟨r1, r2⟩ := (b2 _).1 q1
    exact r2 ((c2 _).2 ⟨r1, q2⟩)
end
end Go.Proofs.Ytjhgcbchdnoleaa

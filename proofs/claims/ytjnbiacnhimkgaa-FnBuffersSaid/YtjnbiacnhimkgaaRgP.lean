/-
  Plain facts on lists of ranges: what is in them; a range added. No program in sight. Conditions: each lemma bears its own.
-/
import Derived.Test.YtjnbiacnhimkgaaBase
namespace Go.Proofs.Ytjnbiacnhimkgaa
abbrev Rg := Int × Int
def dr : Rg := (0, 0)
def rgFine (r : Rg) : Bool := decide (0 ≤ r.1) && (decide (r.1 < r.2) && decide (r.2 ≤ 4611686018427387903))
theorem rgFine_bd {r : Rg} (h : rgFine r = true) : 0 ≤ r.1 ∧ r.1 < r.2 ∧ r.2 ≤ 4611686018427387903 := by
  simp only [rgFine, Bool.and_eq_true, decide_eq_true_eq] at h
  omega
/-- In order, none empty, none touching the next, from a place on. -/
def rgsFrom : Int → List Rg → Bool
  | _, [] => true
  | lo, r :: rs => rgFine r && (decide (lo ≤ r.1) && rgsFrom (r.2 + 1) rs)
def isRgs (l : List Rg) : Bool := rgsFrom 0 l
def CanR : Int → List Rg → Prop
  | _, [] => True
  | lo, r :: rs => lo ≤ r.1 ∧ r.1 < r.2 ∧ CanR (r.2 + 1) rs
theorem CanR.mono {lo lo' : Int} : ∀ {rs : List Rg}, CanR lo rs → lo' ≤ lo → CanR lo' rs
  | [], _, _ => trivial
  | _ :: _, h, hl => ⟨Int.le_trans hl h.1, h.2⟩
/-- No end lies behind m. -/
def TopR (m : Int) (l : List Rg) : Prop := ∀ r ∈ l, r.2 ≤ m
theorem rgsFrom_can : ∀ {l : List Rg} {lo : Int}, rgsFrom lo l = true → CanR lo l ∧ TopR 4611686018427387903 l
  | [], _, _ => ⟨trivial, fun _ h => by simp at h⟩
  | r :: rs, lo, h => by
    simp only [rgsFrom, Bool.and_eq_true, decide_eq_true_eq] at h
    obtain ⟨h1, h2, h3⟩ := h
    have := rgFine_bd h1
    obtain ⟨k1, k2⟩ := rgsFrom_can h3
    refine ⟨⟨h2, by omega, k1⟩, fun x hx => ?_⟩
    rcases List.mem_cons.1 hx with rfl | hx
    · omega
    · exact k2 x hx
theorem can_rgsFrom : ∀ {l : List Rg} {lo : Int}, 0 ≤ lo → CanR lo l → TopR 4611686018427387903 l → rgsFrom lo l = true
  | [], _, _, _, _ => rfl
  | r :: rs, lo, h0, h, ht => by
    have h1 := h.1
    have h2 := h.2.1
    have h3 := ht r (by simp)
    simp only [rgsFrom, rgFine, Bool.and_eq_true, decide_eq_true_eq]
    exact ⟨⟨by omega, by omega, h3⟩, h1, can_rgsFrom (by omega) h.2.2 (fun x hx => ht x (by simp [hx]))⟩
def inR (l : List Rg) (n : Int) : Prop := ∃ r ∈ l, r.1 ≤ n ∧ n < r.2
theorem inR_nil (n : Int) : ¬ inR [] n := by rintro ⟨r, hr, _⟩; simp at hr
theorem inR_cons (r : Rg) (l : List Rg) (n : Int) : inR (r :: l) n ↔ (r.1 ≤ n ∧ n < r.2) ∨ inR l n := by
  simp [inR]
theorem inR_low : ∀ {l : List Rg} {lo n : Int}, CanR lo l → inR l n → lo ≤ n
  | [], _, _, _, h => absurd h (inR_nil _)
  | r :: rs, lo, n, h, hn => by
    have h1 := h.1
    rcases (inR_cons _ _ _).1 hn with k | k
    · omega
    · have := inR_low h.2.2 k
      have := h.2.1
      omega
/-! ### a range added -/
def addRec (r : Rg) : List Rg → List Rg
  | [] => [r]
  | x :: xs => if x.2 < r.1 then x :: addRec r xs else if r.2 < x.1 then r :: x :: xs else addRec (min r.1 x.1, max r.2 x.2) xs
theorem addRec_can : ∀ (l : List Rg) (r : Rg) (lo : Int), CanR lo l → lo ≤ r.1 → r.1 < r.2 → CanR lo (addRec r l)
  | [], r, lo, _, h1, h2 => ⟨h1, h2, trivial⟩
  | x :: xs, r, lo, h, h1, h2 => by
    have k1 := h.1
    have k2 := h.2.1
    rw [addRec]
    split
    · exact ⟨k1, k2, addRec_can xs r _ h.2.2 (by omega) h2⟩
    · split
      · exact ⟨h1, h2, by omega, k2, h.2.2⟩
      · exact addRec_can xs _ lo (h.2.2.mono (by omega)) (by show lo ≤ min r.1 x.1; omega) (by show min r.1 x.1 < max r.2 x.2; omega)
theorem addRec_in : ∀ (l : List Rg) (r : Rg) (lo n : Int), CanR lo l → r.1 < r.2 → (inR (addRec r l) n ↔ (r.1 ≤ n ∧ n < r.2) ∨ inR l n)
  | [], r, _, n, _, _ => by rw [addRec, inR_cons]
  | x :: xs, r, lo, n, h, h2 => by
    have k2 := h.2.1
    rw [addRec]
    split
    · rw [inR_cons, addRec_in xs r _ n h.2.2 h2, inR_cons]
      constructor
      · rintro (h | h | h)
        · exact Or.inr (Or.inl h)
        · exact Or.inl h
        · exact Or.inr (Or.inr h)
      · rintro (h | h | h)
        · exact Or.inr (Or.inl h)
        · exact Or.inl h
        · exact Or.inr (Or.inr h)
    · split
      · rw [inR_cons]
      · rw [addRec_in xs _ _ n h.2.2 (by show min r.1 x.1 < max r.2 x.2; omega), inR_cons]
        by_cases hin : inR xs n
        · exact ⟨fun _ => Or.inr (Or.inr hin), fun _ => Or.inr hin⟩
        · constructor
          · rintro (h | h)
            · have q1 : min r.1 x.1 ≤ n := h.1
              have q2 : n < max r.2 x.2 := h.2
              by_cases q : r.1 ≤ n ∧ n < r.2
              · exact Or.inl q
              · exact Or.inr (Or.inl (by omega))
            · exact absurd h hin
          · rintro (h | h | h)
            · exact Or.inl (by show min r.1 x.1 ≤ n ∧ n < max r.2 x.2; omega)
            · exact Or.inl (by show min r.1 x.1 ≤ n ∧ n < max r.2 x.2; omega)
            · exact absurd h hin
theorem addRec_top {m : Int} : ∀ (l : List Rg) (r : Rg), TopR m l → r.2 ≤ m → TopR m (addRec r l)
  | [], r, _, h2 => fun x hx => by
    rw [addRec] at hx
    obtain rfl := List.mem_singleton.1 hx
    exact h2
  | y :: ys, r, h, h2 => by
    have h1 := h y (by simp)
    have h3 : TopR m ys := fun x hx => h x (by simp [hx])
    rw [addRec]
    split
    · intro x hx
      rcases List.mem_cons.1 hx with rfl | hx
      · exact h1
      · exact addRec_top ys r h3 h2 x hx
    · split
      · intro x hx
        rcases List.mem_cons.1 hx with rfl | hx
        · exact h2
        · exact h x hx
      · exact addRec_top ys _ h3 (by show max r.2 y.2 ≤ m; omega)
theorem addRec_length (l : List Rg) : ∀ (r : Rg), (addRec r l).length ≤ l.length + 1 := by
  induction l with
  | nil => intro r; simp [addRec]
  | cons y ys ih =>
    intro r
    rw [addRec]
    split
    · have := ih r; simp; omega
    · split
      · simp
      · have := ih (min r.1 y.1, max r.2 y.2); simp; omega
/-- The loop's round. -/
def addStep (s : Rg × Bool × List Rg) (x : Rg) : Rg × Bool × List Rg :=
  if x.2 < s.1.1 then (s.1, s.2.1, s.2.2 ++ [x]) else if s.1.2 < x.1 then (s.1, true, (if s.2.1 = true then s.2.2 else s.2.2 ++ [s.1]) ++ [x]) else ((min s.1.1 x.1, max s.1.2 x.2), s.2.1, s.2.2)
def addEnd (s : Rg × Bool × List Rg) : List Rg := if s.2.1 = true then s.2.2 else s.2.2 ++ [s.1]
theorem add_placed : ∀ (l : List Rg) (r : Rg) (out : List Rg) (lo : Int), CanR lo l → r.2 < lo → r.1 < r.2 → l.foldl addStep (r, true, out) = (r, true, out ++ l)
  | [], r, out, _, _, _, _ => by simp
  | x :: xs, r, out, lo, h, h1, h2 => by
    have k1 := h.1
    have k2 := h.2.1
    rw [List.foldl_cons]
    have e : addStep (r, true, out) x = (r, true, out ++ [x]) := by
      simp only [addStep]
      rw [if_neg (by omega), if_pos (by omega)]
      simp
    rw [e, add_placed xs r _ _ h.2.2 (by omega) h2]
    simp
theorem add_fold : ∀ (l : List Rg) (r : Rg) (out : List Rg) (lo : Int), CanR lo l → r.1 < r.2 → addEnd (l.foldl addStep (r, false, out)) = out ++ addRec r l
  | [], r, out, _, _, _ => by simp [addEnd, addRec]
  | x :: xs, r, out, lo, h, h2 => by
    have k2 := h.2.1
    rw [List.foldl_cons, addRec]
    by_cases c1 : x.2 < r.1
    · rw [if_pos c1]
      have e : addStep (r, false, out) x = (r, false, out ++ [x]) := by simp only [addStep]; rw [if_pos c1]
      rw [e, add_fold xs r _ _ h.2.2 h2]
      simp
    · rw [if_neg c1]
      by_cases c2 : r.2 < x.1
      · rw [if_pos c2]
        have e : addStep (r, false, out) x = (r, true, out ++ [r] ++ [x]) := by
          simp only [addStep]
          rw [if_neg c1, if_pos c2]
          simp
        rw [e, add_placed xs r _ _ h.2.2 (by omega) h2]
        simp [addEnd]
      · rw [if_neg c2]
        have e : addStep (r, false, out) x = ((min r.1 x.1, max r.2 x.2), false, out) := by simp only [addStep]; rw [if_neg c1, if_neg c2]
        rw [e]
        exact add_fold xs _ out _ h.2.2 (by show min r.1 x.1 < max r.2 x.2; omega)
/-- What AddRange gives. -/
def addR (l : List Rg) (r : Rg) : List Rg := if isRgs l = true ∧ rgFine r = true then addRec r l else l
end Go.Proofs.Ytjnbiacnhimkgaa

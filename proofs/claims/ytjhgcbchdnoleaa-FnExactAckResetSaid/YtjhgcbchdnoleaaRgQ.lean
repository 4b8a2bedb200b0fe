/-
  Plain facts on sets of ranges: counting, joining, removing, what is common, the first gap. No program in sight. Conditions: each lemma bears its own.
-/
import Derived.Test.YtjhgcbchdnoleaaRgP
namespace Go.Proofs.Ytjhgcbchdnoleaa
set_option linter.unusedSimpArgs false
set_option linter.unusedVariables false
/-! ### counting -/
def b2i : Bool → Int
  | true => 1
  | false => 0
theorem b2i_t : b2i true = 1 := rfl
theorem b2i_f : b2i false = 0 := rfl
def cntP (p : Int → Bool) : Nat → Int
  | 0 => 0
  | m + 1 => cntP p m + b2i (p (m : Int))
theorem cntP_bd (p : Int → Bool) : ∀ m : Nat, 0 ≤ cntP p m ∧ cntP p m ≤ m
  | 0 => ⟨Int.le_refl _, Int.le_refl _⟩
  | m + 1 => by
    have := cntP_bd p m
    simp only [cntP]
    cases p (m : Int) <;> simp only [b2i_t, b2i_f] <;> omega
theorem cntP_congr {p q : Int → Bool} : ∀ {m : Nat}, (∀ n : Int, 0 ≤ n → n < m → p n = q n) → cntP p m = cntP q m
  | 0, _ => rfl
  | m + 1, h => by
    simp only [cntP]
    rw [cntP_congr (m := m) (fun n h0 h1 => h n h0 (by omega)), h m (by omega) (by omega)]
theorem cntP_all {p : Int → Bool} : ∀ {m : Nat}, (∀ n : Int, 0 ≤ n → n < m → p n = true) → cntP p m = m
  | 0, _ => rfl
  | m + 1, h => by
    simp only [cntP]
    rw [cntP_all (m := m) (fun n h0 h1 => h n h0 (by omega)), h m (by omega) (by omega)]
    simp only [b2i_t]; omega
theorem cntP_full {p : Int → Bool} : ∀ {m : Nat}, cntP p m = m → ∀ n : Int, 0 ≤ n → n < m → p n = true
  | 0, _, n, h0, h1 => by omega
  | m + 1, h, n, h0, h1 => by
    simp only [cntP] at h
    have := (cntP_bd p m).2
    by_cases hp : p (m : Int) = true
    · rw [hp, b2i_t] at h
      by_cases e : n = (m : Int)
      · rw [e]; exact hp
      · exact cntP_full (m := m) (by omega) n h0 (by omega)
    · rw [Bool.not_eq_true] at hp
      rw [hp, b2i_f] at h
      omega
theorem cntP_or {p q : Int → Bool} : ∀ {m : Nat}, (∀ n : Int, 0 ≤ n → n < m → ¬ (p n = true ∧ q n = true)) → cntP (fun n => p n || q n) m = cntP p m + cntP q m
  | 0, _ => rfl
  | m + 1, h => by
    simp only [cntP]
    rw [cntP_or (m := m) (fun n h0 h1 => h n h0 (by omega))]
    have := h m (by omega) (by omega)
    cases hp : p (m : Int) <;> cases hq : q (m : Int) <;> simp only [hp, hq, Bool.or_self, Bool.or_true, Bool.or_false, Bool.true_or, Bool.false_or, b2i_t, b2i_f] at this ⊢ <;> first | omega | simp at this
theorem cntP_iv {a b : Int} (h0 : 0 ≤ a) (h1 : a ≤ b) : ∀ {m : Nat}, b ≤ m → cntP (fun n => decide (a ≤ n) && decide (n < b)) m = b - a := by
  have low : ∀ m : Nat, (m : Int) ≤ a → cntP (fun n => decide (a ≤ n) && decide (n < b)) m = 0 := by
    intro m
    induction m with
    | zero => intro _; rfl
    | succ m ih =>
      intro hm
      simp only [cntP]
      rw [ih (by omega)]
      have e : (decide (a ≤ (m : Int)) && decide ((m : Int) < b)) = false := by simp; omega
      rw [e]; rfl
  have mid : ∀ m : Nat, a ≤ (m : Int) → (m : Int) ≤ b → cntP (fun n => decide (a ≤ n) && decide (n < b)) m = m - a := by
    intro m
    induction m with
    | zero => intro h _; simp only [cntP]; omega
    | succ m ih =>
      intro hm hb
      by_cases e : a ≤ (m : Int)
      · simp only [cntP]
        rw [ih e (by omega)]
        have e : (decide (a ≤ (m : Int)) && decide ((m : Int) < b)) = true := by simp; omega
        rw [e, b2i_t]; omega
      · rw [low (m + 1) (by omega)]
        omega
  intro m
  induction m with
  | zero => intro h; simp only [cntP]; omega
  | succ m ih =>
    intro h
    by_cases e : b ≤ (m : Int)
    · simp only [cntP]
      rw [ih e]
      have e : (decide (a ≤ (m : Int)) && decide ((m : Int) < b)) = false := by simp; omega
      rw [e, b2i_f]; omega
    · rw [mid (m + 1) (by omega) (by omega)]
      omega
/-- Three counts that add up to the count of the union have nothing in common. -/
theorem cntP_three (p q r : Int → Bool) : ∀ m : Nat, cntP (fun n => p n || (q n || r n)) m ≤ cntP p m + cntP q m + cntP r m ∧
    (cntP p m + cntP q m + cntP r m = cntP (fun n => p n || (q n || r n)) m → ∀ n : Int, 0 ≤ n → n < m → ¬ (p n = true ∧ q n = true) ∧ ¬ (p n = true ∧ r n = true) ∧ ¬ (q n = true ∧ r n = true))
  | 0 => ⟨Int.le_refl _, fun _ n h0 h1 => by omega⟩
  | m + 1 => by
    obtain ⟨h1, h2⟩ := cntP_three p q r m
    simp only [cntP]
    constructor
    · cases hp : p (m : Int) <;> cases hq : q (m : Int) <;> cases hr : r (m : Int) <;> simp only [hp, hq, hr, Bool.or_self, Bool.or_true, Bool.or_false, Bool.true_or, Bool.false_or, b2i_t, b2i_f] <;> omega
    · intro h n n0 n1
      by_cases e : n = (m : Int)
      · subst e
        cases hp : p (m : Int) <;> cases hq : q (m : Int) <;> cases hr : r (m : Int) <;> simp only [hp, hq, hr, Bool.or_self, Bool.or_true, Bool.or_false, Bool.true_or, Bool.false_or, b2i_t, b2i_f] at h ⊢ <;> first | omega | (simp; done) | (simp; omega)
      · refine h2 ?_ n n0 (by omega)
        cases hp : p (m : Int) <;> cases hq : q (m : Int) <;> cases hr : r (m : Int) <;> simp only [hp, hq, hr, Bool.or_self, Bool.or_true, Bool.or_false, Bool.true_or, Bool.false_or, b2i_t, b2i_f] at h <;> omega
def inRb (l : List Rg) (n : Int) : Bool := l.any fun r => decide (r.1 ≤ n) && decide (n < r.2)
theorem inRb_iff (l : List Rg) (n : Int) : inRb l n = true ↔ inR l n := by
  simp [inRb, inR]
def rgSum : List Rg → Int
  | [] => 0
  | r :: rs => (r.2 - r.1) + rgSum rs
def cntR (l : List Rg) : Int := if isRgs l = true then rgSum l else -1
theorem rgSum_cnt : ∀ {l : List Rg} {lo : Int} {m : Nat}, 0 ≤ lo → CanR lo l → TopR m l → rgSum l = cntP (inRb l) m
  | [], _, m, _, _, _ => by
    have : ∀ k : Nat, cntP (inRb []) k = 0 := by
      intro k
      induction k with
      | zero => rfl
      | succ k ih => simp only [cntP]; rw [ih]; rfl
    rw [this]; rfl
  | r :: rs, lo, m, h0, h, ht => by
    have k1 := h.1
    have k2 := h.2.1
    have ih := rgSum_cnt (l := rs) (lo := r.2 + 1) (m := m) (by omega) h.2.2 (fun x hx => ht x (by simp [hx]))
    have hr := ht r (by simp)
    have e : cntP (inRb (r :: rs)) m = cntP (fun n => (decide (r.1 ≤ n) && decide (n < r.2)) || inRb rs n) m := cntP_congr (fun n _ _ => by simp [inRb])
    rw [e, cntP_or, cntP_iv (by omega) (by omega) hr, ← ih]
    · rfl
    · intro n n0 n1 hh
      have h2 := inR_low h.2.2 ((inRb_iff rs n).1 hh.2)
      simp at hh
      omega
theorem rgSum_nonneg : ∀ {l : List Rg} {lo : Int}, CanR lo l → 0 ≤ rgSum l
  | [], _, _ => Int.le_refl _
  | r :: rs, _, h => by
    have := rgSum_nonneg h.2.2
    have := h.2.1
    simp only [rgSum]; omega
theorem rgSum_top : ∀ {l : List Rg} {lo m : Int}, CanR lo l → TopR m l → lo ≤ m → rgSum l ≤ m - lo
  | [], _, _, _, _, h => by simp only [rgSum]; omega
  | r :: rs, lo, m, h, ht, hl => by
    have k1 := h.1
    have k2 := h.2.1
    have hr := ht r (by simp)
    simp only [rgSum]
    rcases rs with _ | ⟨x, xs⟩
    · simp only [rgSum]; omega
    · have hx := ht x (by simp)
      have q1 := h.2.2.1
      have q2 := h.2.2.2.1
      have := rgSum_top h.2.2 (fun y hy => ht y (by simp [hy])) (by omega)
      omega
theorem rgSum_len : ∀ {l : List Rg} {lo : Int}, CanR lo l → (l.length : Int) ≤ rgSum l
  | [], _, _ => Int.le_refl _
  | r :: rs, _, h => by
    have := rgSum_len h.2.2
    have := h.2.1
    simp only [rgSum, List.length_cons]; omega
/-! ### two lists that hold the same are the same -/
theorem can_ext : ∀ {l k : List Rg} {lo lo' : Int}, CanR lo l → CanR lo' k → (∀ n, inR l n ↔ inR k n) → l = k
  | [], [], _, _, _, _, _ => rfl
  | [], x :: xs, _, _, _, h, e => absurd ((e x.1).2 ((inR_cons _ _ _).2 (Or.inl ⟨Int.le_refl _, h.2.1⟩))) (inR_nil _)
  | x :: xs, [], _, _, h, _, e => absurd ((e x.1).1 ((inR_cons _ _ _).2 (Or.inl ⟨Int.le_refl _, h.2.1⟩))) (inR_nil _)
  | x :: xs, y :: ys, lo, lo', h, h', e => by
    have hx2 := h.2.1
    have hy2 := h'.2.1
    have low : ∀ n, inR (x :: xs) n → x.1 ≤ n := fun n hn => inR_low (lo := x.1) (l := x :: xs) ⟨Int.le_refl _, h.2⟩ hn
    have low' : ∀ n, inR (y :: ys) n → y.1 ≤ n := fun n hn => inR_low (lo := y.1) (l := y :: ys) ⟨Int.le_refl _, h'.2⟩ hn
    have a1 : x.1 = y.1 := by
      have p1 := low' x.1 ((e _).1 ((inR_cons _ _ _).2 (Or.inl ⟨Int.le_refl _, hx2⟩)))
      have p2 := low y.1 ((e _).2 ((inR_cons _ _ _).2 (Or.inl ⟨Int.le_refl _, hy2⟩)))
      omega
    have out : ∀ n, inR xs n → x.2 + 1 ≤ n := fun n hn => inR_low h.2.2 hn
    have out' : ∀ n, inR ys n → y.2 + 1 ≤ n := fun n hn => inR_low h'.2.2 hn
    have a2 : x.2 = y.2 := by
      rcases Int.lt_trichotomy x.2 y.2 with c | c | c
      · exfalso
        have := (e x.2).2 ((inR_cons _ _ _).2 (Or.inl ⟨by omega, c⟩))
        rcases (inR_cons _ _ _).1 this with k | k
        · omega
        · have := out _ k; omega
      · exact c
      · exfalso
        have := (e y.2).1 ((inR_cons _ _ _).2 (Or.inl ⟨by omega, c⟩))
        rcases (inR_cons _ _ _).1 this with k | k
        · omega
        · have := out' _ k; omega
    have a3 : xs = ys := by
      refine can_ext h.2.2 h'.2.2 (fun n => ?_)
      constructor
      · intro hn
        have hb := out n hn
        rcases (inR_cons _ _ _).1 ((e n).1 ((inR_cons _ _ _).2 (Or.inr hn))) with k | k
        · omega
        · exact k
      · intro hn
        have hb := out' n hn
        rcases (inR_cons _ _ _).1 ((e n).2 ((inR_cons _ _ _).2 (Or.inr hn))) with k | k
        · omega
        · exact k
    rw [a3]
    congr 1
    exact Prod.ext a1 a2
theorem top_of_in {l : List Rg} {lo m : Int} (h : CanR lo l) (hi : ∀ n, inR l n → n < m) : TopR m l := by
  intro r hr
  have : ∀ {l : List Rg} {lo : Int}, CanR lo l → r ∈ l → r.1 < r.2 := by
    intro l
    induction l with
    | nil => intro lo _ h; simp at h
    | cons x xs ih =>
      intro lo hc hx
      rcases List.mem_cons.1 hx with rfl | hx
      · exact hc.2.1
      · exact ih hc.2.2 hx
  have hlt := this h hr
  have := hi (r.2 - 1) ⟨r, hr, by omega, by omega⟩
  omega
theorem in_of_top {l : List Rg} {m : Int} (h : TopR m l) : ∀ n, inR l n → n < m := by
  rintro n ⟨r, hr, h1, h2⟩
  have := h r hr
  omega
/-! ### removing -/
def remOne (r x : Rg) : List Rg := (if x.1 < min x.2 r.1 then [(x.1, min x.2 r.1)] else []) ++ (if max x.1 r.2 < x.2 then [(max x.1 r.2, x.2)] else [])
def remRec (r : Rg) (l : List Rg) : List Rg := l.flatMap (remOne r)
def remR (l : List Rg) (r : Rg) : List Rg := if isRgs l = true ∧ rgFine r = true then remRec r l else l
theorem remOne_in (r x : Rg) (n : Int) (hr : r.1 < r.2) : inR (remOne r x) n ↔ (x.1 ≤ n ∧ n < x.2) ∧ ¬ (r.1 ≤ n ∧ n < r.2) := by
  have nil := inR_nil n
  unfold remOne
  split <;> split <;> simp [inR] at * <;> omega
theorem inR_append (a b : List Rg) (n : Int) : inR (a ++ b) n ↔ inR a n ∨ inR b n := by
  simp only [inR, List.mem_append]
  constructor
  · rintro ⟨r, h | h, k⟩
    · exact Or.inl ⟨r, h, k⟩
    · exact Or.inr ⟨r, h, k⟩
  · rintro (⟨r, h, k⟩ | ⟨r, h, k⟩)
    · exact ⟨r, Or.inl h, k⟩
    · exact ⟨r, Or.inr h, k⟩
theorem can_append : ∀ {a b : List Rg} {lo m : Int}, CanR lo a → TopR m a → lo ≤ m + 1 → CanR (m + 1) b → CanR lo (a ++ b)
  | [], _, _, _, _, _, hl, h => h.mono hl
  | x :: xs, b, lo, m, h, ht, hl, hb => by
    have := ht x (by simp)
    exact ⟨h.1, h.2.1, can_append h.2.2 (fun y hy => ht y (by simp [hy])) (by omega) hb⟩
theorem remOne_can (r x : Rg) (lo : Int) (hr : r.1 < r.2) (hx : lo ≤ x.1) : CanR lo (remOne r x) ∧ TopR x.2 (remOne r x) := by
  unfold remOne
  split <;> split <;> simp [CanR, TopR] <;> omega
theorem remRec_can (r : Rg) (hr : r.1 < r.2) : ∀ {l : List Rg} {lo : Int}, CanR lo l → CanR lo (remRec r l)
  | [], _, _ => trivial
  | x :: xs, lo, h => by
    have k2 := h.2.1
    obtain ⟨c, t⟩ := remOne_can r x lo hr h.1
    have := h.1
    exact can_append c t (by omega) (remRec_can r hr h.2.2)
theorem remRec_in (r : Rg) (hr : r.1 < r.2) (n : Int) : ∀ l : List Rg, inR (remRec r l) n ↔ inR l n ∧ ¬ (r.1 ≤ n ∧ n < r.2)
  | [] => by simp [remRec, inR]
  | x :: xs => by
    have e : remRec r (x :: xs) = remOne r x ++ remRec r xs := rfl
    rw [e, inR_append, remOne_in r x n hr, remRec_in r hr n xs, inR_cons]
    constructor
    · rintro (⟨h1, h2⟩ | ⟨h1, h2⟩)
      · exact ⟨Or.inl h1, h2⟩
      · exact ⟨Or.inr h1, h2⟩
    · rintro ⟨h1 | h1, h2⟩
      · exact Or.inl ⟨h1, h2⟩
      · exact Or.inr ⟨h1, h2⟩
theorem remRec_length (r : Rg) : ∀ l : List Rg, (remRec r l).length ≤ 2 * l.length
  | [] => Nat.le_refl _
  | x :: xs => by
    have e : remRec r (x :: xs) = remOne r x ++ remRec r xs := rfl
    have := remRec_length r xs
    have h : (remOne r x).length ≤ 2 := by unfold remOne; split <;> split <;> simp
    rw [e, List.length_append, List.length_cons]; omega
/-! ### what is common with one range -/
def comOne (r x : Rg) : List Rg := if max x.1 r.1 < min x.2 r.2 then [(max x.1 r.1, min x.2 r.2)] else []
def comRec (r : Rg) (l : List Rg) : List Rg := l.flatMap (comOne r)
def comR (l : List Rg) (r : Rg) : List Rg := if isRgs l = true ∧ rgFine r = true then comRec r l else []
theorem comOne_in (r x : Rg) (n : Int) : inR (comOne r x) n ↔ (x.1 ≤ n ∧ n < x.2) ∧ (r.1 ≤ n ∧ n < r.2) := by
  have nil := inR_nil n
  unfold comOne
  split <;> simp [inR] at * <;> omega
theorem comOne_can (r x : Rg) (lo : Int) (hx : lo ≤ x.1) : CanR lo (comOne r x) ∧ TopR x.2 (comOne r x) := by
  unfold comOne
  split <;> simp [CanR, TopR] <;> omega
theorem comRec_can (r : Rg) : ∀ {l : List Rg} {lo : Int}, CanR lo l → CanR lo (comRec r l)
  | [], _, _ => trivial
  | x :: xs, lo, h => by
    have k2 := h.2.1
    obtain ⟨c, t⟩ := comOne_can r x lo h.1
    have := h.1
    exact can_append c t (by omega) (comRec_can r h.2.2)
theorem comRec_in (r : Rg) (n : Int) : ∀ l : List Rg, inR (comRec r l) n ↔ inR l n ∧ (r.1 ≤ n ∧ n < r.2)
  | [] => by simp [comRec, inR]
  | x :: xs => by
    have e : comRec r (x :: xs) = comOne r x ++ comRec r xs := rfl
    rw [e, inR_append, comOne_in r x n, comRec_in r n xs, inR_cons]
    constructor
    · rintro (⟨h1, h2⟩ | ⟨h1, h2⟩)
      · exact ⟨Or.inl h1, h2⟩
      · exact ⟨Or.inr h1, h2⟩
    · rintro ⟨h1 | h1, h2⟩
      · exact Or.inl ⟨h1, h2⟩
      · exact Or.inr ⟨h1, h2⟩
theorem comRec_length (r : Rg) : ∀ l : List Rg, (comRec r l).length ≤ l.length
  | [] => Nat.le_refl _
  | x :: xs => by
    have e : comRec r (x :: xs) = comOne r x ++ comRec r xs := rfl
    have := comRec_length r xs
    have h : (comOne r x).length ≤ 1 := by unfold comOne; split <;> simp
    rw [e, List.length_append, List.length_cons]; omega
/-! ### the first gap -/
def gapStep (g : Int) (x : Rg) : Int := if x.1 ≤ g ∧ g < x.2 then x.2 else g
def gapR (l : List Rg) (g : Int) : Int := if isRgs l = true ∧ 0 ≤ g then l.foldl gapStep g else -1
theorem gap_behind : ∀ {l : List Rg} {lo g : Int}, CanR lo l → g < lo → l.foldl gapStep g = g
  | [], _, _, _, _ => rfl
  | x :: xs, lo, g, h, hg => by
    have k1 := h.1
    have k2 := h.2.1
    rw [List.foldl_cons]
    have e : gapStep g x = g := by unfold gapStep; rw [if_neg (by omega)]
    rw [e]
    exact gap_behind h.2.2 (by omega)
/-- All below the gap is in it, the gap is not. -/
theorem gap_in : ∀ {l : List Rg} {lo g : Int}, CanR lo l → (∀ n, g ≤ n → n < l.foldl gapStep g → inR l n) ∧ ¬ inR l (l.foldl gapStep g) ∧ g ≤ l.foldl gapStep g
  | [], _, g, _ => ⟨fun n h1 h2 => by simp at h2; omega, inR_nil _, Int.le_refl _⟩
  | x :: xs, lo, g, h => by
    have k1 := h.1
    have k2 := h.2.1
    rw [List.foldl_cons]
    by_cases c : x.1 ≤ g ∧ g < x.2
    · have e : gapStep g x = x.2 := if_pos c
      rw [e, gap_behind h.2.2 (by omega)]
      refine ⟨fun n h1 h2 => (inR_cons _ _ _).2 (Or.inl ⟨by omega, h2⟩), fun hn => ?_, by omega⟩
      rcases (inR_cons _ _ _).1 hn with k | k
      · omega
      · have := inR_low h.2.2 k; omega
    · have e : gapStep g x = g := if_neg c
      rw [e]
      obtain ⟨a1, a2, a3⟩ := gap_in (g := g) h.2.2
      refine ⟨fun n h1 h2 => (inR_cons _ _ _).2 (Or.inr (a1 n h1 h2)), fun hn => ?_, a3⟩
      rcases (inR_cons _ _ _).1 hn with k | k
      · rcases Int.lt_or_le (xs.foldl gapStep g) (x.2 + 1) with q | q
        · have hlt : g < x.1 := by omega
          have := gap_behind (l := xs) (g := g) h.2.2 (by omega)
          omega
        · omega
      · exact a2 k
theorem gap_unique {l : List Rg} {lo : Int} (h : CanR lo l) (g : Int) (h1 : 0 ≤ g) (h2 : ∀ n, 0 ≤ n → n < g → inR l n) (h3 : ¬ inR l g) : l.foldl gapStep 0 = g := by
  obtain ⟨a1, a2, a3⟩ := gap_in (g := 0) h
  rcases Int.lt_trichotomy (l.foldl gapStep 0) g with c | c | c
  · exact absurd (h2 _ a3 c) a2
  · exact c
  · exact absurd (a1 g h1 c) h3
/-! ### joining -/
def joinR (p f k : List Rg) : List Rg := (f ++ k).foldl addR p
theorem fold_join : ∀ {l p : List Rg}, isRgs p = true → (∀ r ∈ l, rgFine r = true) → isRgs (l.foldl addR p) = true ∧ ∀ n, inR (l.foldl addR p) n ↔ inR p n ∨ inR l n
  | [], p, hp, _ => ⟨hp, fun n => by simp [inR_nil]⟩
  | r :: rs, p, hp, hr => by
    have hf := hr r (by simp)
    have hb := rgFine_bd hf
    obtain ⟨hc, ht⟩ := rgsFrom_can hp
    have e : addR p r = addRec r p := if_pos ⟨hp, hf⟩
    have hq : isRgs (addRec r p) = true := can_rgsFrom (Int.le_refl _) (addRec_can p r 0 hc hb.1 hb.2.1) (addRec_top p r ht hb.2.2)
    rw [List.foldl_cons, e]
    obtain ⟨a1, a2⟩ := fold_join (l := rs) hq (fun x hx => hr x (by simp [hx]))
    refine ⟨a1, fun n => ?_⟩
    rw [a2, addRec_in p r 0 n hc hb.2.1, inR_cons]
    constructor
    · rintro ((h | h) | h)
      · exact Or.inr (Or.inl h)
      · exact Or.inl h
      · exact Or.inr (Or.inr h)
    · rintro (h | h | h)
      · exact Or.inl (Or.inr h)
      · exact Or.inl (Or.inl h)
      · exact Or.inr h
theorem rgs_fine : ∀ {l : List Rg} {lo : Int}, rgsFrom lo l = true → ∀ r ∈ l, rgFine r = true
  | [], _, _, _, h => by simp at h
  | x :: xs, lo, h, r, hr => by
    simp only [rgsFrom, Bool.and_eq_true, decide_eq_true_eq] at h
    rcases List.mem_cons.1 hr with rfl | hr
    · exact h.1
    · exact rgs_fine h.2.2 r hr
theorem join_in {p f k : List Rg} (hp : isRgs p = true) (hf : isRgs f = true) (hk : isRgs k = true) : isRgs (joinR p f k) = true ∧ ∀ n, inR (joinR p f k) n ↔ inR p n ∨ (inR f n ∨ inR k n) := by
  obtain ⟨a, b⟩ := fold_join (l := f ++ k) hp (fun r hr => by
    rcases List.mem_append.1 hr with h | h
    · exact rgs_fine hf r h
    · exact rgs_fine hk r h)
  exact ⟨a, fun n => by unfold joinR; rw [b, inR_append]⟩
theorem fold_len : ∀ (l p : List Rg), (l.foldl addR p).length ≤ p.length + l.length
  | [], p => Nat.le_refl _
  | r :: rs, p => by
    have h1 := fold_len rs (addR p r)
    have h2 : (addR p r).length ≤ p.length + 1 := by
      unfold addR
      split
      · exact addRec_length p r
      · omega
    rw [List.foldl_cons, List.length_cons]; omega
/-- The last range ends behind a place. -/
def endsB (l : List Rg) (m : Int) : Bool := decide (0 < l.length) && decide (m < (l.getD (l.length - 1) dr).2)
theorem can_last : ∀ {l : List Rg} {lo : Int}, CanR lo l → 0 < l.length → ∀ r ∈ l, r.2 ≤ (l.getD (l.length - 1) dr).2
  | [], _, _, h, _, _ => by simp at h
  | [x], _, _, _, r, hr => by
    obtain rfl := List.mem_singleton.1 hr
    exact Int.le_refl _
  | x :: y :: ys, lo, h, _, r, hr => by
    have e : (x :: y :: ys).getD ((x :: y :: ys).length - 1) dr = (y :: ys).getD ((y :: ys).length - 1) dr := by simp [List.getD]
    have ih := can_last h.2.2 (by simp)
    rw [e]
    rcases List.mem_cons.1 hr with rfl | hr
    · have h1 := ih y (by simp)
      have h2 := h.2.2.1
      have h3 := h.2.2.2.1
      omega
    · exact ih r hr
theorem endsB_top {l : List Rg} {lo m : Int} (h : CanR lo l) : endsB l m = false ↔ TopR m l := by
  rcases l with _ | ⟨x, xs⟩
  · exact ⟨fun _ r hr => by simp at hr, fun _ => rfl⟩
  · have hl := can_last h (by simp)
    have hm : (x :: xs).getD ((x :: xs).length - 1) dr ∈ (x :: xs) := by
      have hlt : (x :: xs).length - 1 < (x :: xs).length := by simp
      rw [List.getD, List.getElem?_eq_getElem hlt]
      exact List.getElem_mem hlt
    constructor
    · intro he r hr
      have h1 := hl r hr
      have h2 : ¬ (m < ((x :: xs).getD ((x :: xs).length - 1) dr).2) := by
        intro hh
        unfold endsB at he
        rw [decide_eq_true hh] at he
        simp at he
      omega
    · intro ht
      have := ht _ hm
      unfold endsB
      rw [decide_eq_false (by omega : ¬ (m < ((x :: xs).getD ((x :: xs).length - 1) dr).2))]
      simp
/-! ### the three sets of a sender -/
/-- Together just the numbers below e, each in just one of them. -/
def Whole (p f k : List Rg) (e : Int) : Prop :=
  (∀ n, inR p n ∨ (inR f n ∨ inR k n) ↔ 0 ≤ n ∧ n < e) ∧ (∀ n, ¬ (inR p n ∧ inR f n) ∧ ¬ (inR p n ∧ inR k n) ∧ ¬ (inR f n ∧ inR k n))
theorem whole_sum {p f k : List Rg} {m : Nat} (hp : isRgs p = true) (hf : isRgs f = true) (hk : isRgs k = true) (h : Whole p f k m) : rgSum p + rgSum f + rgSum k = m := by
  obtain ⟨cp, -⟩ := rgsFrom_can hp
  obtain ⟨cf, -⟩ := rgsFrom_can hf
  obtain ⟨ck, -⟩ := rgsFrom_can hk
  have tp : TopR m p := top_of_in cp (fun n hn => ((h.1 n).1 (Or.inl hn)).2)
  have tf : TopR m f := top_of_in cf (fun n hn => ((h.1 n).1 (Or.inr (Or.inl hn))).2)
  have tk : TopR m k := top_of_in ck (fun n hn => ((h.1 n).1 (Or.inr (Or.inr hn))).2)
  rw [rgSum_cnt (Int.le_refl _) cp tp, rgSum_cnt (Int.le_refl _) cf tf, rgSum_cnt (Int.le_refl _) ck tk]
  have e2 : cntP (fun n => inRb f n || inRb k n) m = cntP (inRb f) m + cntP (inRb k) m := cntP_or (fun n _ _ hh => (h.2 n).2.2 ⟨(inRb_iff _ _).1 hh.1, (inRb_iff _ _).1 hh.2⟩)
  have e1 : cntP (fun n => inRb p n || (inRb f n || inRb k n)) m = cntP (inRb p) m + cntP (fun n => inRb f n || inRb k n) m := cntP_or (fun n _ _ hh => by
    have h1 := (inRb_iff _ _).1 hh.1
    rcases Bool.or_eq_true_iff.1 hh.2 with h2 | h2
    · exact (h.2 n).1 ⟨h1, (inRb_iff _ _).1 h2⟩
    · exact (h.2 n).2.1 ⟨h1, (inRb_iff _ _).1 h2⟩)
  have e3 : cntP (fun n => inRb p n || (inRb f n || inRb k n)) m = m := cntP_all (fun n n0 n1 => by
    have := (h.1 n).2 ⟨n0, n1⟩
    simp only [Bool.or_eq_true, inRb_iff]
    exact this)
  omega
theorem join_sum {p f k : List Rg} {m : Nat} (hp : isRgs p = true) (hf : isRgs f = true) (hk : isRgs k = true) (h : Whole p f k m) : rgSum (joinR p f k) = m ∧ TopR m (joinR p f k) := by
  obtain ⟨hj, hi⟩ := join_in hp hf hk
  obtain ⟨cj, -⟩ := rgsFrom_can hj
  have tj : TopR m (joinR p f k) := top_of_in cj (fun n hn => ((h.1 n).1 ((hi n).1 hn)).2)
  refine ⟨?_, tj⟩
  rw [rgSum_cnt (Int.le_refl _) cj tj]
  exact cntP_all (fun n n0 n1 => (inRb_iff _ _).2 ((hi n).2 ((h.1 n).2 ⟨n0, n1⟩)))
theorem whole_of {p f k : List Rg} {m : Nat} (hp : isRgs p = true) (hf : isRgs f = true) (hk : isRgs k = true) (h1 : rgSum p + rgSum f + rgSum k = m) (h2 : rgSum (joinR p f k) = m) (ht : TopR m (joinR p f k)) : Whole p f k m := by
  obtain ⟨hj, hi⟩ := join_in hp hf hk
  obtain ⟨cj, -⟩ := rgsFrom_can hj
  obtain ⟨cp, -⟩ := rgsFrom_can hp
  obtain ⟨cf, -⟩ := rgsFrom_can hf
  obtain ⟨ck, -⟩ := rgsFrom_can hk
  have lt := in_of_top ht
  have tp : TopR m p := top_of_in cp (fun n hn => lt n ((hi n).2 (Or.inl hn)))
  have tf : TopR m f := top_of_in cf (fun n hn => lt n ((hi n).2 (Or.inr (Or.inl hn))))
  have tk : TopR m k := top_of_in ck (fun n hn => lt n ((hi n).2 (Or.inr (Or.inr hn))))
  rw [rgSum_cnt (Int.le_refl _) cp tp, rgSum_cnt (Int.le_refl _) cf tf, rgSum_cnt (Int.le_refl _) ck tk] at h1
  rw [rgSum_cnt (Int.le_refl _) cj ht] at h2
  have e : cntP (inRb (joinR p f k)) m = cntP (fun n => inRb p n || (inRb f n || inRb k n)) m := cntP_congr (fun n _ _ => by
    rw [Bool.eq_iff_iff]
    simp only [Bool.or_eq_true, inRb_iff]
    exact hi n)
  have three := (cntP_three (inRb p) (inRb f) (inRb k) m).2 (by omega)
  have inn : ∀ n, inR p n ∨ (inR f n ∨ inR k n) → 0 ≤ n ∧ n < m := fun n hn => ⟨inR_low cj ((hi n).2 hn), lt n ((hi n).2 hn)⟩
  refine ⟨fun n => ⟨inn n, fun hn => ?_⟩, fun n => ?_⟩
  · exact (hi n).1 ((inRb_iff _ _).1 (cntP_full h2 n hn.1 hn.2))
  · simp only [inRb_iff] at three
    refine ⟨fun hh => ?_, fun hh => ?_, fun hh => ?_⟩
    · obtain ⟨n0, n1⟩ := inn n (Or.inl hh.1)
      exact (three n n0 n1).1 hh
    · obtain ⟨n0, n1⟩ := inn n (Or.inl hh.1)
      exact (three n n0 n1).2.1 hh
    · obtain ⟨n0, n1⟩ := inn n (Or.inr (Or.inl hh.1))
      exact (three n n0 n1).2.2 hh
end Go.Proofs.Ytjhgcbchdnoleaa

/-
  Senders as plain data: what makes one valid for the program and for the reference; what keeps it valid. No program in sight. Conditions: each lemma bears its own.
-/
import Derived.Test.YtjhgcbchdnoleaaRgQ
import Derived.Test.YtjhgcbchdnoleaaRingP
namespace Go.Proofs.Ytjhgcbchdnoleaa
set_option linter.unusedSimpArgs false
set_option linter.unusedVariables false
structure Sn where
  st : Int
  z : Int
  b : Int
  e : Int
  xs : List Int
  p : List Rg
  f : List Rg
  k : List Rg
  fi : Int
  fk : Int
  se : Int
  co : Int
def cntSum (p f k : List Rg) : Int := IntKind.i64.wrap (IntKind.i64.wrap (cntR p + cntR f) + cntR k)
/-- The state that follows: the reference, the program. -/
def stS (st b e fk se : Int) : Int := if fk = 3 ∧ b = e then 3 else if 1 < fk ∨ (fk = 1 ∧ st = 2) then 2 else if 0 < se ∨ (fk = 1 ∧ st = 1) then 1 else 0
def stI (st b e fk se : Int) : Int := if fk = 3 ∧ b = e then 3 else if fk = 2 ∨ (fk = 3 ∨ (fk = 1 ∧ st = 2)) then 2 else if 0 < se ∨ (fk = 1 ∧ st = 1) then 1 else 0
theorem stS_I {st b e fk se : Int} (h : fk ≤ 3) : stS st b e fk se = stI st b e fk se := by
  unfold stS stI
  by_cases h1 : fk = 3 ∧ b = e
  · rw [if_pos h1, if_pos h1]
  · rw [if_neg h1, if_neg h1]
    by_cases h2 : 1 < fk ∨ (fk = 1 ∧ st = 2)
    · have h3 : fk = 2 ∨ (fk = 3 ∨ (fk = 1 ∧ st = 2)) := by omega
      rw [if_pos h2, if_pos h3]
    · have h3 : ¬ (fk = 2 ∨ (fk = 3 ∨ (fk = 1 ∧ st = 2))) := by omega
      rw [if_neg h2, if_neg h3]
theorem stI_bd (st b e fk se : Int) : 0 ≤ stI st b e fk se ∧ stI st b e fk se ≤ 3 := by
  unfold stI
  split
  · omega
  · split
    · omega
    · split <;> omega
def sndHd (s : Sn) : Bool := isRing s.z s.b s.e s.xs && (isRgs s.p && (isRgs s.f && (isRgs s.k && (inB 0 s.se s.e && (inB 0 s.co 4611686018427387903 && inB 0 s.fk 3)))))
def sndRst (s : Sn) : Bool := decide (s.b = s.e) && (decide (s.p.length = 0) && (decide (s.f.length = 0) && (decide (s.k.length = 0) && (decide (s.fi = s.se) && (decide (s.fk = 0) && decide (s.se = s.e))))))
def wholeI (s : Sn) : Bool := decide (cntSum s.p s.f s.k = s.e) && (decide (cntR (joinR s.p s.f s.k) = s.e) && !endsB (joinR s.p s.f s.k) s.e)
def wholeS (s : Sn) : Bool := decide (cntR (joinR s.p s.f s.k) = s.e) && (decide (cntSum s.p s.f s.k = s.e) && !(decide (0 < s.e) && !decide (((joinR s.p s.f s.k).getD 0 dr).2 = s.e)))
def topB (l : List Rg) (m : Int) : Bool := l.all fun r => decide (r.2 ≤ m)
def isRst (s : Sn) : Bool := decide (s.st = 4) || decide (s.st = 5)
def sndI (s : Sn) : Bool := sndHd s && (if isRst s = true then sndRst s else
  wholeI s && (decide (gapR s.k 0 = s.b) && (!endsB s.f s.se && (!endsB s.k s.se && (decide (s.co = 0) && (decide (s.fi = if s.fk = 0 then -1 else s.e) && decide (s.st = stI s.st s.b s.e s.fk s.se)))))))
def sndS (s : Sn) : Bool := sndHd s && (if isRst s = true then sndRst s else
  wholeS s && (decide (gapR s.k 0 = s.b) && (decide (s.co = 0) && (topB s.f s.se && (topB s.k s.se && (!(decide (s.fk = 0) != decide (s.fi = -1)) && (!(!decide (s.fi = -1) && !decide (s.fi = s.e)) && decide (s.st = stS s.st s.b s.e s.fk s.se))))))))
theorem topB_iff (l : List Rg) (m : Int) : topB l m = true ↔ TopR m l := by
  simp [topB, TopR]
theorem endsB_topB {l : List Rg} (h : isRgs l = true) (m : Int) : (!endsB l m) = topB l m := by
  rw [Bool.eq_iff_iff, topB_iff, ← endsB_top (rgsFrom_can h).1]
  simp
structure Hd (s : Sn) : Prop where
  ring : isRing s.z s.b s.e s.xs = true
  rp : isRgs s.p = true
  rf : isRgs s.f = true
  rk : isRgs s.k = true
  se0 : 0 ≤ s.se
  se1 : s.se ≤ s.e
  co0 : 0 ≤ s.co
  co1 : s.co ≤ 4611686018427387903
  fk0 : 0 ≤ s.fk
  fk1 : s.fk ≤ 3
theorem sndHd_iff (s : Sn) : sndHd s = true ↔ Hd s := by
  simp only [sndHd, Bool.and_eq_true, inB, decide_eq_true_eq]
  constructor
  · rintro ⟨h1, h2, h3, h4, ⟨h5, h6⟩, ⟨h7, h8⟩, h9, h10⟩
    exact ⟨h1, h2, h3, h4, h5, h6, h7, h8, h9, h10⟩
  · rintro ⟨h1, h2, h3, h4, h5, h6, h7, h8, h9, h10⟩
    exact ⟨h1, h2, h3, h4, ⟨h5, h6⟩, ⟨h7, h8⟩, h9, h10⟩
/-- A valid sender that is not reset. -/
structure Vld (s : Sn) : Prop where
  hd : Hd s
  wh : Whole s.p s.f s.k s.e
  gap : gapR s.k 0 = s.b
  tf : TopR s.se s.f
  tk : TopR s.se s.k
  co : s.co = 0
  fi : s.fi = if s.fk = 0 then -1 else s.e
  st : s.st = stI s.st s.b s.e s.fk s.se
theorem Hd.e0 {s : Sn} (h : Hd s) : 0 ≤ s.e := by have := isRing_bd h.ring; omega
theorem Vld.not {s : Sn} (h : Vld s) : isRst s = false := by
  have h1 := h.st
  have h2 := stI_bd s.st s.b s.e s.fk s.se
  simp only [isRst, Bool.or_eq_false_iff, decide_eq_false_iff_not]
  omega
theorem cntR_yes {l : List Rg} (h : isRgs l = true) : cntR l = rgSum l := if_pos h
theorem cntSum_yes {p f k : List Rg} {m : Int} (hp : isRgs p = true) (hf : isRgs f = true) (hk : isRgs k = true) (hm : m ≤ 1152921504606846976) (h0 : 0 ≤ m) (tp : TopR m p) (tf : TopR m f) (tk : TopR m k) : cntSum p f k = rgSum p + rgSum f + rgSum k := by
  have a1 := rgSum_nonneg (rgsFrom_can hp).1
  have a2 := rgSum_nonneg (rgsFrom_can hf).1
  have a3 := rgSum_nonneg (rgsFrom_can hk).1
  have b1 := rgSum_top (rgsFrom_can hp).1 tp h0
  have b2 := rgSum_top (rgsFrom_can hf).1 tf h0
  have b3 := rgSum_top (rgsFrom_can hk).1 tk h0
  unfold cntSum
  rw [cntR_yes hp, cntR_yes hf, cntR_yes hk, IntWalk.i64_in (rgSum p + rgSum f) (by omega), IntWalk.i64_in _ (by omega)]
theorem whole_tops {p f k : List Rg} {m : Int} (hp : isRgs p = true) (hf : isRgs f = true) (hk : isRgs k = true) (h : ∀ n, inR p n ∨ (inR f n ∨ inR k n) → n < m) : TopR m p ∧ TopR m f ∧ TopR m k :=
  ⟨top_of_in (rgsFrom_can hp).1 (fun n hn => h n (Or.inl hn)), top_of_in (rgsFrom_can hf).1 (fun n hn => h n (Or.inr (Or.inl hn))), top_of_in (rgsFrom_can hk).1 (fun n hn => h n (Or.inr (Or.inr hn)))⟩
theorem wholeI_iff {s : Sn} (h : Hd s) (hm : s.e ≤ 1152921504606846976) : wholeI s = true ↔ Whole s.p s.f s.k s.e := by
  obtain ⟨hj, hi⟩ := join_in h.rp h.rf h.rk
  have e0 := h.e0
  obtain ⟨m, he⟩ : ∃ m : Nat, (m : Int) = s.e := ⟨s.e.toNat, by omega⟩
  simp only [wholeI, Bool.and_eq_true, decide_eq_true_eq, Bool.not_eq_true']
  rw [endsB_top (rgsFrom_can hj).1, cntR_yes hj, ← he]
  constructor
  · rintro ⟨h1, h2, h3⟩
    obtain ⟨t1, t2, t3⟩ := whole_tops h.rp h.rf h.rk (fun n hn => in_of_top h3 n ((hi n).2 hn))
    rw [cntSum_yes h.rp h.rf h.rk (by omega) (by omega) t1 t2 t3] at h1
    exact whole_of h.rp h.rf h.rk h1 h2 h3
  · intro hw
    obtain ⟨t1, t2, t3⟩ := whole_tops h.rp h.rf h.rk (fun n hn => ((hw.1 n).1 hn).2)
    obtain ⟨j1, j2⟩ := join_sum h.rp h.rf h.rk hw
    exact ⟨by rw [cntSum_yes h.rp h.rf h.rk (by omega) (by omega) t1 t2 t3]; exact whole_sum h.rp h.rf h.rk hw, j1, j2⟩
/-- The joined ranges of one that is whole. -/
theorem join_whole {p f k : List Rg} {e : Int} (hp : isRgs p = true) (hf : isRgs f = true) (hk : isRgs k = true) (h : Whole p f k e) (he : 0 < e) : joinR p f k = [(0, e)] := by
  obtain ⟨hj, hi⟩ := join_in hp hf hk
  refine can_ext (lo' := 0) (rgsFrom_can hj).1 ⟨Int.le_refl _, he, trivial⟩ (fun n => ?_)
  rw [hi, h.1 n, inR_cons]
  constructor
  · exact fun hh => Or.inl hh
  · rintro (hh | hh)
    · exact hh
    · exact absurd hh (inR_nil n)
/-- The program and the reference agree on a sender whose joined ranges do not lie behind its end. -/
theorem whole_same {s : Sn} (h : Hd s) (hm : s.e ≤ 1152921504606846976) (ht : TopR s.e (joinR s.p s.f s.k)) : wholeI s = wholeS s := by
  obtain ⟨hj, hi⟩ := join_in h.rp h.rf h.rk
  rw [Bool.eq_iff_iff]
  constructor
  · intro hI
    have hw := (wholeI_iff h hm).1 hI
    simp only [wholeI, Bool.and_eq_true, decide_eq_true_eq] at hI
    simp only [wholeS, Bool.and_eq_true, decide_eq_true_eq, Bool.not_eq_true', Bool.and_eq_false_iff, Bool.not_eq_false', decide_eq_false_iff_not]
    refine ⟨hI.2.1, hI.1, ?_⟩
    by_cases he : 0 < s.e
    · right
      rw [join_whole h.rp h.rf h.rk hw he]; rfl
    · exact Or.inl he
  · intro hS
    simp only [wholeS, Bool.and_eq_true, decide_eq_true_eq] at hS
    simp only [wholeI, Bool.and_eq_true, decide_eq_true_eq, Bool.not_eq_true']
    exact ⟨hS.2.1, hS.1, (endsB_top (rgsFrom_can hj).1).2 ht⟩
theorem tail_same {s : Sn} (h : Hd s) : (decide (gapR s.k 0 = s.b) && (!endsB s.f s.se && (!endsB s.k s.se && (decide (s.co = 0) && (decide (s.fi = if s.fk = 0 then -1 else s.e) && decide (s.st = stI s.st s.b s.e s.fk s.se)))))) = (decide (gapR s.k 0 = s.b) && (decide (s.co = 0) && (topB s.f s.se && (topB s.k s.se && (!(decide (s.fk = 0) != decide (s.fi = -1)) && (!(!decide (s.fi = -1) && !decide (s.fi = s.e)) && decide (s.st = stS s.st s.b s.e s.fk s.se))))))) := by
  have e0 := h.e0
  rw [endsB_topB h.rf, endsB_topB h.rk, stS_I h.fk1]
  have q : decide (s.fi = if s.fk = 0 then -1 else s.e) = (!(decide (s.fk = 0) != decide (s.fi = -1)) && !(!decide (s.fi = -1) && !decide (s.fi = s.e))) := by
    by_cases h1 : s.fk = 0 <;> by_cases h2 : s.fi = -1 <;> by_cases h3 : s.fi = s.e <;> simp [h1, h2, h3] <;> omega
  rw [q]
  generalize decide (gapR s.k 0 = s.b) = a1
  generalize topB s.f s.se = a2
  generalize topB s.k s.se = a3
  generalize decide (s.co = 0) = a4
  generalize (!(decide (s.fk = 0) != decide (s.fi = -1))) = a5
  generalize (!(!decide (s.fi = -1) && !decide (s.fi = s.e))) = a6
  generalize decide (s.st = stI s.st s.b s.e s.fk s.se) = a7
  cases a1 <;> cases a2 <;> cases a3 <;> cases a4 <;> cases a5 <;> cases a6 <;> cases a7 <;> rfl
theorem snd_same {s : Sn} (hm : s.e ≤ 1152921504606846976) (ht : Hd s → TopR s.e (joinR s.p s.f s.k)) : sndI s = sndS s := by
  unfold sndI sndS
  rcases Bool.eq_false_or_eq_true (sndHd s) with hh | hh
  · have h := (sndHd_iff s).1 hh
    rw [hh, whole_same h hm (ht h), tail_same h]
  · rw [hh]; rfl
theorem act_iff {s : Sn} (hm : s.e ≤ 1152921504606846976) (hn : isRst s = false) : sndI s = true ↔ Vld s := by
  unfold sndI
  rw [hn, Bool.and_eq_true, sndHd_iff, if_neg (by simp)]
  constructor
  · rintro ⟨h, h2⟩
    rw [Bool.and_eq_true, wholeI_iff h hm] at h2
    obtain ⟨hw, h3⟩ := h2
    simp only [Bool.and_eq_true, decide_eq_true_eq, Bool.not_eq_true'] at h3
    obtain ⟨g1, g2, g3, g4, g5, g6⟩ := h3
    exact ⟨h, hw, g1, (endsB_top (rgsFrom_can h.rf).1).1 g2, (endsB_top (rgsFrom_can h.rk).1).1 g3, g4, g5, g6⟩
  · rintro ⟨h, hw, g1, g2, g3, g4, g5, g6⟩
    refine ⟨h, ?_⟩
    rw [Bool.and_eq_true, wholeI_iff h hm]
    refine ⟨hw, ?_⟩
    simp only [Bool.and_eq_true, decide_eq_true_eq, Bool.not_eq_true']
    exact ⟨g1, (endsB_top (rgsFrom_can h.rf).1).2 g2, (endsB_top (rgsFrom_can h.rk).1).2 g3, g4, g5, g6⟩
theorem Vld.sndI {s : Sn} (h : Vld s) (hm : s.e ≤ 1152921504606846976) : sndI s = true := (act_iff hm h.not).2 h
/-- A valid sender: a reset one holds no ranges; of any other the ranges lie below its end. -/
theorem valid_top {s : Sn} (hm : s.e ≤ 1152921504606846976) (h : sndI s = true) : Hd s ∧ TopR s.e (joinR s.p s.f s.k) := by
  rcases Bool.eq_false_or_eq_true (isRst s) with hr | hr
  · unfold Go.Proofs.Ytjhgcbchdnoleaa.sndI at h
    rw [Bool.and_eq_true, sndHd_iff, hr, if_pos rfl] at h
    obtain ⟨hd, h2⟩ := h
    simp only [sndRst, Bool.and_eq_true, decide_eq_true_eq] at h2
    have e1 := List.eq_nil_of_length_eq_zero h2.2.1
    have e2 := List.eq_nil_of_length_eq_zero h2.2.2.1
    have e3 := List.eq_nil_of_length_eq_zero h2.2.2.2.1
    exact ⟨hd, by rw [e1, e2, e3]; exact fun r hr => by simp [joinR] at hr⟩
  · have ha := (act_iff hm hr).1 h
    obtain ⟨hj, hi⟩ := join_in ha.hd.rp ha.hd.rf ha.hd.rk
    exact ⟨ha.hd, top_of_in (rgsFrom_can hj).1 (fun n hn => ((ha.wh.1 n).1 ((hi n).1 hn)).2)⟩
theorem snd_valid {s : Sn} (hm : s.e ≤ 1152921504606846976) (h : sndI s = true) : sndS s = true := by
  rw [← snd_same hm (fun _ => (valid_top hm h).2)]
  exact h
/-! ### the steps -/
theorem stI_idem (st b e fk se : Int) : stI st b e fk se = stI (stI st b e fk se) b e fk se := by
  by_cases h1 : fk = 3 ∧ b = e
  · have v : ∀ x, stI x b e fk se = 3 := fun x => if_pos h1
    rw [v, v]
  · by_cases h2 : fk = 2 ∨ (fk = 3 ∨ (fk = 1 ∧ st = 2))
    · have v : stI st b e fk se = 2 := by unfold stI; rw [if_neg h1, if_pos h2]
      have q : fk = 2 ∨ (fk = 3 ∨ (fk = 1 ∧ (2 : Int) = 2)) := by omega
      rw [v]
      unfold stI
      rw [if_neg h1, if_pos q]
    · by_cases h3 : 0 < se ∨ (fk = 1 ∧ st = 1)
      · have v : stI st b e fk se = 1 := by unfold stI; rw [if_neg h1, if_neg h2, if_pos h3]
        have q : ¬ (fk = 2 ∨ (fk = 3 ∨ (fk = 1 ∧ (1 : Int) = 2))) := by omega
        have q2 : 0 < se ∨ (fk = 1 ∧ (1 : Int) = 1) := by omega
        rw [v]
        unfold stI
        rw [if_neg h1, if_neg q, if_pos q2]
      · have v : stI st b e fk se = 0 := by unfold stI; rw [if_neg h1, if_neg h2, if_neg h3]
        have q : ¬ (fk = 2 ∨ (fk = 3 ∨ (fk = 1 ∧ (0 : Int) = 2))) := by omega
        have q2 : ¬ (0 < se ∨ (fk = 1 ∧ (0 : Int) = 1)) := by omega
        rw [v]
        unfold stI
        rw [if_neg h1, if_neg q, if_neg q2]
theorem add_rgs {l : List Rg} {r : Rg} (h : isRgs l = true) (hr : rgFine r = true) : isRgs (addR l r) = true ∧ ∀ n, inR (addR l r) n ↔ (r.1 ≤ n ∧ n < r.2) ∨ inR l n := by
  have hb := rgFine_bd hr
  obtain ⟨hc, ht⟩ := rgsFrom_can h
  have e : addR l r = addRec r l := if_pos ⟨h, hr⟩
  rw [e]
  exact ⟨can_rgsFrom (Int.le_refl _) (addRec_can l r 0 hc hb.1 hb.2.1) (addRec_top l r ht hb.2.2), fun n => addRec_in l r 0 n hc hb.2.1⟩
theorem rem_rgs {l : List Rg} {r : Rg} (h : isRgs l = true) (hr : rgFine r = true) : isRgs (remR l r) = true ∧ ∀ n, inR (remR l r) n ↔ inR l n ∧ ¬ (r.1 ≤ n ∧ n < r.2) := by
  have hb := rgFine_bd hr
  obtain ⟨hc, ht⟩ := rgsFrom_can h
  have e : remR l r = remRec r l := if_pos ⟨h, hr⟩
  have c := remRec_can r hb.2.1 hc
  rw [e]
  refine ⟨can_rgsFrom (Int.le_refl _) c (top_of_in c (fun n hn => in_of_top ht n ((remRec_in r hb.2.1 n l).1 hn).1)), fun n => remRec_in r hb.2.1 n l⟩
theorem com_rgs {l : List Rg} {r : Rg} (h : isRgs l = true) (hr : rgFine r = true) : isRgs (comR l r) = true ∧ ∀ n, inR (comR l r) n ↔ inR l n ∧ (r.1 ≤ n ∧ n < r.2) := by
  obtain ⟨hc, ht⟩ := rgsFrom_can h
  have e : comR l r = comRec r l := if_pos ⟨h, hr⟩
  have c := comRec_can r hc
  rw [e]
  refine ⟨can_rgsFrom (Int.le_refl _) c (top_of_in c (fun n hn => in_of_top ht n ((comRec_in r n l).1 hn).1)), fun n => comRec_in r n l⟩
end Go.Proofs.Ytjhgcbchdnoleaa

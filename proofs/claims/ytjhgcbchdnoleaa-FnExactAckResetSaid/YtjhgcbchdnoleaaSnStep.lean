/-
  Senders as plain data: each step keeps a valid sender valid. No program in sight. Conditions: each lemma bears its own.
-/
import Derived.Test.YtjhgcbchdnoleaaSnP
namespace Go.Proofs.Ytjhgcbchdnoleaa
set_option linter.unusedSimpArgs false
set_option linter.unusedVariables false
/-! ### a new one -/
def newSn (z : Int) : Sn := ⟨0, z, 0, 0, List.replicate z.toNat 0, [], [], [], -1, 0, 0, 0⟩
theorem new_act {z : Int} (h : ringSz z = true) : Vld (newSn z) := by
  refine ⟨⟨ring_zero (b := 0) h (by omega) (by omega), rfl, rfl, rfl, Int.le_refl _, Int.le_refl _, Int.le_refl _, by show (0 : Int) ≤ _; omega, Int.le_refl _, by show (0 : Int) ≤ _; omega⟩, ⟨fun n => ?_, fun n => ?_⟩, rfl, fun r hr => by simp [newSn] at hr, fun r hr => by simp [newSn] at hr, rfl, rfl, rfl⟩
  · simp only [newSn, inR_nil, false_or, false_iff]
    omega
  · simp only [newSn, inR_nil]
    simp
/-! ### written -/
def wrN (s : Sn) (d : ByteArray) : Nat := (min (d.size : Int) (roomOf s.z s.b s.e s.xs)).toNat
def wrV (s : Sn) (d : ByteArray) : Sn := ⟨s.st, s.z, s.b, s.e + wrN s d, setN s.xs s.z s.e (byteAt d) (wrN s d), addR s.p (s.e, s.e + wrN s d), s.f, s.k, s.fi, s.fk, s.se, s.co⟩
theorem Vld.e_nat {s : Sn} (h : Vld s) : 0 ≤ s.e ∧ s.e ≤ 4611686018427387903 := by have := isRing_bd h.hd.ring; omega
theorem wrN_bd (s : Sn) (d : ByteArray) (h : isRing s.z s.b s.e s.xs = true) : (wrN s d : Int) ≤ s.z - (s.e - s.b) ∧ (wrN s d : Int) ≤ 4611686018427387903 - s.e ∧ wrN s d ≤ d.size := by
  have := isRing_bd h
  unfold wrN roomOf
  rw [if_pos h]
  omega
theorem Vld.fk_of {s : Sn} (h : Vld s) (hf : s.fi = -1) : s.fk = 0 := by
  have h1 := h.fi
  have h2 := h.e_nat
  by_cases c : s.fk = 0
  · exact c
  · rw [if_neg c] at h1; omega
theorem wr_act {s : Sn} (h : Vld s) (hf : s.fi = -1) (d : ByteArray) : Vld (wrV s d) := by
  obtain ⟨n1, n2, n3⟩ := wrN_bd s d h.hd.ring
  obtain ⟨e0, e1⟩ := h.e_nat
  have hk := h.fk_of hf
  have hst := h.st
  rcases Nat.eq_zero_or_pos (wrN s d) with h0 | h0
  · have e : wrV s d = s := by
      have ha : addR s.p (s.e, s.e + ((0 : Nat) : Int)) = s.p := if_neg (by simp [rgFine])
      unfold wrV
      rw [h0, ha, setN]
      simp
    rw [e]; exact h
  · have hr : rgFine (s.e, s.e + wrN s d) = true := by simp only [rgFine, Bool.and_eq_true, decide_eq_true_eq]; omega
    obtain ⟨a1, a2⟩ := add_rgs h.hd.rp hr
    refine ⟨⟨ring_wr h.hd.ring d _ n1 n2, a1, h.hd.rf, h.hd.rk, h.hd.se0, ?_, h.hd.co0, h.hd.co1, h.hd.fk0, h.hd.fk1⟩, ⟨fun n => ?_, fun n => ?_⟩, h.gap, h.tf, h.tk, h.co, ?_, ?_⟩
    · have := h.hd.se1
      show s.se ≤ s.e + wrN s d
      omega
    · show inR (addR s.p (s.e, s.e + wrN s d)) n ∨ (inR s.f n ∨ inR s.k n) ↔ 0 ≤ n ∧ n < s.e + wrN s d
      rw [a2]
      have hw := h.wh.1 n
      dsimp only
      constructor
      · rintro ((hh | hh) | hh)
        · omega
        · have := hw.1 (Or.inl hh); omega
        · have := hw.1 (Or.inr hh); omega
      · intro hh
        by_cases c : n < s.e
        · rcases hw.2 ⟨hh.1, c⟩ with q | q
          · exact Or.inl (Or.inr q)
          · exact Or.inr q
        · exact Or.inl (Or.inl ⟨by omega, hh.2⟩)
    · show ¬ (inR (addR s.p (s.e, s.e + wrN s d)) n ∧ inR s.f n) ∧ ¬ (inR (addR s.p (s.e, s.e + wrN s d)) n ∧ inR s.k n) ∧ ¬ (inR s.f n ∧ inR s.k n)
      rw [a2]
      have hw := h.wh.1 n
      obtain ⟨d1, d2, d3⟩ := h.wh.2 n
      dsimp only
      refine ⟨?_, ?_, d3⟩
      · rintro ⟨hh | hh, q⟩
        · have := hw.1 (Or.inr (Or.inl q)); omega
        · exact d1 ⟨hh, q⟩
      · rintro ⟨hh | hh, q⟩
        · have := hw.1 (Or.inr (Or.inr q)); omega
        · exact d2 ⟨hh, q⟩
    · show s.fi = if s.fk = 0 then -1 else s.e + wrN s d
      rw [if_pos hk, hf]
    · show s.st = stI s.st s.b (s.e + wrN s d) s.fk s.se
      rw [hk] at hst ⊢
      exact hst
/-! ### closed -/
def clV (s : Sn) : Sn := ⟨s.st, s.z, s.b, s.e, s.xs, s.p, s.f, s.k, s.e, 1, s.se, s.co⟩
theorem cl_act {s : Sn} (h : Vld s) (hf : s.fi = -1) : Vld (clV s) := by
  have hk := h.fk_of hf
  have hst := h.st
  refine ⟨⟨h.hd.ring, h.hd.rp, h.hd.rf, h.hd.rk, h.hd.se0, h.hd.se1, h.hd.co0, h.hd.co1, by show (0 : Int) ≤ 1; omega, by show (1 : Int) ≤ 3; omega⟩, h.wh, h.gap, h.tf, h.tk, h.co, rfl, ?_⟩
  show s.st = stI s.st s.b s.e 1 s.se
  rw [hk] at hst
  have e1 : stI s.st s.b s.e 0 s.se = if 0 < s.se then 1 else 0 := by simp [stI]
  rw [e1] at hst
  unfold stI
  by_cases c : 0 < s.se
  · rw [if_pos c] at hst
    rw [if_neg (by omega), if_neg (by omega), if_pos (by omega)]
    exact hst
  · rw [if_neg c] at hst
    rw [if_neg (by omega), if_neg (by omega), if_neg (by omega)]
    exact hst
/-! ### reset -/
def rsV (s : Sn) (co : Int) : Sn := ⟨4, s.z, s.se, s.se, List.replicate s.z.toNat 0, [], [], [], s.se, 0, s.se, co⟩
theorem rs_snd {s : Sn} (h : Hd s) {co : Int} (h0 : 0 ≤ co) (h1 : co ≤ 4611686018427387903) : sndI (rsV s co) = true := by
  have hb := isRing_bd h.ring
  have hz := (isRing_parts.1 h.ring).1
  have := h.se0
  have := h.se1
  have hd : Hd (rsV s co) := ⟨ring_zero (b := s.se) hz h.se0 (by omega), rfl, rfl, rfl, h.se0, Int.le_refl _, h0, h1, Int.le_refl _, by show (0 : Int) ≤ 3; omega⟩
  unfold sndI
  rw [(sndHd_iff _).2 hd]
  simp [isRst, rsV, sndRst]
/-! ### sent -/
def seV (s : Sn) (off : Int) (n : Nat) (fin : Bool) : Sn :=
  let p' := if n = 0 then s.p else remR s.p (off, off + n)
  let f' := if n = 0 then s.f else addR s.f (off, off + n)
  let se' := if n = 0 then s.se else max s.se (off + n)
  let fk' := if fin = true then 2 else s.fk
  ⟨stI s.st s.b s.e fk' se', s.z, s.b, s.e, s.xs, p', f', s.k, s.fi, fk', se', s.co⟩
theorem se_act {s : Sn} (h : Vld s) {off : Int} {n : Nat} {fin : Bool} (h0 : 0 ≤ off) (h1 : off + n ≤ s.e) (hc : n ≠ 0 → comR s.p (off, off + n) = [(off, off + (n : Int))]) (hf : fin = true → s.fk = 1) : Vld (seV s off n fin) := by
  obtain ⟨e0, e1⟩ := h.e_nat
  have key : isRgs (seV s off n fin).p = true ∧ isRgs (seV s off n fin).f = true ∧ Whole (seV s off n fin).p (seV s off n fin).f s.k s.e ∧ TopR (seV s off n fin).se (seV s off n fin).f ∧ s.se ≤ (seV s off n fin).se ∧ (seV s off n fin).se ≤ s.e := by
    by_cases hn : n = 0
    · simp only [seV, if_pos hn]
      exact ⟨h.hd.rp, h.hd.rf, h.wh, h.tf, Int.le_refl _, h.hd.se1⟩
    · simp only [seV, if_neg hn]
      have hr : rgFine (off, off + (n : Int)) = true := by simp only [rgFine, Bool.and_eq_true, decide_eq_true_eq]; omega
      obtain ⟨a1, a2⟩ := add_rgs h.hd.rf hr
      obtain ⟨b1, b2⟩ := rem_rgs h.hd.rp hr
      obtain ⟨c1, c2⟩ := com_rgs h.hd.rp hr
      have sub : ∀ m, off ≤ m → m < off + n → inR s.p m := fun m m0 m1 => ((c2 m).1 (by rw [hc hn]; exact (inR_cons _ _ _).2 (Or.inl ⟨m0, m1⟩))).1
      have := h.hd.se1
      refine ⟨b1, a1, ⟨fun m => ?_, fun m => ?_⟩, ?_, by omega, by omega⟩
      · rw [a2, b2]
        have hw := h.wh.1 m
        dsimp only
        constructor
        · rintro (hh | (hh | hh) | hh)
          · exact hw.1 (Or.inl hh.1)
          · exact hw.1 (Or.inl (sub m hh.1 hh.2))
          · exact hw.1 (Or.inr (Or.inl hh))
          · exact hw.1 (Or.inr (Or.inr hh))
        · intro hh
          by_cases c : off ≤ m ∧ m < off + n
          · exact Or.inr (Or.inl (Or.inl c))
          · rcases hw.2 hh with q | q | q
            · exact Or.inl ⟨q, c⟩
            · exact Or.inr (Or.inl (Or.inr q))
            · exact Or.inr (Or.inr q)
      · rw [a2, b2]
        obtain ⟨d1, d2, d3⟩ := h.wh.2 m
        dsimp only
        refine ⟨?_, fun hh => d2 ⟨hh.1.1, hh.2⟩, ?_⟩
        · rintro ⟨q1, q2 | q2⟩
          · exact q1.2 q2
          · exact d1 ⟨q1.1, q2⟩
        · rintro ⟨q1 | q1, q2⟩
          · exact d2 ⟨sub m q1.1 q1.2, q2⟩
          · exact d3 ⟨q1, q2⟩
      · refine top_of_in (rgsFrom_can a1).1 (fun m hm => ?_)
        have ht := in_of_top h.tf
        rcases (a2 m).1 hm with q | q
        · dsimp only at q; omega
        · have := ht m q; omega
  obtain ⟨k1, k2, k3, k4, k5, k6⟩ := key
  have hse := h.hd.se0
  have hfk0 := h.hd.fk0
  have hfk1 := h.hd.fk1
  have ht := h.tk
  refine ⟨⟨h.hd.ring, k1, k2, h.hd.rk, by omega, k6, h.hd.co0, h.hd.co1, ?_, ?_⟩, k3, h.gap, k4, fun r hr => by have := ht r hr; omega, h.co, ?_, ?_⟩
  · show 0 ≤ (if fin = true then 2 else s.fk); split <;> omega
  · show (if fin = true then 2 else s.fk) ≤ 3; split <;> omega
  · show s.fi = if (if fin = true then 2 else s.fk) = 0 then -1 else s.e
    have hfi := h.fi
    cases fin
    · exact hfi
    · rw [if_pos rfl, if_neg (by omega)]
      rw [hf rfl, if_neg (by omega)] at hfi
      exact hfi
  · exact stI_idem _ _ _ _ _
/-! ### moved from one set to another -/
theorem fold_rem : ∀ {c l : List Rg}, isRgs l = true → (∀ r ∈ c, rgFine r = true) → isRgs (c.foldl remR l) = true ∧ ∀ n, inR (c.foldl remR l) n ↔ inR l n ∧ ¬ inR c n
  | [], l, hl, _ => ⟨hl, fun n => by simp [inR_nil]⟩
  | r :: rs, l, hl, hr => by
    obtain ⟨a1, a2⟩ := rem_rgs hl (hr r (by simp))
    rw [List.foldl_cons]
    obtain ⟨b1, b2⟩ := fold_rem (c := rs) a1 (fun x hx => hr x (by simp [hx]))
    refine ⟨b1, fun n => ?_⟩
    rw [b2, a2, inR_cons]
    constructor
    · rintro ⟨⟨h1, h2⟩, h3⟩
      exact ⟨h1, fun hh => hh.elim h2 h3⟩
    · rintro ⟨h1, h2⟩
      exact ⟨⟨h1, fun hh => h2 (Or.inl hh)⟩, fun hh => h2 (Or.inr hh)⟩
/-- What of a set lies in the range of n bytes from off on. -/
def hit (l : List Rg) (off : Int) (n : Nat) : List Rg := comR l (off, off + n)
theorem hit_in {l : List Rg} (h : isRgs l = true) {off : Int} {n : Nat} (h0 : 0 ≤ off) (h1 : off + n ≤ 4611686018427387903) : (∀ r ∈ hit l off n, rgFine r = true) ∧ ∀ m, inR (hit l off n) m ↔ inR l m ∧ (off ≤ m ∧ m < off + n) := by
  unfold hit
  by_cases hn : n = 0
  · have e : comR l (off, off + (n : Int)) = [] := if_neg (by simp [rgFine]; omega)
    rw [e]
    exact ⟨fun r hr => by simp at hr, fun m => ⟨fun hh => absurd hh (inR_nil m), fun hh => by omega⟩⟩
  · have hr : rgFine (off, off + (n : Int)) = true := by simp only [rgFine, Bool.and_eq_true, decide_eq_true_eq]; omega
    obtain ⟨c1, c2⟩ := com_rgs h hr
    exact ⟨rgs_fine c1, fun m => by rw [c2]⟩
def finV (fin : Bool) (fk u : Int) : Int := if fin = true ∧ fk = 2 then u else fk
def loV (s : Sn) (off : Int) (n : Nat) (fin : Bool) : Sn :=
  let fk' := finV fin s.fk 1
  ⟨stI s.st s.b s.e fk' s.se, s.z, s.b, s.e, s.xs, (hit s.f off n).foldl addR s.p, (hit s.f off n).foldl remR s.f, s.k, s.fi, fk', s.se, s.co⟩
theorem finV_bd {fin : Bool} {fk u : Int} (h0 : 0 ≤ fk) (h1 : fk ≤ 3) (t0 : 1 ≤ u) (t1 : u ≤ 3) : 0 ≤ finV fin fk u ∧ finV fin fk u ≤ 3 ∧ (finV fin fk u = 0 ↔ fk = 0) := by
  unfold finV
  split <;> omega
theorem lo_act {s : Sn} (h : Vld s) {off : Int} {n : Nat} {fin : Bool} (h0 : 0 ≤ off) (h1 : off + n ≤ s.e) : Vld (loV s off n fin) := by
  obtain ⟨e0, e1⟩ := h.e_nat
  obtain ⟨c1, c2⟩ := hit_in (n := n) h.hd.rf h0 (by omega)
  obtain ⟨a1, a2⟩ := fold_join h.hd.rp c1
  obtain ⟨b1, b2⟩ := fold_rem h.hd.rf c1
  obtain ⟨f0, f1, f2⟩ := finV_bd (fin := fin) (u := 1) h.hd.fk0 h.hd.fk1 (by omega) (by omega)
  refine ⟨⟨h.hd.ring, a1, b1, h.hd.rk, h.hd.se0, h.hd.se1, h.hd.co0, h.hd.co1, f0, f1⟩, ⟨fun m => ?_, fun m => ?_⟩, h.gap, ?_, h.tk, h.co, ?_, stI_idem _ _ _ _ _⟩
  · show inR ((hit s.f off n).foldl addR s.p) m ∨ (inR ((hit s.f off n).foldl remR s.f) m ∨ inR s.k m) ↔ 0 ≤ m ∧ m < s.e
    rw [a2, b2]
    rw [← (show _ ↔ 0 ≤ m ∧ m < s.e from h.wh.1 m)]
    have := (c2 m).1
    constructor
    · rintro ((q | q) | q | q)
      · exact Or.inl q
      · exact Or.inr (Or.inl (this q).1)
      · exact Or.inr (Or.inl q.1)
      · exact Or.inr (Or.inr q)
    · rintro (q | q | q)
      · exact Or.inl (Or.inl q)
      · by_cases c : inR (hit s.f off n) m
        · exact Or.inl (Or.inr c)
        · exact Or.inr (Or.inl ⟨q, c⟩)
      · exact Or.inr (Or.inr q)
  · show ¬ (inR ((hit s.f off n).foldl addR s.p) m ∧ inR ((hit s.f off n).foldl remR s.f) m) ∧ ¬ (inR ((hit s.f off n).foldl addR s.p) m ∧ inR s.k m) ∧ ¬ (inR ((hit s.f off n).foldl remR s.f) m ∧ inR s.k m)
    rw [a2, b2]
    obtain ⟨d1, d2, d3⟩ := h.wh.2 m
    have := (c2 m).1
    refine ⟨?_, ?_, fun hh => d3 ⟨hh.1.1, hh.2⟩⟩
    · rintro ⟨q | q, r⟩
      · exact d1 ⟨q, r.1⟩
      · exact r.2 q
    · rintro ⟨q | q, r⟩
      · exact d2 ⟨q, r⟩
      · exact d3 ⟨(this q).1, r⟩
  · exact top_of_in (rgsFrom_can b1).1 (fun m hm => in_of_top h.tf m ((b2 m).1 hm).1)
  · show s.fi = if finV fin s.fk 1 = 0 then -1 else s.e
    have := h.fi
    by_cases c : s.fk = 0
    · rw [if_pos (f2.2 c)]; rw [if_pos c] at this; exact this
    · rw [if_neg (fun hh => c (f2.1 hh))]; rw [if_neg c] at this; exact this
/-- Behind an acknowledgement: what is acknowledged, and from where on something is not. -/
def akK (s : Sn) (off : Int) (n : Nat) : List Rg := (hit s.f off n).foldl addR s.k
def akB (s : Sn) (off : Int) (n : Nat) : Int := gapR (akK s off n) 0
def akV (s : Sn) (off : Int) (n : Nat) (fin : Bool) : Sn :=
  let fk' := finV fin s.fk 3
  ⟨stI s.st (akB s off n) s.e fk' s.se, s.z, akB s off n, s.e, setN s.xs s.z s.b (fun _ => 0) (akB s off n - s.b).toNat, s.p, (hit s.f off n).foldl remR s.f, akK s off n, s.fi, fk', s.se, s.co⟩
theorem ak_gap {s : Sn} (h : Vld s) {off : Int} {n : Nat} (h0 : 0 ≤ off) (h1 : off + n ≤ s.e) : s.b ≤ akB s off n ∧ akB s off n ≤ s.e := by
  obtain ⟨e0, e1⟩ := h.e_nat
  obtain ⟨c1, c2⟩ := hit_in (n := n) h.hd.rf h0 (by omega)
  obtain ⟨a1, a2⟩ := fold_join h.hd.rk c1
  have g1 : gapR s.k 0 = s.k.foldl gapStep 0 := if_pos ⟨h.hd.rk, Int.le_refl _⟩
  have g2 : akB s off n = (akK s off n).foldl gapStep 0 := if_pos ⟨a1, Int.le_refl _⟩
  obtain ⟨p1, p2, p3⟩ := gap_in (g := 0) (rgsFrom_can h.hd.rk).1
  obtain ⟨q1, q2, q3⟩ := gap_in (l := akK s off n) (g := 0) (rgsFrom_can a1).1
  rw [← g1, h.gap] at p1 p2 p3
  rw [← g2] at q1 q2 q3
  constructor
  · rcases Int.lt_or_le (akB s off n) s.b with c | c
    · exact absurd ((a2 _).2 (Or.inl (p1 _ q3 c))) q2
    · exact c
  · rcases Int.lt_or_le s.e (akB s off n) with c | c
    · have k := q1 s.e e0 c
      rcases (a2 _).1 k with k | k
      · have := (h.wh.1 s.e).1 (Or.inr (Or.inr k)); omega
      · have := (h.wh.1 s.e).1 (Or.inr (Or.inl ((c2 _).1 k).1)); omega
    · exact c
theorem ak_act {s : Sn} (h : Vld s) {off : Int} {n : Nat} {fin : Bool} (h0 : 0 ≤ off) (h1 : off + n ≤ s.e) : Vld (akV s off n fin) := by
  obtain ⟨e0, e1⟩ := h.e_nat
  obtain ⟨c1, c2⟩ := hit_in (n := n) h.hd.rf h0 (by omega)
  obtain ⟨a1, a2⟩ := fold_join h.hd.rk c1
  obtain ⟨b1, b2⟩ := fold_rem h.hd.rf c1
  obtain ⟨g1, g2⟩ := ak_gap (n := n) h h0 h1
  obtain ⟨f0, f1, f2⟩ := finV_bd (fin := fin) (u := 3) h.hd.fk0 h.hd.fk1 (by omega) (by omega)
  refine ⟨⟨ring_drop h.hd.ring g1 g2 _, h.hd.rp, b1, a1, h.hd.se0, h.hd.se1, h.hd.co0, h.hd.co1, f0, f1⟩, ⟨fun m => ?_, fun m => ?_⟩, rfl, ?_, ?_, h.co, ?_, stI_idem _ _ _ _ _⟩
  · show inR s.p m ∨ (inR ((hit s.f off n).foldl remR s.f) m ∨ inR ((hit s.f off n).foldl addR s.k) m) ↔ 0 ≤ m ∧ m < s.e
    rw [a2, b2]
    rw [← (show _ ↔ 0 ≤ m ∧ m < s.e from h.wh.1 m)]
    have := (c2 m).1
    constructor
    · rintro (q | q | q | q)
      · exact Or.inl q
      · exact Or.inr (Or.inl q.1)
      · exact Or.inr (Or.inr q)
      · exact Or.inr (Or.inl (this q).1)
    · rintro (q | q | q)
      · exact Or.inl q
      · by_cases c : inR (hit s.f off n) m
        · exact Or.inr (Or.inr (Or.inr c))
        · exact Or.inr (Or.inl ⟨q, c⟩)
      · exact Or.inr (Or.inr (Or.inl q))
  · show ¬ (inR s.p m ∧ inR ((hit s.f off n).foldl remR s.f) m) ∧ ¬ (inR s.p m ∧ inR ((hit s.f off n).foldl addR s.k) m) ∧ ¬ (inR ((hit s.f off n).foldl remR s.f) m ∧ inR ((hit s.f off n).foldl addR s.k) m)
    rw [a2, b2]
    obtain ⟨d1, d2, d3⟩ := h.wh.2 m
    have := (c2 m).1
    refine ⟨fun hh => d1 ⟨hh.1, hh.2.1⟩, ?_, ?_⟩
    · rintro ⟨q, r | r⟩
      · exact d2 ⟨q, r⟩
      · exact d1 ⟨q, (this r).1⟩
    · rintro ⟨q, r | r⟩
      · exact d3 ⟨q.1, r⟩
      · exact q.2 r
  · exact top_of_in (rgsFrom_can b1).1 (fun m hm => in_of_top h.tf m ((b2 m).1 hm).1)
  · refine top_of_in (rgsFrom_can a1).1 (fun m hm => ?_)
    rcases (a2 m).1 hm with q | q
    · exact in_of_top h.tk m q
    · exact in_of_top h.tf m ((c2 m).1 q).1
  · show s.fi = if finV fin s.fk 3 = 0 then -1 else s.e
    have := h.fi
    by_cases c : s.fk = 0
    · rw [if_pos (f2.2 c)]; rw [if_pos c] at this; exact this
    · rw [if_neg (fun hh => c (f2.1 hh))]; rw [if_neg c] at this; exact this
/-- No report takes a sender back. -/
theorem st_up {st b b' e fk se : Int} {fin : Bool} (h : st = stI st b e fk se) (h2 : st ≤ 2) (h0 : 0 ≤ fk) (h3 : fk ≤ 3) : st ≤ stI st b' e (finV fin fk 3) se ∧ st ≤ stI st b e (finV fin fk 1) se := by
  have hk : fk = 0 ∨ fk = 1 ∨ fk = 2 ∨ fk = 3 := by omega
  rcases hk with rfl | rfl | rfl | rfl <;> cases fin <;> simp [stI, finV] at h ⊢ <;> (repeat' split at h) <;> (repeat' split) <;> omega
/-- What is acknowledged stays so. -/
theorem ak_keeps {s : Sn} (h : Vld s) {off : Int} {n : Nat} (h0 : 0 ≤ off) (h1 : off + n ≤ s.e) (m : Int) (hm : inR s.k m) : inR (akK s off n) m := by
  obtain ⟨e0, e1⟩ := h.e_nat
  obtain ⟨c1, c2⟩ := hit_in (n := n) h.hd.rf h0 (by omega)
  exact ((fold_join h.hd.rk c1).2 m).2 (Or.inl hm)
/-- Nothing of what was acknowledged is in flight any more. -/
theorem ak_hit {s : Sn} (h : Vld s) {off : Int} {n : Nat} {fin : Bool} (h0 : 0 ≤ off) (h1 : off + n ≤ s.e) : hit (akV s off n fin).f off n = [] := by
  obtain ⟨e0, e1⟩ := h.e_nat
  obtain ⟨c1, c2⟩ := hit_in (n := n) h.hd.rf h0 (by omega)
  obtain ⟨b1, b2⟩ := fold_rem h.hd.rf c1
  obtain ⟨k1, k2⟩ := hit_in (l := (akV s off n fin).f) (n := n) b1 h0 (by omega)
  rcases hl : hit (akV s off n fin).f off n with _ | ⟨x, xs⟩
  · rfl
  · exfalso
    have hx : rgFine x = true := k1 x (by rw [hl]; simp)
    have hb := rgFine_bd hx
    have hin : inR (hit (akV s off n fin).f off n) x.1 := by rw [hl]; exact (inR_cons _ _ _).2 (Or.inl ⟨Int.le_refl _, hb.2.1⟩)
    obtain ⟨q1, q2⟩ := (k2 _).1 hin
    obtain ⟨r1, r2⟩ := (b2 _).1 q1
    exact r2 ((c2 _).2 ⟨r1, q2⟩)
end Go.Proofs.Ytjhgcbchdnoleaa

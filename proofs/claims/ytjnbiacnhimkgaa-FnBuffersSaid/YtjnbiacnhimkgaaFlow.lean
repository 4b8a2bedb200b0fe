/-
  A region that draws its order, walked once: an operation that gives one and the same value in every world that may come (a pure one) may be taken as soon as it may come up; any other one is taken where nothing else may come up. Conditions: a program says in which order (checked by flowOk); from operation m on each stands behind all ahead of it.
-/
import Derived.Test.YtjnbiacnhimkgaaTail
import Derived.Test.YtjnbiacnhimkgaaChg
namespace Go.Proofs.Ytjnbiacnhimkgaa
section
variable {P : Program} {ops : Array Oper} {Q : Exit → Act → World → Prop} {R : World → World → Prop}
/-- Operation o, in state a and world w, gives a value and a world that meet K. -/
def StepF (P : Program) (ops : Array Oper) (Q : Exit → Act → World → Prop) (R : World → World → Prop) (o : Oper) (a : Act) (w : World) (K : Value → World → Prop) : Prop :=
  (Region.wanted o (yielded ops a.tmps) = true ∧
    ((∃ v w', (execOp a.eval o).run P w = .ok (.value v) w' ∧ R w w' ∧ K v w') ∨
     (∃ f args, (execOp a.eval o).run P w = .ok (.enter f args) w ∧ Calls P f args w fun e w' => ∃ v, e = .returned v ∧ R w w' ∧ K v w') ∨
     (∃ w', (execOp a.eval o).run P w = .ok .skip w' ∧ R w w' ∧ K undef w') ∨
     (∀ (a0 : Act) (K0 : Act → World → Prop), execOp a0.eval o = execOp a.eval o → (∀ v w', R w w' → K v w' → K0 (a0.put o.dst v) w') → o.wp P a0 w K0 Q ∨ (o.asks P a0 w ∧ LetsOut Q)))) ∨
  (Region.wanted o (yielded ops a.tmps) = false ∧ K undef w)
theorem StepF.same {o : Oper} {a a' : Act} {w : World} {K : Value → World → Prop} (h : StepF P ops Q R o a w K) (he : execOp a'.eval o = execOp a.eval o)
    (hw : Region.wanted o (yielded ops a'.tmps) = Region.wanted o (yielded ops a.tmps)) : StepF P ops Q R o a' w K := by
  unfold StepF at *
  rw [he, hw]
  rcases h with ⟨h0, h | h | h | h⟩ | h
  · exact Or.inl ⟨h0, Or.inl h⟩
  · exact Or.inl ⟨h0, Or.inr (Or.inl h)⟩
  · exact Or.inl ⟨h0, Or.inr (Or.inr (Or.inl h))⟩
  · exact Or.inl ⟨h0, Or.inr (Or.inr (Or.inr h))⟩
  · exact Or.inr h
theorem StepF.mono {o : Oper} {a : Act} {w : World} {K K' : Value → World → Prop} (hR : R w w) (h : StepF P ops Q R o a w K) (hK : ∀ v w', R w w' → K v w' → K' v w') : StepF P ops Q R o a w K' := by
  rcases h with ⟨h0, ⟨v, w', h1, h2, h3⟩ | ⟨f, args, h1, h2⟩ | ⟨w', h1, h2, h3⟩ | h⟩ | ⟨h0, h⟩
  · exact Or.inl ⟨h0, Or.inl ⟨v, w', h1, h2, hK _ _ h2 h3⟩⟩
  · exact Or.inl ⟨h0, Or.inr (Or.inl ⟨f, args, h1, Calls.mono h2 fun e w' ⟨v, k1, k2, k3⟩ => ⟨v, k1, k2, hK _ _ k2 k3⟩⟩)⟩
  · exact Or.inl ⟨h0, Or.inr (Or.inr (Or.inl ⟨w', h1, h2, hK _ _ h2 h3⟩))⟩
  · exact Or.inl ⟨h0, Or.inr (Or.inr (Or.inr fun a0 K0 he hk => h a0 K0 he fun v w' k1 k2 => hk v w' k1 (hK _ _ k1 k2)))⟩
  · exact Or.inr ⟨h0, hK _ _ hR h⟩
theorem StepF.wpOp {i : Nat} {o : Oper} {a : Act} {w : World} {K : Value → World → Prop} {K0 : Act → World → Prop} (hi : ops[i]? = some o) (hR : R w w) (h : StepF P ops Q R o a w K)
    (hK : ∀ v w', R w w' → K v w' → K0 (a.put o.dst v) w') : wpOp P ops Q i K0 a w := by
  unfold Go.wpOp
  simp only [hi]
  rcases h with ⟨hw, ⟨v, w', he, hg, hv⟩ | ⟨f, args, he, hcl⟩ | ⟨w', he, hg, hv⟩ | h⟩ | ⟨hw, hv⟩
  · simp only [hw, if_true, Oper.wp, he, Oper.upon]; exact .inl (hK v w' hg hv)
  · simp only [hw, if_true, Oper.wp, he, Oper.upon]
    refine .inl (Calls.mono hcl fun e w' ⟨v, h1, h2, h3⟩ => ?_)
    subst h1
    exact hK v w' h2 h3
  · simp only [hw, if_true, Oper.wp, he, Oper.upon]; exact .inl (hK undef w' hg hv)
  · simp only [hw, if_true]; exact h a K0 rfl hK
  · simp only [hw, Bool.false_eq_true, if_false]; exact hK undef w hR hv
theorem not_listed {j : Nat} {listed : Array Bool} (hr : j ∈ Region.ready .any ops listed) : listed.getD j false ≠ true := by
  intro h1
  have h0 := (mem_ready.1 hr).1
  rcases Nat.lt_or_ge j listed.size with h' | h'
  · simp [h'] at h0 h1; rw [h0] at h1; cases h1
  · simp [Array.getElem?_eq_none h'] at h1
def flow (P : Program) (ops : Array Oper) (Q : Exit → Act → World → Prop) (R : World → World → Prop) (m : Nat) : Nat → Array Bool → Act → World → Prop
  | 0, listed, a, w => (∀ i, i < m → listed.getD i false = true) ∧ wpList P ops Q (ops.toList.drop m) a w
  | fuel + 1, listed, a, w => ((∀ i, i < m → listed.getD i false = true) → wpList P ops Q (ops.toList.drop m) a w) ∧
    ∀ j ∈ Region.ready .any ops listed, j < m → ∃ oj, ops[j]? = some oj ∧ StepF P ops Q R oj a w fun v w' => flow P ops Q R m fuel (listed.setIfInBounds j true) (a.put oj.dst v) w'
theorem flow.end {m n : Nat} {listed : Array Bool} {a : Act} {w : World} (h : flow P ops Q R m n listed a w) (hl : ∀ i, i < m → listed.getD i false = true) : wpList P ops Q (ops.toList.drop m) a w := by
  cases n with
  | zero => exact h.2
  | succ n => exact h.1 hl
theorem wpAny_of_flow {m : Nat} (hmn : m ≤ ops.size) (hE : edgesBack ops.toList = true) (hTl : tailOk ops m = true) (hR0 : ∀ w, R w w) :
    ∀ (fuel n : Nat) (listed : Array Bool) (a : Act) (w : World), flow P ops Q R m n listed a w → listed.size = ops.size → listed.toList.count false ≤ fuel → Shut ops listed → (∀ i, m ≤ i → listed.getD i false = false) → wpAny P .any ops Q fuel listed a w := by
  intro fuel
  induction fuel with
  | zero =>
    intro n listed a w h hs hc hsh hn
    have hr := ready_nil_of_zero hs hc
    have hall := all_listed hE hs hr
    exact wpAny_end m hE hTl 0 m listed a w hs hc hsh (Nat.le_refl _) (fun i hi => Or.inl (hall i (by omega))) hn (h.end fun i hi => hall i (by omega))
  | succ fuel ih =>
    intro n listed a w h hs hc hsh hn
    by_cases hall : ∀ i, i < m → listed.getD i false = true
    · exact wpAny_end m hE hTl (fuel + 1) m listed a w hs hc hsh (Nat.le_refl _) (fun i hi => Or.inl (hall i hi)) hn (h.end hall)
    refine ⟨fun hr => absurd (fun i (hi : i < m) => all_listed hE hs hr i (by omega)) hall, fun j hj => ?_⟩
    obtain ⟨h0, o, ho, hdeps⟩ := mem_ready.1 hj
    have hlt : j < ops.size := (Array.getElem?_eq_some_iff.1 ho).1
    have hlt' : j < listed.size := by omega
    have hl0 : listed[j]? = some false := by simpa [hlt'] using h0
    have hjm : j < m := by
      rcases Nat.lt_or_ge j m with hh | hh
      · exact hh
      · exact absurd (fun i (hi : i < m) => behind_listed hsh ops.size j i o ho hdeps (tailOk_at hTl hlt hh (by omega))) hall
    cases n with
    | zero => exact absurd h.1 hall
    | succ n =>
      obtain ⟨oj, hoj, hst⟩ := h.2 j hj hjm
      obtain rfl : oj = o := Option.some.inj (hoj.symm.trans ho)
      refine hst.wpOp ho (hR0 w) fun v w' _ hk => ?_
      refine ih n _ _ _ hk (by simpa using hs) (count_setB hl0 hc) (shut_set hsh hlt' ho hdeps) ?_
      intro i hi
      rw [getD_setB hlt', if_neg (by omega)]
      exact hn i hi
/-- In state a, in every world that may come behind w, operation o gives v. -/
def PureF (P : Program) (ops : Array Oper) (R : World → World → Prop) (o : Oper) (v : Value) (a : Act) (w : World) : Prop :=
  (Region.wanted o (yielded ops a.tmps) = true ∧ ∀ w', R w w' → (execOp a.eval o).run P w' = .ok (.value v) w') ∨ (Region.wanted o (yielded ops a.tmps) = false ∧ v = undef)
theorem PureF.same {o : Oper} {v : Value} {a a' : Act} {w w' : World} (hR : ∀ u v w, R u v → R v w → R u w) (h : PureF P ops R o v a w) (hw' : R w w') (he : execOp a'.eval o = execOp a.eval o)
    (hw : Region.wanted o (yielded ops a'.tmps) = Region.wanted o (yielded ops a.tmps)) : PureF P ops R o v a' w' := by
  unfold PureF at *
  rw [he, hw]
  rcases h with ⟨h0, h⟩ | h
  · exact Or.inl ⟨h0, fun w'' h2 => h w'' (hR _ _ _ hw' h2)⟩
  · exact Or.inr h
theorem PureF.step {o : Oper} {v : Value} {a : Act} {w : World} {K : Value → World → Prop} (hR0 : ∀ w, R w w) (h : PureF P ops R o v a w) (hK : K v w) : StepF P ops Q R o a w K := by
  rcases h with ⟨h0, h⟩ | ⟨h0, rfl⟩
  · exact Or.inl ⟨h0, Or.inl ⟨v, w, h w (hR0 w), hR0 w, hK⟩⟩
  · exact Or.inr ⟨h0, hK⟩
theorem flow_first {m i : Nat} {oi : Oper} {v : Value} (hR0 : ∀ w, R w w) (hR : ∀ u v w, R u v → R v w → R u w) (hi : ops[i]? = some oi) (him : i < m) (hsel : ∀ (j : Nat) (o : Oper) cs b, ops[j]? = some o → o.op ≠ .select cs b) :
    ∀ (fuel : Nat) (listed : Array Bool) (a : Act) (w : World),
      (∀ j oj, ops[j]? = some oj → j ≠ i → listed.getD j true = false → (∀ e ∈ oj.after, Region.binds .any e = true → e.on ≠ i) → oi.apart ops oj = true) →
      i ∈ Region.ready .any ops listed → PureF P ops R oi v a w →
      flow P ops Q R m fuel (listed.setIfInBounds i true) (a.put oi.dst v) w → flow P ops Q R m (fuel + 1) listed a w := by
  have notall : ∀ {listed : Array Bool}, i ∈ Region.ready .any ops listed → ¬ ∀ k, k < m → listed.getD k false = true := by
    exact fun hr hall => not_listed hr (hall i him)
  intro fuel
  induction fuel with
  | zero =>
    intro listed a w _ hr hy H
    refine ⟨fun h => absurd h (notall hr), fun j hj hjm => ?_⟩
    by_cases hji : j = i
    · subst hji; exact ⟨oi, hi, hy.step hR0 H⟩
    · exfalso
      have h1 := H.1 j hjm
      have h2 : listed.getD j false = true := by rw [← h1]; exact (getD_set_ne false (Ne.symm hji)).symm
      exact not_listed hj h2
  | succ fuel ih =>
    intro listed a w hfree hr hy H
    refine ⟨fun h => absurd h (notall hr), fun j hj hjm => ?_⟩
    by_cases hji : j = i
    · subst hji; exact ⟨oi, hi, hy.step hR0 H⟩
    · obtain ⟨oj', hoj', hsj⟩ := H.2 j (ready_mono hj hji) hjm
      obtain ⟨hjun, oj, hoj, hall⟩ := mem_ready.1 hj
      obtain rfl : oj = oj' := Option.some.inj (hoj.symm.trans hoj')
      have hnot : ∀ e ∈ oj.after, Region.binds .any e = true → e.on ≠ i := fun e he hb heq => by
        exact not_listed hr (by rw [← heq]; exact hall e he hb)
      obtain ⟨a1, a2, a3⟩ := Oper.apart_spec (hfree j oj hoj hji hjun hnot)
      have hsj' := hsj.same (a' := a) (execOp_put oj (fun cs b => hsel j oj cs b hoj) a oi.dst v a1).symm (wanted_put oj a oi.dst v a1).symm
      have hfree' : ∀ k ok, ops[k]? = some ok → k ≠ i → (listed.setIfInBounds j true).getD k true = false →
          (∀ e ∈ ok.after, Region.binds .any e = true → e.on ≠ i) → oi.apart ops ok = true := fun k ok hk hki hun hno => by
        refine hfree k ok hk hki ?_ hno
        by_cases hjk : j = k
        · subst hjk; exact hjun
        · rw [getD_set_ne true hjk] at hun; exact hun
      refine ⟨oj, hoj, hsj'.mono (hR0 w) fun u w' hw' h1 => ?_⟩
      have hyi : PureF P ops R oi v (a.put oj.dst u) w' := hy.same hR hw' (execOp_put oi (fun cs b => hsel i oi cs b hi) a oj.dst u a3) (wanted_put oi a oj.dst u a3)
      refine ih (listed.setIfInBounds j true) (a.put oj.dst u) w' hfree' (ready_mono hr (Ne.symm hji)) hyi ?_
      rw [Array.setIfInBounds_comm _ _ hji, ← Act.put_comm a v u a2]
      exact h1
def listedOf (n : Nat) (l : List Nat) : Array Bool := l.foldl (fun b i => b.setIfInBounds i true) (Array.replicate n false)
theorem listedOf_snoc (n : Nat) (l : List Nat) (i : Nat) : listedOf n (l ++ [i]) = (listedOf n l).setIfInBounds i true := by simp [listedOf]
theorem listedOf_size (n : Nat) : ∀ l : List Nat, (listedOf n l).size = n := by
  intro l
  have : ∀ (l : List Nat) (b : Array Bool), (l.foldl (fun b i => b.setIfInBounds i true) b).size = b.size := by
    intro l
    induction l with
    | nil => intro b; rfl
    | cons i l ih => intro b; rw [List.foldl_cons, ih]; simp
  rw [listedOf, this]; simp
/-- The order: of each place the operation, and how it is taken: 1 as a pure one, 0 where nothing else may come up, q + 2 where q alone may come up too. -/
def flowAt (ops : Array Oper) (m : Nat) (o : List (Nat × Nat)) (k : Nat) : Bool :=
  match o[k]? with
  | some (i, p) => decide (i < m) && ((Region.ready .any ops (listedOf ops.size ((o.take k).map (·.1)))).contains i &&
      (match p with
       | 1 => Region.free .any ops (listedOf ops.size ((o.take k).map (·.1))) i
       | 0 => (Region.ready .any ops (listedOf ops.size ((o.take k).map (·.1)))).filter (fun j => decide (j < m)) == [i]
       | q + 2 => decide (q < m) && ((Region.ready .any ops (listedOf ops.size ((o.take k).map (·.1)))).filter (fun j => decide (j < m))).all fun j => j == i || j == q))
  | none => false
def flowOk (ops : Array Oper) (m : Nat) (o : List (Nat × Nat)) : Bool :=
  Region.noSelect ops && (decide (m ≤ ops.size) && (edgesBack ops.toList && (tailOk ops m && (decide (o.length = m) && ((List.range m).all (flowAt ops m o) && (List.range m).all fun i => (listedOf ops.size (o.map (·.1))).getD i false)))))
def wpF (P : Program) (ops : Array Oper) (Q : Exit → Act → World → Prop) (R : World → World → Prop) (m : Nat) (o : List (Nat × Nat)) (k : Nat) (a : Act) (w : World) : Prop :=
  flowOk ops m o = true → flow P ops Q R m (m - k) (listedOf ops.size ((o.take k).map (·.1))) a w
section
variable {m : Nat} {o : List (Nat × Nat)}
theorem flowOk_parts (h : flowOk ops m o = true) : Region.noSelect ops = true ∧ m ≤ ops.size ∧ edgesBack ops.toList = true ∧ tailOk ops m = true ∧ o.length = m ∧ (∀ k, k < m → flowAt ops m o k = true) ∧ ∀ i, i < m → (listedOf ops.size (o.map (·.1))).getD i false = true := by
  simp only [flowOk, Bool.and_eq_true, decide_eq_true_eq, List.all_eq_true, List.mem_range] at h
  obtain ⟨h1, h2, h3, h4, h5, h6, h7⟩ := h
  exact ⟨h1, h2, h3, h4, h5, h6, h7⟩
theorem take_snoc {k : Nat} {i : Nat} {p : Nat} (h : o[k]? = some (i, p)) : (o.take (k + 1)).map (·.1) = (o.take k).map (·.1) ++ [i] := by
  rw [List.take_add_one, h]; simp
theorem wpF_single {k i : Nat} {oi : Oper} {a : Act} {w : World} (hk : o[k]? = some (i, 0)) (hi : ops[i]? = some oi) (h : StepF P ops Q R oi a w fun v w' => wpF P ops Q R m o (k + 1) (a.put oi.dst v) w') (hR0 : R w w) : wpF P ops Q R m o k a w := fun hok => by
  obtain ⟨_, _, _, _, hlen, hat, _⟩ := flowOk_parts hok
  have hkm : k < m := by rw [← hlen]; exact (List.getElem?_eq_some_iff.1 hk).1
  have ha := hat k hkm
  simp only [flowAt, hk, Bool.and_eq_true, decide_eq_true_eq, beq_iff_eq] at ha
  obtain ⟨him, hc, hf⟩ := ha
  have e : m - k = (m - (k + 1)) + 1 := by omega
  rw [e]
  refine ⟨fun hall => ?_, fun j hj hjm => ?_⟩
  · exact absurd (hall i him) (not_listed (List.contains_iff_mem.1 hc))
  · have : j ∈ (Region.ready .any ops (listedOf ops.size ((o.take k).map (·.1)))).filter (fun j => decide (j < m)) := by
      rw [List.mem_filter]; exact ⟨hj, by simpa using hjm⟩
    rw [hf] at this
    obtain rfl := List.mem_singleton.1 this
    refine ⟨oi, hi, h.mono hR0 fun v w' _ hw => ?_⟩
    have := hw hok
    rw [take_snoc hk, listedOf_snoc] at this
    exact this
/-- Two operations may come up: each is taken. -/
theorem wpF_fork {o2 : List (Nat × Nat)} {k i q : Nat} {oi oq : Oper} {a : Act} {w : World} (hk : o[k]? = some (i, q + 2)) (hk2 : o2[k]? = some (q, i + 2)) (hpre : (o2.take k).map (·.1) = (o.take k).map (·.1)) (hok2 : flowOk ops m o2 = true) (hi : ops[i]? = some oi) (hq : ops[q]? = some oq) (hR0 : R w w)
    (h1 : StepF P ops Q R oi a w fun v w' => wpF P ops Q R m o (k + 1) (a.put oi.dst v) w') (h2 : StepF P ops Q R oq a w fun v w' => wpF P ops Q R m o2 (k + 1) (a.put oq.dst v) w') : wpF P ops Q R m o k a w := fun hok => by
  obtain ⟨_, _, _, _, hlen, hat, _⟩ := flowOk_parts hok
  have hkm : k < m := by rw [← hlen]; exact (List.getElem?_eq_some_iff.1 hk).1
  have ha := hat k hkm
  simp only [flowAt, hk, Bool.and_eq_true, decide_eq_true_eq, List.all_eq_true, Bool.or_eq_true, beq_iff_eq] at ha
  obtain ⟨him, hc, hqm, hf⟩ := ha
  have e : m - k = (m - (k + 1)) + 1 := by omega
  rw [e]
  refine ⟨fun hall => absurd (hall i him) (not_listed (List.contains_iff_mem.1 hc)), fun j hj hjm => ?_⟩
  have hmem : j ∈ (Region.ready .any ops (listedOf ops.size ((o.take k).map (·.1)))).filter (fun j => decide (j < m)) := by
    rw [List.mem_filter]; exact ⟨hj, by simpa using hjm⟩
  rcases hf j hmem with rfl | rfl
  · refine ⟨oi, hi, h1.mono hR0 fun v w' _ hw => ?_⟩
    have := hw hok
    rw [take_snoc hk, listedOf_snoc] at this
    exact this
  · refine ⟨oq, hq, h2.mono hR0 fun v w' _ hw => ?_⟩
    have := hw hok2
    rw [take_snoc hk2, listedOf_snoc, hpre] at this
    exact this
theorem wpF_take {k i : Nat} {oi : Oper} {v : Value} {a : Act} {w : World} (hR0 : ∀ w, R w w) (hR : ∀ u v w, R u v → R v w → R u w) (hk : o[k]? = some (i, 1)) (hi : ops[i]? = some oi) (hp : PureF P ops R oi v a w) (h : wpF P ops Q R m o (k + 1) (a.put oi.dst v) w) : wpF P ops Q R m o k a w := fun hok => by
  obtain ⟨hsel, _, _, _, hlen, hat, _⟩ := flowOk_parts hok
  have hkm : k < m := by rw [← hlen]; exact (List.getElem?_eq_some_iff.1 hk).1
  have ha := hat k hkm
  simp only [flowAt, hk, Bool.and_eq_true, decide_eq_true_eq] at ha
  obtain ⟨him, hc, hf⟩ := ha
  have e : m - k = (m - (k + 1)) + 1 := by omega
  rw [e]
  have h2 := h hok
  rw [take_snoc hk, listedOf_snoc] at h2
  exact flow_first hR0 hR hi him (Region.noSelect_spec hsel) _ _ _ _ (Region.free_spec hi hf) (List.contains_iff_mem.1 hc) hp h2
theorem wpF_done {k : Nat} {a : Act} {w : World} (hk : k = m) (h : wpList P ops Q (ops.toList.drop m) a w) : wpF P ops Q R m o k a w := fun hok => by
  obtain ⟨_, _, _, _, hlen, _, hfin⟩ := flowOk_parts hok
  subst hk
  rw [Nat.sub_self, List.take_of_length_le (by omega)]
  exact ⟨hfin, h⟩
theorem wp_region_flow {id : Nat} {a : Act} {w : World} (R : World → World → Prop) (m : Nat) (o : List (Nat × Nat)) (hm : P.follows .mixedOrders = true) (hok : flowOk ops m o = true) (hR0 : ∀ w, R w w) (h : wpF P ops Q R m o 0 a w.drew) : (Code.region id ops true).wp P Q a w := by
  obtain ⟨_, hmn, hE, hTl, hlen, _, _⟩ := flowOk_parts hok
  have hf : ∀ i, (Array.replicate ops.size false).getD i false = false := fun i => by
    rw [Array.getD_eq_getD_getElem?, Array.getElem?_replicate]
    split <;> rfl
  refine wp_region_any hm (wpAny_of_flow hmn hE hTl hR0 _ _ _ _ _ (h hok) (by simp) (by simp) ?_ ?_)
  · intro i oi _ hl
    rw [hf i] at hl; cases hl
  · intro i _
    exact hf i
theorem StepF.call {oi : Oper} {a : Act} {w : World} {K : Value → World → Prop} (f : FuncId) (args : Array Value) (hw : Region.wanted oi (yielded ops a.tmps) = true)
    (he : (execOp a.eval oi).run P w = .ok (.enter f args) w) (hc : Calls P f args w fun e w' => ∃ v, e = .returned v ∧ R w w' ∧ K v w') : StepF P ops Q R oi a w K :=
  Or.inl ⟨hw, Or.inr (Or.inl ⟨f, args, he, hc⟩)⟩
theorem StepF.made {oi : Oper} {a : Act} {w : World} {K : Value → World → Prop} (v : Value) (w' : World) (hw : Region.wanted oi (yielded ops a.tmps) = true)
    (he : (execOp a.eval oi).run P w = .ok (.value v) w') (hx : R w w') (h : K v w') : StepF P ops Q R oi a w K :=
  Or.inl ⟨hw, Or.inl ⟨v, w', he, hx, h⟩⟩
theorem StepF.off {oi : Oper} {a : Act} {w : World} {K : Value → World → Prop} (hw : Region.wanted oi (yielded ops a.tmps) = false) (h : K undef w) : StepF P ops Q R oi a w K := Or.inr ⟨hw, h⟩
/-- Steps, where old blocks stay as they are. -/
theorem wpF_pure {k i : Nat} {oi : Oper} {v : Value} {a : Act} {w : World} (hk : o[k]? = some (i, 1)) (hi : ops[i]? = some oi) (hw : Region.wanted oi (yielded ops a.tmps) = true)
    (he : ∀ ws, Ext w ws → (execOp a.eval oi).run P ws = .ok (.value v) ws) (h : wpF P ops Q Ext m o (k + 1) (a.put oi.dst v) w) : wpF P ops Q Ext m o k a w :=
  wpF_take Ext.refl (fun _ _ _ => Ext.trans) hk hi (Or.inl ⟨hw, he⟩) h
theorem wpF_off {k i : Nat} {oi : Oper} {a : Act} {w : World} (hk : o[k]? = some (i, 1)) (hi : ops[i]? = some oi) (hw : Region.wanted oi (yielded ops a.tmps) = false)
    (h : wpF P ops Q Ext m o (k + 1) (a.put oi.dst undef) w) : wpF P ops Q Ext m o k a w :=
  wpF_take Ext.refl (fun _ _ _ => Ext.trans) hk hi (Or.inr ⟨hw, rfl⟩) h
theorem wpF_offS {k i : Nat} {oi : Oper} {a : Act} {w : World} (hk : o[k]? = some (i, 0)) (hi : ops[i]? = some oi) (hw : Region.wanted oi (yielded ops a.tmps) = false)
    (h : wpF P ops Q Ext m o (k + 1) (a.put oi.dst undef) w) : wpF P ops Q Ext m o k a w :=
  wpF_single hk hi (Or.inr ⟨hw, h⟩) (Ext.refl _)
theorem wpF_call {k i : Nat} {oi : Oper} {a : Act} {w : World} (f : FuncId) (args : Array Value) (hk : o[k]? = some (i, 0)) (hi : ops[i]? = some oi) (hw : Region.wanted oi (yielded ops a.tmps) = true)
    (he : (execOp a.eval oi).run P w = .ok (.enter f args) w) (hc : Calls P f args w fun e w' => ∃ v, e = .returned v ∧ Ext w w' ∧ wpF P ops Q Ext m o (k + 1) (a.put oi.dst v) w') : wpF P ops Q Ext m o k a w :=
  wpF_single hk hi (Or.inl ⟨hw, Or.inr (Or.inl ⟨f, args, he, hc⟩)⟩) (Ext.refl _)
theorem wpF_made {k i : Nat} {oi : Oper} {a : Act} {w : World} (v : Value) (w' : World) (hk : o[k]? = some (i, 0)) (hi : ops[i]? = some oi) (hw : Region.wanted oi (yielded ops a.tmps) = true)
    (he : (execOp a.eval oi).run P w = .ok (.value v) w') (hx : Ext w w') (h : wpF P ops Q Ext m o (k + 1) (a.put oi.dst v) w') : wpF P ops Q Ext m o k a w :=
  wpF_single hk hi (Or.inl ⟨hw, Or.inl ⟨v, w', he, hx, h⟩⟩) (Ext.refl _)
theorem wp_region_flowE {id : Nat} {a : Act} {w : World} (m : Nat) (o : List (Nat × Nat)) (hm : P.follows .mixedOrders = true) (hok : flowOk ops m o = true) (h : wpF P ops Q Ext m o 0 a w.drew) : (Code.region id ops true).wp P Q a w :=
  wp_region_flow Ext m o hm hok Ext.refl h
/-- Steps, where the blocks of a set alone may turn. -/
theorem wpC_pure {S : Nat → Prop} {k i : Nat} {oi : Oper} {v : Value} {a : Act} {w : World} (hk : o[k]? = some (i, 1)) (hi : ops[i]? = some oi) (hw : Region.wanted oi (yielded ops a.tmps) = true)
    (he : ∀ ws, Chg S w ws → (execOp a.eval oi).run P ws = .ok (.value v) ws) (h : wpF P ops Q (Chg S) m o (k + 1) (a.put oi.dst v) w) : wpF P ops Q (Chg S) m o k a w :=
  wpF_take (Chg.refl S) (fun _ _ _ => Chg.trans) hk hi (Or.inl ⟨hw, he⟩) h
theorem wpC_off {S : Nat → Prop} {k i : Nat} {oi : Oper} {a : Act} {w : World} (hk : o[k]? = some (i, 1)) (hi : ops[i]? = some oi) (hw : Region.wanted oi (yielded ops a.tmps) = false)
    (h : wpF P ops Q (Chg S) m o (k + 1) (a.put oi.dst undef) w) : wpF P ops Q (Chg S) m o k a w :=
  wpF_take (Chg.refl S) (fun _ _ _ => Chg.trans) hk hi (Or.inr ⟨hw, rfl⟩) h
theorem wpC_offS {S : Nat → Prop} {k i : Nat} {oi : Oper} {a : Act} {w : World} (hk : o[k]? = some (i, 0)) (hi : ops[i]? = some oi) (hw : Region.wanted oi (yielded ops a.tmps) = false)
    (h : wpF P ops Q (Chg S) m o (k + 1) (a.put oi.dst undef) w) : wpF P ops Q (Chg S) m o k a w :=
  wpF_single hk hi (Or.inr ⟨hw, h⟩) (Chg.refl _ _)
theorem wpC_call {S : Nat → Prop} {k i : Nat} {oi : Oper} {a : Act} {w : World} (f : FuncId) (args : Array Value) (hk : o[k]? = some (i, 0)) (hi : ops[i]? = some oi) (hw : Region.wanted oi (yielded ops a.tmps) = true)
    (he : (execOp a.eval oi).run P w = .ok (.enter f args) w) (hc : Calls P f args w fun e w' => ∃ v, e = .returned v ∧ Chg S w w' ∧ wpF P ops Q (Chg S) m o (k + 1) (a.put oi.dst v) w') : wpF P ops Q (Chg S) m o k a w :=
  wpF_single hk hi (Or.inl ⟨hw, Or.inr (Or.inl ⟨f, args, he, hc⟩)⟩) (Chg.refl _ _)
theorem wpC_made {S : Nat → Prop} {k i : Nat} {oi : Oper} {a : Act} {w : World} (v : Value) (w' : World) (hk : o[k]? = some (i, 0)) (hi : ops[i]? = some oi) (hw : Region.wanted oi (yielded ops a.tmps) = true)
    (he : (execOp a.eval oi).run P w = .ok (.value v) w') (hx : Chg S w w') (h : wpF P ops Q (Chg S) m o (k + 1) (a.put oi.dst v) w') : wpF P ops Q (Chg S) m o k a w :=
  wpF_single hk hi (Or.inl ⟨hw, Or.inl ⟨v, w', he, hx, h⟩⟩) (Chg.refl _ _)
theorem wpC_store {S : Nat → Prop} {k i : Nat} {oi : Oper} {a : Act} {w : World} (w' : World) (hk : o[k]? = some (i, 0)) (hi : ops[i]? = some oi) (hw : Region.wanted oi (yielded ops a.tmps) = true)
    (he : (execOp a.eval oi).run P w = .ok .skip w') (hx : Chg S w w') (h : wpF P ops Q (Chg S) m o (k + 1) (a.put oi.dst undef) w') : wpF P ops Q (Chg S) m o k a w :=
  wpF_single hk hi (Or.inl ⟨hw, Or.inr (Or.inr (Or.inl ⟨w', he, hx, h⟩))⟩) (Chg.refl _ _)
theorem wp_region_flowC {id : Nat} {a : Act} {w : World} (S : Nat → Prop) (m : Nat) (o : List (Nat × Nat)) (hm : P.follows .mixedOrders = true) (hok : flowOk ops m o = true) (h : wpF P ops Q (Chg S) m o 0 a w.drew) : (Code.region id ops true).wp P Q a w :=
  wp_region_flow (Chg S) m o hm hok (Chg.refl S) h
end
end
end Go.Proofs.Ytjnbiacnhimkgaa

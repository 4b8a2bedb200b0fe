/-
  A region that draws its order and ends in operations that stand behind all others: the others by a table, in whatever order; the last ones as they stand. Conditions: no two operations of the table write one temporary; each operation of the end stands, directly or through others, behind all ahead of it.
-/
import Derived.Test.YtjnbiacnhimkgaaTable
namespace Go.Proofs.Ytjnbiacnhimkgaa
open Go.ChangeShapes Go.WideShapes Go.ChangeAt Go.RowKit
section
variable {P : Program} {ops : Array Oper} {Q : Exit → Act → World → Prop} {R : World → World → Prop} {T : Nat → Value → World → Prop} {ds : List Nat} {a0 : Act} {w0 : World}
/-- Does operation j stand behind operation i? -/
def behind (ops : Array Oper) : Nat → Nat → Nat → Bool
  | 0, _, _ => false
  | f + 1, j, i => match ops[j]? with | some o => o.after.toList.any fun e => Region.binds .any e && (e.on == i || behind ops f e.on i) | none => false
def behindAll (ops : Array Oper) (j : Nat) : Bool := (List.range j).all fun i => behind ops ops.size j i
def tailOk (ops : Array Oper) (m : Nat) : Bool := (List.range ops.size).all fun j => decide (j < m) || behindAll ops j
/-- What is listed stands behind what is listed. -/
def Shut (ops : Array Oper) (listed : Array Bool) : Prop := ∀ i o, ops[i]? = some o → listed.getD i false = true → ∀ e ∈ o.after, Region.binds .any e = true → listed.getD e.on false = true
theorem behind_listed {listed : Array Bool} (hc : Shut ops listed) : ∀ (f j i : Nat) (o : Oper), ops[j]? = some o → (∀ e ∈ o.after, Region.binds .any e = true → listed.getD e.on false = true) → behind ops f j i = true → listed.getD i false = true
  | 0, _, _, _, _, _, h => by simp [behind] at h
  | f + 1, j, i, o, ho, hd, h => by
    rw [behind, ho] at h
    simp only [List.any_eq_true, Bool.and_eq_true, Bool.or_eq_true, beq_iff_eq] at h
    obtain ⟨e, he, hb, h⟩ := h
    have he' : e ∈ o.after := by simpa using he
    have hl := hd e he' hb
    rcases h with h | h
    · rw [← h]; exact hl
    · cases hoe : ops[e.on]? with
      | none => cases f <;> simp [behind, hoe] at h
      | some oe => exact behind_listed hc f e.on i oe hoe (fun e2 h2 hb2 => hc e.on oe hoe hl e2 h2 hb2) h
theorem getD_setB {l : Array Bool} {i j : Nat} (hi : i < l.size) : (l.setIfInBounds i true).getD j false = if j = i then true else l.getD j false := by
  by_cases h : j = i
  · subst h; simp [hi]
  · rw [if_neg h]
    simp [Array.getD_eq_getD_getElem?, Array.getElem?_setIfInBounds_ne (Ne.symm h)]
theorem shut_set {listed : Array Bool} (hc : Shut ops listed) {j : Nat} {o : Oper} (hj : j < listed.size) (ho : ops[j]? = some o) (hd : ∀ e ∈ o.after, Region.binds .any e = true → listed.getD e.on false = true) : Shut ops (listed.setIfInBounds j true) := by
  intro i oi hi hl e he hb
  rw [getD_setB hj] at hl ⊢
  by_cases h : e.on = j
  · rw [if_pos h]
  · rw [if_neg h]
    by_cases hij : i = j
    · subst hij
      obtain rfl : oi = o := Option.some.inj (hi.symm.trans ho)
      exact hd e he hb
    · rw [if_neg hij] at hl
      exact hc i oi hi hl e he hb
theorem tailOk_at {m : Nat} (h : tailOk ops m = true) {j i : Nat} (hj : j < ops.size) (hm : m ≤ j) (hi : i < j) : behind ops ops.size j i = true := by
  simp only [tailOk, List.all_eq_true, List.mem_range, Bool.or_eq_true, decide_eq_true_eq] at h
  have := (h j hj).resolve_left (by omega)
  simp only [behindAll, List.all_eq_true, List.mem_range] at this
  exact this i hi
theorem count_setB {listed : Array Bool} {j fuel : Nat} (hl0 : listed[j]? = some false) (hc : listed.toList.count false ≤ fuel + 1) : (listed.setIfInBounds j true).toList.count false ≤ fuel := by
  have := count_set (l := listed.toList) (i := j) (by simpa using hl0)
  simp only [Array.toList_setIfInBounds]
  omega
theorem ready_nil_of_zero {listed : Array Bool} (hs : listed.size = ops.size) (hc : listed.toList.count false ≤ 0) : Region.ready .any ops listed = [] := by
  rcases hq : Region.ready .any ops listed with _ | ⟨j, js⟩
  · rfl
  · exfalso
    have hj : j ∈ Region.ready .any ops listed := by rw [hq]; simp
    obtain ⟨h0, o, ho, _⟩ := mem_ready.1 hj
    have hlt : j < listed.size := by rw [hs]; exact (Array.getElem?_eq_some_iff.1 ho).1
    have : (false : Bool) ∈ listed.toList := by
      have h1 : listed[j] = false := by simpa [hlt] using h0
      rw [← h1]; simp
    have := List.count_pos_iff.2 this
    omega
theorem drop_nil_of {l : List Oper} {k : Nat} (h : l.length ≤ k) : l.drop k = [] := List.drop_eq_nil_of_le h
/-- The end, one after the other. -/
theorem wpAny_end (m : Nat) (hE : edgesBack ops.toList = true) (hT : tailOk ops m = true) : ∀ (fuel k : Nat) (listed : Array Bool) (a : Act) (w : World), listed.size = ops.size → listed.toList.count false ≤ fuel → Shut ops listed → m ≤ k →
    (∀ i, i < k → listed.getD i false = true ∨ ops.size ≤ i) → (∀ i, k ≤ i → listed.getD i false = false) → wpList P ops Q (ops.toList.drop k) a w → wpAny P .any ops Q fuel listed a w := by
  have fin : ∀ {k : Nat} {listed : Array Bool} {a : Act} {w : World}, listed.size = ops.size → Region.ready .any ops listed = [] → (∀ i, k ≤ i → listed.getD i false = false) → wpList P ops Q (ops.toList.drop k) a w → Q .normal a w := by
    intro k listed a w hs hr hn h
    have hk : ops.size ≤ k := by
      rcases Nat.lt_or_ge k ops.size with hlt | hge
      · have h1 := all_listed hE hs hr k hlt
        rw [hn k (Nat.le_refl _)] at h1
        cases h1
      · exact hge
    rw [drop_nil_of (by simpa using hk)] at h
    exact h
  intro fuel
  induction fuel with
  | zero =>
    intro k listed a w hs hc _ _ _ hn h
    have hr := ready_nil_of_zero hs hc
    exact ⟨hr, fin hs hr hn h⟩
  | succ fuel ih =>
    intro k listed a w hs hc hsh hm hy hn h
    refine ⟨fun hr => fin hs hr hn h, fun j hj => ?_⟩
    obtain ⟨h0, o, ho, hdeps⟩ := mem_ready.1 hj
    have hlt : j < ops.size := (Array.getElem?_eq_some_iff.1 ho).1
    have hlt' : j < listed.size := by omega
    have hl0 : listed[j]? = some false := by simpa [hlt'] using h0
    have hlj : listed.getD j false = false := by simpa [hlt'] using h0
    have hkj : k ≤ j := by
      rcases Nat.lt_or_ge j k with hh | hh
      · rcases hy j hh with h1 | h1
        · rw [hlj] at h1; cases h1
        · omega
      · exact hh
    have hjk : j = k := by
      rcases Nat.lt_or_ge k j with hh | hh
      · have := behind_listed hsh ops.size j k o ho hdeps (tailOk_at hT hlt (by omega) hh)
        rw [hn k (Nat.le_refl _)] at this
        cases this
      · omega
    subst hjk
    have hd : ops.toList.drop j = o :: ops.toList.drop (j + 1) := by
      have hl : j < ops.toList.length := by simpa using hlt
      rw [List.drop_eq_getElem_cons hl]
      congr 1
      have h2 : ops.toList[j]? = some o := by rw [Array.getElem?_toList]; exact ho
      rw [List.getElem?_eq_getElem hl] at h2
      exact Option.some.inj h2
    rw [hd, wpList] at h
    have key : ∀ a w, wpList P ops Q (ops.toList.drop (j + 1)) a w → wpAny P .any ops Q fuel (listed.setIfInBounds j true) a w := by
      intro a w hK
      refine ih (j + 1) _ a w (by simpa using hs) (count_setB hl0 hc) (shut_set hsh hlt' ho hdeps) (by omega) ?_ ?_ hK
      · intro i hi
        rw [getD_setB hlt']
        by_cases hij : i = j
        · exact Or.inl (if_pos hij)
        · rw [if_neg hij]; exact hy i (by omega)
      · intro i hi
        rw [getD_setB hlt', if_neg (by omega)]
        exact hn i (by omega)
    unfold Go.wpOp
    simp only [ho]
    split
    · rename_i hw
      rw [if_pos hw] at h
      rcases h with h | h
      · exact Or.inl (Oper.wp_mono key h)
      · exact Or.inr h
    · rename_i hw
      rw [if_neg hw] at h
      exact key _ _ h
theorem wpAny_tail (m : Nat) (hmn : m ≤ ops.size) (hE : edgesBack ops.toList = true) (hTl : tailOk ops m = true) (hB : dstsIn (ops.toList.take m).toArray ds = true) (hS : ds.all (fun d => decide (d < a0.tmps.size)) = true)
    (hA : dstsApart ((ops.toList.take m).map (·.dst)) = true)
    (hT : ∀ i v w w', R w w' → T i v w → T i v w') (hR : ∀ u v w, R u v → R v w → R u w) (hR0 : ∀ w, R w w)
    (hob : ∀ i o, i < m → ops[i]? = some o → ∀ g w, R w0 w → (∀ e ∈ o.after, Region.binds .any e = true → lineAt ops T e.on g w) → Stays P ops R T i o (fillAt a0 ds g) w)
    (hend : ∀ g w, R w0 w → (∀ i o, i < m → ops[i]? = some o → lineAt ops T i g w) → wpList P ops Q (ops.toList.drop m) (fillAt a0 ds g) w) :
    ∀ (fuel : Nat) (listed : Array Bool) (a : Act) (w : World), listed.size = ops.size → listed.toList.count false ≤ fuel → Shut ops listed → (∀ i, m ≤ i → listed.getD i false = false) →
      Alike a0 ds a → R w0 w → (∀ i o d, i < m → ops[i]? = some o → o.dst = some d → listed.getD i false = true → T i (a.tmps.getD d undef) w) → wpAny P .any ops Q fuel listed a w := by
  have hB' : ∀ {i : Nat} {o : Oper}, i < m → ops[i]? = some o → ∀ d, o.dst = some d → d ∈ ds := by
    intro i o him hi d hd
    simp only [dstsIn, List.all_eq_true] at hB
    have hmem : o ∈ (ops.toList.take m).toArray.toList := by
      have h2 : (ops.toList.take m)[i]? = some o := by rw [List.getElem?_take, if_pos him, Array.getElem?_toList]; exact hi
      simpa using List.mem_of_getElem? h2
    have := hB o hmem
    simpa [hd] using this
  have hS' : ∀ d ∈ ds, d < a0.tmps.size := fun d hd => by
    simp only [List.all_eq_true] at hS
    exact of_decide_eq_true (hS d hd)
  have hap : ∀ {i j : Nat} {oi oj : Oper} {d : Nat}, i < m → j < m → ops[i]? = some oi → ops[j]? = some oj → oi.dst = some d → oj.dst = some d → i = j := by
    intro i j oi oj d him hjm hi hj h1 h2
    refine dstsApart_at hA (d := d) ?_ ?_
    · rw [List.getElem?_map, List.getElem?_take, if_pos him, Array.getElem?_toList, hi]; simp [h1]
    · rw [List.getElem?_map, List.getElem?_take, if_pos hjm, Array.getElem?_toList, hj]; simp [h2]
  have lines : ∀ {listed : Array Bool} {a : Act} {w : World}, (∀ i o d, i < m → ops[i]? = some o → o.dst = some d → listed.getD i false = true → T i (a.tmps.getD d undef) w) → ∀ i, i < m → listed.getD i false = true → lineAt ops T i (fun d => a.tmps.getD d undef) w := by
    intro listed a w hl i him hli
    unfold lineAt
    cases hoe : ops[i]? with
    | none => trivial
    | some oe =>
      cases hd : oe.dst with
      | none => simp [hd]
      | some d => simpa [hd] using hl i oe d him hoe hd hli
  have fin : ∀ {listed : Array Bool} {a : Act} {w : World}, (∀ i, i < m → listed.getD i false = true) → Alike a0 ds a → R w0 w → (∀ i o d, i < m → ops[i]? = some o → o.dst = some d → listed.getD i false = true → T i (a.tmps.getD d undef) w) → wpList P ops Q (ops.toList.drop m) a w := by
    intro listed a w hall ha hw hl
    have h1 := hend (fun d => a.tmps.getD d undef) w hw fun i o him _ => lines hl i him (hall i him)
    rwa [← ha.fill] at h1
  have nil : ∀ {listed : Array Bool} {a : Act} {w : World}, listed.size = ops.size → Region.ready .any ops listed = [] → (∀ i, m ≤ i → listed.getD i false = false) → Alike a0 ds a → R w0 w → (∀ i o d, i < m → ops[i]? = some o → o.dst = some d → listed.getD i false = true → T i (a.tmps.getD d undef) w) → Q .normal a w := by
    intro listed a w hs hr hn ha hw hl
    have hall := all_listed hE hs hr
    have hm : ops.size ≤ m := by
      rcases Nat.lt_or_ge m ops.size with hlt | hge
      · have h1 := hall m hlt
        rw [hn m (Nat.le_refl _)] at h1
        cases h1
      · exact hge
    have := fin (fun i hi => hall i (by omega)) ha hw hl
    rwa [drop_nil_of (by simpa using hm)] at this
  intro fuel
  induction fuel with
  | zero =>
    intro listed a w hs hc _ hn ha hw hl
    have hr := ready_nil_of_zero hs hc
    exact ⟨hr, nil hs hr hn ha hw hl⟩
  | succ fuel ih =>
    intro listed a w hs hc hsh hn ha hw hl
    by_cases hall : ∀ i, i < m → listed.getD i false = true
    · exact wpAny_end m hE hTl (fuel + 1) m listed a w hs hc hsh (Nat.le_refl _) (fun i hi => Or.inl (hall i hi)) hn (fin hall ha hw hl)
    refine ⟨fun hr => nil hs hr hn ha hw hl, fun j hj => ?_⟩
    obtain ⟨h0, o, ho, hdeps⟩ := mem_ready.1 hj
    have hlt : j < ops.size := (Array.getElem?_eq_some_iff.1 ho).1
    have hlt' : j < listed.size := by omega
    have hl0 : listed[j]? = some false := by simpa [hlt'] using h0
    have hjm : j < m := by
      rcases Nat.lt_or_ge j m with hh | hh
      · exact hh
      · exact absurd (fun i (hi : i < m) => behind_listed hsh ops.size j i o ho hdeps (tailOk_at hTl hlt hh (by omega))) hall
    have key : ∀ v w', R w w' → T j v w' → wpAny P .any ops Q fuel (listed.setIfInBounds j true) (a.put o.dst v) w' := by
      intro v w' hg hv
      refine ih _ _ _ (by simpa using hs) (count_setB hl0 hc) (shut_set hsh hlt' ho hdeps) ?_ (ha.put (hB' hjm ho) v) (hR _ _ _ hw hg) ?_
      · intro i hi
        rw [getD_setB hlt', if_neg (by omega)]
        exact hn i hi
      · intro i oi d him hi hd hli
        by_cases hij : i = j
        · subst hij
          obtain rfl : oi = o := Option.some.inj (hi.symm.trans ho)
          have hds : d < a.tmps.size := by rw [ha.size]; exact hS' d (hB' him hi d hd)
          rw [hd]
          have : ((a.put (some d) v).tmps).getD d undef = v := by simp [Act.put, hds]
          rw [this]; exact hv
        · rw [getD_setB hlt', if_neg hij] at hli
          have hne : o.dst ≠ some d := fun he => hij (hap him hjm hi ho hd he)
          have : (a.put o.dst v).tmps.getD d undef = a.tmps.getD d undef := by
            cases hod : o.dst with
            | none => rfl
            | some d' =>
              have : d' ≠ d := fun e => hne (by rw [hod, e])
              simp [Act.put, Array.getElem?_setIfInBounds_ne this]
          rw [this]
          exact hT _ _ _ _ hg (hl i oi d him hi hd hli)
    have hst := hob j o hjm ho (fun d => a.tmps.getD d undef) w hw (fun e he hb => lines hl e.on (by have := edgesBack_at hE ho he hb; omega) (hdeps e he hb))
    rw [← ha.fill] at hst
    unfold Go.wpOp
    simp only [ho]
    rcases hst with ⟨hw2, ⟨v, w', he, hg, hv⟩ | ⟨f, args, he, hcl⟩ | ⟨he, hv⟩⟩ | ⟨hw2, hv⟩
    · simp only [hw2, if_true, Oper.wp, he, Oper.upon]; exact .inl (key v w' hg hv)
    · simp only [hw2, if_true, Oper.wp, he, Oper.upon]
      refine .inl (Calls.mono hcl fun e w' ⟨v, h1, h2, h3⟩ => ?_)
      subst h1
      exact key v w' h2 h3
    · simp only [hw2, if_true, Oper.wp, he, Oper.upon]; exact .inl (key undef w (hR0 w) hv)
    · simp only [hw2, Bool.false_eq_true, if_false]; exact key undef w (hR0 w) hv
theorem wp_region_tail {id : Nat} {a : Act} {w : World} (m : Nat) (Ls : List Line) (ds : List Nat) (hm : P.follows .mixedOrders = true) (hmn : decide (m ≤ ops.size) = true)
    (hE : edgesBack ops.toList = true) (hTl : tailOk ops m = true) (hB : dstsIn (ops.toList.take m).toArray ds = true) (hS : ds.all (fun d => decide (d < a.tmps.size)) = true)
    (hA : dstsApart ((ops.toList.take m).map (·.dst)) = true)
    (hob : Each (fun i o => ∀ g w', Ext w.drew w' → linesOf ops (linesT Ls) g w' o.after.toList → Stays P ops Ext (linesT Ls) i o (fillAt a ds g) w') 0 (ops.toList.take m))
    (hend : ∀ g w', Ext w.drew w' → allLines (linesT Ls) g w' 0 (ops.toList.take m) → wpList P ops Q (ops.toList.drop m) (fillAt a ds g) w') : (Code.region id ops true).wp P Q a w := by
  refine wp_region_any hm (wpAny_tail (w0 := w.drew) (ds := ds) (a0 := a) (R := Ext) (T := linesT Ls) m (of_decide_eq_true hmn) hE hTl hB hS hA (linesT_ext Ls) (fun _ _ _ => Ext.trans) Ext.refl ?_ ?_ _ _ _ _ (by simp) (by simp) ?_ ?_ ⟨rfl, rfl, fun _ _ => rfl⟩ (Ext.refl _) ?_)
  · intro i o him hi g w' hw hl
    have h := hob.at (i := i) (by rw [List.getElem?_take, if_pos him, Array.getElem?_toList]; exact hi) g w' hw (linesOf_of fun e he => hl e (by simpa using he))
    rwa [Nat.zero_add] at h
  · intro g w' hw hl
    refine hend g w' hw (allLines_of fun i o hi => ?_)
    rw [List.getElem?_take] at hi
    split at hi
    · rename_i him
      rw [Array.getElem?_toList] at hi
      have := hl i o him hi
      unfold lineAt at this
      rw [hi] at this
      simp only [Option.bind_some] at this
      rw [Nat.zero_add]
      exact this
    · cases hi
  · intro i o _ h
    rw [Array.getD_eq_getD_getElem?, Array.getElem?_replicate] at h
    split at h <;> simp at h
  · intro i _
    rw [Array.getD_eq_getD_getElem?, Array.getElem?_replicate]
    split <;> rfl
  · intro i o d _ _ _ h
    rw [Array.getD_eq_getD_getElem?, Array.getElem?_replicate] at h
    split at h <;> simp at h
theorem Stays.made {T : Nat → Value → World → Prop} {i : Nat} {o : Oper} {a : Act} {w : World} (v : Value) (w' : World) (hw : Region.wanted o (yielded ops a.tmps) = true) (he : (execOp a.eval o).run P w = .ok (.value v) w') (hx : Ext w w') (hv : T i v w') : Stays P ops Ext T i o a w :=
  Or.inl ⟨hw, Or.inl ⟨v, w', he, hx, hv⟩⟩
/-- A slice of n elements whose cells lie in a block of its own. -/
def builtL (t : TypeId) (n : Nat) (cs : Array Value) : Line :=
  ⟨fun v w => ∃ B : Nat, v = .slice (some ⟨B, 0, none⟩) n n ∧ w.heap[B]? = some (.cells cs t (0, 0)),
   fun _ u _ hg ⟨B, h1, h2⟩ => ⟨B, h1, by
     have hlt : B < u.heap.size := by
       rcases Nat.lt_or_ge B u.heap.size with h | h
       · exact h
       · rw [Array.getElem?_eq_none h] at h2; cases h2
     exact ((show Below u.heap.size u _ from hg).block B hlt).trans h2⟩⟩
end
end Go.Proofs.Ytjnbiacnhimkgaa

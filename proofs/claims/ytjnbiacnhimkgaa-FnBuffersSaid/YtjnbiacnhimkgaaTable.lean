/-
  A region that draws its order, proved operation by operation: a table says of each operation what its value is in the world behind it; each line of the table stays true as the world goes on. Each operation is proved once, out of the lines of those that it stands behind; no order is walked. Conditions: no two operations write one temporary.
-/
import Derived.Orders
import Derived.OrdersHeld
import Derived.Deep.RegionHeld
import Derived.Test.YtjnbiacnhimkgaaBase
namespace Go.Proofs.Ytjnbiacnhimkgaa
section
variable {P : Program} {ops : Array Oper} {Q : Exit → Act → World → Prop} {R : World → World → Prop} {T : Nat → Value → World → Prop} {ds : List Nat} {a0 : Act} {w0 : World}

def fillAt (a0 : Act) (ds : List Nat) (g : Nat → Value) : Act := ds.foldl (fun a d => a.put (some d) (g d)) a0
/-- The line of operation j holds of what stands in its temporary. -/
def lineAt (ops : Array Oper) (T : Nat → Value → World → Prop) (j : Nat) (g : Nat → Value) (w : World) : Prop :=
  match (ops[j]?).bind (·.dst) with | some d => T j (g d) w | none => True
def Stays (P : Program) (ops : Array Oper) (R : World → World → Prop) (T : Nat → Value → World → Prop) (i : Nat) (o : Oper) (a : Act) (w : World) : Prop :=
  (Region.wanted o (yielded ops a.tmps) = true ∧ ((∃ v w', (execOp a.eval o).run P w = .ok (.value v) w' ∧ R w w' ∧ T i v w') ∨
    (∃ f args, (execOp a.eval o).run P w = .ok (.enter f args) w ∧ Calls P f args w fun e w' => ∃ v, e = .returned v ∧ R w w' ∧ T i v w') ∨
    ((execOp a.eval o).run P w = .ok .skip w ∧ T i undef w))) ∨
  (Region.wanted o (yielded ops a.tmps) = false ∧ T i undef w)
def Each (Ob : Nat → Oper → Prop) : Nat → List Oper → Prop
  | _, [] => True
  | k, o :: os => Ob k o ∧ Each Ob (k + 1) os
theorem Each.nil {Ob : Nat → Oper → Prop} {k : Nat} : Each Ob k [] := trivial
theorem Each.cons {Ob : Nat → Oper → Prop} {k : Nat} {o : Oper} {os : List Oper} (h : Ob k o) (hs : Each Ob (k + 1) os) : Each Ob k (o :: os) := ⟨h, hs⟩
theorem Each.at {Ob : Nat → Oper → Prop} : ∀ {l : List Oper} {k i : Nat} {o : Oper}, Each Ob k l → l[i]? = some o → Ob (k + i) o
  | [], _, _, _, _, h => by simp at h
  | _ :: _, _, 0, _, hE, h => by simp at h; subst h; exact hE.1
  | _ :: os, k, i + 1, _, hE, h => by
    have := Each.at (l := os) (k := k + 1) (i := i) hE.2 (by simpa using h)
    rwa [Nat.add_right_comm, Nat.add_assoc] at this
def dstsIn (ops : Array Oper) (ds : List Nat) : Bool := ops.toList.all fun o => match o.dst with | some d => ds.contains d | none => true
def dstsApart : List (Option Nat) → Bool
  | [] => true
  | x :: xs => (match x with | some d => !xs.contains (some d) | none => true) && dstsApart xs
theorem dstsApart_at : ∀ {l : List (Option Nat)}, dstsApart l = true → ∀ {i j d : Nat}, l[i]? = some (some d) → l[j]? = some (some d) → i = j
  | [], _, i, j, d, h, _ => by simp at h
  | x :: xs, hA, i, j, d, hi, hj => by
    simp only [dstsApart, Bool.and_eq_true] at hA
    obtain ⟨h1, h2⟩ := hA
    cases i with
    | zero =>
      cases j with
      | zero => rfl
      | succ j =>
        have h3 : x = some d := by simpa using hi
        have h4 : xs[j]? = some (some d) := by simpa using hj
        subst h3
        simp at h1
        exact absurd (List.mem_of_getElem? h4) h1
    | succ i =>
      have h3 : xs[i]? = some (some d) := by simpa using hi
      cases j with
      | zero =>
        have h4 : x = some d := by simpa using hj
        subst h4
        simp at h1
        exact absurd (List.mem_of_getElem? h3) h1
      | succ j => exact congrArg (· + 1) (dstsApart_at (l := xs) h2 (i := i) (j := j) (d := d) h3 (by simpa using hj))

theorem fillAt_defers : ∀ (ds : List Nat) (a0 : Act) (g : Nat → Value), (fillAt a0 ds g).defers = a0.defers
  | [], _, _ => rfl
  | d :: ds, a0, g => (fillAt_defers ds (a0.put (some d) (g d)) g).trans rfl
theorem fillAt_size : ∀ (ds : List Nat) (a0 : Act) (g : Nat → Value), (fillAt a0 ds g).tmps.size = a0.tmps.size
  | [], _, _ => rfl
  | d :: ds, a0, g => (fillAt_size ds (a0.put (some d) (g d)) g).trans (by simp [Act.put])
theorem fillAt_get : ∀ (ds : List Nat) (a0 : Act) (g : Nat → Value) (t : Nat) (_ : t < a0.tmps.size), (fillAt a0 ds g).tmps[t]? = if t ∈ ds then some (g t) else a0.tmps[t]?
  | [], _, _, _, _ => by simp [fillAt]
  | d :: ds, a0, g, t, ht => by
    have h := fillAt_get ds (a0.put (some d) (g d)) g t (by simpa [Act.put] using ht)
    have h0 : fillAt a0 (d :: ds) g = fillAt (a0.put (some d) (g d)) ds g := rfl
    rw [h0, h]
    by_cases h1 : t ∈ ds
    · simp [h1]
    · by_cases h2 : t = d
      · subst h2
        simp [h1, Act.put, ht]
      · simp [h1, h2, Act.put, Array.getElem?_setIfInBounds_ne (Ne.symm h2)]

structure Alike (a0 : Act) (ds : List Nat) (a : Act) : Prop where
  defers : a.defers = a0.defers
  size : a.tmps.size = a0.tmps.size
  rest : ∀ t, t ∉ ds → a.tmps[t]? = a0.tmps[t]?

theorem Alike.fill {a : Act} (h : Alike a0 ds a) : a = fillAt a0 ds fun d => a.tmps.getD d undef := by
  have h1 := fillAt_defers ds a0 fun d => a.tmps.getD d undef
  have h2 := fillAt_size ds a0 fun d => a.tmps.getD d undef
  have h3 := fillAt_get ds a0 fun d => a.tmps.getD d undef
  generalize fillAt a0 ds (fun d => a.tmps.getD d undef) = b at *
  obtain ⟨tb, db⟩ := b
  obtain ⟨ta, da⟩ := a
  obtain ⟨e1, e2, e3⟩ := h
  simp only at *
  subst h1
  rw [← e1]
  congr 1
  apply Array.ext_getElem?
  intro t
  by_cases ht : t < a0.tmps.size
  · rw [h3 t ht]
    by_cases hd : t ∈ ds
    · simp [hd, e2, ht]
    · simp [hd, e3 t hd]
  · rw [Array.getElem?_eq_none (by omega), Array.getElem?_eq_none (by omega)]

theorem Alike.put {a : Act} (h : Alike a0 ds a) {dst : Option Nat} (hd : ∀ d, dst = some d → d ∈ ds) (v : Value) : Alike a0 ds (a.put dst v) := by
  cases dst with
  | none => exact h
  | some d =>
    refine ⟨h.defers, by simp [Act.put, h.size], fun t ht => ?_⟩
    have : d ≠ t := fun e => ht (e ▸ hd d rfl)
    simp [Act.put, Array.getElem?_setIfInBounds_ne this, h.rest t ht]

/-- What holds along the way. -/
structure Along (ops : Array Oper) (R : World → World → Prop) (T : Nat → Value → World → Prop) (a0 : Act) (ds : List Nat) (w0 : World) (listed : Array Bool) (a : Act) (w : World) : Prop where
  alike : Alike a0 ds a
  grown : R w0 w
  lines : ∀ i o d, ops[i]? = some o → o.dst = some d → listed.getD i false = true → T i (a.tmps.getD d undef) w

/-- Each operation stands behind earlier ones alone. -/
def edgesBack (l : List Oper) : Bool := l.zipIdx.all fun p => p.1.after.toList.all fun e => !(Region.binds .any e) || decide (e.on < p.2)
theorem edgesBack_at (h : edgesBack ops.toList = true) {i : Nat} {o : Oper} (hi : ops[i]? = some o) {e : Edge} (he : e ∈ o.after) (hb : Region.binds .any e = true) : e.on < i := by
  simp only [edgesBack, List.all_eq_true] at h
  have hm : (o, i) ∈ ops.toList.zipIdx := by
    rw [List.mk_mem_zipIdx_iff_getElem?]
    simpa using hi
  have := h _ hm e (by simpa using he)
  simpa [hb] using this
theorem all_listed (h : edgesBack ops.toList = true) {listed : Array Bool} (hs : listed.size = ops.size) (hr : Region.ready .any ops listed = []) : ∀ i, i < ops.size → listed.getD i false = true := by
  intro i
  induction i using Nat.strongRecOn with
  | _ i ih =>
    intro hi
    cases hl : listed.getD i false with
    | true => rfl
    | false =>
      exfalso
      have hlt : i < listed.size := by omega
      have hm : i ∈ Region.ready .any ops listed := by
        refine mem_ready.2 ⟨?_, ops[i], by simp [hi], fun e he hb => ?_⟩
        · simpa [hlt] using hl
        · have := edgesBack_at h (i := i) (o := ops[i]) (by simp [hi]) he hb
          exact ih _ this (by omega)
      rw [hr] at hm
      cases hm
theorem count_set {l : List Bool} : ∀ {i : Nat}, l[i]? = some false → (l.set i true).count false + 1 = l.count false := by
  induction l with
  | nil => intro i h; simp at h
  | cons x xs ih =>
    intro i h
    cases i with
    | zero => simp at h; subst h; simp
    | succ i =>
      have := ih (i := i) (by simpa using h)
      simp only [List.set_cons_succ, List.count_cons]
      omega

theorem wpAny_table (hE : edgesBack ops.toList = true) (hB : dstsIn ops ds = true) (hS : ds.all (fun d => decide (d < a0.tmps.size)) = true)
    (hA : dstsApart (ops.toList.map (·.dst)) = true)
    (hT : ∀ i v w w', R w w' → T i v w → T i v w') (hR : ∀ u v w, R u v → R v w → R u w) (hR0 : ∀ w, R w w)
    (hob : ∀ i o, ops[i]? = some o → ∀ g w, R w0 w → (∀ e ∈ o.after, Region.binds .any e = true → lineAt ops T e.on g w) → Stays P ops R T i o (fillAt a0 ds g) w)
    (hend : ∀ g w, R w0 w → (∀ i o, ops[i]? = some o → lineAt ops T i g w) → Q .normal (fillAt a0 ds g) w) :
    ∀ (fuel : Nat) (listed : Array Bool) (a : Act) (w : World), listed.size = ops.size → listed.toList.count false ≤ fuel → Along ops R T a0 ds w0 listed a w → wpAny P .any ops Q fuel listed a w := by
  have hB' : ∀ {i : Nat} {o : Oper}, ops[i]? = some o → ∀ d, o.dst = some d → d ∈ ds := by
    intro i o hi d hd
    simp only [dstsIn, List.all_eq_true] at hB
    have := hB o (by simpa using List.mem_of_getElem? (l := ops.toList) (i := i) (by simpa using hi))
    simpa [hd] using this
  have hS' : ∀ d ∈ ds, d < a0.tmps.size := fun d hd => by
    simp only [List.all_eq_true] at hS
    exact of_decide_eq_true (hS d hd)
  have fin : ∀ {listed : Array Bool} {a : Act} {w : World}, listed.size = ops.size → Region.ready .any ops listed = [] → Along ops R T a0 ds w0 listed a w → Q .normal a w := by
    intro listed a w hs hr h
    rw [h.alike.fill]
    refine hend _ w h.grown fun i o hi => ?_
    unfold lineAt
    cases hd : o.dst with
    | none => simp [hi, hd]
    | some d =>
      have hlt : i < ops.size := (Array.getElem?_eq_some_iff.1 hi).1
      simpa [hi, hd] using h.lines i o d hi hd (all_listed hE hs hr i hlt)
  intro fuel
  induction fuel with
  | zero =>
    intro listed a w hs hc h
    have hr : Region.ready .any ops listed = [] := by
      rcases hq : Region.ready .any ops listed with _ | ⟨j, js⟩
      · rfl
      · exfalso
        have hj : j ∈ Region.ready .any ops listed := by rw [hq]; simp
        obtain ⟨h0, o, ho, _⟩ := mem_ready.1 hj
        have hlt : j < listed.size := by rw [hs]; exact (Array.getElem?_eq_some_iff.1 ho).1
        have : (false : Bool) ∈ listed.toList := by
          have h1 : listed[j] = false := by simpa [hlt] using h0
          rw [← h1]; simp
        have := List.count_pos_iff.2 this
        omega
    exact ⟨hr, fin hs hr h⟩
  | succ fuel ih =>
    intro listed a w hs hc h
    refine ⟨fun hr => fin hs hr h, fun j hj => ?_⟩
    obtain ⟨h0, o, ho, hdeps⟩ := mem_ready.1 hj
    have hlt : j < listed.size := by rw [hs]; exact (Array.getElem?_eq_some_iff.1 ho).1
    have hl0 : listed[j]? = some false := by simpa [hlt] using h0
    have key : ∀ v w', R w w' → T j v w' → wpAny P .any ops Q fuel (listed.setIfInBounds j true) (a.put o.dst v) w' := by
      intro v w' hg hv
      refine ih _ _ _ (by simpa using hs) ?_ ⟨h.alike.put (hB' ho) v, hR _ _ _ h.grown hg, ?_⟩
      · have := count_set (l := listed.toList) (i := j) (by simpa using hl0)
        simp only [Array.toList_setIfInBounds]
        omega
      · intro i oi d hi hd hli
        by_cases hij : i = j
        · subst hij
          obtain rfl : oi = o := Option.some.inj (hi.symm.trans ho)
          have hds : d < a.tmps.size := by rw [h.alike.size]; exact hS' d (hB' hi d hd)
          rw [hd]
          have : ((a.put (some d) v).tmps).getD d undef = v := by simp [Act.put, hds]
          rw [this]; exact hv
        · have hli' : listed.getD i false = true := by
            rw [← hli]
            simp [Array.getElem?_setIfInBounds_ne (Ne.symm hij)]
          have hne : o.dst ≠ some d := fun he => hij (dstsApart_at hA (d := d) (by simp [hi, hd]) (by simp [ho, he]))
          have : (a.put o.dst v).tmps.getD d undef = a.tmps.getD d undef := by
            cases hod : o.dst with
            | none => rfl
            | some d' =>
              have : d' ≠ d := fun e => hne (by rw [hod, e])
              simp [Act.put, Array.getElem?_setIfInBounds_ne this]
          rw [this]
          exact hT _ _ _ _ hg (h.lines i oi d hi hd hli')
    have hst := hob j o ho (fun d => a.tmps.getD d undef) w h.grown (fun e he hb => by
      unfold lineAt
      cases hoe : ops[e.on]? with
      | none => trivial
      | some oe =>
        cases hd : oe.dst with
        | none => simp [hd]
        | some d => simpa [hd] using h.lines e.on oe d hoe hd (hdeps e he hb))
    rw [← h.alike.fill] at hst
    unfold Go.wpOp
    simp only [ho]
    rcases hst with ⟨hw, ⟨v, w', he, hg, hv⟩ | ⟨f, args, he, hcl⟩ | ⟨he, hv⟩⟩ | ⟨hw, hv⟩
    · simp only [hw, if_true, Oper.wp, he, Oper.upon]; exact .inl (key v w' hg hv)
    · simp only [hw, if_true, Oper.wp, he, Oper.upon]
      refine .inl (Calls.mono hcl fun e w' ⟨v, h1, h2, h3⟩ => ?_)
      subst h1
      exact key v w' h2 h3
    · simp only [hw, if_true, Oper.wp, he, Oper.upon]; exact .inl (key undef w (hR0 w) hv)
    · simp only [hw, Bool.false_eq_true, if_false]; exact key undef w (hR0 w) hv

/-- The lines of those that o stands behind. -/
def linesOf (ops : Array Oper) (T : Nat → Value → World → Prop) (g : Nat → Value) (w : World) : List Edge → Prop
  | [] => True
  | e :: es => (if Region.binds .any e then lineAt ops T e.on g w else True) ∧ linesOf ops T g w es
theorem linesOf_of {g : Nat → Value} {w : World} : ∀ {l : List Edge}, (∀ e ∈ l, Region.binds .any e = true → lineAt ops T e.on g w) → linesOf ops T g w l
  | [], _ => trivial
  | e :: es, h => ⟨by split; exact h e (by simp) (by assumption); trivial, linesOf_of fun e' he' => h e' (by simp [he'])⟩
/-- The lines of all. -/
def allLines (T : Nat → Value → World → Prop) (g : Nat → Value) (w : World) : Nat → List Oper → Prop
  | _, [] => True
  | k, o :: os => (match o.dst with | some d => T k (g d) w | none => True) ∧ allLines T g w (k + 1) os
theorem allLines_of {g : Nat → Value} {w : World} : ∀ {l : List Oper} {k : Nat}, (∀ (i : Nat) (o : Oper), l[i]? = some o → match o.dst with | some d => T (k + i) (g d) w | none => True) → allLines T g w k l
  | [], _, _ => trivial
  | o :: os, k, h => ⟨by simpa using h 0 o rfl, allLines_of fun i o' hi => by
      have := h (i + 1) o' (by simpa using hi)
      rwa [Nat.add_right_comm, Nat.add_assoc]⟩

theorem wp_region_table {id : Nat} {a : Act} {w : World} (R : World → World → Prop) (T : Nat → Value → World → Prop) (ds : List Nat) (hm : P.follows .mixedOrders = true)
    (hE : edgesBack ops.toList = true) (hB : dstsIn ops ds = true) (hS : ds.all (fun d => decide (d < a.tmps.size)) = true)
    (hA : dstsApart (ops.toList.map (·.dst)) = true)
    (hR0 : ∀ w, R w w) (hR : ∀ u v w, R u v → R v w → R u w) (hT : ∀ i v w w', R w w' → T i v w → T i v w')
    (hob : Each (fun i o => ∀ g w', R w.drew w' → linesOf ops T g w' o.after.toList → Stays P ops R T i o (fillAt a ds g) w') 0 ops.toList)
    (hend : ∀ g w', R w.drew w' → allLines T g w' 0 ops.toList → Q .normal (fillAt a ds g) w') : (Code.region id ops true).wp P Q a w := by
  refine wp_region_any hm (wpAny_table (w0 := w.drew) (ds := ds) (a0 := a) hE hB hS hA hT hR hR0 ?_ ?_ _ _ _ _ (by simp) ?_ ⟨⟨rfl, rfl, fun _ _ => rfl⟩, hR0 _, ?_⟩)
  · intro i o hi g w' hw hl
    have h := hob.at (i := i) (by simpa using hi) g w' hw (linesOf_of fun e he => hl e (by simpa using he))
    rwa [Nat.zero_add] at h
  · intro g w' hw hl
    refine hend g w' hw (allLines_of fun i o hi => ?_)
    have := hl i o (by simpa using hi)
    rw [Array.getElem?_toList] at hi
    unfold lineAt at this
    rw [hi] at this
    simp only [Option.bind_some] at this
    rw [Nat.zero_add]
    exact this
  · simp
  · intro i o d _ _ h
    rw [Array.getD_eq_getD_getElem?, Array.getElem?_replicate] at h
    split at h <;> simp at h
theorem linesOf_get {T : Nat → Value → World → Prop} {g : Nat → Value} {w : World} (j : Nat) : ∀ {l : List Edge}, linesOf ops T g w l → l.any (fun e => Region.binds .any e && (e.on == j)) = true → lineAt ops T j g w
  | [], _, h => by simp at h
  | e :: es, hl, h => by
    simp only [List.any_cons, Bool.or_eq_true, Bool.and_eq_true, beq_iff_eq] at h
    obtain ⟨h1, h2⟩ := hl
    rcases h with ⟨hb, rfl⟩ | h
    · rwa [if_pos hb] at h1
    · exact linesOf_get j h2 (by simpa using h)
theorem allLines_get {T : Nat → Value → World → Prop} {g : Nat → Value} {w : World} (d : Nat) : ∀ (j k : Nat) {l : List Oper}, allLines T g w k l → (l[j]?).bind (·.dst) = some d → T (k + j) (g d) w
  | _, _, [], _, h => by simp at h
  | 0, k, o :: os, hl, h => by
    obtain ⟨h1, h2⟩ := hl
    have h : o.dst = some d := by simpa using h
    rwa [h] at h1
  | j + 1, k, o :: os, hl, h => by
    have := allLines_get d j (k + 1) (l := os) hl.2 (by simpa using h)
    rwa [Nat.add_right_comm, Nat.add_assoc] at this

/-- What is said of a value, and stays true where the old remains. -/
structure Line where
  p : Value → World → Prop
  ext : ∀ v w w', Ext w w' → p v w → p v w'
def Line.is (x : Value) : Line := ⟨fun v _ => v = x, fun _ _ _ _ h => h⟩
def Line.free : Line := ⟨fun _ _ => True, fun _ _ _ _ h => h⟩
def linesT (Ls : List Line) (i : Nat) (v : Value) (w : World) : Prop := match Ls[i]? with | some l => l.p v w | none => True
theorem linesT_ext (Ls : List Line) (i : Nat) (v : Value) (w w' : World) (hg : Ext w w') (h : linesT Ls i v w) : linesT Ls i v w' := by
  unfold linesT at *
  cases hl : Ls[i]? with
  | none => trivial
  | some l => rw [hl] at h; exact l.ext v w w' hg h
theorem wp_region_lines {id : Nat} {a : Act} {w : World} (Ls : List Line) (ds : List Nat) (hm : P.follows .mixedOrders = true)
    (hE : edgesBack ops.toList = true) (hB : dstsIn ops ds = true) (hS : ds.all (fun d => decide (d < a.tmps.size)) = true)
    (hA : dstsApart (ops.toList.map (·.dst)) = true)
    (hob : Each (fun i o => ∀ g w', Ext w.drew w' → linesOf ops (linesT Ls) g w' o.after.toList → Stays P ops Ext (linesT Ls) i o (fillAt a ds g) w') 0 ops.toList)
    (hend : ∀ g w', Ext w.drew w' → allLines (linesT Ls) g w' 0 ops.toList → Q .normal (fillAt a ds g) w') : (Code.region id ops true).wp P Q a w :=
  wp_region_table Ext (linesT Ls) ds hm hE hB hS hA Ext.refl (fun _ _ _ => Ext.trans) (linesT_ext Ls) hob hend
theorem Stays.plain {T : Nat → Value → World → Prop} {i : Nat} {o : Oper} {a : Act} {w : World} (v : Value) (hw : Region.wanted o (yielded ops a.tmps) = true) (he : (execOp a.eval o).run P w = .ok (.value v) w) (hv : T i v w) : Stays P ops Ext T i o a w :=
  Or.inl ⟨hw, Or.inl ⟨v, w, he, Ext.refl w, hv⟩⟩
theorem Stays.call {T : Nat → Value → World → Prop} {i : Nat} {o : Oper} {a : Act} {w : World} (f : FuncId) (args : Array Value) (hw : Region.wanted o (yielded ops a.tmps) = true) (he : (execOp a.eval o).run P w = .ok (.enter f args) w)
    (hc : Calls P f args w fun e w' => ∃ v, e = .returned v ∧ Ext w w' ∧ T i v w') : Stays P ops Ext T i o a w :=
  Or.inl ⟨hw, Or.inr (Or.inl ⟨f, args, he, hc⟩)⟩
theorem Stays.off {T : Nat → Value → World → Prop} {i : Nat} {o : Oper} {a : Act} {w : World} (hw : Region.wanted o (yielded ops a.tmps) = false) (hv : T i undef w) : Stays P ops Ext T i o a w :=
  Or.inr ⟨hw, hv⟩
theorem Stays.skip {T : Nat → Value → World → Prop} {i : Nat} {o : Oper} {a : Act} {w : World} (hw : Region.wanted o (yielded ops a.tmps) = true) (he : (execOp a.eval o).run P w = .ok .skip w) (hv : T i undef w) : Stays P ops Ext T i o a w :=
  Or.inl ⟨hw, Or.inr (Or.inr ⟨he, hv⟩)⟩
end
end Go.Proofs.Ytjnbiacnhimkgaa

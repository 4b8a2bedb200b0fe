/-
  Part of the proof: Box.
-/
import Derived.Test.YtjhgcbchdnoleaaPG1
namespace Go.Proofs.Ytjhgcbchdnoleaa
section
section
variable {P : Program} {ops : Array Oper} {Q : Exit → Act → World → Prop} {T : Nat → Value → World → Prop} {ds : List Nat} {a0 : Act} {w0 : World}
/-- Blocks from lo on, of type t: they alone may have turned. -/
def Tagged (lo t : Nat) (w : World) (k : Nat) : Prop := lo ≤ k ∧ ∃ (arr : Array Value) (fr : Nat × Nat), w.heap[k]? = some (.cells arr t fr)
structure BoxIn (ops : Array Oper) (T : Nat → Value → World → Prop) (a0 : Act) (ds : List Nat) (w0 : World) (ia is ic da dc t : Nat) (z0 : Array Value) (listed : Array Bool) (a : Act) (w : World) : Prop where
  alike : Alike a0 ds a
  grown : Ext w0 w
  lines : ∀ i o d, ops[i]? = some o → o.dst = some d → i ≠ ia → listed.getD i false = true → T i (a.tmps.getD d undef) w
  both : listed.getD is false = true → listed.getD ia false = true ∧ listed.getD ic false = true
  box : listed.getD ia false = true → ∃ B : Nat, a.tmps.getD da undef = .pointer (some ⟨B, 0, none⟩) ∧ w0.heap.size ≤ B ∧ B < w.heap.size ∧
    w.heap[B]? = some (.cells (if listed.getD is false = true then (a.tmps.getD dc undef).cells else z0) t (0, 0))
theorem getD_set {listed : Array Bool} {i j : Nat} (hj : j < listed.size) : (listed.setIfInBounds j true).getD i false = (if i = j then true else listed.getD i false) := by
  by_cases h : i = j
  · subst h; simp [hj]
  · simp [Array.getElem?_setIfInBounds_ne (Ne.symm h), h]
theorem put_getD {a : Act} {dst : Option Nat} {v : Value} {d : Nat} (h : dst ≠ some d) : (a.put dst v).tmps.getD d undef = a.tmps.getD d undef := by
  cases dst with
  | none => rfl
  | some d' =>
    have : d' ≠ d := fun e => h (by rw [e])
    simp [Act.put, Array.getElem?_setIfInBounds_ne this]
theorem wpAny_box {ia is ic da dc t : Nat} {z0 : Array Value} {oa os oc : Oper}
    (ha : ops[ia]? = some oa) (hs : ops[is]? = some os) (hc : ops[ic]? = some oc) (hda : oa.dst = some da) (hds : os.dst = none) (hdc : oc.dst = some dc) (hga : oa.guard = none) (hgs : os.guard = none)
    (hic : os.after.toList.any (fun e => Region.binds .any e && (e.on == ic)) = true) (hia : os.after.toList.any (fun e => Region.binds .any e && (e.on == ia)) = true) (hne : ic ≠ ia)
    (hE : edgesBack ops.toList = true) (hB : dstsIn ops ds = true) (hS : ds.all (fun d => decide (d < a0.tmps.size)) = true)
    (hA : dstsApart (ops.toList.map (·.dst)) = true)
    (hT : ∀ i v w w', Chg (Tagged w0.heap.size t w) w w' → T i v w → T i v w')
    (hal : ∀ a w, (execOp a oa).run P w = .ok (.value (.pointer (some ⟨w.heap.size, 0, none⟩))) (w.alloc (.cells z0 t)))
    (hst : ∀ g w B, Ext w0 w → g da = .pointer (some ⟨B, 0, none⟩) → T ic (g dc) w → w.heap[B]? = some (.cells z0 t (0, 0)) →
      ∃ w', (execOp (fillAt a0 ds g).eval os).run P w = .ok .skip w' ∧ w'.heap[B]? = some (.cells (g dc).cells t (0, 0)) ∧ Chg (fun k => k = B) w w')
    (hob : ∀ i o, ops[i]? = some o → i ≠ ia → i ≠ is → ∀ g w, Ext w0 w → (∀ e ∈ o.after, Region.binds .any e = true → e.on ≠ ia → lineAt ops T e.on g w) → Stays P ops Ext T i o (fillAt a0 ds g) w)
    (hend : ∀ g w B, Ext w0 w → (∀ i o, ops[i]? = some o → i ≠ ia → lineAt ops T i g w) → g da = .pointer (some ⟨B, 0, none⟩) → w0.heap.size ≤ B → B < w.heap.size → w.heap[B]? = some (.cells (g dc).cells t (0, 0)) → Q .normal (fillAt a0 ds g) w) :
    ∀ (fuel : Nat) (listed : Array Bool) (a : Act) (w : World), listed.size = ops.size → listed.toList.count false ≤ fuel → BoxIn ops T a0 ds w0 ia is ic da dc t z0 listed a w → wpAny P .any ops Q fuel listed a w := by
  have hB' : ∀ {i : Nat} {o : Oper}, ops[i]? = some o → ∀ d, o.dst = some d → d ∈ ds := by
    intro i o hi d hd
    simp only [dstsIn, List.all_eq_true] at hB
    have := hB o (by simpa using List.mem_of_getElem? (l := ops.toList) (i := i) (by simpa using hi))
    simpa [hd] using this
  have hS' : ∀ d ∈ ds, d < a0.tmps.size := fun d hd => by
    simp only [List.all_eq_true] at hS
    exact of_decide_eq_true (hS d hd)
  have hap : ∀ {i j : Nat} {oi oj : Oper} {d : Nat}, ops[i]? = some oi → ops[j]? = some oj → oi.dst = some d → oj.dst = some d → i = j := by
    intro i j oi oj d hi hj h1 h2
    exact dstsApart_at hA (d := d) (by simp [hi, h1]) (by simp [hj, h2])
  have hTx : ∀ i v w w', Ext w w' → T i v w → T i v w' := fun i v w w' h h1 => hT i v w w' (h.chg _) h1
  have has_is : ∀ {i : Nat}, i < ops.size → ∃ o, ops[i]? = some o := fun {i} h => ⟨ops[i], by simp [h]⟩
  have fin : ∀ {listed : Array Bool} {a : Act} {w : World}, listed.size = ops.size → Region.ready .any ops listed = [] → BoxIn ops T a0 ds w0 ia is ic da dc t z0 listed a w → Q .normal a w := by
    intro listed a w hsz hr h
    have hlt : ∀ {i : Nat} {o : Oper}, ops[i]? = some o → listed.getD i false = true := fun {i o} hi => all_listed hE hsz hr i (Array.getElem?_eq_some_iff.1 hi).1
    obtain ⟨B, b1, b2, b3, b4⟩ := h.box (hlt ha)
    rw [if_pos (hlt hs)] at b4
    rw [h.alike.fill]
    refine hend _ w B h.grown (fun i o hi hne => ?_) b1 b2 b3 b4
    unfold lineAt
    cases hd : o.dst with
    | none => simp [hi, hd]
    | some d => simpa [hi, hd] using h.lines i o d hi hd hne (hlt hi)
  intro fuel
  induction fuel with
  | zero =>
    intro listed a w hsz hcn h
    have hr : Region.ready .any ops listed = [] := by
      rcases hq : Region.ready .any ops listed with _ | ⟨j, js⟩
      · rfl
      · exfalso
        have hj : j ∈ Region.ready .any ops listed := by rw [hq]; simp
        obtain ⟨h0, o, ho, _⟩ := mem_ready.1 hj
        have hlt : j < listed.size := by rw [hsz]; exact (Array.getElem?_eq_some_iff.1 ho).1
        have : (false : Bool) ∈ listed.toList := by
          have h1 : listed[j] = false := by simpa [hlt] using h0
          rw [← h1]; simp
        have := List.count_pos_iff.2 this
        omega
    exact ⟨hr, fin hsz hr h⟩
  | succ fuel ih =>
    intro listed a w hsz hcn h
    refine ⟨fun hr => fin hsz hr h, fun j hj => ?_⟩
    obtain ⟨h0, o, ho, hdeps⟩ := mem_ready.1 hj
    have hlt : j < listed.size := by rw [hsz]; exact (Array.getElem?_eq_some_iff.1 ho).1
    have hl0 : listed[j]? = some false := by simpa [hlt] using h0
    have hlj : listed.getD j false = false := by simpa [hlt] using h0
    have hcount : (listed.setIfInBounds j true).toList.count false ≤ fuel := by
      have := count_set (l := listed.toList) (i := j) (by simpa using hl0)
      simp only [Array.toList_setIfInBounds]
      omega
    have hsz' : (listed.setIfInBounds j true).size = ops.size := by simpa using hsz
    -- the lines of the others, kept
    have keep : ∀ v w', (∀ i v, T i v w → T i v w') → ∀ i oi d, ops[i]? = some oi → oi.dst = some d → i ≠ ia → i ≠ j → (listed.setIfInBounds j true).getD i false = true → T i ((a.put o.dst v).tmps.getD d undef) w' := by
      intro v w' hk i oi d hi hd hne hij hli
      rw [getD_set hlt, if_neg hij] at hli
      have hne2 : o.dst ≠ some d := fun he => hij (hap hi ho hd he)
      rw [put_getD hne2]
      exact hk _ _ (h.lines i oi d hi hd hne hli)
    unfold Go.wpOp
    simp only [ho]
    by_cases hja : j = ia
    · -- the box
      subst hja
      obtain rfl : o = oa := Option.some.inj (ho.symm.trans ha)
      have hw : Region.wanted o (yielded ops a.tmps) = true := by simp [Region.wanted, hga]
      have hsn : listed.getD is false = false := by
        cases hh : listed.getD is false with
        | false => rfl
        | true => rw [(h.both hh).1] at hlj; exact absurd hlj (by simp)
      have hijs : is ≠ j := fun e => by subst e; rw [ho] at hs; obtain rfl := Option.some.inj hs; rw [hds] at hda; cases hda
      simp only [hw, if_true, Oper.wp, hal, Oper.upon]
      refine .inl (ih _ _ _ hsz' hcount ⟨h.alike.put (hB' ho) _, h.grown.alloc _, ?_, ?_, ?_⟩)
      · intro i oi d hi hd hne hli
        exact keep _ _ (fun i v hv => hTx _ _ _ _ ((Ext.refl w).alloc _) hv) i oi d hi hd hne hne hli
      · intro hh
        rw [getD_set hlt, if_neg hijs, hsn] at hh
        cases hh
      · intro _
        have hdl : da < a.tmps.size := by rw [h.alike.size]; exact hS' da (hB' ho da hda)
        refine ⟨w.heap.size, ?_, h.grown.size, by simp, ?_⟩
        · rw [hda]; simp [Act.put, hdl]
        · rw [getD_set hlt, if_neg hijs, hsn]
          exact heap_alloc_new w _
    · by_cases hjs : j = is
      · -- what is stored
        subst hjs
        obtain rfl : o = os := Option.some.inj (ho.symm.trans hs)
        have hw : Region.wanted o (yielded ops a.tmps) = true := by simp [Region.wanted, hgs]
        have hdep : ∀ {k : Nat}, o.after.toList.any (fun e => Region.binds .any e && (e.on == k)) = true → listed.getD k false = true := by
          intro k hk
          simp only [List.any_eq_true, Bool.and_eq_true, beq_iff_eq] at hk
          obtain ⟨e, he, hb, rfl⟩ := hk
          exact hdeps e (by simpa using he) hb
        have hla := hdep hia
        have hlc := hdep hic
        obtain ⟨B, b1, b2, b3, b4⟩ := h.box hla
        rw [if_neg (by rw [hlj]; simp)] at b4
        obtain ⟨w', hrun, hnew, hchg⟩ := hst (fun d => a.tmps.getD d undef) w B h.grown b1 (h.lines ic oc dc hc hdc hne hlc) b4
        rw [← h.alike.fill] at hrun
        have hcj : ic ≠ j := fun e => by subst e; rw [ho] at hc; obtain rfl := Option.some.inj hc; rw [hds] at hdc; cases hdc
        simp only [hw, if_true, Oper.wp, hrun, Oper.upon]
        refine .inl (ih _ _ _ hsz' hcount ⟨h.alike.put (hB' ho) _, ?_, ?_, ?_, ?_⟩)
        · exact ((h.grown.chg (fun k => k = B)).trans hchg).ext (fun k hk he => by subst he; omega)
        · intro i oi d hi hd hne' hli
          have hij : i ≠ j := fun e => by subst e; rw [ho] at hi; obtain rfl := Option.some.inj hi; rw [hds] at hd; cases hd
          exact keep _ _ (fun i v hv => hT _ _ _ _ (hchg.mono (fun k _ hk => by subst hk; exact ⟨b2, _, _, b4⟩)) hv) i oi d hi hd hne' hij hli
        · intro _
          rw [getD_set hlt, getD_set hlt, if_neg (Ne.symm hja), if_neg hcj]
          exact ⟨hla, hlc⟩
        · intro _
          refine ⟨B, ?_, b2, Nat.lt_of_lt_of_le b3 hchg.size, ?_⟩
          · rw [put_getD (by rw [hds]; simp)]; exact b1
          · rw [getD_set hlt, if_pos rfl, if_pos rfl, put_getD (by rw [hds]; simp)]
            exact hnew
      · -- another operation
        have key : ∀ v w', Ext w w' → T j v w' → wpAny P .any ops Q fuel (listed.setIfInBounds j true) (a.put o.dst v) w' := by
          intro v w' hg hv
          refine ih _ _ _ hsz' hcount ⟨h.alike.put (hB' ho) v, h.grown.trans hg, ?_, ?_, ?_⟩
          · intro i oi d hi hd hne' hli
            by_cases hij : i = j
            · subst hij
              obtain rfl : oi = o := Option.some.inj (hi.symm.trans ho)
              have hdl : d < a.tmps.size := by rw [h.alike.size]; exact hS' d (hB' hi d hd)
              have : ((a.put oi.dst v).tmps).getD d undef = v := by rw [hd]; simp [Act.put, hdl]
              rw [this]; exact hv
            · exact keep v w' (fun i v hv => hTx _ _ _ _ hg hv) i oi d hi hd hne' hij hli
          · intro hh
            rw [getD_set hlt, if_neg (Ne.symm hjs)] at hh
            obtain ⟨h1, h2⟩ := h.both hh
            rw [getD_set hlt, getD_set hlt, if_neg (Ne.symm hja), h1, h2]
            exact ⟨rfl, by split <;> rfl⟩
          · intro hh
            rw [getD_set hlt, if_neg (Ne.symm hja)] at hh
            obtain ⟨B, b1, b2, b3, b4⟩ := h.box hh
            have hda' : o.dst ≠ some da := fun he => hja (hap ho ha he hda)
            refine ⟨B, by rw [put_getD hda']; exact b1, b2, Nat.lt_of_lt_of_le b3 hg.size, ?_⟩
            rw [(hg.chg (fun _ => False)).block B b3 (fun h => h), b4, getD_set hlt, if_neg (Ne.symm hjs)]
            by_cases hh2 : listed.getD is false = true
            · rw [if_pos hh2, if_pos hh2]
              have hcj : o.dst ≠ some dc := fun he => by
                have := hap ho hc he hdc
                subst this
                rw [(h.both hh2).2] at hlj
                cases hlj
              rw [put_getD hcj]
            · rw [if_neg hh2, if_neg hh2]
        have hst' := hob j o ho hja hjs (fun d => a.tmps.getD d undef) w h.grown (fun e he hb hne' => by
          unfold lineAt
          cases hoe : ops[e.on]? with
          | none => trivial
          | some oe =>
            cases hd : oe.dst with
            | none => simp [hd]
            | some d => simpa [hd] using h.lines e.on oe d hoe hd hne' (hdeps e he hb))
        rw [← h.alike.fill] at hst'
        rcases hst' with ⟨hw, ⟨v, w', he, hg, hv⟩ | ⟨f, args, he, hcl⟩ | ⟨he, hv⟩⟩ | ⟨hw, hv⟩
        · simp only [hw, if_true, Oper.wp, he, Oper.upon]; exact .inl (key v w' hg hv)
        · simp only [hw, if_true, Oper.wp, he, Oper.upon]
          refine .inl (Calls.mono hcl fun e w' ⟨v, h1, h2, h3⟩ => ?_)
          subst h1
          exact key v w' h2 h3
        · simp only [hw, if_true, Oper.wp, he, Oper.upon]; exact .inl (key undef w (Ext.refl w) hv)
        · simp only [hw, Bool.false_eq_true, if_false]; exact key undef w (Ext.refl w) hv
/-- What is said of a value, and stays true where boxes alone turn. -/
structure BLine (lo t : Nat) where
  p : Value → World → Prop
  ext : ∀ v w w', Chg (Tagged lo t w) w w' → p v w → p v w'
def BLine.is {lo t : Nat} (x : Value) : BLine lo t := ⟨fun v _ => v = x, fun _ _ _ _ h => h⟩
def BLine.free {lo t : Nat} : BLine lo t := ⟨fun _ _ => True, fun _ _ _ _ h => h⟩
def linesB {lo t : Nat} (Ls : List (BLine lo t)) (i : Nat) (v : Value) (w : World) : Prop := match Ls[i]? with | some l => l.p v w | none => True
theorem linesB_ext {lo t : Nat} (Ls : List (BLine lo t)) (i : Nat) (v : Value) (w w' : World) (hg : Chg (Tagged lo t w) w w') (h : linesB Ls i v w) : linesB Ls i v w' := by
  unfold linesB at *
  cases hl : Ls[i]? with
  | none => trivial
  | some l => rw [hl] at h; exact l.ext v w w' hg h
/-- The lines of those that an operation stands behind, the box's number left out. -/
def linesOfB (ops : Array Oper) (T : Nat → Value → World → Prop) (ia : Nat) (g : Nat → Value) (w : World) : List Edge → Prop
  | [] => True
  | e :: es => (if Region.binds .any e = true ∧ e.on ≠ ia then lineAt ops T e.on g w else True) ∧ linesOfB ops T ia g w es
theorem linesOfB_of {ia : Nat} {g : Nat → Value} {w : World} : ∀ {l : List Edge}, (∀ e ∈ l, Region.binds .any e = true → e.on ≠ ia → lineAt ops T e.on g w) → linesOfB ops T ia g w l
  | [], _ => trivial
  | e :: es, h => ⟨by split; exact h e (by simp) (by rename_i hh; exact hh.1) (by rename_i hh; exact hh.2); trivial, linesOfB_of fun e' he' => h e' (by simp [he'])⟩
theorem linesOfB_get {ia : Nat} {g : Nat → Value} {w : World} (j : Nat) (hj : j ≠ ia) : ∀ {l : List Edge}, linesOfB ops T ia g w l → l.any (fun e => Region.binds .any e && (e.on == j)) = true → lineAt ops T j g w
  | [], _, h => by simp at h
  | e :: es, hl, h => by
    simp only [List.any_cons, Bool.or_eq_true, Bool.and_eq_true, beq_iff_eq] at h
    obtain ⟨h1, h2⟩ := hl
    rcases h with ⟨hb, rfl⟩ | h
    · rwa [if_pos ⟨hb, hj⟩] at h1
    · exact linesOfB_get j hj h2 (by simpa using h)
def allLinesB (T : Nat → Value → World → Prop) (ia : Nat) (g : Nat → Value) (w : World) : Nat → List Oper → Prop
  | _, [] => True
  | k, o :: os => (match o.dst with | some d => (k ≠ ia → T k (g d) w) | none => True) ∧ allLinesB T ia g w (k + 1) os
theorem allLinesB_of {ia : Nat} {g : Nat → Value} {w : World} : ∀ {l : List Oper} {k : Nat}, (∀ (i : Nat) (o : Oper), l[i]? = some o → match o.dst with | some d => (k + i ≠ ia → T (k + i) (g d) w) | none => True) → allLinesB T ia g w k l
  | [], _, _ => trivial
  | o :: os, k, h => ⟨by simpa using h 0 o rfl, allLinesB_of fun i o' hi => by
      have := h (i + 1) o' (by simpa using hi)
      rwa [Nat.add_right_comm, Nat.add_assoc]⟩
theorem allLinesB_get {ia : Nat} {g : Nat → Value} {w : World} (d : Nat) : ∀ (j k : Nat) {l : List Oper}, allLinesB T ia g w k l → (l[j]?).bind (·.dst) = some d → k + j ≠ ia → T (k + j) (g d) w
  | _, _, [], _, h, _ => by simp at h
  | 0, k, o :: os, hl, h, hn => by
    obtain ⟨h1, h2⟩ := hl
    have h : o.dst = some d := by simpa using h
    rw [h] at h1
    exact h1 hn
  | j + 1, k, o :: os, hl, h, hn => by
    have := allLinesB_get d j (k + 1) (l := os) hl.2 (by simpa using h) (by omega)
    rwa [Nat.add_right_comm, Nat.add_assoc] at this
theorem wp_region_box {id : Nat} {a : Act} {w : World} (t ia is ic da dc : Nat) (z0 : Array Value) (Ls : List (BLine w.heap.size t)) (ds : List Nat) {oa os oc : Oper} (hm : P.follows .mixedOrders = true)
    (ha : ops[ia]? = some oa) (hs : ops[is]? = some os) (hc : ops[ic]? = some oc) (hda : oa.dst = some da) (hds : os.dst = none) (hdc : oc.dst = some dc) (hga : oa.guard = none) (hgs : os.guard = none)
    (hic : os.after.toList.any (fun e => Region.binds .any e && (e.on == ic)) = true) (hia : os.after.toList.any (fun e => Region.binds .any e && (e.on == ia)) = true) (hne : ic ≠ ia)
    (hE : edgesBack ops.toList = true) (hB : dstsIn ops ds = true) (hS : ds.all (fun d => decide (d < a.tmps.size)) = true)
    (hA : dstsApart (ops.toList.map (·.dst)) = true)
    (hal : ∀ a w, (execOp a oa).run P w = .ok (.value (.pointer (some ⟨w.heap.size, 0, none⟩))) (w.alloc (.cells z0 t)))
    (hst : ∀ g w' B, Ext w.drew w' → g da = .pointer (some ⟨B, 0, none⟩) → linesB Ls ic (g dc) w' → w'.heap[B]? = some (.cells z0 t (0, 0)) →
      ∃ w2, (execOp (fillAt a ds g).eval os).run P w' = .ok .skip w2 ∧ w2.heap[B]? = some (.cells (g dc).cells t (0, 0)) ∧ Chg (fun k => k = B) w' w2)
    (hob : Each (fun i o => i ≠ ia → i ≠ is → ∀ g w', Ext w.drew w' → linesOfB ops (linesB Ls) ia g w' o.after.toList → Stays P ops Ext (linesB Ls) i o (fillAt a ds g) w') 0 ops.toList)
    (hend : ∀ g w' B, Ext w.drew w' → allLinesB (linesB Ls) ia g w' 0 ops.toList → g da = .pointer (some ⟨B, 0, none⟩) → w.heap.size ≤ B → B < w'.heap.size → w'.heap[B]? = some (.cells (g dc).cells t (0, 0)) → Q .normal (fillAt a ds g) w') :
    (Code.region id ops true).wp P Q a w := by
  refine wp_region_any hm (wpAny_box (w0 := w.drew) (ds := ds) (a0 := a) (T := linesB Ls) ha hs hc hda hds hdc hga hgs hic hia hne hE hB hS hA (linesB_ext Ls) hal hst ?_ ?_ _ _ _ _ (by simp) ?_ ⟨⟨rfl, rfl, fun _ _ => rfl⟩, Ext.refl _, ?_, ?_, ?_⟩)
  · intro i o hi h1 h2 g w' hw hl
    have h := hob.at (i := i) (by simpa using hi)
    simp only [Nat.zero_add] at h
    exact h h1 h2 g w' hw (linesOfB_of fun e he => hl e (by simpa using he))
  · intro g w' B hw hl b1 b2 b3 b4
    refine hend g w' B hw (allLinesB_of fun i o hi => ?_) b1 b2 b3 b4
    rw [Array.getElem?_toList] at hi
    cases hd : o.dst with
    | none => trivial
    | some d =>
      simp only [Nat.zero_add]
      intro hn
      have := hl i o hi hn
      simpa [lineAt, hi, hd] using this
  · simp
  all_goals
    intros
    rename_i h
    rw [Array.getD_eq_getD_getElem?, Array.getElem?_replicate] at h
    split at h <;> simp at h
end
end
end Go.Proofs.Ytjhgcbchdnoleaa

/-
  A region that draws its order and in which one operation stores what others have loaded: operation by operation. What holds ahead of the store and what holds behind it are told apart; what must come ahead of the store meets the world as it was. Conditions: no two operations write one temporary.
-/
import Derived.Test.YteebkiochnhnhaaTail
namespace Go.Proofs.Yteebkiochnhnhaa
open Go.ChangeShapes Go.WideShapes Go.ChangeAt Go.RowKit
section
variable {P : Program} {ops : Array Oper} {Q : Exit → Act → World → Prop} {R : World → World → Prop} {I : Bool → World → Prop} {T : Nat → Value → World → Prop} {ds : List Nat} {a0 : Act} {w0 : World}
def StepsB (P : Program) (ops : Array Oper) (R : World → World → Prop) (I : Bool → World → Prop) (b : Bool) (T : Nat → Value → World → Prop) (i : Nat) (o : Oper) (a : Act) (w : World) : Prop :=
  (Region.wanted o (yielded ops a.tmps) = true ∧ ((∃ v w', (execOp a.eval o).run P w = .ok (.value v) w' ∧ R w w' ∧ I b w' ∧ T i v w') ∨
    (∃ f args, (execOp a.eval o).run P w = .ok (.enter f args) w ∧ Calls P f args w fun e w' => ∃ v, e = .returned v ∧ R w w' ∧ I b w' ∧ T i v w') ∨
    (∃ w', (execOp a.eval o).run P w = .ok .skip w' ∧ R w w' ∧ I b w' ∧ T i undef w'))) ∨
  (Region.wanted o (yielded ops a.tmps) = false ∧ R w w ∧ I b w ∧ T i undef w)
theorem StepsB.plain {b : Bool} {i : Nat} {o : Oper} {a : Act} {w : World} (v : Value) (hw : Region.wanted o (yielded ops a.tmps) = true) (he : (execOp a.eval o).run P w = .ok (.value v) w) (hR : R w w) (hI : I b w) (hv : T i v w) : StepsB P ops R I b T i o a w :=
  Or.inl ⟨hw, Or.inl ⟨v, w, he, hR, hI, hv⟩⟩
theorem StepsB.made {b : Bool} {i : Nat} {o : Oper} {a : Act} {w : World} (v : Value) (w' : World) (hw : Region.wanted o (yielded ops a.tmps) = true) (he : (execOp a.eval o).run P w = .ok (.value v) w') (hR : R w w') (hI : I b w') (hv : T i v w') : StepsB P ops R I b T i o a w :=
  Or.inl ⟨hw, Or.inl ⟨v, w', he, hR, hI, hv⟩⟩
theorem StepsB.call {b : Bool} {i : Nat} {o : Oper} {a : Act} {w : World} (f : FuncId) (args : Array Value) (hw : Region.wanted o (yielded ops a.tmps) = true) (he : (execOp a.eval o).run P w = .ok (.enter f args) w)
    (hc : Calls P f args w fun e w' => ∃ v, e = .returned v ∧ R w w' ∧ I b w' ∧ T i v w') : StepsB P ops R I b T i o a w :=
  Or.inl ⟨hw, Or.inr (Or.inl ⟨f, args, he, hc⟩)⟩
theorem StepsB.store {b : Bool} {i : Nat} {o : Oper} {a : Act} {w : World} (w' : World) (hw : Region.wanted o (yielded ops a.tmps) = true) (he : (execOp a.eval o).run P w = .ok .skip w') (hR : R w w') (hI : I b w') (hv : T i undef w') : StepsB P ops R I b T i o a w :=
  Or.inl ⟨hw, Or.inr (Or.inr ⟨w', he, hR, hI, hv⟩)⟩
theorem StepsB.off {b : Bool} {i : Nat} {o : Oper} {a : Act} {w : World} (hw : Region.wanted o (yielded ops a.tmps) = false) (hR : R w w) (hI : I b w) (hv : T i undef w) : StepsB P ops R I b T i o a w :=
  Or.inr ⟨hw, hR, hI, hv⟩
theorem wpAny_store (s : Nat) (os : Oper) (hos : ops[s]? = some os) (hE : edgesBack ops.toList = true) (hB : dstsIn ops ds = true) (hS : ds.all (fun d => decide (d < a0.tmps.size)) = true)
    (hA : dstsApart (ops.toList.map (·.dst)) = true)
    (hT : ∀ i v w w', R w w' → T i v w → T i v w') (hR : ∀ u v w, R u v → R v w → R u w)
    (hob : ∀ i o, ops[i]? = some o → ∀ b g w, (behind ops ops.size s i = true ∨ i = s → b = false) → R w0 w → I b w → (∀ e ∈ o.after, Region.binds .any e = true → lineAt ops T e.on g w) → StepsB P ops R I (if i = s then true else b) T i o (fillAt a0 ds g) w)
    (hend : ∀ g w, R w0 w → I true w → (∀ i o, ops[i]? = some o → lineAt ops T i g w) → Q .normal (fillAt a0 ds g) w) :
    ∀ (fuel : Nat) (listed : Array Bool) (a : Act) (w : World), listed.size = ops.size → listed.toList.count false ≤ fuel → Shut ops listed → Along ops R T a0 ds w0 listed a w → I (listed.getD s false) w → wpAny P .any ops Q fuel listed a w := by
  have hB' : ∀ {i : Nat} {o : Oper}, ops[i]? = some o → ∀ d, o.dst = some d → d ∈ ds := by
    intro i o hi d hd
    simp only [dstsIn, List.all_eq_true] at hB
    have := hB o (by simpa using List.mem_of_getElem? (l := ops.toList) (i := i) (by simpa using hi))
    simpa [hd] using this
  have hS' : ∀ d ∈ ds, d < a0.tmps.size := fun d hd => by
    simp only [List.all_eq_true] at hS
    exact of_decide_eq_true (hS d hd)
  have hsl : s < ops.size := (Array.getElem?_eq_some_iff.1 hos).1
  have fin : ∀ {listed : Array Bool} {a : Act} {w : World}, listed.size = ops.size → Region.ready .any ops listed = [] → Along ops R T a0 ds w0 listed a w → I (listed.getD s false) w → Q .normal a w := by
    intro listed a w hs hr h hI
    rw [all_listed hE hs hr s hsl] at hI
    rw [h.alike.fill]
    refine hend _ w h.grown hI fun i o hi => ?_
    unfold lineAt
    cases hd : o.dst with
    | none => simp [hi, hd]
    | some d =>
      have hlt : i < ops.size := (Array.getElem?_eq_some_iff.1 hi).1
      simpa [hi, hd] using h.lines i o d hi hd (all_listed hE hs hr i hlt)
  intro fuel
  induction fuel with
  | zero =>
    intro listed a w hs hc hsh h hI
    have hr := ready_nil_of_zero hs hc
    exact ⟨hr, fin hs hr h hI⟩
  | succ fuel ih =>
    intro listed a w hs hc hsh h hI
    refine ⟨fun hr => fin hs hr h hI, fun j hj => ?_⟩
    obtain ⟨h0, o, ho, hdeps⟩ := mem_ready.1 hj
    have hlt : j < listed.size := by rw [hs]; exact (Array.getElem?_eq_some_iff.1 ho).1
    have hl0 : listed[j]? = some false := by simpa [hlt] using h0
    have hjf : listed.getD j false = false := by
      rw [Array.getD_eq_getD_getElem?, hl0]; rfl
    have hbef : behind ops ops.size s j = true ∨ j = s → listed.getD s false = false := by
      rintro (hb | rfl)
      · cases hls : listed.getD s false with
        | false => rfl
        | true =>
          have := behind_listed hsh ops.size s j os hos (fun e he hbd => hsh s os hos hls e he hbd) hb
          rw [hjf] at this; cases this
      · exact hjf
    have hsh' : Shut ops (listed.setIfInBounds j true) := shut_set hsh hlt ho hdeps
    have hI' : ∀ {w' : World}, I (if j = s then true else listed.getD s false) w' → I ((listed.setIfInBounds j true).getD s false) w' := by
      intro w' hh
      rw [getD_setB hlt]
      by_cases e : j = s
      · rw [if_pos e.symm]; rw [if_pos e] at hh; exact hh
      · rw [if_neg (Ne.symm e)]; rw [if_neg e] at hh; exact hh
    have key : ∀ v w', R w w' → I (if j = s then true else listed.getD s false) w' → T j v w' → wpAny P .any ops Q fuel (listed.setIfInBounds j true) (a.put o.dst v) w' := by
      intro v w' hg hi' hv
      refine ih _ _ _ (by simpa using hs) (count_setB hl0 hc) hsh' ⟨h.alike.put (hB' ho) v, hR _ _ _ h.grown hg, ?_⟩ (hI' hi')
      intro i oi d hi hd hli
      by_cases hij : i = j
      · subst hij
        obtain rfl : oi = o := Option.some.inj (hi.symm.trans ho)
        have hds : d < a.tmps.size := by rw [h.alike.size]; exact hS' d (hB' hi d hd)
        rw [hd]
        have : ((a.put (some d) v).tmps).getD d undef = v := by simp [Act.put, hds]
        rw [this]; exact hv
      · have hli' : listed.getD i false = true := by
          rw [getD_setB hlt, if_neg hij] at hli
          exact hli
        have hne : o.dst ≠ some d := fun he => hij (dstsApart_at hA (d := d) (by simp [hi, hd]) (by simp [ho, he]))
        have : (a.put o.dst v).tmps.getD d undef = a.tmps.getD d undef := by
          cases hod : o.dst with
          | none => rfl
          | some d' =>
            have : d' ≠ d := fun e => hne (by rw [hod, e])
            simp [Act.put, Array.getElem?_setIfInBounds_ne this]
        rw [this]
        exact hT _ _ _ _ hg (h.lines i oi d hi hd hli')
    have hst := hob j o ho (listed.getD s false) (fun d => a.tmps.getD d undef) w hbef h.grown hI (fun e he hb => by
      unfold lineAt
      cases hoe : ops[e.on]? with
      | none => trivial
      | some oe =>
        cases hd : oe.dst with
        | none => simp [hd]
        | some d => simpa [hd] using h.lines e.on oe d hoe hd (hdeps e he hb))
    rw [← h.alike.fill] at hst
    unfold Go.wpOp
    simp only [ho]
    rcases hst with ⟨hw, ⟨v, w', he, hg, hi', hv⟩ | ⟨f, args, he, hcl⟩ | ⟨w', he, hg, hi', hv⟩⟩ | ⟨hw, hg, hi', hv⟩
    · simp only [hw, if_true, Oper.wp, he, Oper.upon]; exact .inl (key v w' hg hi' hv)
    · simp only [hw, if_true, Oper.wp, he, Oper.upon]
      refine .inl (Calls.mono hcl fun e w' ⟨v, h1, h2, h3, h4⟩ => ?_)
      subst h1
      exact key v w' h2 h3 h4
    · simp only [hw, if_true, Oper.wp, he, Oper.upon]; exact .inl (key undef w' hg hi' hv)
    · simp only [hw, Bool.false_eq_true, if_false]; exact key undef w hg hi' hv
/-- What is said of a value, and stays true under R. -/
structure LineR (R : World → World → Prop) where
  p : Value → World → Prop
  st : ∀ v w w', R w w' → p v w → p v w'
def LineR.is {R : World → World → Prop} (x : Value) : LineR R := ⟨fun v _ => v = x, fun _ _ _ _ h => h⟩
def LineR.free {R : World → World → Prop} : LineR R := ⟨fun _ _ => True, fun _ _ _ _ h => h⟩
def LineR.of {R : World → World → Prop} (q : Value → Prop) : LineR R := ⟨fun v _ => q v, fun _ _ _ _ h => h⟩
def linesR {R : World → World → Prop} (Ls : List (LineR R)) (i : Nat) (v : Value) (w : World) : Prop := match Ls[i]? with | some l => l.p v w | none => True
theorem linesR_st {R : World → World → Prop} (Ls : List (LineR R)) (i : Nat) (v : Value) (w w' : World) (hg : R w w') (h : linesR Ls i v w) : linesR Ls i v w' := by
  unfold linesR at *
  cases hl : Ls[i]? with
  | none => trivial
  | some l => rw [hl] at h; exact l.st v w w' hg h
theorem wp_region_store {id : Nat} {a : Act} {w : World} (s : Nat) (R : World → World → Prop) (I : Bool → World → Prop) (Ls : List (LineR R)) (ds : List Nat) (hm : P.follows .mixedOrders = true) (hs : decide (s < ops.size) = true)
    (hE : edgesBack ops.toList = true) (hB : dstsIn ops ds = true) (hS : ds.all (fun d => decide (d < a.tmps.size)) = true)
    (hA : dstsApart (ops.toList.map (·.dst)) = true) (hR : ∀ u v w, R u v → R v w → R u w) (hR0 : R w.drew w.drew) (hI0 : I false w.drew)
    (hob : Each (fun i o => (i ≠ s → ∀ b g w', (behind ops ops.size s i = true → b = false) → R w.drew w' → I b w' → linesOf ops (linesR Ls) g w' o.after.toList → StepsB P ops R I b (linesR Ls) i o (fillAt a ds g) w') ∧
      (i = s → ∀ g w', R w.drew w' → I false w' → linesOf ops (linesR Ls) g w' o.after.toList → StepsB P ops R I true (linesR Ls) i o (fillAt a ds g) w')) 0 ops.toList)
    (hend : ∀ g w', R w.drew w' → I true w' → allLines (linesR Ls) g w' 0 ops.toList → Q .normal (fillAt a ds g) w') : (Code.region id ops true).wp P Q a w := by
  have hsl := of_decide_eq_true hs
  refine wp_region_any hm (wpAny_store (w0 := w.drew) (ds := ds) (a0 := a) (R := R) (I := I) (T := linesR Ls) s ops[s] (Array.getElem?_eq_getElem hsl) hE hB hS hA (linesR_st Ls) hR ?_ ?_ _ _ _ _ (by simp) (by simp) ?_ ⟨⟨rfl, rfl, fun _ _ => rfl⟩, hR0, ?_⟩ ?_)
  · intro i o hi b g w' hb hw hI hl
    have h := hob.at (i := i) (by rw [Array.getElem?_toList]; exact hi)
    rw [Nat.zero_add] at h
    by_cases e : i = s
    · rw [if_pos e]
      obtain rfl := hb (Or.inr e)
      exact h.2 e g w' hw hI (linesOf_of fun e he => hl e (by simpa using he))
    · rw [if_neg e]
      exact h.1 e b g w' (fun hh => hb (Or.inl hh)) hw hI (linesOf_of fun e he => hl e (by simpa using he))
  · intro g w' hw hI hl
    refine hend g w' hw hI (allLines_of fun i o hi => ?_)
    rw [Array.getElem?_toList] at hi
    have := hl i o hi
    unfold lineAt at this
    rw [hi] at this
    simp only [Option.bind_some] at this
    rw [Nat.zero_add]
    exact this
  · intro i o _ h
    rw [Array.getD_eq_getD_getElem?, Array.getElem?_replicate] at h
    split at h <;> simp at h
  · intro i o d _ _ h
    rw [Array.getD_eq_getD_getElem?, Array.getElem?_replicate] at h
    split at h <;> simp at h
  · have e : (Array.replicate ops.size false).getD s false = false := by
      rw [Array.getD_eq_getD_getElem?, Array.getElem?_replicate]
      split <;> rfl
    rw [e]
    exact hI0
end
end Go.Proofs.Yteebkiochnhnhaa

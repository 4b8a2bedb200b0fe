/-
  A region that draws its order, in which every operation gives one and the same value in every world that meets a condition S, and leaves a world that meets S: it may be walked once, in the order of the text. Conditions: S is kept by each operation.
-/
import Derived.Orders
import Derived.OrdersHeld
import Derived.Deep.RegionHeld
import Derived.Test.YtjnbiacnhimkgaaBase
namespace Go.Proofs.Ytjnbiacnhimkgaa
section
variable {P : Program} {ops : Array Oper} {Q : Exit → Act → World → Prop} {md : Region.Mode} {S : World → Prop}

/-- In state a, in every world that meets S, operation o leaves v in its temporary and a world that meets S. -/
def Steady (P : Program) (ops : Array Oper) (S : World → Prop) (o : Oper) (v : Value) (a : Act) : Prop :=
  (Region.wanted o (yielded ops a.tmps) = true ∧ ((∀ w, S w → (execOp a.eval o).run P w = .ok (.value v) w) ∨
    ∃ (f : FuncId) (args : Array Value), (∀ w, S w → (execOp a.eval o).run P w = .ok (.enter f args) w) ∧ ∀ w, S w → Calls P f args w fun e w' => e = .returned v ∧ S w')) ∨
  (Region.wanted o (yielded ops a.tmps) = false ∧ v = undef)

theorem Steady.of_same {o : Oper} {v : Value} {a a' : Act} (hy : Steady P ops S o v a) (he : execOp a'.eval o = execOp a.eval o)
    (hw : Region.wanted o (yielded ops a'.tmps) = Region.wanted o (yielded ops a.tmps)) : Steady P ops S o v a' := by
  unfold Steady at *
  rw [he, hw]
  exact hy

/-- Every operation that may come up is steady, whatever order is picked. -/
def wpAnyS (P : Program) (md : Region.Mode) (ops : Array Oper) (Q : Exit → Act → World → Prop) (S : World → Prop) : Nat → Array Bool → Act → Prop
  | 0, listed, a => Region.ready md ops listed = [] ∧ ∀ w, S w → Q .normal a w
  | fuel + 1, listed, a =>
    (Region.ready md ops listed = [] → ∀ w, S w → Q .normal a w) ∧
    ∀ i ∈ Region.ready md ops listed, ∃ (oi : Oper) (v : Value), ops[i]? = some oi ∧ Steady P ops S oi v a ∧ wpAnyS P md ops Q S fuel (listed.setIfInBounds i true) (a.put oi.dst v)

theorem Steady.wpOp {i : Nat} {o : Oper} {v : Value} {a : Act} (hi : ops[i]? = some o) (hy : Steady P ops S o v a)
    {K : Act → World → Prop} {w : World} (hS : S w) (h : ∀ w', S w' → K (a.put o.dst v) w') : wpOp P ops Q i K a w := by
  unfold Go.wpOp
  simp only [hi]
  rcases hy with ⟨hw, hv | ⟨f, args, he, hc⟩⟩ | ⟨hw, rfl⟩
  · simp only [hw, if_true, Oper.wp, hv w hS, Oper.upon]; exact .inl (h w hS)
  · simp only [hw, if_true, Oper.wp, he w hS, Oper.upon]
    refine .inl (Calls.mono (hc w hS) fun e w' ⟨h1, h2⟩ => ?_)
    subst h1
    exact h w' h2
  · simp only [hw, Bool.false_eq_true, if_false]; exact h w hS

theorem wpAny_of_steady : ∀ (fuel : Nat) (listed : Array Bool) (a : Act), wpAnyS P md ops Q S fuel listed a → ∀ w, S w → wpAny P md ops Q fuel listed a w
  | 0, _, _, h, w, hS => ⟨h.1, h.2 w hS⟩
  | fuel + 1, _, _, h, w, hS => ⟨fun hr => h.1 hr w hS, fun i hi => by
      obtain ⟨oi, v, h1, h2, h3⟩ := h.2 i hi
      exact h2.wpOp h1 hS fun w' hS' => wpAny_of_steady fuel _ _ h3 w' hS'⟩

/-- A steady operation that may come up now may be taken first. -/
theorem wpAnyS_first {i : Nat} {oi : Oper} {v : Value} (hi : ops[i]? = some oi) (hsel : ∀ (j : Nat) (o : Oper) cs b, ops[j]? = some o → o.op ≠ .select cs b) :
    ∀ (fuel : Nat) (listed : Array Bool) (a : Act),
      (∀ j oj, ops[j]? = some oj → j ≠ i → listed.getD j true = false → (∀ e ∈ oj.after, Region.binds md e = true → e.on ≠ i) → oi.apart ops oj = true) →
      i ∈ Region.ready md ops listed → Steady P ops S oi v a →
      wpAnyS P md ops Q S fuel (listed.setIfInBounds i true) (a.put oi.dst v) → wpAnyS P md ops Q S (fuel + 1) listed a := by
  intro fuel
  induction fuel with
  | zero =>
    intro listed a _ hr hy H
    refine ⟨fun h => (by rw [h] at hr; cases hr), fun j hj => ?_⟩
    by_cases hji : j = i
    · subst hji; exact ⟨oi, v, hi, hy, H⟩
    · have := ready_mono hj hji
      rw [H.1] at this
      cases this
  | succ fuel ih =>
    intro listed a hfree hr hy H
    refine ⟨fun h => (by rw [h] at hr; cases hr), fun j hj => ?_⟩
    by_cases hji : j = i
    · subst hji; exact ⟨oi, v, hi, hy, H⟩
    · obtain ⟨oj', u, hoj', hsj, h1⟩ := H.2 j (ready_mono hj hji)
      obtain ⟨hjun, oj, hoj, hall⟩ := mem_ready.1 hj
      obtain rfl : oj = oj' := Option.some.inj (hoj.symm.trans hoj')
      have hnot : ∀ e ∈ oj.after, Region.binds md e = true → e.on ≠ i := fun e he hb heq => by
        have h1 := hall e he hb
        have h0 := (mem_ready.1 hr).1
        rw [heq] at h1
        rcases Nat.lt_or_ge i listed.size with h' | h'
        · simp [h'] at h0 h1; rw [h0] at h1; cases h1
        · simp [Array.getElem?_eq_none h'] at h1
      obtain ⟨a1, a2, a3⟩ := Oper.apart_spec (hfree j oj hoj hji hjun hnot)
      have hsj' : Steady P ops S oj u a := hsj.of_same (execOp_put oj (fun cs b => hsel j oj cs b hoj) a oi.dst v a1).symm (wanted_put oj a oi.dst v a1).symm
      have hyi : Steady P ops S oi v (a.put oj.dst u) := hy.of_same (execOp_put oi (fun cs b => hsel i oi cs b hi) a oj.dst u a3) (wanted_put oi a oj.dst u a3)
      have hfree' : ∀ k ok, ops[k]? = some ok → k ≠ i → (listed.setIfInBounds j true).getD k true = false →
          (∀ e ∈ ok.after, Region.binds md e = true → e.on ≠ i) → oi.apart ops ok = true := fun k ok hk hki hun hno => by
        refine hfree k ok hk hki ?_ hno
        by_cases hjk : j = k
        · subst hjk; exact hjun
        · rw [getD_set_ne true hjk] at hun; exact hun
      refine ⟨oj, u, hoj, hsj', ih (listed.setIfInBounds j true) (a.put oj.dst u) hfree' (ready_mono hr (Ne.symm hji)) hyi ?_⟩
      rw [Array.setIfInBounds_comm _ _ hji, ← Act.put_comm a v u a2]
      exact h1

/-- Take number i next. -/
theorem wpAnyS_take {i : Nat} {oi : Oper} {v : Value} {fuel : Nat} {listed : Array Bool} {a : Act} (hi : ops[i]? = some oi)
    (hs : Region.noSelect ops = true) (hf : Region.free md ops listed i = true) (hr : (Region.ready md ops listed).contains i = true)
    (hy : Steady P ops S oi v a) (h : wpAnyS P md ops Q S fuel (listed.setIfInBounds i true) (a.put oi.dst v)) : wpAnyS P md ops Q S (fuel + 1) listed a :=
  wpAnyS_first hi (Region.noSelect_spec hs) fuel listed a (Region.free_spec hi hf) (by simpa using hr) hy h

theorem wpAnyS_done {listed : Array Bool} {a : Act} (hr : Region.ready md ops listed = []) (h : ∀ w, S w → Q .normal a w) : ∀ fuel, wpAnyS P md ops Q S fuel listed a
  | 0 => ⟨hr, h⟩
  | _ + 1 => ⟨fun _ => h, by rw [hr]; simp⟩

/-- The beginning. -/
theorem wp_region_steady {id : Nat} {a : Act} {w : World} (hm : P.follows .mixedOrders = true) (hS : S w.drew)
    (h : wpAnyS P .any ops Q S ops.size (Array.replicate ops.size false) a) : (Code.region id ops true).wp P Q a w :=
  wp_region_any hm (wpAny_of_steady _ _ _ h w.drew hS)

theorem Steady.plain {o : Oper} {v : Value} {a : Act} (hw : Region.wanted o (yielded ops a.tmps) = true) (h : ∀ w, S w → (execOp a.eval o).run P w = .ok (.value v) w) : Steady P ops S o v a := Or.inl ⟨hw, Or.inl h⟩
theorem Steady.off {o : Oper} {a : Act} (hw : Region.wanted o (yielded ops a.tmps) = false) : Steady P ops S o undef a := Or.inr ⟨hw, rfl⟩
theorem Steady.call {o : Oper} {v : Value} {a : Act} (f : FuncId) (args : Array Value) (hw : Region.wanted o (yielded ops a.tmps) = true) (he : ∀ w, S w → (execOp a.eval o).run P w = .ok (.enter f args) w)
    (hc : ∀ w, S w → Calls P f args w fun e w' => e = .returned v ∧ S w') : Steady P ops S o v a := Or.inl ⟨hw, Or.inr ⟨f, args, he, hc⟩⟩
/-- The first k operations are done. -/
def listedTo (n : Nat) : Nat → Array Bool
  | 0 => Array.replicate n false
  | k + 1 => (listedTo n k).setIfInBounds k true
/-- The operations may be taken in the order of the text. -/
def seqOk (md : Region.Mode) (ops : Array Oper) : Bool :=
  Region.noSelect ops && (List.range ops.size).all fun k => Region.free md ops (listedTo ops.size k) k && (Region.ready md ops (listedTo ops.size k)).contains k
theorem seqOk_at (h : seqOk md ops = true) : Region.noSelect ops = true ∧ ∀ k, k < ops.size → Region.free md ops (listedTo ops.size k) k = true ∧ (Region.ready md ops (listedTo ops.size k)).contains k = true := by
  simp only [seqOk, Bool.and_eq_true, List.all_eq_true, List.mem_range] at h
  exact h
def wpSeqS (P : Program) (ops : Array Oper) (Q : Exit → Act → World → Prop) (S : World → Prop) (k : Nat) (a : Act) : Prop :=
  seqOk .any ops = true → wpAnyS P .any ops Q S (ops.size - k) (listedTo ops.size k) a
theorem wpSeqS_take {k : Nat} {oi : Oper} {v : Value} {a : Act} (hi : ops[k]? = some oi) (hy : Steady P ops S oi v a) (h : wpSeqS P ops Q S (k + 1) (a.put oi.dst v)) : wpSeqS P ops Q S k a := fun hok => by
  obtain ⟨hs, hk⟩ := seqOk_at hok
  have hlt : k < ops.size := (Array.getElem?_eq_some_iff.1 hi).1
  obtain ⟨hf, hr⟩ := hk k hlt
  have e : ops.size - k = (ops.size - (k + 1)) + 1 := by omega
  rw [e]
  exact wpAnyS_take hi hs hf hr hy (h hok)
theorem wpSeqS_plain {k : Nat} {oi : Oper} {v : Value} {a : Act} (hi : ops[k]? = some oi) (hw : Region.wanted oi (yielded ops a.tmps) = true) (hv : ∀ w, S w → (execOp a.eval oi).run P w = .ok (.value v) w) (h : wpSeqS P ops Q S (k + 1) (a.put oi.dst v)) : wpSeqS P ops Q S k a :=
  wpSeqS_take hi (Steady.plain hw hv) h
theorem wpSeqS_off {k : Nat} {oi : Oper} {a : Act} (hi : ops[k]? = some oi) (hw : Region.wanted oi (yielded ops a.tmps) = false) (h : wpSeqS P ops Q S (k + 1) (a.put oi.dst undef)) : wpSeqS P ops Q S k a :=
  wpSeqS_take hi (Steady.off hw) h
theorem wpSeqS_call {k : Nat} {oi : Oper} {v : Value} {a : Act} (f : FuncId) (args : Array Value) (hi : ops[k]? = some oi) (hw : Region.wanted oi (yielded ops a.tmps) = true) (he : ∀ w, S w → (execOp a.eval oi).run P w = .ok (.enter f args) w)
    (hc : ∀ w, S w → Calls P f args w fun e w' => e = .returned v ∧ S w') (h : wpSeqS P ops Q S (k + 1) (a.put oi.dst v)) : wpSeqS P ops Q S k a :=
  wpSeqS_take hi (Steady.call f args hw he hc) h
theorem wpSeqS_done {k : Nat} {a : Act} (hr : Region.ready .any ops (listedTo ops.size k) = []) (h : ∀ w, S w → Q .normal a w) : wpSeqS P ops Q S k a :=
  fun _ => wpAnyS_done hr h _
/-- The beginning, in the order of the text. -/
theorem wp_region_seq {id : Nat} {a : Act} {w : World} (S : World → Prop) (hm : P.follows .mixedOrders = true) (hok : seqOk .any ops = true) (hS : S w.drew) (h : wpSeqS P ops Q S 0 a) : (Code.region id ops true).wp P Q a w :=
  wp_region_steady hm hS (h hok)
end
end Go.Proofs.Ytjnbiacnhimkgaa

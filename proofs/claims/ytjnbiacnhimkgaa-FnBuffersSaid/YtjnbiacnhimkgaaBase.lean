/-
  Small general lemmas: a world that has only grown (Ext), a law's frame (law_post), structs of integers opened. Conditions: none of its own; each lemma bears its own.
-/
import Derived.WalkKit
import Derived.ProofKit
import Derived.OpenShut
import Derived.WalkLawsBesides
namespace Go.Proofs.Ytjnbiacnhimkgaa
open Go.ChangeShapes Go.WideShapes Go.ChangeAt Go.RowKit

/-- A fact kept from the walk. -/
theorem hide {p : Prop} (h : p) : Hid p := h

/-- What was there before is as it was. -/
def Ext (w w' : World) : Prop := Below w.heap.size w w'

theorem Ext.refl (w : World) : Ext w w := Below.refl _ _
theorem Ext.trans {a b c : World} (h : Ext a b) (k : Ext b c) : Ext a c :=
  Below.trans (show Below a.heap.size a b from h) (Below.mono (show Below b.heap.size b c from k) (show Below a.heap.size a b from h).size)
theorem Ext.alloc {a b : World} (h : Ext a b) (o : Obj) : Ext a (b.alloc o) :=
  Below.alloc (show Below a.heap.size a b from h) (show Below a.heap.size a b from h).size o
theorem Ext.drew {a b : World} (h : Ext a b) : Ext a b.drew := Below.drew (show Below a.heap.size a b from h)
theorem Ext.drewN {a b : World} (h : Ext a b) (n : Nat) : Ext a (b.drewN n) := by
  have k : Below a.heap.size a b := h
  exact ⟨k.os, k.tape, k.output, k.size, k.block⟩
theorem Ext.setCell {a b : World} (h : Ext a b) {p : Addr} (hp : a.heap.size ≤ p.block) (u : Value) : Ext a (b.setCell p u) :=
  Below.setCell (show Below a.heap.size a b from h) hp u
theorem Ext.set {a b : World} {p : Addr} (hp : a.heap.size ≤ p.block) (h : Ext a b) (u : Value) : Ext a (b.setCell p u) := h.setCell hp u
theorem Ext.size {a b : World} (h : Ext a b) : a.heap.size ≤ b.heap.size := (show Below a.heap.size a b from h).size
theorem Ext.cells {W w1 : World} (h : Ext W w1) : (∀ b o, b < W.heap.size → w1.cell? ⟨b, o, none⟩ = W.cell? ⟨b, o, none⟩) ∧ (∀ b o, b < W.heap.size → w1.frozen? ⟨b, o, none⟩ = W.frozen? ⟨b, o, none⟩) :=
  ⟨fun b o hb => Below.cell (p := ⟨b, o, none⟩) h hb, fun b o hb => Below.frozen (p := ⟨b, o, none⟩) h hb⟩

/-- A block that was there: its cells and its marks, whatever the place. -/
theorem Ext.row {W w1 : World} (h : Ext W w1) {k : Nat} (hk : k < W.heap.size) : (∀ o, w1.cell? ⟨k, o, none⟩ = W.cell? ⟨k, o, none⟩) ∧ (∀ o, w1.frozen? ⟨k, o, none⟩ = W.frozen? ⟨k, o, none⟩) :=
  ⟨fun o => Below.cell (p := ⟨k, o, none⟩) h hk, fun o => Below.frozen (p := ⟨k, o, none⟩) h hk⟩
theorem Ext.more {W w1 : World} (h : Ext W w1) {k : Nat} (hk : k < W.heap.size) : k < w1.heap.size := Nat.lt_of_lt_of_le hk h.size

section
variable {H : Type} {enc : TypeId × Value → H} {P : Program}

theorem trodAll_stays (hl : laidOutB P = true) {W W' : World} {sp' : Nat → Bool} : ∀ (ts : List TypeId) (vs : List Value) (ds : List (DataW H)) (p : List MemPlace),
    (∀ t ∈ ts, P.readableRec t = true ∧ t < P.types.size) → DataW.TrodAll enc P W 0 (fun _ => true) true ts vs ds p → (∀ x ∈ p, W.sameAt W' x) → (∀ x ∈ p, sp' x.block = true) → DataW.TrodAll enc P W' 0 sp' true ts vs ds p
  | [], [], [], _, _, h, _, _ => h
  | t :: ts, v :: vs, d :: ds, p, hr, h, hs, hsp => by
    obtain ⟨p1, q1, h1, h2, rfl⟩ := h
    refine ⟨p1, q1, ?_, ?_, rfl⟩
    · exact WideElems.Trod_stays hl (hr t (by simp)).1 (hr t (by simp)).2 h1 (fun x hx => hs x (by simp [hx])) (fun x hx => hsp x (by simp [hx]))
    · exact trodAll_stays hl ts vs ds q1 (fun t ht => hr t (by simp [ht])) h2 (fun x hx => hs x (by simp [hx])) (fun x hx => hsp x (by simp [hx]))
  | [], [], _ :: _, _, _, h, _, _ => False.elim h
  | [], _ :: _, _, _, _, h, _, _ => False.elim h
  | _ :: _, [], _, _, _, h, _, _ => False.elim h
  | _ :: _, _ :: _, [], _, _, h, _, _ => False.elim h

/-- A law's end: it returned true, and what was there is as it was. -/
theorem law_post (hl : laidOutB P = true) {f : Func} {s : ChangeSpec} {W W' : World} {args : Array Value} {ds gs : List (DataW H)} {before : List MemPlace} {tb : TypeId}
    (hr : ∀ t ∈ f.params.toList, P.readableRec t = true ∧ t < P.types.size) (hv : s.vars = []) (hres : f.resultTypes = #[tb]) (htb : P.underlying tb = some .bool)
    (hW : DataW.Whole enc P f.params.toList s.vars false W args.toList ds gs before) (hfn : ∀ gs : List (DataW H), gs = [] → s.fn H (ds ++ gs) = { results := [.lit (.bool true)], args := ds, vars := [] })
    (hx : Ext W W') : s.post enc P f false true false false W args (.bool true) W' := by
  have hb : Below W.heap.size W W' := hx
  have hW' := hW
  obtain ⟨p, q, hA, hV, rfl, hfz, hnd⟩ := hW
  rw [hv] at hV
  have hgs : gs = [] ∧ q = [] := by
    cases gs with
    | nil => exact ⟨rfl, by simpa [DataW.TrodVars] using hV⟩
    | cons g gs => exact False.elim hV
  obtain ⟨rfl, rfl⟩ := hgs
  have e := hfn [] rfl
  have hlt : ∀ x ∈ p, x.block < W.heap.size := fun x hx => by simpa using hW'.lt x (by simp [hx])
  refine ⟨ds, [], p ++ [], [], p, [], hW', ?_, ?_, ?_, hb.frame _, fun h => by cases h⟩
  · rw [e, hres]
    exact trodAll_cons_mk (shut_bool htb _) trodAll_mk0
  · rw [e]
    exact trodAll_stays hl _ _ _ _ hr hA (fun x hx => hb.same (hlt x hx)) (fun x hx => by simpa using hlt x hx)
  · rw [e, hv]
    simp [DataW.TrodVars]

/-- A struct of integers, by value: the integers. -/
theorem open_agg_ints {base : Nat} {spare : Nat → Bool} {held : Bool} {w : World} {r : Reach} {b0 : Nat} {t : TypeId} {fs : Array Field} {v : Value} {d : DataW H} {p : List MemPlace} (hs : P.underlying t = some (.struct fs))
    (hC : P.cellsOf t = fs.size) (hF : ∀ (i : Nat) (f : Field), fs[i]? = some f → P.underlying f.type = some (.int .i64) ∧ f.offset = i ∧ P.cellsOf f.type = 1)
    (hv : Value.okWide P w r b0 t v) (h : DataW.Trod enc P w base spare held t v d p) :
    ∃ l : List Int, l.length = fs.size ∧ v = .agg (l.map (Value.int .i64)).toArray ∧ ∀ x ∈ l, (Lit.int .i64 x).wf = true := by
  obtain ⟨cs, rfl, hsz⟩ := okWide_struct hs hv
  obtain ⟨fuel, hf⟩ := h
  obtain ⟨xs, n, _, hx, hlen, hxl, hg⟩ := DataW.trod_struct hs hf
  rw [hC] at hsz hlen
  have hat : ∀ i : Nat, i < fs.size → ∃ x : Int, cs.toList[i]? = some (.int .i64 x) ∧ (Lit.int .i64 x).wf = true := by
    intro i hi
    have hfi : fs[i]? = some fs[i] := Array.getElem?_eq_getElem hi
    obtain ⟨hu, ho, hk⟩ := hF i _ hfi
    have h1 := hg i _ hfi
    rw [ho, hk, List.getElem?_eq_getElem (by omega)] at h1
    obtain ⟨m, hm, _, hw⟩ := DataW.trod_int hu h1
    refine ⟨m, ?_, hw⟩
    have hm' : (List.take 1 (List.drop i cs.toList)) = [Value.int .i64 m] := by simpa [Value.cells] using hm
    have := congrArg (fun l => l[0]?) hm'
    simpa [List.getElem?_take, List.getElem?_drop] using this
  have hall : ∀ v ∈ cs.toList, ∃ x : Int, v = .int .i64 x ∧ (Lit.int .i64 x).wf = true := by
    intro v hv
    obtain ⟨i, hi, rfl⟩ := List.mem_iff_getElem.1 hv
    have hi' : i < fs.size := by simpa [hsz] using hi
    obtain ⟨x, hx1, hw⟩ := hat i hi'
    rw [List.getElem?_eq_getElem hi] at hx1
    exact ⟨x, Option.some.inj hx1, hw⟩
  refine ⟨cs.toList.map intOf, by simpa using hsz, ?_, ?_⟩
  · have : (cs.toList.map intOf).map (Value.int .i64) = cs.toList := by
      rw [List.map_map]
      conv => rhs; rw [← List.map_id cs.toList]
      apply List.map_congr_left
      intro v hv
      obtain ⟨x, rfl, _⟩ := hall v hv
      rfl
    rw [this]
  · intro x hx
    obtain ⟨v, hv, rfl⟩ := List.mem_map.1 hx
    obtain ⟨x, rfl, hw⟩ := hall v hv
    exact hw
end
end Go.Proofs.Ytjnbiacnhimkgaa

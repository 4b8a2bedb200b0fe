/-
  Part of the proof: Base, Chg, Go, BoxV, Nrm, Table, Tail, Flow, RgP, RgQ, LawKit, Steady, Store, Fork.
-/
import Derived.WalkKit
import Derived.ProofKit
import Derived.OpenShut
import Derived.WalkLawsBesides
import Derived.Orders
import Derived.OrdersHeld
import Derived.Deep.RegionHeld
import Derived.Test.YtjhgcbchdnoleaaRows
namespace Go.Proofs.Ytjhgcbchdnoleaa
section
open Go.ChangeShapes Go.WideShapes Go.ChangeAt Go.RowKit
/-- A fact kept from the walk. -/
theorem hide {p : Prop} (h : p) : Hid p := h
/-- What was there before is as it was. -/
def Ext (w w' : World) : Prop := Below w.heap.size w w'
theorem Ext.refl (w : World) : Ext w w := Below.refl _ _
theorem Ext.trans {a b c : World} (h : Ext a b) (k : Ext b c) : Ext a c :=
  Below.trans (show Below a.heap.size a b from h) (Below.mono (show Below b.heap.size b c from k) (show Below a.heap.size a b from h).size)
theorem Ext.alloc {a b : World} (h : Ext a b) (o : Obj) : Ext a (b.alloc o) :=
  Below.alloc (show Below a.heap.size a b from h) (show Below a.heap.size a b from h).size o
theorem Ext.drew {a b : World} (h : Ext a b) : Ext a b.drew := Below.drew (show Below a.heap.size a b from h)
theorem Ext.drewN {a b : World} (h : Ext a b) (n : Nat) : Ext a (b.drewN n) := by
  have k : Below a.heap.size a b := h
  exact ⟨k.os, k.tape, k.output, k.size, k.block⟩
theorem Ext.setCell {a b : World} (h : Ext a b) {p : Addr} (hp : a.heap.size ≤ p.block) (u : Value) : Ext a (b.setCell p u) :=
  Below.setCell (show Below a.heap.size a b from h) hp u
theorem Ext.set {a b : World} {p : Addr} (hp : a.heap.size ≤ p.block) (h : Ext a b) (u : Value) : Ext a (b.setCell p u) := h.setCell hp u
theorem Ext.size {a b : World} (h : Ext a b) : a.heap.size ≤ b.heap.size := (show Below a.heap.size a b from h).size
theorem Ext.cells {W w1 : World} (h : Ext W w1) : (∀ b o, b < W.heap.size → w1.cell? ⟨b, o, none⟩ = W.cell? ⟨b, o, none⟩) ∧ (∀ b o, b < W.heap.size → w1.frozen? ⟨b, o, none⟩ = W.frozen? ⟨b, o, none⟩) :=
  ⟨fun b o hb => Below.cell (p := ⟨b, o, none⟩) h hb, fun b o hb => Below.frozen (p := ⟨b, o, none⟩) h hb⟩
/-- A block that was there: its cells and its marks, whatever the place. -/
theorem Ext.row {W w1 : World} (h : Ext W w1) {k : Nat} (hk : k < W.heap.size) : (∀ o, w1.cell? ⟨k, o, none⟩ = W.cell? ⟨k, o, none⟩) ∧ (∀ o, w1.frozen? ⟨k, o, none⟩ = W.frozen? ⟨k, o, none⟩) :=
  ⟨fun o => Below.cell (p := ⟨k, o, none⟩) h hk, fun o => Below.frozen (p := ⟨k, o, none⟩) h hk⟩
theorem Ext.more {W w1 : World} (h : Ext W w1) {k : Nat} (hk : k < W.heap.size) : k < w1.heap.size := Nat.lt_of_lt_of_le hk h.size
section
variable {H : Type} {enc : TypeId × Value → H} {P : Program}
theorem trodAll_stays (hl : laidOutB P = true) {W W' : World} {sp' : Nat → Bool} : ∀ (ts : List TypeId) (vs : List Value) (ds : List (DataW H)) (p : List MemPlace),
    (∀ t ∈ ts, P.readableRec t = true ∧ t < P.types.size) → DataW.TrodAll enc P W 0 (fun _ => true) true ts vs ds p → (∀ x ∈ p, W.sameAt W' x) → (∀ x ∈ p, sp' x.block = true) → DataW.TrodAll enc P W' 0 sp' true ts vs ds p
  | [], [], [], _, _, h, _, _ => h
  | t :: ts, v :: vs, d :: ds, p, hr, h, hs, hsp => by
    obtain ⟨p1, q1, h1, h2, rfl⟩ := h
    refine ⟨p1, q1, ?_, ?_, rfl⟩
    · exact WideElems.Trod_stays hl (hr t (by simp)).1 (hr t (by simp)).2 h1 (fun x hx => hs x (by simp [hx])) (fun x hx => hsp x (by simp [hx]))
    · exact trodAll_stays hl ts vs ds q1 (fun t ht => hr t (by simp [ht])) h2 (fun x hx => hs x (by simp [hx])) (fun x hx => hsp x (by simp [hx]))
  | [], [], _ :: _, _, _, h, _, _ => False.elim h
  | [], _ :: _, _, _, _, h, _, _ => False.elim h
  | _ :: _, [], _, _, _, h, _, _ => False.elim h
  | _ :: _, _ :: _, [], _, _, h, _, _ => False.elim h
/-- A law's end: it returned true, and what was there is as it was. -/
theorem law_post (hl : laidOutB P = true) {f : Func} {s : ChangeSpec} {W W' : World} {args : Array Value} {ds gs : List (DataW H)} {before : List MemPlace} {tb : TypeId}
    (hr : ∀ t ∈ f.params.toList, P.readableRec t = true ∧ t < P.types.size) (hv : s.vars = []) (hres : f.resultTypes = #[tb]) (htb : P.underlying tb = some .bool)
    (hW : DataW.Whole enc P f.params.toList s.vars false W args.toList ds gs before) (hfn : ∀ gs : List (DataW H), gs = [] → s.fn H (ds ++ gs) = { results := [.lit (.bool true)], args := ds, vars := [] })
    (hx : Ext W W') : s.post enc P f false true false false W args (.bool true) W' := by
  have hb : Below W.heap.size W W' := hx
  have hW' := hW
  obtain ⟨p, q, hA, hV, rfl, hfz, hnd⟩ := hW
  rw [hv] at hV
  have hgs : gs = [] ∧ q = [] := by
    cases gs with
    | nil => exact ⟨rfl, by simpa [DataW.TrodVars] using hV⟩
    | cons g gs => exact False.elim hV
  obtain ⟨rfl, rfl⟩ := hgs
  have e := hfn [] rfl
  have hlt : ∀ x ∈ p, x.block < W.heap.size := fun x hx => by simpa using hW'.lt x (by simp [hx])
  refine ⟨ds, [], p ++ [], [], p, [], hW', ?_, ?_, ?_, hb.frame _, fun h => by cases h⟩
  · rw [e, hres]
    exact trodAll_cons_mk (shut_bool htb _) trodAll_mk0
  · rw [e]
    exact trodAll_stays hl _ _ _ _ hr hA (fun x hx => hb.same (hlt x hx)) (fun x hx => by simpa using hlt x hx)
  · rw [e, hv]
    simp [DataW.TrodVars]
end
end
section
open Go.ChangeShapes Go.WideShapes Go.ChangeAt Go.RowKit
set_option linter.unusedVariables false
/-- Only blocks in S, and new ones, have turned. -/
structure Chg (S : Nat → Prop) (w w' : World) : Prop where
  os : w'.os = w.os
  tape : w'.tape = w.tape
  output : w'.output = w.output
  size : w.heap.size ≤ w'.heap.size
  block : ∀ k, k < w.heap.size → ¬ S k → w'.heap[k]? = w.heap[k]?
theorem Chg.refl (S : Nat → Prop) (w : World) : Chg S w w := ⟨rfl, rfl, rfl, Nat.le_refl _, fun _ _ _ => rfl⟩
theorem Chg.trans {S : Nat → Prop} {a b c : World} (h : Chg S a b) (k : Chg S b c) : Chg S a c :=
  ⟨k.os.trans h.os, k.tape.trans h.tape, k.output.trans h.output, Nat.le_trans h.size k.size, fun i hi hS => (k.block i (Nat.lt_of_lt_of_le hi h.size) hS).trans (h.block i hi hS)⟩
theorem Chg.mono {S T : Nat → Prop} {a b : World} (h : Chg S a b) (hST : ∀ k, k < a.heap.size → S k → T k) : Chg T a b :=
  ⟨h.os, h.tape, h.output, h.size, fun k hk hT => h.block k hk fun hS => hT (hST k hk hS)⟩
theorem Ext.chg {a b : World} (h : Ext a b) (S : Nat → Prop) : Chg S a b :=
  have k : Below a.heap.size a b := h
  ⟨k.os, k.tape, k.output, k.size, fun i hi _ => k.block i hi⟩
theorem Chg.ext {S : Nat → Prop} {a b : World} (h : Chg S a b) (hS : ∀ k, k < a.heap.size → ¬ S k) : Ext a b :=
  (show Below a.heap.size a b from ⟨h.os, h.tape, h.output, h.size, fun i hi => h.block i hi (hS i hi)⟩)
theorem Chg.alloc {S : Nat → Prop} {a b : World} (h : Chg S a b) (o : Obj) : Chg S a (b.alloc o) := h.trans ((Ext.refl b).alloc o |>.chg S)
theorem Chg.drew {S : Nat → Prop} {a b : World} (h : Chg S a b) : Chg S a b.drew := h.trans ((Ext.refl b).drew |>.chg S)
theorem Chg.drewN {S : Nat → Prop} {a b : World} (h : Chg S a b) (n : Nat) : Chg S a (b.drewN n) := h.trans ((Ext.refl b).drewN n |>.chg S)
theorem Chg.set {S : Nat → Prop} {a b : World} {p : Addr} (hp : S p.block ∨ a.heap.size ≤ p.block) (h : Chg S a b) (u : Value) : Chg S a (b.setCell p u) :=
  ⟨h.os, h.tape, h.output, by simpa [World.setCell] using h.size, fun k hk hS => by
    rw [Below.heap_setCell _ _ _ _ (by
      rcases hp with hp | hp
      · intro e; subst e; exact hS hp
      · omega)]
    exact h.block k hk hS⟩
theorem Chg.row {S : Nat → Prop} {W w1 : World} (h : Chg S W w1) {k : Nat} (hk : k < W.heap.size) (hS : ¬ S k) : (∀ o, w1.cell? ⟨k, o, none⟩ = W.cell? ⟨k, o, none⟩) ∧ (∀ o, w1.frozen? ⟨k, o, none⟩ = W.frozen? ⟨k, o, none⟩) :=
  ⟨fun o => World.cell?_of_block (w := W) (h.block k hk hS), fun o => World.frozen?_of_block (w := W) (h.block k hk hS)⟩
theorem Chg.more {S : Nat → Prop} {W w1 : World} (h : Chg S W w1) {k : Nat} (hk : k < W.heap.size) : k < w1.heap.size := Nat.lt_of_lt_of_le hk h.size
theorem lt_of_block {w : World} {p : Nat} {o : Obj} (h : w.heap[p]? = some o) : p < w.heap.size := (Array.getElem?_eq_some_iff.1 h).1
theorem block_set {w : World} {g i : Nat} {cs : Array Value} {t : TypeId} {fr : Nat × Nat} (h : w.heap[g]? = some (.cells cs t fr)) (v : Value) : (w.setCell ⟨g, i, none⟩ v).heap[g]? = some (.cells (cs.setIfInBounds i v) t fr) := by
  simp [World.setCell, Array.getElem?_modify, h]
end
section
open Go.ChangeShapes Go.WideShapes Go.ChangeAt Go.RowKit
set_option linter.unusedSimpArgs false
set_option linter.unusedVariables false
theorem xpf {p : Prop} (h : p := by first | with_reducible assumption | (simp; done) | (simp; omega) | omega) : p := h
theorem Ext.go {a b : World} (h : Ext a b := by repeat (first | with_reducible exact Ext.refl _ | with_reducible assumption | with_reducible exact Hid.out (by assumption) | with_reducible refine Ext.alloc ?_ _ | with_reducible refine Ext.drew ?_ | ((with_reducible refine Ext.set ?_ ?_ _); (focus (first | (simp; done) | (simp; omega) | omega))) | with_reducible refine Ext.trans ?_ (by assumption))) : Ext a b := h
theorem Chg.go {S : Nat → Prop} {a b : World} (h : Chg S a b := by repeat (first | with_reducible exact Chg.refl _ _ | with_reducible refine Chg.alloc ?_ _ | with_reducible refine Chg.drew ?_ | ((with_reducible refine Chg.set ?_ ?_ _); (focus (first | (left; first | rfl | (simp; done) | ((try dsimp only); omega) | (simp; omega)) | (left; (try dsimp only); simp; done) | (left; (try dsimp only); simp; omega) | (right; simp; done) | (right; simp; omega) | (right; omega)))) | with_reducible refine Chg.trans ?_ (Ext.chg (by assumption) _))) : Chg S a b := h
/-- A block outside a set. -/
theorem xom {p : Prop} (h : p := by first | exact fun h => h | ((try dsimp only); omega)) : p := h
/-- No block of a stretch lies in a set. -/
theorem xap {lo hi : Nat} {S : Nat → Prop} (h : ∀ b, lo ≤ b → b < hi → ¬ S b := by intro b h1 h2 h3; first | exact False.elim h3 | ((try dsimp only at h3); omega)) : ∀ b, lo ≤ b → b < hi → ¬ S b := h
/-- A set within another. -/
theorem xsub {S T : Nat → Prop} {w : World} (h : ∀ b, b < w.heap.size → S b → T b := by intro b _ h; first | exact False.elim h | ((try dsimp only at h ⊢); omega)) : ∀ b, b < w.heap.size → S b → T b := h
end
section
open Go.ChangeShapes Go.WideShapes Go.ChangeAt Go.RowKit
set_option linter.unusedSimpArgs false
set_option linter.unusedVariables false
structure BoxV (B : Nat) (w : World) (vs : List Value) : Prop where
  c : ∀ (j : Nat) (v : Value), vs[j]? = some v → w.cell? ⟨B, j, none⟩ = some v
  fr : ∀ o, w.frozen? ⟨B, o, none⟩ = false
theorem BoxV.lt {B : Nat} {w : World} {v : Value} {vs : List Value} (h : BoxV B w (v :: vs)) : B < w.heap.size := World.block_lt_of_cell? w _ (h.c 0 v rfl)
theorem BoxV.chg {S : Nat → Prop} {B : Nat} {w w' : World} {v : Value} {vs : List Value} (h : BoxV B w (v :: vs)) (hx : Chg S w w') (hS : ¬ S B) : BoxV B w' (v :: vs) := by
  obtain ⟨x, y⟩ := hx.row h.lt hS
  exact ⟨fun j u hu => (x _).trans (h.c j u hu), fun o => (y o).trans (h.fr o)⟩
theorem BoxV.ext {B : Nat} {w w' : World} {v : Value} {vs : List Value} (h : BoxV B w (v :: vs)) (hx : Ext w w') : BoxV B w' (v :: vs) := h.chg (hx.chg (fun _ => False)) (fun h => h)
theorem BoxV.new (w : World) (vs : List Value) (T : TypeId) : BoxV w.heap.size (w.alloc (.cells vs.toArray T)) vs := by
  have hb : (w.alloc (.cells vs.toArray T)).heap[w.heap.size]? = some (.cells vs.toArray T) := heap_alloc_new w _
  refine ⟨fun j v hv => ?_, fun o => ?_⟩
  · rw [cell_of_row _ w.heap.size j vs.toArray _ _ hb]
    simpa using hv
  · unfold World.frozen?
    rw [hb]
    simp
theorem cellV_oth {w : World} {b o1 o2 : Nat} {v : Value} (h : o1 ≠ o2) : (w.setCell ⟨b, o1, none⟩ v).cell? ⟨b, o2, none⟩ = w.cell? ⟨b, o2, none⟩ :=
  World.cell?_setCell_other w ⟨b, o1, none⟩ ⟨b, o2, none⟩ v (fun e => h (by injection e))
theorem BoxV.set1 {B : Nat} {w : World} {vs : List Value} (h : BoxV B w vs) {j : Nat} (hj : j < vs.length) (u : Value) :
    BoxV B (w.setCell ⟨B, j, none⟩ u) (vs.set j u) ∧ Chg (fun k => k = B) w (w.setCell ⟨B, j, none⟩ u) := by
  refine ⟨⟨fun i v hv => ?_, fun o => ?_⟩, Chg.set (S := fun k => k = B) (Or.inl rfl) (Chg.refl _ _) _⟩
  · by_cases e : i = j
    · subst e
      rw [List.getElem?_set_self hj] at hv
      obtain rfl := Option.some.inj hv
      exact World.cell?_setCell_same' _ _ _ (by rw [h.c i vs[i] (List.getElem?_eq_getElem hj)]; rfl)
    · rw [List.getElem?_set_ne (Ne.symm e)] at hv
      rw [cellV_oth (Ne.symm e)]
      exact h.c i v hv
  · rw [World.frozen?_setCell]
    exact h.fr o
/-- Cells stored one after the other. -/
def setFrom (w : World) (B : Nat) : Nat → List Value → World
  | _, [] => w
  | k, v :: vs => setFrom (w.setCell ⟨B, k, none⟩ v) B (k + 1) vs
theorem BoxV.setAll {B : Nat} : ∀ {vs us pre : List Value} {w : World}, BoxV B w (pre ++ us) → us.length = vs.length → BoxV B (setFrom w B pre.length vs) (pre ++ vs) ∧ Chg (fun k => k = B) w (setFrom w B pre.length vs)
  | [], [], pre, w, h, _ => ⟨h, Chg.refl _ _⟩
  | [], _ :: _, _, _, _, hl => by simp at hl
  | _ :: _, [], _, _, _, hl => by simp at hl
  | v :: vs, u :: us, pre, w, h, hl => by
    obtain ⟨h1, h2⟩ := h.set1 (j := pre.length) (by simp) v
    have e : (pre ++ u :: us).set pre.length v = (pre ++ [v]) ++ us := by simp
    rw [e] at h1
    obtain ⟨k1, k2⟩ := BoxV.setAll (vs := vs) (us := us) (pre := pre ++ [v]) h1 (by simpa using hl)
    have e2 : (pre ++ [v]).length = pre.length + 1 := by simp
    rw [e2] at k1 k2
    have e3 : (pre ++ [v]) ++ vs = pre ++ v :: vs := by simp
    rw [e3] at k1
    exact ⟨k1, h2.trans k2⟩
theorem BoxV.set {B : Nat} {w : World} {us : List Value} (h : BoxV B w us) (vs : List Value) (hl : us.length = vs.length) :
    BoxV B (setFrom w B 0 vs) vs ∧ Chg (fun k => k = B) w (setFrom w B 0 vs) :=
  BoxV.setAll (pre := []) h hl
end
section
theorem nrm : (∀ (a : Act) (d : Tmp) (v : Value), a.put (some d) v = { a with tmps := a.tmps.setIfInBounds d v }) ∧ (∀ (a : Act) (v : Value), a.put none v = a) ∧
    (∀ (l : List Value) (i : Nat) (v : Value), l.toArray.setIfInBounds i v = (l.set i v).toArray) ∧ (∀ (x v : Value) (l : List Value), (x :: l).set 0 v = v :: l) ∧ (∀ (x v : Value) (l : List Value) (n : Nat), (x :: l).set (n + 1) v = x :: l.set n v) :=
  ⟨fun _ _ _ => rfl, fun _ _ => rfl, fun _ _ _ => by simp, fun _ _ _ => rfl, fun _ _ _ _ => rfl⟩
theorem ne2 {a b : Nat} (h : a ≠ b) : a ≠ b ∧ b ≠ a := ⟨h, h.symm⟩
theorem BoxV.a2 {B : Nat} {w : World} {v0 v1 : Value} (h : BoxV B w [v0, v1]) : w.cell? ⟨B, 0, none⟩ = some v0 ∧ w.cell? ⟨B, 1, none⟩ = some v1 ∧ (∀ o, w.frozen? ⟨B, o, none⟩ = false) ∧ B < w.heap.size := ⟨h.c 0 _ rfl, h.c 1 _ rfl, h.fr, h.lt⟩
theorem BoxV.a3 {B : Nat} {w : World} {v0 v1 v2 : Value} (h : BoxV B w [v0, v1, v2]) : w.cell? ⟨B, 0, none⟩ = some v0 ∧ w.cell? ⟨B, 1, none⟩ = some v1 ∧ w.cell? ⟨B, 2, none⟩ = some v2 ∧ (∀ o, w.frozen? ⟨B, o, none⟩ = false) ∧ B < w.heap.size := ⟨h.c 0 _ rfl, h.c 1 _ rfl, h.c 2 _ rfl, h.fr, h.lt⟩
theorem BoxV.a4 {B : Nat} {w : World} {v0 v1 v2 v3 : Value} (h : BoxV B w [v0, v1, v2, v3]) : w.cell? ⟨B, 0, none⟩ = some v0 ∧ w.cell? ⟨B, 1, none⟩ = some v1 ∧ w.cell? ⟨B, 2, none⟩ = some v2 ∧ w.cell? ⟨B, 3, none⟩ = some v3 ∧ (∀ o, w.frozen? ⟨B, o, none⟩ = false) ∧ B < w.heap.size := ⟨h.c 0 _ rfl, h.c 1 _ rfl, h.c 2 _ rfl, h.c 3 _ rfl, h.fr, h.lt⟩
theorem BoxV.a12 {B : Nat} {w : World} {v0 v1 v2 v3 v4 v5 v6 v7 v8 v9 v10 v11 : Value} (h : BoxV B w [v0, v1, v2, v3, v4, v5, v6, v7, v8, v9, v10, v11]) : w.cell? ⟨B, 0, none⟩ = some v0 ∧ w.cell? ⟨B, 1, none⟩ = some v1 ∧ w.cell? ⟨B, 2, none⟩ = some v2 ∧ w.cell? ⟨B, 3, none⟩ = some v3 ∧ w.cell? ⟨B, 4, none⟩ = some v4 ∧ w.cell? ⟨B, 5, none⟩ = some v5 ∧ w.cell? ⟨B, 6, none⟩ = some v6 ∧ w.cell? ⟨B, 7, none⟩ = some v7 ∧ w.cell? ⟨B, 8, none⟩ = some v8 ∧ w.cell? ⟨B, 9, none⟩ = some v9 ∧ w.cell? ⟨B, 10, none⟩ = some v10 ∧ w.cell? ⟨B, 11, none⟩ = some v11 ∧ (∀ o, w.frozen? ⟨B, o, none⟩ = false) ∧ B < w.heap.size :=
  ⟨h.c 0 _ rfl, h.c 1 _ rfl, h.c 2 _ rfl, h.c 3 _ rfl, h.c 4 _ rfl, h.c 5 _ rfl, h.c 6 _ rfl, h.c 7 _ rfl, h.c 8 _ rfl, h.c 9 _ rfl, h.c 10 _ rfl, h.c 11 _ rfl, h.fr, h.lt⟩
end
section
section
variable {P : Program} {ops : Array Oper} {Q : Exit → Act → World → Prop} {R : World → World → Prop} {T : Nat → Value → World → Prop} {ds : List Nat} {a0 : Act} {w0 : World}
def fillAt (a0 : Act) (ds : List Nat) (g : Nat → Value) : Act := ds.foldl (fun a d => a.put (some d) (g d)) a0
/-- The line of operation j holds of what stands in its temporary. -/
def lineAt (ops : Array Oper) (T : Nat → Value → World → Prop) (j : Nat) (g : Nat → Value) (w : World) : Prop :=
  match (ops[j]?).bind (·.dst) with | some d => T j (g d) w | none => True
def Stays (P : Program) (ops : Array Oper) (R : World → World → Prop) (T : Nat → Value → World → Prop) (i : Nat) (o : Oper) (a : Act) (w : World) : Prop :=
  (Region.wanted o (yielded ops a.tmps) = true ∧ ((∃ v w', (execOp a.eval o).run P w = .ok (.value v) w' ∧ R w w' ∧ T i v w') ∨
    (∃ f args, (execOp a.eval o).run P w = .ok (.enter f args) w ∧ Calls P f args w fun e w' => ∃ v, e = .returned v ∧ R w w' ∧ T i v w') ∨
    ((execOp a.eval o).run P w = .ok .skip w ∧ T i undef w))) ∨
  (Region.wanted o (yielded ops a.tmps) = false ∧ T i undef w)
def Each (Ob : Nat → Oper → Prop) : Nat → List Oper → Prop
  | _, [] => True
  | k, o :: os => Ob k o ∧ Each Ob (k + 1) os
theorem Each.nil {Ob : Nat → Oper → Prop} {k : Nat} : Each Ob k [] := trivial
theorem Each.cons {Ob : Nat → Oper → Prop} {k : Nat} {o : Oper} {os : List Oper} (h : Ob k o) (hs : Each Ob (k + 1) os) : Each Ob k (o :: os) := ⟨h, hs⟩
theorem Each.at {Ob : Nat → Oper → Prop} : ∀ {l : List Oper} {k i : Nat} {o : Oper}, Each Ob k l → l[i]? = some o → Ob (k + i) o
  | [], _, _, _, _, h => by simp at h
  | _ :: _, _, 0, _, hE, h => by simp at h; subst h; exact hE.1
  | _ :: os, k, i + 1, _, hE, h => by
    have := Each.at (l := os) (k := k + 1) (i := i) hE.2 (by simpa using h)
    rwa [Nat.add_right_comm, Nat.add_assoc] at this
def dstsIn (ops : Array Oper) (ds : List Nat) : Bool := ops.toList.all fun o => match o.dst with | some d => ds.contains d | none => true
def dstsApart : List (Option Nat) → Bool
  | [] => true
  | x :: xs => (match x with | some d => !xs.contains (some d) | none => true) && dstsApart xs
theorem dstsApart_at : ∀ {l : List (Option Nat)}, dstsApart l = true → ∀ {i j d : Nat}, l[i]? = some (some d) → l[j]? = some (some d) → i = j
  | [], _, i, j, d, h, _ => by simp at h
  | x :: xs, hA, i, j, d, hi, hj => by
    simp only [dstsApart, Bool.and_eq_true] at hA
    obtain ⟨h1, h2⟩ := hA
    cases i with
    | zero =>
      cases j with
      | zero => rfl
      | succ j =>
        have h3 : x = some d := by simpa using hi
        have h4 : xs[j]? = some (some d) := by simpa using hj
        subst h3
        simp at h1
        exact absurd (List.mem_of_getElem? h4) h1
    | succ i =>
      have h3 : xs[i]? = some (some d) := by simpa using hi
      cases j with
      | zero =>
        have h4 : x = some d := by simpa using hj
        subst h4
        simp at h1
        exact absurd (List.mem_of_getElem? h3) h1
      | succ j => exact congrArg (· + 1) (dstsApart_at (l := xs) h2 (i := i) (j := j) (d := d) h3 (by simpa using hj))
theorem fillAt_defers : ∀ (ds : List Nat) (a0 : Act) (g : Nat → Value), (fillAt a0 ds g).defers = a0.defers
  | [], _, _ => rfl
  | d :: ds, a0, g => (fillAt_defers ds (a0.put (some d) (g d)) g).trans rfl
theorem fillAt_size : ∀ (ds : List Nat) (a0 : Act) (g : Nat → Value), (fillAt a0 ds g).tmps.size = a0.tmps.size
  | [], _, _ => rfl
  | d :: ds, a0, g => (fillAt_size ds (a0.put (some d) (g d)) g).trans (by simp [Act.put])
theorem fillAt_get : ∀ (ds : List Nat) (a0 : Act) (g : Nat → Value) (t : Nat) (_ : t < a0.tmps.size), (fillAt a0 ds g).tmps[t]? = if t ∈ ds then some (g t) else a0.tmps[t]?
  | [], _, _, _, _ => by simp [fillAt]
  | d :: ds, a0, g, t, ht => by
    have h := fillAt_get ds (a0.put (some d) (g d)) g t (by simpa [Act.put] using ht)
    have h0 : fillAt a0 (d :: ds) g = fillAt (a0.put (some d) (g d)) ds g := rfl
    rw [h0, h]
    by_cases h1 : t ∈ ds
    · simp [h1]
    · by_cases h2 : t = d
      · subst h2
        simp [h1, Act.put, ht]
      · simp [h1, h2, Act.put, Array.getElem?_setIfInBounds_ne (Ne.symm h2)]
structure Alike (a0 : Act) (ds : List Nat) (a : Act) : Prop where
  defers : a.defers = a0.defers
  size : a.tmps.size = a0.tmps.size
  rest : ∀ t, t ∉ ds → a.tmps[t]? = a0.tmps[t]?
theorem Alike.fill {a : Act} (h : Alike a0 ds a) : a = fillAt a0 ds fun d => a.tmps.getD d undef := by
  have h1 := fillAt_defers ds a0 fun d => a.tmps.getD d undef
  have h2 := fillAt_size ds a0 fun d => a.tmps.getD d undef
  have h3 := fillAt_get ds a0 fun d => a.tmps.getD d undef
  generalize fillAt a0 ds (fun d => a.tmps.getD d undef) = b at *
  obtain ⟨tb, db⟩ := b
  obtain ⟨ta, da⟩ := a
  obtain ⟨e1, e2, e3⟩ := h
  simp only at *
  subst h1
  rw [← e1]
  congr 1
  apply Array.ext_getElem?
  intro t
  by_cases ht : t < a0.tmps.size
  · rw [h3 t ht]
    by_cases hd : t ∈ ds
    · simp [hd, e2, ht]
    · simp [hd, e3 t hd]
  · rw [Array.getElem?_eq_none (by omega), Array.getElem?_eq_none (by omega)]
theorem Alike.put {a : Act} (h : Alike a0 ds a) {dst : Option Nat} (hd : ∀ d, dst = some d → d ∈ ds) (v : Value) : Alike a0 ds (a.put dst v) := by
  cases dst with
  | none => exact h
  | some d =>
    refine ⟨h.defers, by simp [Act.put, h.size], fun t ht => ?_⟩
    have : d ≠ t := fun e => ht (e ▸ hd d rfl)
    simp [Act.put, Array.getElem?_setIfInBounds_ne this, h.rest t ht]
/-- What holds along the way. -/
structure Along (ops : Array Oper) (R : World → World → Prop) (T : Nat → Value → World → Prop) (a0 : Act) (ds : List Nat) (w0 : World) (listed : Array Bool) (a : Act) (w : World) : Prop where
  alike : Alike a0 ds a
  grown : R w0 w
  lines : ∀ i o d, ops[i]? = some o → o.dst = some d → listed.getD i false = true → T i (a.tmps.getD d undef) w
/-- Each operation stands behind earlier ones alone. -/
def edgesBack (l : List Oper) : Bool := l.zipIdx.all fun p => p.1.after.toList.all fun e => !(Region.binds .any e) || decide (e.on < p.2)
theorem edgesBack_at (h : edgesBack ops.toList = true) {i : Nat} {o : Oper} (hi : ops[i]? = some o) {e : Edge} (he : e ∈ o.after) (hb : Region.binds .any e = true) : e.on < i := by
  simp only [edgesBack, List.all_eq_true] at h
  have hm : (o, i) ∈ ops.toList.zipIdx := by
    rw [List.mk_mem_zipIdx_iff_getElem?]
    simpa using hi
  have := h _ hm e (by simpa using he)
  simpa [hb] using this
theorem all_listed (h : edgesBack ops.toList = true) {listed : Array Bool} (hs : listed.size = ops.size) (hr : Region.ready .any ops listed = []) : ∀ i, i < ops.size → listed.getD i false = true := by
  intro i
  induction i using Nat.strongRecOn with
  | _ i ih =>
    intro hi
    cases hl : listed.getD i false with
    | true => rfl
    | false =>
      exfalso
      have hlt : i < listed.size := by omega
      have hm : i ∈ Region.ready .any ops listed := by
        refine mem_ready.2 ⟨?_, ops[i], by simp [hi], fun e he hb => ?_⟩
        · simpa [hlt] using hl
        · have := edgesBack_at h (i := i) (o := ops[i]) (by simp [hi]) he hb
          exact ih _ this (by omega)
      rw [hr] at hm
      cases hm
theorem count_set {l : List Bool} : ∀ {i : Nat}, l[i]? = some false → (l.set i true).count false + 1 = l.count false := by
  induction l with
  | nil => intro i h; simp at h
  | cons x xs ih =>
    intro i h
    cases i with
    | zero => simp at h; subst h; simp
    | succ i =>
      have := ih (i := i) (by simpa using h)
      simp only [List.set_cons_succ, List.count_cons]
      omega
theorem wpAny_table (hE : edgesBack ops.toList = true) (hB : dstsIn ops ds = true) (hS : ds.all (fun d => decide (d < a0.tmps.size)) = true)
    (hA : dstsApart (ops.toList.map (·.dst)) = true)
    (hT : ∀ i v w w', R w w' → T i v w → T i v w') (hR : ∀ u v w, R u v → R v w → R u w) (hR0 : ∀ w, R w w)
    (hob : ∀ i o, ops[i]? = some o → ∀ g w, R w0 w → (∀ e ∈ o.after, Region.binds .any e = true → lineAt ops T e.on g w) → Stays P ops R T i o (fillAt a0 ds g) w)
    (hend : ∀ g w, R w0 w → (∀ i o, ops[i]? = some o → lineAt ops T i g w) → Q .normal (fillAt a0 ds g) w) :
    ∀ (fuel : Nat) (listed : Array Bool) (a : Act) (w : World), listed.size = ops.size → listed.toList.count false ≤ fuel → Along ops R T a0 ds w0 listed a w → wpAny P .any ops Q fuel listed a w := by
  have hB' : ∀ {i : Nat} {o : Oper}, ops[i]? = some o → ∀ d, o.dst = some d → d ∈ ds := by
    intro i o hi d hd
    simp only [dstsIn, List.all_eq_true] at hB
    have := hB o (by simpa using List.mem_of_getElem? (l := ops.toList) (i := i) (by simpa using hi))
    simpa [hd] using this
  have hS' : ∀ d ∈ ds, d < a0.tmps.size := fun d hd => by
    simp only [List.all_eq_true] at hS
    exact of_decide_eq_true (hS d hd)
  have fin : ∀ {listed : Array Bool} {a : Act} {w : World}, listed.size = ops.size → Region.ready .any ops listed = [] → Along ops R T a0 ds w0 listed a w → Q .normal a w := by
    intro listed a w hs hr h
    rw [h.alike.fill]
    refine hend _ w h.grown fun i o hi => ?_
    unfold lineAt
    cases hd : o.dst with
    | none => simp [hi, hd]
    | some d =>
      have hlt : i < ops.size := (Array.getElem?_eq_some_iff.1 hi).1
      simpa [hi, hd] using h.lines i o d hi hd (all_listed hE hs hr i hlt)
  intro fuel
  induction fuel with
  | zero =>
    intro listed a w hs hc h
    have hr : Region.ready .any ops listed = [] := by
      rcases hq : Region.ready .any ops listed with _ | ⟨j, js⟩
      · rfl
      · exfalso
        have hj : j ∈ Region.ready .any ops listed := by rw [hq]; simp
        obtain ⟨h0, o, ho, _⟩ := mem_ready.1 hj
        have hlt : j < listed.size := by rw [hs]; exact (Array.getElem?_eq_some_iff.1 ho).1
        have : (false : Bool) ∈ listed.toList := by
          have h1 : listed[j] = false := by simpa [hlt] using h0
          rw [← h1]; simp
        have := List.count_pos_iff.2 this
        omega
    exact ⟨hr, fin hs hr h⟩
  | succ fuel ih =>
    intro listed a w hs hc h
    refine ⟨fun hr => fin hs hr h, fun j hj => ?_⟩
    obtain ⟨h0, o, ho, hdeps⟩ := mem_ready.1 hj
    have hlt : j < listed.size := by rw [hs]; exact (Array.getElem?_eq_some_iff.1 ho).1
    have hl0 : listed[j]? = some false := by simpa [hlt] using h0
    have key : ∀ v w', R w w' → T j v w' → wpAny P .any ops Q fuel (listed.setIfInBounds j true) (a.put o.dst v) w' := by
      intro v w' hg hv
      refine ih _ _ _ (by simpa using hs) ?_ ⟨h.alike.put (hB' ho) v, hR _ _ _ h.grown hg, ?_⟩
      · have := count_set (l := listed.toList) (i := j) (by simpa using hl0)
        simp only [Array.toList_setIfInBounds]
        omega
      · intro i oi d hi hd hli
        by_cases hij : i = j
        · subst hij
          obtain rfl : oi = o := Option.some.inj (hi.symm.trans ho)
          have hds : d < a.tmps.size := by rw [h.alike.size]; exact hS' d (hB' hi d hd)
          rw [hd]
          have : ((a.put (some d) v).tmps).getD d undef = v := by simp [Act.put, hds]
          rw [this]; exact hv
        · have hli' : listed.getD i false = true := by
            rw [← hli]
            simp [Array.getElem?_setIfInBounds_ne (Ne.symm hij)]
          have hne : o.dst ≠ some d := fun he => hij (dstsApart_at hA (d := d) (by simp [hi, hd]) (by simp [ho, he]))
          have : (a.put o.dst v).tmps.getD d undef = a.tmps.getD d undef := by
            cases hod : o.dst with
            | none => rfl
            | some d' =>
              have : d' ≠ d := fun e => hne (by rw [hod, e])
              simp [Act.put, Array.getElem?_setIfInBounds_ne this]
          rw [this]
          exact hT _ _ _ _ hg (h.lines i oi d hi hd hli')
    have hst := hob j o ho (fun d => a.tmps.getD d undef) w h.grown (fun e he hb => by
      unfold lineAt
      cases hoe : ops[e.on]? with
      | none => trivial
      | some oe =>
        cases hd : oe.dst with
        | none => simp [hd]
        | some d => simpa [hd] using h.lines e.on oe d hoe hd (hdeps e he hb))
    rw [← h.alike.fill] at hst
    unfold Go.wpOp
    simp only [ho]
    rcases hst with ⟨hw, ⟨v, w', he, hg, hv⟩ | ⟨f, args, he, hcl⟩ | ⟨he, hv⟩⟩ | ⟨hw, hv⟩
    · simp only [hw, if_true, Oper.wp, he, Oper.upon]; exact .inl (key v w' hg hv)
    · simp only [hw, if_true, Oper.wp, he, Oper.upon]
      refine .inl (Calls.mono hcl fun e w' ⟨v, h1, h2, h3⟩ => ?_)
      subst h1
      exact key v w' h2 h3
    · simp only [hw, if_true, Oper.wp, he, Oper.upon]; exact .inl (key undef w (hR0 w) hv)
    · simp only [hw, Bool.false_eq_true, if_false]; exact key undef w (hR0 w) hv
/-- The lines of those that o stands behind. -/
def linesOf (ops : Array Oper) (T : Nat → Value → World → Prop) (g : Nat → Value) (w : World) : List Edge → Prop
  | [] => True
  | e :: es => (if Region.binds .any e then lineAt ops T e.on g w else True) ∧ linesOf ops T g w es
theorem linesOf_of {g : Nat → Value} {w : World} : ∀ {l : List Edge}, (∀ e ∈ l, Region.binds .any e = true → lineAt ops T e.on g w) → linesOf ops T g w l
  | [], _ => trivial
  | e :: es, h => ⟨by split; exact h e (by simp) (by assumption); trivial, linesOf_of fun e' he' => h e' (by simp [he'])⟩
/-- The lines of all. -/
def allLines (T : Nat → Value → World → Prop) (g : Nat → Value) (w : World) : Nat → List Oper → Prop
  | _, [] => True
  | k, o :: os => (match o.dst with | some d => T k (g d) w | none => True) ∧ allLines T g w (k + 1) os
theorem allLines_of {g : Nat → Value} {w : World} : ∀ {l : List Oper} {k : Nat}, (∀ (i : Nat) (o : Oper), l[i]? = some o → match o.dst with | some d => T (k + i) (g d) w | none => True) → allLines T g w k l
  | [], _, _ => trivial
  | o :: os, k, h => ⟨by simpa using h 0 o rfl, allLines_of fun i o' hi => by
      have := h (i + 1) o' (by simpa using hi)
      rwa [Nat.add_right_comm, Nat.add_assoc]⟩
theorem wp_region_table {id : Nat} {a : Act} {w : World} (R : World → World → Prop) (T : Nat → Value → World → Prop) (ds : List Nat) (hm : P.follows .mixedOrders = true)
    (hE : edgesBack ops.toList = true) (hB : dstsIn ops ds = true) (hS : ds.all (fun d => decide (d < a.tmps.size)) = true)
    (hA : dstsApart (ops.toList.map (·.dst)) = true)
    (hR0 : ∀ w, R w w) (hR : ∀ u v w, R u v → R v w → R u w) (hT : ∀ i v w w', R w w' → T i v w → T i v w')
    (hob : Each (fun i o => ∀ g w', R w.drew w' → linesOf ops T g w' o.after.toList → Stays P ops R T i o (fillAt a ds g) w') 0 ops.toList)
    (hend : ∀ g w', R w.drew w' → allLines T g w' 0 ops.toList → Q .normal (fillAt a ds g) w') : (Code.region id ops true).wp P Q a w := by
  refine wp_region_any hm (wpAny_table (w0 := w.drew) (ds := ds) (a0 := a) hE hB hS hA hT hR hR0 ?_ ?_ _ _ _ _ (by simp) ?_ ⟨⟨rfl, rfl, fun _ _ => rfl⟩, hR0 _, ?_⟩)
  · intro i o hi g w' hw hl
    have h := hob.at (i := i) (by simpa using hi) g w' hw (linesOf_of fun e he => hl e (by simpa using he))
    rwa [Nat.zero_add] at h
  · intro g w' hw hl
    refine hend g w' hw (allLines_of fun i o hi => ?_)
    have := hl i o (by simpa using hi)
    rw [Array.getElem?_toList] at hi
    unfold lineAt at this
    rw [hi] at this
    simp only [Option.bind_some] at this
    rw [Nat.zero_add]
    exact this
  · simp
  · intro i o d _ _ h
    rw [Array.getD_eq_getD_getElem?, Array.getElem?_replicate] at h
    split at h <;> simp at h
theorem linesOf_get {T : Nat → Value → World → Prop} {g : Nat → Value} {w : World} (j : Nat) : ∀ {l : List Edge}, linesOf ops T g w l → l.any (fun e => Region.binds .any e && (e.on == j)) = true → lineAt ops T j g w
  | [], _, h => by simp at h
  | e :: es, hl, h => by
    simp only [List.any_cons, Bool.or_eq_true, Bool.and_eq_true, beq_iff_eq] at h
    obtain ⟨h1, h2⟩ := hl
    rcases h with ⟨hb, rfl⟩ | h
    · rwa [if_pos hb] at h1
    · exact linesOf_get j h2 (by simpa using h)
theorem allLines_get {T : Nat → Value → World → Prop} {g : Nat → Value} {w : World} (d : Nat) : ∀ (j k : Nat) {l : List Oper}, allLines T g w k l → (l[j]?).bind (·.dst) = some d → T (k + j) (g d) w
  | _, _, [], _, h => by simp at h
  | 0, k, o :: os, hl, h => by
    obtain ⟨h1, h2⟩ := hl
    have h : o.dst = some d := by simpa using h
    rwa [h] at h1
  | j + 1, k, o :: os, hl, h => by
    have := allLines_get d j (k + 1) (l := os) hl.2 (by simpa using h)
    rwa [Nat.add_right_comm, Nat.add_assoc] at this
/-- What is said of a value, and stays true where the old remains. -/
structure Line where
  p : Value → World → Prop
  ext : ∀ v w w', Ext w w' → p v w → p v w'
def Line.is (x : Value) : Line := ⟨fun v _ => v = x, fun _ _ _ _ h => h⟩
def Line.free : Line := ⟨fun _ _ => True, fun _ _ _ _ h => h⟩
def linesT (Ls : List Line) (i : Nat) (v : Value) (w : World) : Prop := match Ls[i]? with | some l => l.p v w | none => True
theorem linesT_ext (Ls : List Line) (i : Nat) (v : Value) (w w' : World) (hg : Ext w w') (h : linesT Ls i v w) : linesT Ls i v w' := by
  unfold linesT at *
  cases hl : Ls[i]? with
  | none => trivial
  | some l => rw [hl] at h; exact l.ext v w w' hg h
theorem wp_region_lines {id : Nat} {a : Act} {w : World} (Ls : List Line) (ds : List Nat) (hm : P.follows .mixedOrders = true)
    (hE : edgesBack ops.toList = true) (hB : dstsIn ops ds = true) (hS : ds.all (fun d => decide (d < a.tmps.size)) = true)
    (hA : dstsApart (ops.toList.map (·.dst)) = true)
    (hob : Each (fun i o => ∀ g w', Ext w.drew w' → linesOf ops (linesT Ls) g w' o.after.toList → Stays P ops Ext (linesT Ls) i o (fillAt a ds g) w') 0 ops.toList)
    (hend : ∀ g w', Ext w.drew w' → allLines (linesT Ls) g w' 0 ops.toList → Q .normal (fillAt a ds g) w') : (Code.region id ops true).wp P Q a w :=
  wp_region_table Ext (linesT Ls) ds hm hE hB hS hA Ext.refl (fun _ _ _ => Ext.trans) (linesT_ext Ls) hob hend
theorem Stays.plain {T : Nat → Value → World → Prop} {i : Nat} {o : Oper} {a : Act} {w : World} (v : Value) (hw : Region.wanted o (yielded ops a.tmps) = true) (he : (execOp a.eval o).run P w = .ok (.value v) w) (hv : T i v w) : Stays P ops Ext T i o a w :=
  Or.inl ⟨hw, Or.inl ⟨v, w, he, Ext.refl w, hv⟩⟩
theorem Stays.call {T : Nat → Value → World → Prop} {i : Nat} {o : Oper} {a : Act} {w : World} (f : FuncId) (args : Array Value) (hw : Region.wanted o (yielded ops a.tmps) = true) (he : (execOp a.eval o).run P w = .ok (.enter f args) w)
    (hc : Calls P f args w fun e w' => ∃ v, e = .returned v ∧ Ext w w' ∧ T i v w') : Stays P ops Ext T i o a w :=
  Or.inl ⟨hw, Or.inr (Or.inl ⟨f, args, he, hc⟩)⟩
theorem Stays.off {T : Nat → Value → World → Prop} {i : Nat} {o : Oper} {a : Act} {w : World} (hw : Region.wanted o (yielded ops a.tmps) = false) (hv : T i undef w) : Stays P ops Ext T i o a w :=
  Or.inr ⟨hw, hv⟩
theorem Stays.skip {T : Nat → Value → World → Prop} {i : Nat} {o : Oper} {a : Act} {w : World} (hw : Region.wanted o (yielded ops a.tmps) = true) (he : (execOp a.eval o).run P w = .ok .skip w) (hv : T i undef w) : Stays P ops Ext T i o a w :=
  Or.inl ⟨hw, Or.inr (Or.inr ⟨he, hv⟩)⟩
end
end
section
open Go.ChangeShapes Go.WideShapes Go.ChangeAt Go.RowKit
section
variable {P : Program} {ops : Array Oper} {Q : Exit → Act → World → Prop} {R : World → World → Prop} {T : Nat → Value → World → Prop} {ds : List Nat} {a0 : Act} {w0 : World}
/-- Does operation j stand behind operation i? -/
def behind (ops : Array Oper) : Nat → Nat → Nat → Bool
  | 0, _, _ => false
  | f + 1, j, i => match ops[j]? with | some o => o.after.toList.any fun e => Region.binds .any e && (e.on == i || behind ops f e.on i) | none => false
def behindAll (ops : Array Oper) (j : Nat) : Bool := (List.range j).all fun i => behind ops ops.size j i
def tailOk (ops : Array Oper) (m : Nat) : Bool := (List.range ops.size).all fun j => decide (j < m) || behindAll ops j
/-- What is listed stands behind what is listed. -/
def Shut (ops : Array Oper) (listed : Array Bool) : Prop := ∀ i o, ops[i]? = some o → listed.getD i false = true → ∀ e ∈ o.after, Region.binds .any e = true → listed.getD e.on false = true
theorem behind_listed {listed : Array Bool} (hc : Shut ops listed) : ∀ (f j i : Nat) (o : Oper), ops[j]? = some o → (∀ e ∈ o.after, Region.binds .any e = true → listed.getD e.on false = true) → behind ops f j i = true → listed.getD i false = true
  | 0, _, _, _, _, _, h => by simp [behind] at h
  | f + 1, j, i, o, ho, hd, h => by
    rw [behind, ho] at h
    simp only [List.any_eq_true, Bool.and_eq_true, Bool.or_eq_true, beq_iff_eq] at h
    obtain ⟨e, he, hb, h⟩ := h
    have he' : e ∈ o.after := by simpa using he
    have hl := hd e he' hb
    rcases h with h | h
    · rw [← h]; exact hl
    · cases hoe : ops[e.on]? with
      | none => cases f <;> simp [behind, hoe] at h
      | some oe => exact behind_listed hc f e.on i oe hoe (fun e2 h2 hb2 => hc e.on oe hoe hl e2 h2 hb2) h
theorem getD_setB {l : Array Bool} {i j : Nat} (hi : i < l.size) : (l.setIfInBounds i true).getD j false = if j = i then true else l.getD j false := by
  by_cases h : j = i
  · subst h; simp [hi]
  · rw [if_neg h]
    simp [Array.getD_eq_getD_getElem?, Array.getElem?_setIfInBounds_ne (Ne.symm h)]
theorem shut_set {listed : Array Bool} (hc : Shut ops listed) {j : Nat} {o : Oper} (hj : j < listed.size) (ho : ops[j]? = some o) (hd : ∀ e ∈ o.after, Region.binds .any e = true → listed.getD e.on false = true) : Shut ops (listed.setIfInBounds j true) := by
  intro i oi hi hl e he hb
  rw [getD_setB hj] at hl ⊢
  by_cases h : e.on = j
  · rw [if_pos h]
  · rw [if_neg h]
    by_cases hij : i = j
    · subst hij
      obtain rfl : oi = o := Option.some.inj (hi.symm.trans ho)
      exact hd e he hb
    · rw [if_neg hij] at hl
      exact hc i oi hi hl e he hb
theorem tailOk_at {m : Nat} (h : tailOk ops m = true) {j i : Nat} (hj : j < ops.size) (hm : m ≤ j) (hi : i < j) : behind ops ops.size j i = true := by
  simp only [tailOk, List.all_eq_true, List.mem_range, Bool.or_eq_true, decide_eq_true_eq] at h
  have := (h j hj).resolve_left (by omega)
  simp only [behindAll, List.all_eq_true, List.mem_range] at this
  exact this i hi
theorem count_setB {listed : Array Bool} {j fuel : Nat} (hl0 : listed[j]? = some false) (hc : listed.toList.count false ≤ fuel + 1) : (listed.setIfInBounds j true).toList.count false ≤ fuel := by
  have := count_set (l := listed.toList) (i := j) (by simpa using hl0)
  simp only [Array.toList_setIfInBounds]
  omega
theorem ready_nil_of_zero {listed : Array Bool} (hs : listed.size = ops.size) (hc : listed.toList.count false ≤ 0) : Region.ready .any ops listed = [] := by
  rcases hq : Region.ready .any ops listed with _ | ⟨j, js⟩
  · rfl
  · exfalso
    have hj : j ∈ Region.ready .any ops listed := by rw [hq]; simp
    obtain ⟨h0, o, ho, _⟩ := mem_ready.1 hj
    have hlt : j < listed.size := by rw [hs]; exact (Array.getElem?_eq_some_iff.1 ho).1
    have : (false : Bool) ∈ listed.toList := by
      have h1 : listed[j] = false := by simpa [hlt] using h0
      rw [← h1]; simp
    have := List.count_pos_iff.2 this
    omega
theorem drop_nil_of {l : List Oper} {k : Nat} (h : l.length ≤ k) : l.drop k = [] := List.drop_eq_nil_of_le h
/-- The end, one after the other. -/
theorem wpAny_end (m : Nat) (hE : edgesBack ops.toList = true) (hT : tailOk ops m = true) : ∀ (fuel k : Nat) (listed : Array Bool) (a : Act) (w : World), listed.size = ops.size → listed.toList.count false ≤ fuel → Shut ops listed → m ≤ k →
    (∀ i, i < k → listed.getD i false = true ∨ ops.size ≤ i) → (∀ i, k ≤ i → listed.getD i false = false) → wpList P ops Q (ops.toList.drop k) a w → wpAny P .any ops Q fuel listed a w := by
  have fin : ∀ {k : Nat} {listed : Array Bool} {a : Act} {w : World}, listed.size = ops.size → Region.ready .any ops listed = [] → (∀ i, k ≤ i → listed.getD i false = false) → wpList P ops Q (ops.toList.drop k) a w → Q .normal a w := by
    intro k listed a w hs hr hn h
    have hk : ops.size ≤ k := by
      rcases Nat.lt_or_ge k ops.size with hlt | hge
      · have h1 := all_listed hE hs hr k hlt
        rw [hn k (Nat.le_refl _)] at h1
        cases h1
      · exact hge
    rw [drop_nil_of (by simpa using hk)] at h
    exact h
  intro fuel
  induction fuel with
  | zero =>
    intro k listed a w hs hc _ _ _ hn h
    have hr := ready_nil_of_zero hs hc
    exact ⟨hr, fin hs hr hn h⟩
  | succ fuel ih =>
    intro k listed a w hs hc hsh hm hy hn h
    refine ⟨fun hr => fin hs hr hn h, fun j hj => ?_⟩
    obtain ⟨h0, o, ho, hdeps⟩ := mem_ready.1 hj
    have hlt : j < ops.size := (Array.getElem?_eq_some_iff.1 ho).1
    have hlt' : j < listed.size := by omega
    have hl0 : listed[j]? = some false := by simpa [hlt'] using h0
    have hlj : listed.getD j false = false := by simpa [hlt'] using h0
    have hkj : k ≤ j := by
      rcases Nat.lt_or_ge j k with hh | hh
      · rcases hy j hh with h1 | h1
        · rw [hlj] at h1; cases h1
        · omega
      · exact hh
    have hjk : j = k := by
      rcases Nat.lt_or_ge k j with hh | hh
      · have := behind_listed hsh ops.size j k o ho hdeps (tailOk_at hT hlt (by omega) hh)
        rw [hn k (Nat.le_refl _)] at this
        cases this
      · omega
    subst hjk
    have hd : ops.toList.drop j = o :: ops.toList.drop (j + 1) := by
      have hl : j < ops.toList.length := by simpa using hlt
      rw [List.drop_eq_getElem_cons hl]
      congr 1
      have h2 : ops.toList[j]? = some o := by rw [Array.getElem?_toList]; exact ho
      rw [List.getElem?_eq_getElem hl] at h2
      exact Option.some.inj h2
    rw [hd, wpList] at h
    have key : ∀ a w, wpList P ops Q (ops.toList.drop (j + 1)) a w → wpAny P .any ops Q fuel (listed.setIfInBounds j true) a w := by
      intro a w hK
      refine ih (j + 1) _ a w (by simpa using hs) (count_setB hl0 hc) (shut_set hsh hlt' ho hdeps) (by omega) ?_ ?_ hK
      · intro i hi
        rw [getD_setB hlt']
        by_cases hij : i = j
        · exact Or.inl (if_pos hij)
        · rw [if_neg hij]; exact hy i (by omega)
      · intro i hi
        rw [getD_setB hlt', if_neg (by omega)]
        exact hn i (by omega)
    unfold Go.wpOp
    simp only [ho]
    split
    · rename_i hw
      rw [if_pos hw] at h
      rcases h with h | h
      · exact Or.inl (Oper.wp_mono key h)
      · exact Or.inr h
    · rename_i hw
      rw [if_neg hw] at h
      exact key _ _ h
theorem wpAny_tail (m : Nat) (hmn : m ≤ ops.size) (hE : edgesBack ops.toList = true) (hTl : tailOk ops m = true) (hB : dstsIn (ops.toList.take m).toArray ds = true) (hS : ds.all (fun d => decide (d < a0.tmps.size)) = true)
    (hA : dstsApart ((ops.toList.take m).map (·.dst)) = true)
    (hT : ∀ i v w w', R w w' → T i v w → T i v w') (hR : ∀ u v w, R u v → R v w → R u w) (hR0 : ∀ w, R w w)
    (hob : ∀ i o, i < m → ops[i]? = some o → ∀ g w, R w0 w → (∀ e ∈ o.after, Region.binds .any e = true → lineAt ops T e.on g w) → Stays P ops R T i o (fillAt a0 ds g) w)
    (hend : ∀ g w, R w0 w → (∀ i o, i < m → ops[i]? = some o → lineAt ops T i g w) → wpList P ops Q (ops.toList.drop m) (fillAt a0 ds g) w) :
    ∀ (fuel : Nat) (listed : Array Bool) (a : Act) (w : World), listed.size = ops.size → listed.toList.count false ≤ fuel → Shut ops listed → (∀ i, m ≤ i → listed.getD i false = false) →
      Alike a0 ds a → R w0 w → (∀ i o d, i < m → ops[i]? = some o → o.dst = some d → listed.getD i false = true → T i (a.tmps.getD d undef) w) → wpAny P .any ops Q fuel listed a w := by
  have hB' : ∀ {i : Nat} {o : Oper}, i < m → ops[i]? = some o → ∀ d, o.dst = some d → d ∈ ds := by
    intro i o him hi d hd
    simp only [dstsIn, List.all_eq_true] at hB
    have hmem : o ∈ (ops.toList.take m).toArray.toList := by
      have h2 : (ops.toList.take m)[i]? = some o := by rw [List.getElem?_take, if_pos him, Array.getElem?_toList]; exact hi
      simpa using List.mem_of_getElem? h2
    have := hB o hmem
    simpa [hd] using this
  have hS' : ∀ d ∈ ds, d < a0.tmps.size := fun d hd => by
    simp only [List.all_eq_true] at hS
    exact of_decide_eq_true (hS d hd)
  have hap : ∀ {i j : Nat} {oi oj : Oper} {d : Nat}, i < m → j < m → ops[i]? = some oi → ops[j]? = some oj → oi.dst = some d → oj.dst = some d → i = j := by
    intro i j oi oj d him hjm hi hj h1 h2
    refine dstsApart_at hA (d := d) ?_ ?_
    · rw [List.getElem?_map, List.getElem?_take, if_pos him, Array.getElem?_toList, hi]; simp [h1]
    · rw [List.getElem?_map, List.getElem?_take, if_pos hjm, Array.getElem?_toList, hj]; simp [h2]
  have lines : ∀ {listed : Array Bool} {a : Act} {w : World}, (∀ i o d, i < m → ops[i]? = some o → o.dst = some d → listed.getD i false = true → T i (a.tmps.getD d undef) w) → ∀ i, i < m → listed.getD i false = true → lineAt ops T i (fun d => a.tmps.getD d undef) w := by
    intro listed a w hl i him hli
    unfold lineAt
    cases hoe : ops[i]? with
    | none => trivial
    | some oe =>
      cases hd : oe.dst with
      | none => simp [hd]
      | some d => simpa [hd] using hl i oe d him hoe hd hli
  have fin : ∀ {listed : Array Bool} {a : Act} {w : World}, (∀ i, i < m → listed.getD i false = true) → Alike a0 ds a → R w0 w → (∀ i o d, i < m → ops[i]? = some o → o.dst = some d → listed.getD i false = true → T i (a.tmps.getD d undef) w) → wpList P ops Q (ops.toList.drop m) a w := by
    intro listed a w hall ha hw hl
    have h1 := hend (fun d => a.tmps.getD d undef) w hw fun i o him _ => lines hl i him (hall i him)
    rwa [← ha.fill] at h1
  have nil : ∀ {listed : Array Bool} {a : Act} {w : World}, listed.size = ops.size → Region.ready .any ops listed = [] → (∀ i, m ≤ i → listed.getD i false = false) → Alike a0 ds a → R w0 w → (∀ i o d, i < m → ops[i]? = some o → o.dst = some d → listed.getD i false = true → T i (a.tmps.getD d undef) w) → Q .normal a w := by
    intro listed a w hs hr hn ha hw hl
    have hall := all_listed hE hs hr
    have hm : ops.size ≤ m := by
      rcases Nat.lt_or_ge m ops.size with hlt | hge
      · have h1 := hall m hlt
        rw [hn m (Nat.le_refl _)] at h1
        cases h1
      · exact hge
    have := fin (fun i hi => hall i (by omega)) ha hw hl
    rwa [drop_nil_of (by simpa using hm)] at this
  intro fuel
  induction fuel with
  | zero =>
    intro listed a w hs hc _ hn ha hw hl
    have hr := ready_nil_of_zero hs hc
    exact ⟨hr, nil hs hr hn ha hw hl⟩
  | succ fuel ih =>
    intro listed a w hs hc hsh hn ha hw hl
    by_cases hall : ∀ i, i < m → listed.getD i false = true
    · exact wpAny_end m hE hTl (fuel + 1) m listed a w hs hc hsh (Nat.le_refl _) (fun i hi => Or.inl (hall i hi)) hn (fin hall ha hw hl)
    refine ⟨fun hr => nil hs hr hn ha hw hl, fun j hj => ?_⟩
    obtain ⟨h0, o, ho, hdeps⟩ := mem_ready.1 hj
    have hlt : j < ops.size := (Array.getElem?_eq_some_iff.1 ho).1
    have hlt' : j < listed.size := by omega
    have hl0 : listed[j]? = some false := by simpa [hlt'] using h0
    have hjm : j < m := by
      rcases Nat.lt_or_ge j m with hh | hh
      · exact hh
      · exact absurd (fun i (hi : i < m) => behind_listed hsh ops.size j i o ho hdeps (tailOk_at hTl hlt hh (by omega))) hall
    have key : ∀ v w', R w w' → T j v w' → wpAny P .any ops Q fuel (listed.setIfInBounds j true) (a.put o.dst v) w' := by
      intro v w' hg hv
      refine ih _ _ _ (by simpa using hs) (count_setB hl0 hc) (shut_set hsh hlt' ho hdeps) ?_ (ha.put (hB' hjm ho) v) (hR _ _ _ hw hg) ?_
      · intro i hi
        rw [getD_setB hlt', if_neg (by omega)]
        exact hn i hi
      · intro i oi d him hi hd hli
        by_cases hij : i = j
        · subst hij
          obtain rfl : oi = o := Option.some.inj (hi.symm.trans ho)
          have hds : d < a.tmps.size := by rw [ha.size]; exact hS' d (hB' him hi d hd)
          rw [hd]
          have : ((a.put (some d) v).tmps).getD d undef = v := by simp [Act.put, hds]
          rw [this]; exact hv
        · rw [getD_setB hlt', if_neg hij] at hli
          have hne : o.dst ≠ some d := fun he => hij (hap him hjm hi ho hd he)
          have : (a.put o.dst v).tmps.getD d undef = a.tmps.getD d undef := by
            cases hod : o.dst with
            | none => rfl
            | some d' =>
              have : d' ≠ d := fun e => hne (by rw [hod, e])
              simp [Act.put, Array.getElem?_setIfInBounds_ne this]
          rw [this]
          exact hT _ _ _ _ hg (hl i oi d him hi hd hli)
    have hst := hob j o hjm ho (fun d => a.tmps.getD d undef) w hw (fun e he hb => lines hl e.on (by have := edgesBack_at hE ho he hb; omega) (hdeps e he hb))
    rw [← ha.fill] at hst
    unfold Go.wpOp
    simp only [ho]
    rcases hst with ⟨hw2, ⟨v, w', he, hg, hv⟩ | ⟨f, args, he, hcl⟩ | ⟨he, hv⟩⟩ | ⟨hw2, hv⟩
    · simp only [hw2, if_true, Oper.wp, he, Oper.upon]; exact .inl (key v w' hg hv)
    · simp only [hw2, if_true, Oper.wp, he, Oper.upon]
      refine .inl (Calls.mono hcl fun e w' ⟨v, h1, h2, h3⟩ => ?_)
      subst h1
      exact key v w' h2 h3
    · simp only [hw2, if_true, Oper.wp, he, Oper.upon]; exact .inl (key undef w (hR0 w) hv)
    · simp only [hw2, Bool.false_eq_true, if_false]; exact key undef w (hR0 w) hv
theorem wp_region_tail {id : Nat} {a : Act} {w : World} (m : Nat) (Ls : List Line) (ds : List Nat) (hm : P.follows .mixedOrders = true) (hmn : decide (m ≤ ops.size) = true)
    (hE : edgesBack ops.toList = true) (hTl : tailOk ops m = true) (hB : dstsIn (ops.toList.take m).toArray ds = true) (hS : ds.all (fun d => decide (d < a.tmps.size)) = true)
    (hA : dstsApart ((ops.toList.take m).map (·.dst)) = true)
    (hob : Each (fun i o => ∀ g w', Ext w.drew w' → linesOf ops (linesT Ls) g w' o.after.toList → Stays P ops Ext (linesT Ls) i o (fillAt a ds g) w') 0 (ops.toList.take m))
    (hend : ∀ g w', Ext w.drew w' → allLines (linesT Ls) g w' 0 (ops.toList.take m) → wpList P ops Q (ops.toList.drop m) (fillAt a ds g) w') : (Code.region id ops true).wp P Q a w := by
  refine wp_region_any hm (wpAny_tail (w0 := w.drew) (ds := ds) (a0 := a) (R := Ext) (T := linesT Ls) m (of_decide_eq_true hmn) hE hTl hB hS hA (linesT_ext Ls) (fun _ _ _ => Ext.trans) Ext.refl ?_ ?_ _ _ _ _ (by simp) (by simp) ?_ ?_ ⟨rfl, rfl, fun _ _ => rfl⟩ (Ext.refl _) ?_)
  · intro i o him hi g w' hw hl
    have h := hob.at (i := i) (by rw [List.getElem?_take, if_pos him, Array.getElem?_toList]; exact hi) g w' hw (linesOf_of fun e he => hl e (by simpa using he))
    rwa [Nat.zero_add] at h
  · intro g w' hw hl
    refine hend g w' hw (allLines_of fun i o hi => ?_)
    rw [List.getElem?_take] at hi
    split at hi
    · rename_i him
      rw [Array.getElem?_toList] at hi
      have := hl i o him hi
      unfold lineAt at this
      rw [hi] at this
      simp only [Option.bind_some] at this
      rw [Nat.zero_add]
      exact this
    · cases hi
  · intro i o _ h
    rw [Array.getD_eq_getD_getElem?, Array.getElem?_replicate] at h
    split at h <;> simp at h
  · intro i _
    rw [Array.getD_eq_getD_getElem?, Array.getElem?_replicate]
    split <;> rfl
  · intro i o d _ _ _ h
    rw [Array.getD_eq_getD_getElem?, Array.getElem?_replicate] at h
    split at h <;> simp at h
theorem Stays.made {T : Nat → Value → World → Prop} {i : Nat} {o : Oper} {a : Act} {w : World} (v : Value) (w' : World) (hw : Region.wanted o (yielded ops a.tmps) = true) (he : (execOp a.eval o).run P w = .ok (.value v) w') (hx : Ext w w') (hv : T i v w') : Stays P ops Ext T i o a w :=
  Or.inl ⟨hw, Or.inl ⟨v, w', he, hx, hv⟩⟩
end
end
section
section
variable {P : Program} {ops : Array Oper} {Q : Exit → Act → World → Prop} {R : World → World → Prop}
/-- Operation o, in state a and world w, gives a value and a world that meet K. -/
def StepF (P : Program) (ops : Array Oper) (Q : Exit → Act → World → Prop) (R : World → World → Prop) (o : Oper) (a : Act) (w : World) (K : Value → World → Prop) : Prop :=
  (Region.wanted o (yielded ops a.tmps) = true ∧
    ((∃ v w', (execOp a.eval o).run P w = .ok (.value v) w' ∧ R w w' ∧ K v w') ∨
     (∃ f args, (execOp a.eval o).run P w = .ok (.enter f args) w ∧ Calls P f args w fun e w' => ∃ v, e = .returned v ∧ R w w' ∧ K v w') ∨
     (∃ w', (execOp a.eval o).run P w = .ok .skip w' ∧ R w w' ∧ K undef w') ∨
     (∀ (a0 : Act) (K0 : Act → World → Prop), execOp a0.eval o = execOp a.eval o → (∀ v w', R w w' → K v w' → K0 (a0.put o.dst v) w') → o.wp P a0 w K0 Q ∨ (o.asks P a0 w ∧ LetsOut Q)))) ∨
  (Region.wanted o (yielded ops a.tmps) = false ∧ K undef w)
theorem StepF.same {o : Oper} {a a' : Act} {w : World} {K : Value → World → Prop} (h : StepF P ops Q R o a w K) (he : execOp a'.eval o = execOp a.eval o)
    (hw : Region.wanted o (yielded ops a'.tmps) = Region.wanted o (yielded ops a.tmps)) : StepF P ops Q R o a' w K := by
  unfold StepF at *
  rw [he, hw]
  rcases h with ⟨h0, h | h | h | h⟩ | h
  · exact Or.inl ⟨h0, Or.inl h⟩
  · exact Or.inl ⟨h0, Or.inr (Or.inl h)⟩
  · exact Or.inl ⟨h0, Or.inr (Or.inr (Or.inl h))⟩
  · exact Or.inl ⟨h0, Or.inr (Or.inr (Or.inr h))⟩
  · exact Or.inr h
theorem StepF.mono {o : Oper} {a : Act} {w : World} {K K' : Value → World → Prop} (hR : R w w) (h : StepF P ops Q R o a w K) (hK : ∀ v w', R w w' → K v w' → K' v w') : StepF P ops Q R o a w K' := by
  rcases h with ⟨h0, ⟨v, w', h1, h2, h3⟩ | ⟨f, args, h1, h2⟩ | ⟨w', h1, h2, h3⟩ | h⟩ | ⟨h0, h⟩
  · exact Or.inl ⟨h0, Or.inl ⟨v, w', h1, h2, hK _ _ h2 h3⟩⟩
  · exact Or.inl ⟨h0, Or.inr (Or.inl ⟨f, args, h1, Calls.mono h2 fun e w' ⟨v, k1, k2, k3⟩ => ⟨v, k1, k2, hK _ _ k2 k3⟩⟩)⟩
  · exact Or.inl ⟨h0, Or.inr (Or.inr (Or.inl ⟨w', h1, h2, hK _ _ h2 h3⟩))⟩
  · exact Or.inl ⟨h0, Or.inr (Or.inr (Or.inr fun a0 K0 he hk => h a0 K0 he fun v w' k1 k2 => hk v w' k1 (hK _ _ k1 k2)))⟩
  · exact Or.inr ⟨h0, hK _ _ hR h⟩
theorem StepF.wpOp {i : Nat} {o : Oper} {a : Act} {w : World} {K : Value → World → Prop} {K0 : Act → World → Prop} (hi : ops[i]? = some o) (hR : R w w) (h : StepF P ops Q R o a w K)
    (hK : ∀ v w', R w w' → K v w' → K0 (a.put o.dst v) w') : wpOp P ops Q i K0 a w := by
  unfold Go.wpOp
  simp only [hi]
  rcases h with ⟨hw, ⟨v, w', he, hg, hv⟩ | ⟨f, args, he, hcl⟩ | ⟨w', he, hg, hv⟩ | h⟩ | ⟨hw, hv⟩
  · simp only [hw, if_true, Oper.wp, he, Oper.upon]; exact .inl (hK v w' hg hv)
  · simp only [hw, if_true, Oper.wp, he, Oper.upon]
    refine .inl (Calls.mono hcl fun e w' ⟨v, h1, h2, h3⟩ => ?_)
    subst h1
    exact hK v w' h2 h3
  · simp only [hw, if_true, Oper.wp, he, Oper.upon]; exact .inl (hK undef w' hg hv)
  · simp only [hw, if_true]; exact h a K0 rfl hK
  · simp only [hw, Bool.false_eq_true, if_false]; exact hK undef w hR hv
theorem not_listed {j : Nat} {listed : Array Bool} (hr : j ∈ Region.ready .any ops listed) : listed.getD j false ≠ true := by
  intro h1
  have h0 := (mem_ready.1 hr).1
  rcases Nat.lt_or_ge j listed.size with h' | h'
  · simp [h'] at h0 h1; rw [h0] at h1; cases h1
  · simp [Array.getElem?_eq_none h'] at h1
def flow (P : Program) (ops : Array Oper) (Q : Exit → Act → World → Prop) (R : World → World → Prop) (m : Nat) : Nat → Array Bool → Act → World → Prop
  | 0, listed, a, w => (∀ i, i < m → listed.getD i false = true) ∧ wpList P ops Q (ops.toList.drop m) a w
  | fuel + 1, listed, a, w => ((∀ i, i < m → listed.getD i false = true) → wpList P ops Q (ops.toList.drop m) a w) ∧
    ∀ j ∈ Region.ready .any ops listed, j < m → ∃ oj, ops[j]? = some oj ∧ StepF P ops Q R oj a w fun v w' => flow P ops Q R m fuel (listed.setIfInBounds j true) (a.put oj.dst v) w'
theorem flow.end {m n : Nat} {listed : Array Bool} {a : Act} {w : World} (h : flow P ops Q R m n listed a w) (hl : ∀ i, i < m → listed.getD i false = true) : wpList P ops Q (ops.toList.drop m) a w := by
  cases n with
  | zero => exact h.2
  | succ n => exact h.1 hl
theorem wpAny_of_flow {m : Nat} (hmn : m ≤ ops.size) (hE : edgesBack ops.toList = true) (hTl : tailOk ops m = true) (hR0 : ∀ w, R w w) :
    ∀ (fuel n : Nat) (listed : Array Bool) (a : Act) (w : World), flow P ops Q R m n listed a w → listed.size = ops.size → listed.toList.count false ≤ fuel → Shut ops listed → (∀ i, m ≤ i → listed.getD i false = false) → wpAny P .any ops Q fuel listed a w := by
  intro fuel
  induction fuel with
  | zero =>
    intro n listed a w h hs hc hsh hn
    have hr := ready_nil_of_zero hs hc
    have hall := all_listed hE hs hr
    exact wpAny_end m hE hTl 0 m listed a w hs hc hsh (Nat.le_refl _) (fun i hi => Or.inl (hall i (by omega))) hn (h.end fun i hi => hall i (by omega))
  | succ fuel ih =>
    intro n listed a w h hs hc hsh hn
    by_cases hall : ∀ i, i < m → listed.getD i false = true
    · exact wpAny_end m hE hTl (fuel + 1) m listed a w hs hc hsh (Nat.le_refl _) (fun i hi => Or.inl (hall i hi)) hn (h.end hall)
    refine ⟨fun hr => absurd (fun i (hi : i < m) => all_listed hE hs hr i (by omega)) hall, fun j hj => ?_⟩
    obtain ⟨h0, o, ho, hdeps⟩ := mem_ready.1 hj
    have hlt : j < ops.size := (Array.getElem?_eq_some_iff.1 ho).1
    have hlt' : j < listed.size := by omega
    have hl0 : listed[j]? = some false := by simpa [hlt'] using h0
    have hjm : j < m := by
      rcases Nat.lt_or_ge j m with hh | hh
      · exact hh
      · exact absurd (fun i (hi : i < m) => behind_listed hsh ops.size j i o ho hdeps (tailOk_at hTl hlt hh (by omega))) hall
    cases n with
    | zero => exact absurd h.1 hall
    | succ n =>
      obtain ⟨oj, hoj, hst⟩ := h.2 j hj hjm
      obtain rfl : oj = o := Option.some.inj (hoj.symm.trans ho)
      refine hst.wpOp ho (hR0 w) fun v w' _ hk => ?_
      refine ih n _ _ _ hk (by simpa using hs) (count_setB hl0 hc) (shut_set hsh hlt' ho hdeps) ?_
      intro i hi
      rw [getD_setB hlt', if_neg (by omega)]
      exact hn i hi
/-- In state a, in every world that may come behind w, operation o gives v. -/
def PureF (P : Program) (ops : Array Oper) (R : World → World → Prop) (o : Oper) (v : Value) (a : Act) (w : World) : Prop :=
  (Region.wanted o (yielded ops a.tmps) = true ∧ ∀ w', R w w' → (execOp a.eval o).run P w' = .ok (.value v) w') ∨ (Region.wanted o (yielded ops a.tmps) = false ∧ v = undef)
theorem PureF.same {o : Oper} {v : Value} {a a' : Act} {w w' : World} (hR : ∀ u v w, R u v → R v w → R u w) (h : PureF P ops R o v a w) (hw' : R w w') (he : execOp a'.eval o = execOp a.eval o)
    (hw : Region.wanted o (yielded ops a'.tmps) = Region.wanted o (yielded ops a.tmps)) : PureF P ops R o v a' w' := by
  unfold PureF at *
  rw [he, hw]
  rcases h with ⟨h0, h⟩ | h
  · exact Or.inl ⟨h0, fun w'' h2 => h w'' (hR _ _ _ hw' h2)⟩
  · exact Or.inr h
theorem PureF.step {o : Oper} {v : Value} {a : Act} {w : World} {K : Value → World → Prop} (hR0 : ∀ w, R w w) (h : PureF P ops R o v a w) (hK : K v w) : StepF P ops Q R o a w K := by
  rcases h with ⟨h0, h⟩ | ⟨h0, rfl⟩
  · exact Or.inl ⟨h0, Or.inl ⟨v, w, h w (hR0 w), hR0 w, hK⟩⟩
  · exact Or.inr ⟨h0, hK⟩
theorem flow_first {m i : Nat} {oi : Oper} {v : Value} (hR0 : ∀ w, R w w) (hR : ∀ u v w, R u v → R v w → R u w) (hi : ops[i]? = some oi) (him : i < m) (hsel : ∀ (j : Nat) (o : Oper) cs b, ops[j]? = some o → o.op ≠ .select cs b) :
    ∀ (fuel : Nat) (listed : Array Bool) (a : Act) (w : World),
      (∀ j oj, ops[j]? = some oj → j ≠ i → listed.getD j true = false → (∀ e ∈ oj.after, Region.binds .any e = true → e.on ≠ i) → oi.apart ops oj = true) →
      i ∈ Region.ready .any ops listed → PureF P ops R oi v a w →
      flow P ops Q R m fuel (listed.setIfInBounds i true) (a.put oi.dst v) w → flow P ops Q R m (fuel + 1) listed a w := by
  have notall : ∀ {listed : Array Bool}, i ∈ Region.ready .any ops listed → ¬ ∀ k, k < m → listed.getD k false = true := by
    exact fun hr hall => not_listed hr (hall i him)
  intro fuel
  induction fuel with
  | zero =>
    intro listed a w _ hr hy H
    refine ⟨fun h => absurd h (notall hr), fun j hj hjm => ?_⟩
    by_cases hji : j = i
    · subst hji; exact ⟨oi, hi, hy.step hR0 H⟩
    · exfalso
      have h1 := H.1 j hjm
      have h2 : listed.getD j false = true := by rw [← h1]; exact (getD_set_ne false (Ne.symm hji)).symm
      exact not_listed hj h2
  | succ fuel ih =>
    intro listed a w hfree hr hy H
    refine ⟨fun h => absurd h (notall hr), fun j hj hjm => ?_⟩
    by_cases hji : j = i
    · subst hji; exact ⟨oi, hi, hy.step hR0 H⟩
    · obtain ⟨oj', hoj', hsj⟩ := H.2 j (ready_mono hj hji) hjm
      obtain ⟨hjun, oj, hoj, hall⟩ := mem_ready.1 hj
      obtain rfl : oj = oj' := Option.some.inj (hoj.symm.trans hoj')
      have hnot : ∀ e ∈ oj.after, Region.binds .any e = true → e.on ≠ i := fun e he hb heq => by
        exact not_listed hr (by rw [← heq]; exact hall e he hb)
      obtain ⟨a1, a2, a3⟩ := Oper.apart_spec (hfree j oj hoj hji hjun hnot)
      have hsj' := hsj.same (a' := a) (execOp_put oj (fun cs b => hsel j oj cs b hoj) a oi.dst v a1).symm (wanted_put oj a oi.dst v a1).symm
      have hfree' : ∀ k ok, ops[k]? = some ok → k ≠ i → (listed.setIfInBounds j true).getD k true = false →
          (∀ e ∈ ok.after, Region.binds .any e = true → e.on ≠ i) → oi.apart ops ok = true := fun k ok hk hki hun hno => by
        refine hfree k ok hk hki ?_ hno
        by_cases hjk : j = k
        · subst hjk; exact hjun
        · rw [getD_set_ne true hjk] at hun; exact hun
      refine ⟨oj, hoj, hsj'.mono (hR0 w) fun u w' hw' h1 => ?_⟩
      have hyi : PureF P ops R oi v (a.put oj.dst u) w' := hy.same hR hw' (execOp_put oi (fun cs b => hsel i oi cs b hi) a oj.dst u a3) (wanted_put oi a oj.dst u a3)
      refine ih (listed.setIfInBounds j true) (a.put oj.dst u) w' hfree' (ready_mono hr (Ne.symm hji)) hyi ?_
      rw [Array.setIfInBounds_comm _ _ hji, ← Act.put_comm a v u a2]
      exact h1
def listedOf (n : Nat) (l : List Nat) : Array Bool := l.foldl (fun b i => b.setIfInBounds i true) (Array.replicate n false)
theorem listedOf_snoc (n : Nat) (l : List Nat) (i : Nat) : listedOf n (l ++ [i]) = (listedOf n l).setIfInBounds i true := by simp [listedOf]
/-- The order: of each place the operation, and how it is taken: 1 as a pure one, 0 where nothing else may come up, q + 2 where q alone may come up too. -/
def flowAt (ops : Array Oper) (m : Nat) (o : List (Nat × Nat)) (k : Nat) : Bool :=
  match o[k]? with
  | some (i, p) => decide (i < m) && ((Region.ready .any ops (listedOf ops.size ((o.take k).map (·.1)))).contains i &&
      (match p with
       | 1 => Region.free .any ops (listedOf ops.size ((o.take k).map (·.1))) i
       | 0 => (Region.ready .any ops (listedOf ops.size ((o.take k).map (·.1)))).filter (fun j => decide (j < m)) == [i]
       | q + 2 => decide (q < m) && ((Region.ready .any ops (listedOf ops.size ((o.take k).map (·.1)))).filter (fun j => decide (j < m))).all fun j => j == i || j == q))
  | none => false
def flowOk (ops : Array Oper) (m : Nat) (o : List (Nat × Nat)) : Bool :=
  Region.noSelect ops && (decide (m ≤ ops.size) && (edgesBack ops.toList && (tailOk ops m && (decide (o.length = m) && ((List.range m).all (flowAt ops m o) && (List.range m).all fun i => (listedOf ops.size (o.map (·.1))).getD i false)))))
def wpF (P : Program) (ops : Array Oper) (Q : Exit → Act → World → Prop) (R : World → World → Prop) (m : Nat) (o : List (Nat × Nat)) (k : Nat) (a : Act) (w : World) : Prop :=
  flowOk ops m o = true → flow P ops Q R m (m - k) (listedOf ops.size ((o.take k).map (·.1))) a w
section
variable {m : Nat} {o : List (Nat × Nat)}
theorem flowOk_parts (h : flowOk ops m o = true) : Region.noSelect ops = true ∧ m ≤ ops.size ∧ edgesBack ops.toList = true ∧ tailOk ops m = true ∧ o.length = m ∧ (∀ k, k < m → flowAt ops m o k = true) ∧ ∀ i, i < m → (listedOf ops.size (o.map (·.1))).getD i false = true := by
  simp only [flowOk, Bool.and_eq_true, decide_eq_true_eq, List.all_eq_true, List.mem_range] at h
  obtain ⟨h1, h2, h3, h4, h5, h6, h7⟩ := h
  exact ⟨h1, h2, h3, h4, h5, h6, h7⟩
theorem take_snoc {k : Nat} {i : Nat} {p : Nat} (h : o[k]? = some (i, p)) : (o.take (k + 1)).map (·.1) = (o.take k).map (·.1) ++ [i] := by
  rw [List.take_add_one, h]; simp
theorem wpF_single {k i : Nat} {oi : Oper} {a : Act} {w : World} (hk : o[k]? = some (i, 0)) (hi : ops[i]? = some oi) (h : StepF P ops Q R oi a w fun v w' => wpF P ops Q R m o (k + 1) (a.put oi.dst v) w') (hR0 : R w w) : wpF P ops Q R m o k a w := fun hok => by
  obtain ⟨_, _, _, _, hlen, hat, _⟩ := flowOk_parts hok
  have hkm : k < m := by rw [← hlen]; exact (List.getElem?_eq_some_iff.1 hk).1
  have ha := hat k hkm
  simp only [flowAt, hk, Bool.and_eq_true, decide_eq_true_eq, beq_iff_eq] at ha
  obtain ⟨him, hc, hf⟩ := ha
  have e : m - k = (m - (k + 1)) + 1 := by omega
  rw [e]
  refine ⟨fun hall => ?_, fun j hj hjm => ?_⟩
  · exact absurd (hall i him) (not_listed (List.contains_iff_mem.1 hc))
  · have : j ∈ (Region.ready .any ops (listedOf ops.size ((o.take k).map (·.1)))).filter (fun j => decide (j < m)) := by
      rw [List.mem_filter]; exact ⟨hj, by simpa using hjm⟩
    rw [hf] at this
    obtain rfl := List.mem_singleton.1 this
    refine ⟨oi, hi, h.mono hR0 fun v w' _ hw => ?_⟩
    have := hw hok
    rw [take_snoc hk, listedOf_snoc] at this
    exact this
/-- Two operations may come up: each is taken. -/
theorem wpF_fork {o2 : List (Nat × Nat)} {k i q : Nat} {oi oq : Oper} {a : Act} {w : World} (hk : o[k]? = some (i, q + 2)) (hk2 : o2[k]? = some (q, i + 2)) (hpre : (o2.take k).map (·.1) = (o.take k).map (·.1)) (hok2 : flowOk ops m o2 = true) (hi : ops[i]? = some oi) (hq : ops[q]? = some oq) (hR0 : R w w)
    (h1 : StepF P ops Q R oi a w fun v w' => wpF P ops Q R m o (k + 1) (a.put oi.dst v) w') (h2 : StepF P ops Q R oq a w fun v w' => wpF P ops Q R m o2 (k + 1) (a.put oq.dst v) w') : wpF P ops Q R m o k a w := fun hok => by
  obtain ⟨_, _, _, _, hlen, hat, _⟩ := flowOk_parts hok
  have hkm : k < m := by rw [← hlen]; exact (List.getElem?_eq_some_iff.1 hk).1
  have ha := hat k hkm
  simp only [flowAt, hk, Bool.and_eq_true, decide_eq_true_eq, List.all_eq_true, Bool.or_eq_true, beq_iff_eq] at ha
  obtain ⟨him, hc, hqm, hf⟩ := ha
  have e : m - k = (m - (k + 1)) + 1 := by omega
  rw [e]
  refine ⟨fun hall => absurd (hall i him) (not_listed (List.contains_iff_mem.1 hc)), fun j hj hjm => ?_⟩
  have hmem : j ∈ (Region.ready .any ops (listedOf ops.size ((o.take k).map (·.1)))).filter (fun j => decide (j < m)) := by
    rw [List.mem_filter]; exact ⟨hj, by simpa using hjm⟩
  rcases hf j hmem with rfl | rfl
  · refine ⟨oi, hi, h1.mono hR0 fun v w' _ hw => ?_⟩
    have := hw hok
    rw [take_snoc hk, listedOf_snoc] at this
    exact this
  · refine ⟨oq, hq, h2.mono hR0 fun v w' _ hw => ?_⟩
    have := hw hok2
    rw [take_snoc hk2, listedOf_snoc, hpre] at this
    exact this
theorem wpF_take {k i : Nat} {oi : Oper} {v : Value} {a : Act} {w : World} (hR0 : ∀ w, R w w) (hR : ∀ u v w, R u v → R v w → R u w) (hk : o[k]? = some (i, 1)) (hi : ops[i]? = some oi) (hp : PureF P ops R oi v a w) (h : wpF P ops Q R m o (k + 1) (a.put oi.dst v) w) : wpF P ops Q R m o k a w := fun hok => by
  obtain ⟨hsel, _, _, _, hlen, hat, _⟩ := flowOk_parts hok
  have hkm : k < m := by rw [← hlen]; exact (List.getElem?_eq_some_iff.1 hk).1
  have ha := hat k hkm
  simp only [flowAt, hk, Bool.and_eq_true, decide_eq_true_eq] at ha
  obtain ⟨him, hc, hf⟩ := ha
  have e : m - k = (m - (k + 1)) + 1 := by omega
  rw [e]
  have h2 := h hok
  rw [take_snoc hk, listedOf_snoc] at h2
  exact flow_first hR0 hR hi him (Region.noSelect_spec hsel) _ _ _ _ (Region.free_spec hi hf) (List.contains_iff_mem.1 hc) hp h2
theorem wpF_done {k : Nat} {a : Act} {w : World} (hk : k = m) (h : wpList P ops Q (ops.toList.drop m) a w) : wpF P ops Q R m o k a w := fun hok => by
  obtain ⟨_, _, _, _, hlen, _, hfin⟩ := flowOk_parts hok
  subst hk
  rw [Nat.sub_self, List.take_of_length_le (by omega)]
  exact ⟨hfin, h⟩
theorem wp_region_flow {id : Nat} {a : Act} {w : World} (R : World → World → Prop) (m : Nat) (o : List (Nat × Nat)) (hm : P.follows .mixedOrders = true) (hok : flowOk ops m o = true) (hR0 : ∀ w, R w w) (h : wpF P ops Q R m o 0 a w.drew) : (Code.region id ops true).wp P Q a w := by
  obtain ⟨_, hmn, hE, hTl, hlen, _, _⟩ := flowOk_parts hok
  have hf : ∀ i, (Array.replicate ops.size false).getD i false = false := fun i => by
    rw [Array.getD_eq_getD_getElem?, Array.getElem?_replicate]
    split <;> rfl
  refine wp_region_any hm (wpAny_of_flow hmn hE hTl hR0 _ _ _ _ _ (h hok) (by simp) (by simp) ?_ ?_)
  · intro i oi _ hl
    rw [hf i] at hl; cases hl
  · intro i _
    exact hf i
theorem StepF.call {oi : Oper} {a : Act} {w : World} {K : Value → World → Prop} (f : FuncId) (args : Array Value) (hw : Region.wanted oi (yielded ops a.tmps) = true)
    (he : (execOp a.eval oi).run P w = .ok (.enter f args) w) (hc : Calls P f args w fun e w' => ∃ v, e = .returned v ∧ R w w' ∧ K v w') : StepF P ops Q R oi a w K :=
  Or.inl ⟨hw, Or.inr (Or.inl ⟨f, args, he, hc⟩)⟩
theorem StepF.made {oi : Oper} {a : Act} {w : World} {K : Value → World → Prop} (v : Value) (w' : World) (hw : Region.wanted oi (yielded ops a.tmps) = true)
    (he : (execOp a.eval oi).run P w = .ok (.value v) w') (hx : R w w') (h : K v w') : StepF P ops Q R oi a w K :=
  Or.inl ⟨hw, Or.inl ⟨v, w', he, hx, h⟩⟩
theorem StepF.off {oi : Oper} {a : Act} {w : World} {K : Value → World → Prop} (hw : Region.wanted oi (yielded ops a.tmps) = false) (h : K undef w) : StepF P ops Q R oi a w K := Or.inr ⟨hw, h⟩
/-- Steps, where old blocks stay as they are. -/
theorem wpF_pure {k i : Nat} {oi : Oper} {v : Value} {a : Act} {w : World} (hk : o[k]? = some (i, 1)) (hi : ops[i]? = some oi) (hw : Region.wanted oi (yielded ops a.tmps) = true)
    (he : ∀ ws, Ext w ws → (execOp a.eval oi).run P ws = .ok (.value v) ws) (h : wpF P ops Q Ext m o (k + 1) (a.put oi.dst v) w) : wpF P ops Q Ext m o k a w :=
  wpF_take Ext.refl (fun _ _ _ => Ext.trans) hk hi (Or.inl ⟨hw, he⟩) h
theorem wpF_off {k i : Nat} {oi : Oper} {a : Act} {w : World} (hk : o[k]? = some (i, 1)) (hi : ops[i]? = some oi) (hw : Region.wanted oi (yielded ops a.tmps) = false)
    (h : wpF P ops Q Ext m o (k + 1) (a.put oi.dst undef) w) : wpF P ops Q Ext m o k a w :=
  wpF_take Ext.refl (fun _ _ _ => Ext.trans) hk hi (Or.inr ⟨hw, rfl⟩) h
theorem wpF_offS {k i : Nat} {oi : Oper} {a : Act} {w : World} (hk : o[k]? = some (i, 0)) (hi : ops[i]? = some oi) (hw : Region.wanted oi (yielded ops a.tmps) = false)
    (h : wpF P ops Q Ext m o (k + 1) (a.put oi.dst undef) w) : wpF P ops Q Ext m o k a w :=
  wpF_single hk hi (Or.inr ⟨hw, h⟩) (Ext.refl _)
theorem wpF_call {k i : Nat} {oi : Oper} {a : Act} {w : World} (f : FuncId) (args : Array Value) (hk : o[k]? = some (i, 0)) (hi : ops[i]? = some oi) (hw : Region.wanted oi (yielded ops a.tmps) = true)
    (he : (execOp a.eval oi).run P w = .ok (.enter f args) w) (hc : Calls P f args w fun e w' => ∃ v, e = .returned v ∧ Ext w w' ∧ wpF P ops Q Ext m o (k + 1) (a.put oi.dst v) w') : wpF P ops Q Ext m o k a w :=
  wpF_single hk hi (Or.inl ⟨hw, Or.inr (Or.inl ⟨f, args, he, hc⟩)⟩) (Ext.refl _)
theorem wpF_made {k i : Nat} {oi : Oper} {a : Act} {w : World} (v : Value) (w' : World) (hk : o[k]? = some (i, 0)) (hi : ops[i]? = some oi) (hw : Region.wanted oi (yielded ops a.tmps) = true)
    (he : (execOp a.eval oi).run P w = .ok (.value v) w') (hx : Ext w w') (h : wpF P ops Q Ext m o (k + 1) (a.put oi.dst v) w') : wpF P ops Q Ext m o k a w :=
  wpF_single hk hi (Or.inl ⟨hw, Or.inl ⟨v, w', he, hx, h⟩⟩) (Ext.refl _)
theorem wp_region_flowE {id : Nat} {a : Act} {w : World} (m : Nat) (o : List (Nat × Nat)) (hm : P.follows .mixedOrders = true) (hok : flowOk ops m o = true) (h : wpF P ops Q Ext m o 0 a w.drew) : (Code.region id ops true).wp P Q a w :=
  wp_region_flow Ext m o hm hok Ext.refl h
/-- Steps, where the blocks of a set alone may turn. -/
theorem wpC_pure {S : Nat → Prop} {k i : Nat} {oi : Oper} {v : Value} {a : Act} {w : World} (hk : o[k]? = some (i, 1)) (hi : ops[i]? = some oi) (hw : Region.wanted oi (yielded ops a.tmps) = true)
    (he : ∀ ws, Chg S w ws → (execOp a.eval oi).run P ws = .ok (.value v) ws) (h : wpF P ops Q (Chg S) m o (k + 1) (a.put oi.dst v) w) : wpF P ops Q (Chg S) m o k a w :=
  wpF_take (Chg.refl S) (fun _ _ _ => Chg.trans) hk hi (Or.inl ⟨hw, he⟩) h
theorem wpC_off {S : Nat → Prop} {k i : Nat} {oi : Oper} {a : Act} {w : World} (hk : o[k]? = some (i, 1)) (hi : ops[i]? = some oi) (hw : Region.wanted oi (yielded ops a.tmps) = false)
    (h : wpF P ops Q (Chg S) m o (k + 1) (a.put oi.dst undef) w) : wpF P ops Q (Chg S) m o k a w :=
  wpF_take (Chg.refl S) (fun _ _ _ => Chg.trans) hk hi (Or.inr ⟨hw, rfl⟩) h
theorem wpC_offS {S : Nat → Prop} {k i : Nat} {oi : Oper} {a : Act} {w : World} (hk : o[k]? = some (i, 0)) (hi : ops[i]? = some oi) (hw : Region.wanted oi (yielded ops a.tmps) = false)
    (h : wpF P ops Q (Chg S) m o (k + 1) (a.put oi.dst undef) w) : wpF P ops Q (Chg S) m o k a w :=
  wpF_single hk hi (Or.inr ⟨hw, h⟩) (Chg.refl _ _)
theorem wpC_call {S : Nat → Prop} {k i : Nat} {oi : Oper} {a : Act} {w : World} (f : FuncId) (args : Array Value) (hk : o[k]? = some (i, 0)) (hi : ops[i]? = some oi) (hw : Region.wanted oi (yielded ops a.tmps) = true)
    (he : (execOp a.eval oi).run P w = .ok (.enter f args) w) (hc : Calls P f args w fun e w' => ∃ v, e = .returned v ∧ Chg S w w' ∧ wpF P ops Q (Chg S) m o (k + 1) (a.put oi.dst v) w') : wpF P ops Q (Chg S) m o k a w :=
  wpF_single hk hi (Or.inl ⟨hw, Or.inr (Or.inl ⟨f, args, he, hc⟩)⟩) (Chg.refl _ _)
theorem wpC_made {S : Nat → Prop} {k i : Nat} {oi : Oper} {a : Act} {w : World} (v : Value) (w' : World) (hk : o[k]? = some (i, 0)) (hi : ops[i]? = some oi) (hw : Region.wanted oi (yielded ops a.tmps) = true)
    (he : (execOp a.eval oi).run P w = .ok (.value v) w') (hx : Chg S w w') (h : wpF P ops Q (Chg S) m o (k + 1) (a.put oi.dst v) w') : wpF P ops Q (Chg S) m o k a w :=
  wpF_single hk hi (Or.inl ⟨hw, Or.inl ⟨v, w', he, hx, h⟩⟩) (Chg.refl _ _)
theorem wpC_store {S : Nat → Prop} {k i : Nat} {oi : Oper} {a : Act} {w : World} (w' : World) (hk : o[k]? = some (i, 0)) (hi : ops[i]? = some oi) (hw : Region.wanted oi (yielded ops a.tmps) = true)
    (he : (execOp a.eval oi).run P w = .ok .skip w') (hx : Chg S w w') (h : wpF P ops Q (Chg S) m o (k + 1) (a.put oi.dst undef) w') : wpF P ops Q (Chg S) m o k a w :=
  wpF_single hk hi (Or.inl ⟨hw, Or.inr (Or.inr (Or.inl ⟨w', he, hx, h⟩))⟩) (Chg.refl _ _)
theorem wp_region_flowC {id : Nat} {a : Act} {w : World} (S : Nat → Prop) (m : Nat) (o : List (Nat × Nat)) (hm : P.follows .mixedOrders = true) (hok : flowOk ops m o = true) (h : wpF P ops Q (Chg S) m o 0 a w.drew) : (Code.region id ops true).wp P Q a w :=
  wp_region_flow (Chg S) m o hm hok (Chg.refl S) h
end
end
end
section
abbrev Rg := Int × Int
def dr : Rg := (0, 0)
def rgFine (r : Rg) : Bool := decide (0 ≤ r.1) && (decide (r.1 < r.2) && decide (r.2 ≤ 4611686018427387903))
theorem rgFine_bd {r : Rg} (h : rgFine r = true) : 0 ≤ r.1 ∧ r.1 < r.2 ∧ r.2 ≤ 4611686018427387903 := by
  simp only [rgFine, Bool.and_eq_true, decide_eq_true_eq] at h
  omega
/-- In order, none empty, none touching the next, from a place on. -/
def rgsFrom : Int → List Rg → Bool
  | _, [] => true
  | lo, r :: rs => rgFine r && (decide (lo ≤ r.1) && rgsFrom (r.2 + 1) rs)
def isRgs (l : List Rg) : Bool := rgsFrom 0 l
def CanR : Int → List Rg → Prop
  | _, [] => True
  | lo, r :: rs => lo ≤ r.1 ∧ r.1 < r.2 ∧ CanR (r.2 + 1) rs
theorem CanR.mono {lo lo' : Int} : ∀ {rs : List Rg}, CanR lo rs → lo' ≤ lo → CanR lo' rs
  | [], _, _ => trivial
  | _ :: _, h, hl => ⟨Int.le_trans hl h.1, h.2⟩
/-- No end lies behind m. -/
def TopR (m : Int) (l : List Rg) : Prop := ∀ r ∈ l, r.2 ≤ m
theorem rgsFrom_can : ∀ {l : List Rg} {lo : Int}, rgsFrom lo l = true → CanR lo l ∧ TopR 4611686018427387903 l
  | [], _, _ => ⟨trivial, fun _ h => by simp at h⟩
  | r :: rs, lo, h => by
    simp only [rgsFrom, Bool.and_eq_true, decide_eq_true_eq] at h
    obtain ⟨h1, h2, h3⟩ := h
    have := rgFine_bd h1
    obtain ⟨k1, k2⟩ := rgsFrom_can h3
    refine ⟨⟨h2, by omega, k1⟩, fun x hx => ?_⟩
    rcases List.mem_cons.1 hx with rfl | hx
    · omega
    · exact k2 x hx
theorem can_rgsFrom : ∀ {l : List Rg} {lo : Int}, 0 ≤ lo → CanR lo l → TopR 4611686018427387903 l → rgsFrom lo l = true
  | [], _, _, _, _ => rfl
  | r :: rs, lo, h0, h, ht => by
    have h1 := h.1
    have h2 := h.2.1
    have h3 := ht r (by simp)
    simp only [rgsFrom, rgFine, Bool.and_eq_true, decide_eq_true_eq]
    exact ⟨⟨by omega, by omega, h3⟩, h1, can_rgsFrom (by omega) h.2.2 (fun x hx => ht x (by simp [hx]))⟩
def inR (l : List Rg) (n : Int) : Prop := ∃ r ∈ l, r.1 ≤ n ∧ n < r.2
theorem inR_nil (n : Int) : ¬ inR [] n := by rintro ⟨r, hr, _⟩; simp at hr
theorem inR_cons (r : Rg) (l : List Rg) (n : Int) : inR (r :: l) n ↔ (r.1 ≤ n ∧ n < r.2) ∨ inR l n := by
  simp [inR]
theorem inR_low : ∀ {l : List Rg} {lo n : Int}, CanR lo l → inR l n → lo ≤ n
  | [], _, _, _, h => absurd h (inR_nil _)
  | r :: rs, lo, n, h, hn => by
    have h1 := h.1
    rcases (inR_cons _ _ _).1 hn with k | k
    · omega
    · have := inR_low h.2.2 k
      have := h.2.1
      omega
def addRec (r : Rg) : List Rg → List Rg
  | [] => [r]
  | x :: xs => if x.2 < r.1 then x :: addRec r xs else if r.2 < x.1 then r :: x :: xs else addRec (min r.1 x.1, max r.2 x.2) xs
theorem addRec_can : ∀ (l : List Rg) (r : Rg) (lo : Int), CanR lo l → lo ≤ r.1 → r.1 < r.2 → CanR lo (addRec r l)
  | [], r, lo, _, h1, h2 => ⟨h1, h2, trivial⟩
  | x :: xs, r, lo, h, h1, h2 => by
    have k1 := h.1
    have k2 := h.2.1
    rw [addRec]
    split
    · exact ⟨k1, k2, addRec_can xs r _ h.2.2 (by omega) h2⟩
    · split
      · exact ⟨h1, h2, by omega, k2, h.2.2⟩
      · exact addRec_can xs _ lo (h.2.2.mono (by omega)) (by show lo ≤ min r.1 x.1; omega) (by show min r.1 x.1 < max r.2 x.2; omega)
theorem addRec_in : ∀ (l : List Rg) (r : Rg) (lo n : Int), CanR lo l → r.1 < r.2 → (inR (addRec r l) n ↔ (r.1 ≤ n ∧ n < r.2) ∨ inR l n)
  | [], r, _, n, _, _ => by rw [addRec, inR_cons]
  | x :: xs, r, lo, n, h, h2 => by
    have k2 := h.2.1
    rw [addRec]
    split
    · rw [inR_cons, addRec_in xs r _ n h.2.2 h2, inR_cons]
      constructor
      · rintro (h | h | h)
        · exact Or.inr (Or.inl h)
        · exact Or.inl h
        · exact Or.inr (Or.inr h)
      · rintro (h | h | h)
        · exact Or.inr (Or.inl h)
        · exact Or.inl h
        · exact Or.inr (Or.inr h)
    · split
      · rw [inR_cons]
      · rw [addRec_in xs _ _ n h.2.2 (by show min r.1 x.1 < max r.2 x.2; omega), inR_cons]
        by_cases hin : inR xs n
        · exact ⟨fun _ => Or.inr (Or.inr hin), fun _ => Or.inr hin⟩
        · constructor
          · rintro (h | h)
            · have q1 : min r.1 x.1 ≤ n := h.1
              have q2 : n < max r.2 x.2 := h.2
              by_cases q : r.1 ≤ n ∧ n < r.2
              · exact Or.inl q
              · exact Or.inr (Or.inl (by omega))
            · exact absurd h hin
          · rintro (h | h | h)
            · exact Or.inl (by show min r.1 x.1 ≤ n ∧ n < max r.2 x.2; omega)
            · exact Or.inl (by show min r.1 x.1 ≤ n ∧ n < max r.2 x.2; omega)
            · exact absurd h hin
theorem addRec_top {m : Int} : ∀ (l : List Rg) (r : Rg), TopR m l → r.2 ≤ m → TopR m (addRec r l)
  | [], r, _, h2 => fun x hx => by
    rw [addRec] at hx
    obtain rfl := List.mem_singleton.1 hx
    exact h2
  | y :: ys, r, h, h2 => by
    have h1 := h y (by simp)
    have h3 : TopR m ys := fun x hx => h x (by simp [hx])
    rw [addRec]
    split
    · intro x hx
      rcases List.mem_cons.1 hx with rfl | hx
      · exact h1
      · exact addRec_top ys r h3 h2 x hx
    · split
      · intro x hx
        rcases List.mem_cons.1 hx with rfl | hx
        · exact h2
        · exact h x hx
      · exact addRec_top ys _ h3 (by show max r.2 y.2 ≤ m; omega)
theorem addRec_length (l : List Rg) : ∀ (r : Rg), (addRec r l).length ≤ l.length + 1 := by
  induction l with
  | nil => intro r; simp [addRec]
  | cons y ys ih =>
    intro r
    rw [addRec]
    split
    · have := ih r; simp; omega
    · split
      · simp
      · have := ih (min r.1 y.1, max r.2 y.2); simp; omega
/-- The loop's round. -/
def addStep (s : Rg × Bool × List Rg) (x : Rg) : Rg × Bool × List Rg :=
  if x.2 < s.1.1 then (s.1, s.2.1, s.2.2 ++ [x]) else if s.1.2 < x.1 then (s.1, true, (if s.2.1 = true then s.2.2 else s.2.2 ++ [s.1]) ++ [x]) else ((min s.1.1 x.1, max s.1.2 x.2), s.2.1, s.2.2)
def addEnd (s : Rg × Bool × List Rg) : List Rg := if s.2.1 = true then s.2.2 else s.2.2 ++ [s.1]
theorem add_placed : ∀ (l : List Rg) (r : Rg) (out : List Rg) (lo : Int), CanR lo l → r.2 < lo → r.1 < r.2 → l.foldl addStep (r, true, out) = (r, true, out ++ l)
  | [], r, out, _, _, _, _ => by simp
  | x :: xs, r, out, lo, h, h1, h2 => by
    have k1 := h.1
    have k2 := h.2.1
    rw [List.foldl_cons]
    have e : addStep (r, true, out) x = (r, true, out ++ [x]) := by
      simp only [addStep]
      rw [if_neg (by omega), if_pos (by omega)]
      simp
    rw [e, add_placed xs r _ _ h.2.2 (by omega) h2]
    simp
theorem add_fold : ∀ (l : List Rg) (r : Rg) (out : List Rg) (lo : Int), CanR lo l → r.1 < r.2 → addEnd (l.foldl addStep (r, false, out)) = out ++ addRec r l
  | [], r, out, _, _, _ => by simp [addEnd, addRec]
  | x :: xs, r, out, lo, h, h2 => by
    have k2 := h.2.1
    rw [List.foldl_cons, addRec]
    by_cases c1 : x.2 < r.1
    · rw [if_pos c1]
      have e : addStep (r, false, out) x = (r, false, out ++ [x]) := by simp only [addStep]; rw [if_pos c1]
      rw [e, add_fold xs r _ _ h.2.2 h2]
      simp
    · rw [if_neg c1]
      by_cases c2 : r.2 < x.1
      · rw [if_pos c2]
        have e : addStep (r, false, out) x = (r, true, out ++ [r] ++ [x]) := by
          simp only [addStep]
          rw [if_neg c1, if_pos c2]
          simp
        rw [e, add_placed xs r _ _ h.2.2 (by omega) h2]
        simp [addEnd]
      · rw [if_neg c2]
        have e : addStep (r, false, out) x = ((min r.1 x.1, max r.2 x.2), false, out) := by simp only [addStep]; rw [if_neg c1, if_neg c2]
        rw [e]
        exact add_fold xs _ out _ h.2.2 (by show min r.1 x.1 < max r.2 x.2; omega)
/-- What AddRange gives. -/
def addR (l : List Rg) (r : Rg) : List Rg := if isRgs l = true ∧ rgFine r = true then addRec r l else l
end
section
set_option linter.unusedSimpArgs false
set_option linter.unusedVariables false
def b2i : Bool → Int
  | true => 1
  | false => 0
theorem b2i_t : b2i true = 1 := rfl
theorem b2i_f : b2i false = 0 := rfl
def cntP (p : Int → Bool) : Nat → Int
  | 0 => 0
  | m + 1 => cntP p m + b2i (p (m : Int))
theorem cntP_bd (p : Int → Bool) : ∀ m : Nat, 0 ≤ cntP p m ∧ cntP p m ≤ m
  | 0 => ⟨Int.le_refl _, Int.le_refl _⟩
  | m + 1 => by
    have := cntP_bd p m
    simp only [cntP]
    cases p (m : Int) <;> simp only [b2i_t, b2i_f] <;> omega
theorem cntP_congr {p q : Int → Bool} : ∀ {m : Nat}, (∀ n : Int, 0 ≤ n → n < m → p n = q n) → cntP p m = cntP q m
  | 0, _ => rfl
  | m + 1, h => by
    simp only [cntP]
    rw [cntP_congr (m := m) (fun n h0 h1 => h n h0 (by omega)), h m (by omega) (by omega)]
theorem cntP_all {p : Int → Bool} : ∀ {m : Nat}, (∀ n : Int, 0 ≤ n → n < m → p n = true) → cntP p m = m
  | 0, _ => rfl
  | m + 1, h => by
    simp only [cntP]
    rw [cntP_all (m := m) (fun n h0 h1 => h n h0 (by omega)), h m (by omega) (by omega)]
    simp only [b2i_t]; omega
theorem cntP_full {p : Int → Bool} : ∀ {m : Nat}, cntP p m = m → ∀ n : Int, 0 ≤ n → n < m → p n = true
  | 0, _, n, h0, h1 => by omega
  | m + 1, h, n, h0, h1 => by
    simp only [cntP] at h
    have := (cntP_bd p m).2
    by_cases hp : p (m : Int) = true
    · rw [hp, b2i_t] at h
      by_cases e : n = (m : Int)
      · rw [e]; exact hp
      · exact cntP_full (m := m) (by omega) n h0 (by omega)
    · rw [Bool.not_eq_true] at hp
      rw [hp, b2i_f] at h
      omega
theorem cntP_or {p q : Int → Bool} : ∀ {m : Nat}, (∀ n : Int, 0 ≤ n → n < m → ¬ (p n = true ∧ q n = true)) → cntP (fun n => p n || q n) m = cntP p m + cntP q m
  | 0, _ => rfl
  | m + 1, h => by
    simp only [cntP]
    rw [cntP_or (m := m) (fun n h0 h1 => h n h0 (by omega))]
    have := h m (by omega) (by omega)
    cases hp : p (m : Int) <;> cases hq : q (m : Int) <;> simp only [hp, hq, Bool.or_self, Bool.or_true, Bool.or_false, Bool.true_or, Bool.false_or, b2i_t, b2i_f] at this ⊢ <;> first | omega | simp at this
theorem cntP_iv {a b : Int} (h0 : 0 ≤ a) (h1 : a ≤ b) : ∀ {m : Nat}, b ≤ m → cntP (fun n => decide (a ≤ n) && decide (n < b)) m = b - a := by
  have low : ∀ m : Nat, (m : Int) ≤ a → cntP (fun n => decide (a ≤ n) && decide (n < b)) m = 0 := by
    intro m
    induction m with
    | zero => intro _; rfl
    | succ m ih =>
      intro hm
      simp only [cntP]
      rw [ih (by omega)]
      have e : (decide (a ≤ (m : Int)) && decide ((m : Int) < b)) = false := by simp; omega
      rw [e]; rfl
  have mid : ∀ m : Nat, a ≤ (m : Int) → (m : Int) ≤ b → cntP (fun n => decide (a ≤ n) && decide (n < b)) m = m - a := by
    intro m
    induction m with
    | zero => intro h _; simp only [cntP]; omega
    | succ m ih =>
      intro hm hb
      by_cases e : a ≤ (m : Int)
      · simp only [cntP]
        rw [ih e (by omega)]
        have e : (decide (a ≤ (m : Int)) && decide ((m : Int) < b)) = true := by simp; omega
        rw [e, b2i_t]; omega
      · rw [low (m + 1) (by omega)]
        omega
  intro m
  induction m with
  | zero => intro h; simp only [cntP]; omega
  | succ m ih =>
    intro h
    by_cases e : b ≤ (m : Int)
    · simp only [cntP]
      rw [ih e]
      have e : (decide (a ≤ (m : Int)) && decide ((m : Int) < b)) = false := by simp; omega
      rw [e, b2i_f]; omega
    · rw [mid (m + 1) (by omega) (by omega)]
      omega
/-- Three counts that add up to the count of the union have nothing in common. -/
theorem cntP_three (p q r : Int → Bool) : ∀ m : Nat, cntP (fun n => p n || (q n || r n)) m ≤ cntP p m + cntP q m + cntP r m ∧
    (cntP p m + cntP q m + cntP r m = cntP (fun n => p n || (q n || r n)) m → ∀ n : Int, 0 ≤ n → n < m → ¬ (p n = true ∧ q n = true) ∧ ¬ (p n = true ∧ r n = true) ∧ ¬ (q n = true ∧ r n = true))
  | 0 => ⟨Int.le_refl _, fun _ n h0 h1 => by omega⟩
  | m + 1 => by
    obtain ⟨h1, h2⟩ := cntP_three p q r m
    simp only [cntP]
    constructor
    · cases hp : p (m : Int) <;> cases hq : q (m : Int) <;> cases hr : r (m : Int) <;> simp only [hp, hq, hr, Bool.or_self, Bool.or_true, Bool.or_false, Bool.true_or, Bool.false_or, b2i_t, b2i_f] <;> omega
    · intro h n n0 n1
      by_cases e : n = (m : Int)
      · subst e
        cases hp : p (m : Int) <;> cases hq : q (m : Int) <;> cases hr : r (m : Int) <;> simp only [hp, hq, hr, Bool.or_self, Bool.or_true, Bool.or_false, Bool.true_or, Bool.false_or, b2i_t, b2i_f] at h ⊢ <;> first | omega | (simp; done) | (simp; omega)
      · refine h2 ?_ n n0 (by omega)
        cases hp : p (m : Int) <;> cases hq : q (m : Int) <;> cases hr : r (m : Int) <;> simp only [hp, hq, hr, Bool.or_self, Bool.or_true, Bool.or_false, Bool.true_or, Bool.false_or, b2i_t, b2i_f] at h <;> omega
def inRb (l : List Rg) (n : Int) : Bool := l.any fun r => decide (r.1 ≤ n) && decide (n < r.2)
theorem inRb_iff (l : List Rg) (n : Int) : inRb l n = true ↔ inR l n := by
  simp [inRb, inR]
def rgSum : List Rg → Int
  | [] => 0
  | r :: rs => (r.2 - r.1) + rgSum rs
def cntR (l : List Rg) : Int := if isRgs l = true then rgSum l else -1
theorem rgSum_cnt : ∀ {l : List Rg} {lo : Int} {m : Nat}, 0 ≤ lo → CanR lo l → TopR m l → rgSum l = cntP (inRb l) m
  | [], _, m, _, _, _ => by
    have : ∀ k : Nat, cntP (inRb []) k = 0 := by
      intro k
      induction k with
      | zero => rfl
      | succ k ih => simp only [cntP]; rw [ih]; rfl
    rw [this]; rfl
  | r :: rs, lo, m, h0, h, ht => by
    have k1 := h.1
    have k2 := h.2.1
    have ih := rgSum_cnt (l := rs) (lo := r.2 + 1) (m := m) (by omega) h.2.2 (fun x hx => ht x (by simp [hx]))
    have hr := ht r (by simp)
    have e : cntP (inRb (r :: rs)) m = cntP (fun n => (decide (r.1 ≤ n) && decide (n < r.2)) || inRb rs n) m := cntP_congr (fun n _ _ => by simp [inRb])
    rw [e, cntP_or, cntP_iv (by omega) (by omega) hr, ← ih]
    · rfl
    · intro n n0 n1 hh
      have h2 := inR_low h.2.2 ((inRb_iff rs n).1 hh.2)
      simp at hh
      omega
theorem rgSum_nonneg : ∀ {l : List Rg} {lo : Int}, CanR lo l → 0 ≤ rgSum l
  | [], _, _ => Int.le_refl _
  | r :: rs, _, h => by
    have := rgSum_nonneg h.2.2
    have := h.2.1
    simp only [rgSum]; omega
theorem rgSum_top : ∀ {l : List Rg} {lo m : Int}, CanR lo l → TopR m l → lo ≤ m → rgSum l ≤ m - lo
  | [], _, _, _, _, h => by simp only [rgSum]; omega
  | r :: rs, lo, m, h, ht, hl => by
    have k1 := h.1
    have k2 := h.2.1
    have hr := ht r (by simp)
    simp only [rgSum]
    rcases rs with _ | ⟨x, xs⟩
    · simp only [rgSum]; omega
    · have hx := ht x (by simp)
      have q1 := h.2.2.1
      have q2 := h.2.2.2.1
      have := rgSum_top h.2.2 (fun y hy => ht y (by simp [hy])) (by omega)
      omega
theorem rgSum_len : ∀ {l : List Rg} {lo : Int}, CanR lo l → (l.length : Int) ≤ rgSum l
  | [], _, _ => Int.le_refl _
  | r :: rs, _, h => by
    have := rgSum_len h.2.2
    have := h.2.1
    simp only [rgSum, List.length_cons]; omega
theorem can_ext : ∀ {l k : List Rg} {lo lo' : Int}, CanR lo l → CanR lo' k → (∀ n, inR l n ↔ inR k n) → l = k
  | [], [], _, _, _, _, _ => rfl
  | [], x :: xs, _, _, _, h, e => absurd ((e x.1).2 ((inR_cons _ _ _).2 (Or.inl ⟨Int.le_refl _, h.2.1⟩))) (inR_nil _)
  | x :: xs, [], _, _, h, _, e => absurd ((e x.1).1 ((inR_cons _ _ _).2 (Or.inl ⟨Int.le_refl _, h.2.1⟩))) (inR_nil _)
  | x :: xs, y :: ys, lo, lo', h, h', e => by
    have hx2 := h.2.1
    have hy2 := h'.2.1
    have low : ∀ n, inR (x :: xs) n → x.1 ≤ n := fun n hn => inR_low (lo := x.1) (l := x :: xs) ⟨Int.le_refl _, h.2⟩ hn
    have low' : ∀ n, inR (y :: ys) n → y.1 ≤ n := fun n hn => inR_low (lo := y.1) (l := y :: ys) ⟨Int.le_refl _, h'.2⟩ hn
    have a1 : x.1 = y.1 := by
      have p1 := low' x.1 ((e _).1 ((inR_cons _ _ _).2 (Or.inl ⟨Int.le_refl _, hx2⟩)))
      have p2 := low y.1 ((e _).2 ((inR_cons _ _ _).2 (Or.inl ⟨Int.le_refl _, hy2⟩)))
      omega
    have out : ∀ n, inR xs n → x.2 + 1 ≤ n := fun n hn => inR_low h.2.2 hn
    have out' : ∀ n, inR ys n → y.2 + 1 ≤ n := fun n hn => inR_low h'.2.2 hn
    have a2 : x.2 = y.2 := by
      rcases Int.lt_trichotomy x.2 y.2 with c | c | c
      · exfalso
        have := (e x.2).2 ((inR_cons _ _ _).2 (Or.inl ⟨by omega, c⟩))
        rcases (inR_cons _ _ _).1 this with k | k
        · omega
        · have := out _ k; omega
      · exact c
      · exfalso
        have := (e y.2).1 ((inR_cons _ _ _).2 (Or.inl ⟨by omega, c⟩))
        rcases (inR_cons _ _ _).1 this with k | k
        · omega
        · have := out' _ k; omega
    have a3 : xs = ys := by
      refine can_ext h.2.2 h'.2.2 (fun n => ?_)
      constructor
      · intro hn
        have hb := out n hn
        rcases (inR_cons _ _ _).1 ((e n).1 ((inR_cons _ _ _).2 (Or.inr hn))) with k | k
        · omega
        · exact k
      · intro hn
        have hb := out' n hn
        rcases (inR_cons _ _ _).1 ((e n).2 ((inR_cons _ _ _).2 (Or.inr hn))) with k | k
        · omega
        · exact k
    rw [a3]
    congr 1
    exact Prod.ext a1 a2
theorem top_of_in {l : List Rg} {lo m : Int} (h : CanR lo l) (hi : ∀ n, inR l n → n < m) : TopR m l := by
  intro r hr
  have : ∀ {l : List Rg} {lo : Int}, CanR lo l → r ∈ l → r.1 < r.2 := by
    intro l
    induction l with
    | nil => intro lo _ h; simp at h
    | cons x xs ih =>
      intro lo hc hx
      rcases List.mem_cons.1 hx with rfl | hx
      · exact hc.2.1
      · exact ih hc.2.2 hx
  have hlt := this h hr
  have := hi (r.2 - 1) ⟨r, hr, by omega, by omega⟩
  omega
theorem in_of_top {l : List Rg} {m : Int} (h : TopR m l) : ∀ n, inR l n → n < m := by
  rintro n ⟨r, hr, h1, h2⟩
  have := h r hr
  omega
def remOne (r x : Rg) : List Rg := (if x.1 < min x.2 r.1 then [(x.1, min x.2 r.1)] else []) ++ (if max x.1 r.2 < x.2 then [(max x.1 r.2, x.2)] else [])
def remRec (r : Rg) (l : List Rg) : List Rg := l.flatMap (remOne r)
def remR (l : List Rg) (r : Rg) : List Rg := if isRgs l = true ∧ rgFine r = true then remRec r l else l
theorem remOne_in (r x : Rg) (n : Int) (hr : r.1 < r.2) : inR (remOne r x) n ↔ (x.1 ≤ n ∧ n < x.2) ∧ ¬ (r.1 ≤ n ∧ n < r.2) := by
  have nil := inR_nil n
  unfold remOne
  split <;> split <;> simp [inR] at * <;> omega
theorem inR_append (a b : List Rg) (n : Int) : inR (a ++ b) n ↔ inR a n ∨ inR b n := by
  simp only [inR, List.mem_append]
  constructor
  · rintro ⟨r, h | h, k⟩
    · exact Or.inl ⟨r, h, k⟩
    · exact Or.inr ⟨r, h, k⟩
  · rintro (⟨r, h, k⟩ | ⟨r, h, k⟩)
    · exact ⟨r, Or.inl h, k⟩
    · exact ⟨r, Or.inr h, k⟩
theorem can_append : ∀ {a b : List Rg} {lo m : Int}, CanR lo a → TopR m a → lo ≤ m + 1 → CanR (m + 1) b → CanR lo (a ++ b)
  | [], _, _, _, _, _, hl, h => h.mono hl
  | x :: xs, b, lo, m, h, ht, hl, hb => by
    have := ht x (by simp)
    exact ⟨h.1, h.2.1, can_append h.2.2 (fun y hy => ht y (by simp [hy])) (by omega) hb⟩
theorem remOne_can (r x : Rg) (lo : Int) (hr : r.1 < r.2) (hx : lo ≤ x.1) : CanR lo (remOne r x) ∧ TopR x.2 (remOne r x) := by
  unfold remOne
  split <;> split <;> simp [CanR, TopR] <;> omega
theorem remRec_can (r : Rg) (hr : r.1 < r.2) : ∀ {l : List Rg} {lo : Int}, CanR lo l → CanR lo (remRec r l)
  | [], _, _ => trivial
  | x :: xs, lo, h => by
    have k2 := h.2.1
    obtain ⟨c, t⟩ := remOne_can r x lo hr h.1
    have := h.1
    exact can_append c t (by omega) (remRec_can r hr h.2.2)
theorem remRec_in (r : Rg) (hr : r.1 < r.2) (n : Int) : ∀ l : List Rg, inR (remRec r l) n ↔ inR l n ∧ ¬ (r.1 ≤ n ∧ n < r.2)
  | [] => by simp [remRec, inR]
  | x :: xs => by
    have e : remRec r (x :: xs) = remOne r x ++ remRec r xs := rfl
    rw [e, inR_append, remOne_in r x n hr, remRec_in r hr n xs, inR_cons]
    constructor
    · rintro (⟨h1, h2⟩ | ⟨h1, h2⟩)
      · exact ⟨Or.inl h1, h2⟩
      · exact ⟨Or.inr h1, h2⟩
    · rintro ⟨h1 | h1, h2⟩
      · exact Or.inl ⟨h1, h2⟩
      · exact Or.inr ⟨h1, h2⟩
def comOne (r x : Rg) : List Rg := if max x.1 r.1 < min x.2 r.2 then [(max x.1 r.1, min x.2 r.2)] else []
def comRec (r : Rg) (l : List Rg) : List Rg := l.flatMap (comOne r)
def comR (l : List Rg) (r : Rg) : List Rg := if isRgs l = true ∧ rgFine r = true then comRec r l else []
theorem comOne_in (r x : Rg) (n : Int) : inR (comOne r x) n ↔ (x.1 ≤ n ∧ n < x.2) ∧ (r.1 ≤ n ∧ n < r.2) := by
  have nil := inR_nil n
  unfold comOne
  split <;> simp [inR] at * <;> omega
theorem comOne_can (r x : Rg) (lo : Int) (hx : lo ≤ x.1) : CanR lo (comOne r x) ∧ TopR x.2 (comOne r x) := by
  unfold comOne
  split <;> simp [CanR, TopR] <;> omega
theorem comRec_can (r : Rg) : ∀ {l : List Rg} {lo : Int}, CanR lo l → CanR lo (comRec r l)
  | [], _, _ => trivial
  | x :: xs, lo, h => by
    have k2 := h.2.1
    obtain ⟨c, t⟩ := comOne_can r x lo h.1
    have := h.1
    exact can_append c t (by omega) (comRec_can r h.2.2)
theorem comRec_in (r : Rg) (n : Int) : ∀ l : List Rg, inR (comRec r l) n ↔ inR l n ∧ (r.1 ≤ n ∧ n < r.2)
  | [] => by simp [comRec, inR]
  | x :: xs => by
    have e : comRec r (x :: xs) = comOne r x ++ comRec r xs := rfl
    rw [e, inR_append, comOne_in r x n, comRec_in r n xs, inR_cons]
    constructor
    · rintro (⟨h1, h2⟩ | ⟨h1, h2⟩)
      · exact ⟨Or.inl h1, h2⟩
      · exact ⟨Or.inr h1, h2⟩
    · rintro ⟨h1 | h1, h2⟩
      · exact Or.inl ⟨h1, h2⟩
      · exact Or.inr ⟨h1, h2⟩
theorem comRec_length (r : Rg) : ∀ l : List Rg, (comRec r l).length ≤ l.length
  | [] => Nat.le_refl _
  | x :: xs => by
    have e : comRec r (x :: xs) = comOne r x ++ comRec r xs := rfl
    have := comRec_length r xs
    have h : (comOne r x).length ≤ 1 := by unfold comOne; split <;> simp
    rw [e, List.length_append, List.length_cons]; omega
def gapStep (g : Int) (x : Rg) : Int := if x.1 ≤ g ∧ g < x.2 then x.2 else g
def gapR (l : List Rg) (g : Int) : Int := if isRgs l = true ∧ 0 ≤ g then l.foldl gapStep g else -1
theorem gap_behind : ∀ {l : List Rg} {lo g : Int}, CanR lo l → g < lo → l.foldl gapStep g = g
  | [], _, _, _, _ => rfl
  | x :: xs, lo, g, h, hg => by
    have k1 := h.1
    have k2 := h.2.1
    rw [List.foldl_cons]
    have e : gapStep g x = g := by unfold gapStep; rw [if_neg (by omega)]
    rw [e]
    exact gap_behind h.2.2 (by omega)
/-- All below the gap is in it, the gap is not. -/
theorem gap_in : ∀ {l : List Rg} {lo g : Int}, CanR lo l → (∀ n, g ≤ n → n < l.foldl gapStep g → inR l n) ∧ ¬ inR l (l.foldl gapStep g) ∧ g ≤ l.foldl gapStep g
  | [], _, g, _ => ⟨fun n h1 h2 => by simp at h2; omega, inR_nil _, Int.le_refl _⟩
  | x :: xs, lo, g, h => by
    have k1 := h.1
    have k2 := h.2.1
    rw [List.foldl_cons]
    by_cases c : x.1 ≤ g ∧ g < x.2
    · have e : gapStep g x = x.2 := if_pos c
      rw [e, gap_behind h.2.2 (by omega)]
      refine ⟨fun n h1 h2 => (inR_cons _ _ _).2 (Or.inl ⟨by omega, h2⟩), fun hn => ?_, by omega⟩
      rcases (inR_cons _ _ _).1 hn with k | k
      · omega
      · have := inR_low h.2.2 k; omega
    · have e : gapStep g x = g := if_neg c
      rw [e]
      obtain ⟨a1, a2, a3⟩ := gap_in (g := g) h.2.2
      refine ⟨fun n h1 h2 => (inR_cons _ _ _).2 (Or.inr (a1 n h1 h2)), fun hn => ?_, a3⟩
      rcases (inR_cons _ _ _).1 hn with k | k
      · rcases Int.lt_or_le (xs.foldl gapStep g) (x.2 + 1) with q | q
        · have hlt : g < x.1 := by omega
          have := gap_behind (l := xs) (g := g) h.2.2 (by omega)
          omega
        · omega
      · exact a2 k
def joinR (p f k : List Rg) : List Rg := (f ++ k).foldl addR p
theorem fold_join : ∀ {l p : List Rg}, isRgs p = true → (∀ r ∈ l, rgFine r = true) → isRgs (l.foldl addR p) = true ∧ ∀ n, inR (l.foldl addR p) n ↔ inR p n ∨ inR l n
  | [], p, hp, _ => ⟨hp, fun n => by simp [inR_nil]⟩
  | r :: rs, p, hp, hr => by
    have hf := hr r (by simp)
    have hb := rgFine_bd hf
    obtain ⟨hc, ht⟩ := rgsFrom_can hp
    have e : addR p r = addRec r p := if_pos ⟨hp, hf⟩
    have hq : isRgs (addRec r p) = true := can_rgsFrom (Int.le_refl _) (addRec_can p r 0 hc hb.1 hb.2.1) (addRec_top p r ht hb.2.2)
    rw [List.foldl_cons, e]
    obtain ⟨a1, a2⟩ := fold_join (l := rs) hq (fun x hx => hr x (by simp [hx]))
    refine ⟨a1, fun n => ?_⟩
    rw [a2, addRec_in p r 0 n hc hb.2.1, inR_cons]
    constructor
    · rintro ((h | h) | h)
      · exact Or.inr (Or.inl h)
      · exact Or.inl h
      · exact Or.inr (Or.inr h)
    · rintro (h | h | h)
      · exact Or.inl (Or.inr h)
      · exact Or.inl (Or.inl h)
      · exact Or.inr h
theorem rgs_fine : ∀ {l : List Rg} {lo : Int}, rgsFrom lo l = true → ∀ r ∈ l, rgFine r = true
  | [], _, _, _, h => by simp at h
  | x :: xs, lo, h, r, hr => by
    simp only [rgsFrom, Bool.and_eq_true, decide_eq_true_eq] at h
    rcases List.mem_cons.1 hr with rfl | hr
    · exact h.1
    · exact rgs_fine h.2.2 r hr
theorem join_in {p f k : List Rg} (hp : isRgs p = true) (hf : isRgs f = true) (hk : isRgs k = true) : isRgs (joinR p f k) = true ∧ ∀ n, inR (joinR p f k) n ↔ inR p n ∨ (inR f n ∨ inR k n) := by
  obtain ⟨a, b⟩ := fold_join (l := f ++ k) hp (fun r hr => by
    rcases List.mem_append.1 hr with h | h
    · exact rgs_fine hf r h
    · exact rgs_fine hk r h)
  exact ⟨a, fun n => by unfold joinR; rw [b, inR_append]⟩
theorem fold_len : ∀ (l p : List Rg), (l.foldl addR p).length ≤ p.length + l.length
  | [], p => Nat.le_refl _
  | r :: rs, p => by
    have h1 := fold_len rs (addR p r)
    have h2 : (addR p r).length ≤ p.length + 1 := by
      unfold addR
      split
      · exact addRec_length p r
      · omega
    rw [List.foldl_cons, List.length_cons]; omega
/-- The last range ends behind a place. -/
def endsB (l : List Rg) (m : Int) : Bool := decide (0 < l.length) && decide (m < (l.getD (l.length - 1) dr).2)
theorem can_last : ∀ {l : List Rg} {lo : Int}, CanR lo l → 0 < l.length → ∀ r ∈ l, r.2 ≤ (l.getD (l.length - 1) dr).2
  | [], _, _, h, _, _ => by simp at h
  | [x], _, _, _, r, hr => by
    obtain rfl := List.mem_singleton.1 hr
    exact Int.le_refl _
  | x :: y :: ys, lo, h, _, r, hr => by
    have e : (x :: y :: ys).getD ((x :: y :: ys).length - 1) dr = (y :: ys).getD ((y :: ys).length - 1) dr := by simp [List.getD]
    have ih := can_last h.2.2 (by simp)
    rw [e]
    rcases List.mem_cons.1 hr with rfl | hr
    · have h1 := ih y (by simp)
      have h2 := h.2.2.1
      have h3 := h.2.2.2.1
      omega
    · exact ih r hr
theorem endsB_top {l : List Rg} {lo m : Int} (h : CanR lo l) : endsB l m = false ↔ TopR m l := by
  rcases l with _ | ⟨x, xs⟩
  · exact ⟨fun _ r hr => by simp at hr, fun _ => rfl⟩
  · have hl := can_last h (by simp)
    have hm : (x :: xs).getD ((x :: xs).length - 1) dr ∈ (x :: xs) := by
      have hlt : (x :: xs).length - 1 < (x :: xs).length := by simp
      rw [List.getD, List.getElem?_eq_getElem hlt]
      exact List.getElem_mem hlt
    constructor
    · intro he r hr
      have h1 := hl r hr
      have h2 : ¬ (m < ((x :: xs).getD ((x :: xs).length - 1) dr).2) := by
        intro hh
        unfold endsB at he
        rw [decide_eq_true hh] at he
        simp at he
      omega
    · intro ht
      have := ht _ hm
      unfold endsB
      rw [decide_eq_false (by omega : ¬ (m < ((x :: xs).getD ((x :: xs).length - 1) dr).2))]
      simp
/-- Together just the numbers below e, each in just one of them. -/
def Whole (p f k : List Rg) (e : Int) : Prop :=
  (∀ n, inR p n ∨ (inR f n ∨ inR k n) ↔ 0 ≤ n ∧ n < e) ∧ (∀ n, ¬ (inR p n ∧ inR f n) ∧ ¬ (inR p n ∧ inR k n) ∧ ¬ (inR f n ∧ inR k n))
theorem whole_sum {p f k : List Rg} {m : Nat} (hp : isRgs p = true) (hf : isRgs f = true) (hk : isRgs k = true) (h : Whole p f k m) : rgSum p + rgSum f + rgSum k = m := by
  obtain ⟨cp, -⟩ := rgsFrom_can hp
  obtain ⟨cf, -⟩ := rgsFrom_can hf
  obtain ⟨ck, -⟩ := rgsFrom_can hk
  have tp : TopR m p := top_of_in cp (fun n hn => ((h.1 n).1 (Or.inl hn)).2)
  have tf : TopR m f := top_of_in cf (fun n hn => ((h.1 n).1 (Or.inr (Or.inl hn))).2)
  have tk : TopR m k := top_of_in ck (fun n hn => ((h.1 n).1 (Or.inr (Or.inr hn))).2)
  rw [rgSum_cnt (Int.le_refl _) cp tp, rgSum_cnt (Int.le_refl _) cf tf, rgSum_cnt (Int.le_refl _) ck tk]
  have e2 : cntP (fun n => inRb f n || inRb k n) m = cntP (inRb f) m + cntP (inRb k) m := cntP_or (fun n _ _ hh => (h.2 n).2.2 ⟨(inRb_iff _ _).1 hh.1, (inRb_iff _ _).1 hh.2⟩)
  have e1 : cntP (fun n => inRb p n || (inRb f n || inRb k n)) m = cntP (inRb p) m + cntP (fun n => inRb f n || inRb k n) m := cntP_or (fun n _ _ hh => by
    have h1 := (inRb_iff _ _).1 hh.1
    rcases Bool.or_eq_true_iff.1 hh.2 with h2 | h2
    · exact (h.2 n).1 ⟨h1, (inRb_iff _ _).1 h2⟩
    · exact (h.2 n).2.1 ⟨h1, (inRb_iff _ _).1 h2⟩)
  have e3 : cntP (fun n => inRb p n || (inRb f n || inRb k n)) m = m := cntP_all (fun n n0 n1 => by
    have := (h.1 n).2 ⟨n0, n1⟩
    simp only [Bool.or_eq_true, inRb_iff]
    exact this)
  omega
theorem join_sum {p f k : List Rg} {m : Nat} (hp : isRgs p = true) (hf : isRgs f = true) (hk : isRgs k = true) (h : Whole p f k m) : rgSum (joinR p f k) = m ∧ TopR m (joinR p f k) := by
  obtain ⟨hj, hi⟩ := join_in hp hf hk
  obtain ⟨cj, -⟩ := rgsFrom_can hj
  have tj : TopR m (joinR p f k) := top_of_in cj (fun n hn => ((h.1 n).1 ((hi n).1 hn)).2)
  refine ⟨?_, tj⟩
  rw [rgSum_cnt (Int.le_refl _) cj tj]
  exact cntP_all (fun n n0 n1 => (inRb_iff _ _).2 ((hi n).2 ((h.1 n).2 ⟨n0, n1⟩)))
theorem whole_of {p f k : List Rg} {m : Nat} (hp : isRgs p = true) (hf : isRgs f = true) (hk : isRgs k = true) (h1 : rgSum p + rgSum f + rgSum k = m) (h2 : rgSum (joinR p f k) = m) (ht : TopR m (joinR p f k)) : Whole p f k m := by
  obtain ⟨hj, hi⟩ := join_in hp hf hk
  obtain ⟨cj, -⟩ := rgsFrom_can hj
  obtain ⟨cp, -⟩ := rgsFrom_can hp
  obtain ⟨cf, -⟩ := rgsFrom_can hf
  obtain ⟨ck, -⟩ := rgsFrom_can hk
  have lt := in_of_top ht
  have tp : TopR m p := top_of_in cp (fun n hn => lt n ((hi n).2 (Or.inl hn)))
  have tf : TopR m f := top_of_in cf (fun n hn => lt n ((hi n).2 (Or.inr (Or.inl hn))))
  have tk : TopR m k := top_of_in ck (fun n hn => lt n ((hi n).2 (Or.inr (Or.inr hn))))
  rw [rgSum_cnt (Int.le_refl _) cp tp, rgSum_cnt (Int.le_refl _) cf tf, rgSum_cnt (Int.le_refl _) ck tk] at h1
  rw [rgSum_cnt (Int.le_refl _) cj ht] at h2
  have e : cntP (inRb (joinR p f k)) m = cntP (fun n => inRb p n || (inRb f n || inRb k n)) m := cntP_congr (fun n _ _ => by
    rw [Bool.eq_iff_iff]
    simp only [Bool.or_eq_true, inRb_iff]
    exact hi n)
  have three := (cntP_three (inRb p) (inRb f) (inRb k) m).2 (by omega)
  have inn : ∀ n, inR p n ∨ (inR f n ∨ inR k n) → 0 ≤ n ∧ n < m := fun n hn => ⟨inR_low cj ((hi n).2 hn), lt n ((hi n).2 hn)⟩
  refine ⟨fun n => ⟨inn n, fun hn => ?_⟩, fun n => ?_⟩
  · exact (hi n).1 ((inRb_iff _ _).1 (cntP_full h2 n hn.1 hn.2))
  · simp only [inRb_iff] at three
    refine ⟨fun hh => ?_, fun hh => ?_, fun hh => ?_⟩
    · obtain ⟨n0, n1⟩ := inn n (Or.inl hh.1)
      exact (three n n0 n1).1 hh
    · obtain ⟨n0, n1⟩ := inn n (Or.inl hh.1)
      exact (three n n0 n1).2.1 hh
    · obtain ⟨n0, n1⟩ := inn n (Or.inr (Or.inl hh.1))
      exact (three n n0 n1).2.2 hh
end
section
open Go.ChangeShapes Go.WideShapes Go.ChangeAt Go.RowKit
theorem ownKnobNone : ownKnob Try.prog.godebug = none := by kernel_rfl
theorem laidOut : laidOutB Try.prog = true := by kernel_rfl
end
section
section
variable {P : Program} {ops : Array Oper} {Q : Exit → Act → World → Prop} {md : Region.Mode} {S : World → Prop}
/-- In state a, in every world that meets S, operation o leaves v in its temporary and a world that meets S. -/
def Steady (P : Program) (ops : Array Oper) (S : World → Prop) (o : Oper) (v : Value) (a : Act) : Prop :=
  (Region.wanted o (yielded ops a.tmps) = true ∧ ((∀ w, S w → (execOp a.eval o).run P w = .ok (.value v) w) ∨
    ∃ (f : FuncId) (args : Array Value), (∀ w, S w → (execOp a.eval o).run P w = .ok (.enter f args) w) ∧ ∀ w, S w → Calls P f args w fun e w' => e = .returned v ∧ S w')) ∨
  (Region.wanted o (yielded ops a.tmps) = false ∧ v = undef)
theorem Steady.of_same {o : Oper} {v : Value} {a a' : Act} (hy : Steady P ops S o v a) (he : execOp a'.eval o = execOp a.eval o)
    (hw : Region.wanted o (yielded ops a'.tmps) = Region.wanted o (yielded ops a.tmps)) : Steady P ops S o v a' := by
  unfold Steady at *
  rw [he, hw]
  exact hy
/-- Every operation that may come up is steady, whatever order is picked. -/
def wpAnyS (P : Program) (md : Region.Mode) (ops : Array Oper) (Q : Exit → Act → World → Prop) (S : World → Prop) : Nat → Array Bool → Act → Prop
  | 0, listed, a => Region.ready md ops listed = [] ∧ ∀ w, S w → Q .normal a w
  | fuel + 1, listed, a =>
    (Region.ready md ops listed = [] → ∀ w, S w → Q .normal a w) ∧
    ∀ i ∈ Region.ready md ops listed, ∃ (oi : Oper) (v : Value), ops[i]? = some oi ∧ Steady P ops S oi v a ∧ wpAnyS P md ops Q S fuel (listed.setIfInBounds i true) (a.put oi.dst v)
theorem Steady.wpOp {i : Nat} {o : Oper} {v : Value} {a : Act} (hi : ops[i]? = some o) (hy : Steady P ops S o v a)
    {K : Act → World → Prop} {w : World} (hS : S w) (h : ∀ w', S w' → K (a.put o.dst v) w') : wpOp P ops Q i K a w := by
  unfold Go.wpOp
  simp only [hi]
  rcases hy with ⟨hw, hv | ⟨f, args, he, hc⟩⟩ | ⟨hw, rfl⟩
  · simp only [hw, if_true, Oper.wp, hv w hS, Oper.upon]; exact .inl (h w hS)
  · simp only [hw, if_true, Oper.wp, he w hS, Oper.upon]
    refine .inl (Calls.mono (hc w hS) fun e w' ⟨h1, h2⟩ => ?_)
    subst h1
    exact h w' h2
  · simp only [hw, Bool.false_eq_true, if_false]; exact h w hS
theorem wpAny_of_steady : ∀ (fuel : Nat) (listed : Array Bool) (a : Act), wpAnyS P md ops Q S fuel listed a → ∀ w, S w → wpAny P md ops Q fuel listed a w
  | 0, _, _, h, w, hS => ⟨h.1, h.2 w hS⟩
  | fuel + 1, _, _, h, w, hS => ⟨fun hr => h.1 hr w hS, fun i hi => by
      obtain ⟨oi, v, h1, h2, h3⟩ := h.2 i hi
      exact h2.wpOp h1 hS fun w' hS' => wpAny_of_steady fuel _ _ h3 w' hS'⟩
/-- A steady operation that may come up now may be taken first. -/
theorem wpAnyS_first {i : Nat} {oi : Oper} {v : Value} (hi : ops[i]? = some oi) (hsel : ∀ (j : Nat) (o : Oper) cs b, ops[j]? = some o → o.op ≠ .select cs b) :
    ∀ (fuel : Nat) (listed : Array Bool) (a : Act),
      (∀ j oj, ops[j]? = some oj → j ≠ i → listed.getD j true = false → (∀ e ∈ oj.after, Region.binds md e = true → e.on ≠ i) → oi.apart ops oj = true) →
      i ∈ Region.ready md ops listed → Steady P ops S oi v a →
      wpAnyS P md ops Q S fuel (listed.setIfInBounds i true) (a.put oi.dst v) → wpAnyS P md ops Q S (fuel + 1) listed a := by
  intro fuel
  induction fuel with
  | zero =>
    intro listed a _ hr hy H
    refine ⟨fun h => (by rw [h] at hr; cases hr), fun j hj => ?_⟩
    by_cases hji : j = i
    · subst hji; exact ⟨oi, v, hi, hy, H⟩
    · have := ready_mono hj hji
      rw [H.1] at this
      cases this
  | succ fuel ih =>
    intro listed a hfree hr hy H
    refine ⟨fun h => (by rw [h] at hr; cases hr), fun j hj => ?_⟩
    by_cases hji : j = i
    · subst hji; exact ⟨oi, v, hi, hy, H⟩
    · obtain ⟨oj', u, hoj', hsj, h1⟩ := H.2 j (ready_mono hj hji)
      obtain ⟨hjun, oj, hoj, hall⟩ := mem_ready.1 hj
      obtain rfl : oj = oj' := Option.some.inj (hoj.symm.trans hoj')
      have hnot : ∀ e ∈ oj.after, Region.binds md e = true → e.on ≠ i := fun e he hb heq => by
        have h1 := hall e he hb
        have h0 := (mem_ready.1 hr).1
        rw [heq] at h1
        rcases Nat.lt_or_ge i listed.size with h' | h'
        · simp [h'] at h0 h1; rw [h0] at h1; cases h1
        · simp [Array.getElem?_eq_none h'] at h1
      obtain ⟨a1, a2, a3⟩ := Oper.apart_spec (hfree j oj hoj hji hjun hnot)
      have hsj' : Steady P ops S oj u a := hsj.of_same (execOp_put oj (fun cs b => hsel j oj cs b hoj) a oi.dst v a1).symm (wanted_put oj a oi.dst v a1).symm
      have hyi : Steady P ops S oi v (a.put oj.dst u) := hy.of_same (execOp_put oi (fun cs b => hsel i oi cs b hi) a oj.dst u a3) (wanted_put oi a oj.dst u a3)
      have hfree' : ∀ k ok, ops[k]? = some ok → k ≠ i → (listed.setIfInBounds j true).getD k true = false →
          (∀ e ∈ ok.after, Region.binds md e = true → e.on ≠ i) → oi.apart ops ok = true := fun k ok hk hki hun hno => by
        refine hfree k ok hk hki ?_ hno
        by_cases hjk : j = k
        · subst hjk; exact hjun
        · rw [getD_set_ne true hjk] at hun; exact hun
      refine ⟨oj, u, hoj, hsj', ih (listed.setIfInBounds j true) (a.put oj.dst u) hfree' (ready_mono hr (Ne.symm hji)) hyi ?_⟩
      rw [Array.setIfInBounds_comm _ _ hji, ← Act.put_comm a v u a2]
      exact h1
/-- Take number i next. -/
theorem wpAnyS_take {i : Nat} {oi : Oper} {v : Value} {fuel : Nat} {listed : Array Bool} {a : Act} (hi : ops[i]? = some oi)
    (hs : Region.noSelect ops = true) (hf : Region.free md ops listed i = true) (hr : (Region.ready md ops listed).contains i = true)
    (hy : Steady P ops S oi v a) (h : wpAnyS P md ops Q S fuel (listed.setIfInBounds i true) (a.put oi.dst v)) : wpAnyS P md ops Q S (fuel + 1) listed a :=
  wpAnyS_first hi (Region.noSelect_spec hs) fuel listed a (Region.free_spec hi hf) (by simpa using hr) hy h
theorem wpAnyS_done {listed : Array Bool} {a : Act} (hr : Region.ready md ops listed = []) (h : ∀ w, S w → Q .normal a w) : ∀ fuel, wpAnyS P md ops Q S fuel listed a
  | 0 => ⟨hr, h⟩
  | _ + 1 => ⟨fun _ => h, by rw [hr]; simp⟩
/-- The beginning. -/
theorem wp_region_steady {id : Nat} {a : Act} {w : World} (hm : P.follows .mixedOrders = true) (hS : S w.drew)
    (h : wpAnyS P .any ops Q S ops.size (Array.replicate ops.size false) a) : (Code.region id ops true).wp P Q a w :=
  wp_region_any hm (wpAny_of_steady _ _ _ h w.drew hS)
theorem Steady.plain {o : Oper} {v : Value} {a : Act} (hw : Region.wanted o (yielded ops a.tmps) = true) (h : ∀ w, S w → (execOp a.eval o).run P w = .ok (.value v) w) : Steady P ops S o v a := Or.inl ⟨hw, Or.inl h⟩
theorem Steady.off {o : Oper} {a : Act} (hw : Region.wanted o (yielded ops a.tmps) = false) : Steady P ops S o undef a := Or.inr ⟨hw, rfl⟩
theorem Steady.call {o : Oper} {v : Value} {a : Act} (f : FuncId) (args : Array Value) (hw : Region.wanted o (yielded ops a.tmps) = true) (he : ∀ w, S w → (execOp a.eval o).run P w = .ok (.enter f args) w)
    (hc : ∀ w, S w → Calls P f args w fun e w' => e = .returned v ∧ S w') : Steady P ops S o v a := Or.inl ⟨hw, Or.inr ⟨f, args, he, hc⟩⟩
/-- The first k operations are done. -/
def listedTo (n : Nat) : Nat → Array Bool
  | 0 => Array.replicate n false
  | k + 1 => (listedTo n k).setIfInBounds k true
/-- The operations may be taken in the order of the text. -/
def seqOk (md : Region.Mode) (ops : Array Oper) : Bool :=
  Region.noSelect ops && (List.range ops.size).all fun k => Region.free md ops (listedTo ops.size k) k && (Region.ready md ops (listedTo ops.size k)).contains k
theorem seqOk_at (h : seqOk md ops = true) : Region.noSelect ops = true ∧ ∀ k, k < ops.size → Region.free md ops (listedTo ops.size k) k = true ∧ (Region.ready md ops (listedTo ops.size k)).contains k = true := by
  simp only [seqOk, Bool.and_eq_true, List.all_eq_true, List.mem_range] at h
  exact h
def wpSeqS (P : Program) (ops : Array Oper) (Q : Exit → Act → World → Prop) (S : World → Prop) (k : Nat) (a : Act) : Prop :=
  seqOk .any ops = true → wpAnyS P .any ops Q S (ops.size - k) (listedTo ops.size k) a
theorem wpSeqS_take {k : Nat} {oi : Oper} {v : Value} {a : Act} (hi : ops[k]? = some oi) (hy : Steady P ops S oi v a) (h : wpSeqS P ops Q S (k + 1) (a.put oi.dst v)) : wpSeqS P ops Q S k a := fun hok => by
  obtain ⟨hs, hk⟩ := seqOk_at hok
  have hlt : k < ops.size := (Array.getElem?_eq_some_iff.1 hi).1
  obtain ⟨hf, hr⟩ := hk k hlt
  have e : ops.size - k = (ops.size - (k + 1)) + 1 := by omega
  rw [e]
  exact wpAnyS_take hi hs hf hr hy (h hok)
theorem wpSeqS_plain {k : Nat} {oi : Oper} {v : Value} {a : Act} (hi : ops[k]? = some oi) (hw : Region.wanted oi (yielded ops a.tmps) = true) (hv : ∀ w, S w → (execOp a.eval oi).run P w = .ok (.value v) w) (h : wpSeqS P ops Q S (k + 1) (a.put oi.dst v)) : wpSeqS P ops Q S k a :=
  wpSeqS_take hi (Steady.plain hw hv) h
theorem wpSeqS_off {k : Nat} {oi : Oper} {a : Act} (hi : ops[k]? = some oi) (hw : Region.wanted oi (yielded ops a.tmps) = false) (h : wpSeqS P ops Q S (k + 1) (a.put oi.dst undef)) : wpSeqS P ops Q S k a :=
  wpSeqS_take hi (Steady.off hw) h
theorem wpSeqS_call {k : Nat} {oi : Oper} {v : Value} {a : Act} (f : FuncId) (args : Array Value) (hi : ops[k]? = some oi) (hw : Region.wanted oi (yielded ops a.tmps) = true) (he : ∀ w, S w → (execOp a.eval oi).run P w = .ok (.enter f args) w)
    (hc : ∀ w, S w → Calls P f args w fun e w' => e = .returned v ∧ S w') (h : wpSeqS P ops Q S (k + 1) (a.put oi.dst v)) : wpSeqS P ops Q S k a :=
  wpSeqS_take hi (Steady.call f args hw he hc) h
theorem wpSeqS_done {k : Nat} {a : Act} (hr : Region.ready .any ops (listedTo ops.size k) = []) (h : ∀ w, S w → Q .normal a w) : wpSeqS P ops Q S k a :=
  fun _ => wpAnyS_done hr h _
/-- The beginning, in the order of the text. -/
theorem wp_region_seq {id : Nat} {a : Act} {w : World} (S : World → Prop) (hm : P.follows .mixedOrders = true) (hok : seqOk .any ops = true) (hS : S w.drew) (h : wpSeqS P ops Q S 0 a) : (Code.region id ops true).wp P Q a w :=
  wp_region_steady hm hS (h hok)
end
end
section
open Go.ChangeShapes Go.WideShapes Go.ChangeAt Go.RowKit
section
variable {P : Program} {ops : Array Oper} {Q : Exit → Act → World → Prop} {R : World → World → Prop} {I : Bool → World → Prop} {T : Nat → Value → World → Prop} {ds : List Nat} {a0 : Act} {w0 : World}
def StepsB (P : Program) (ops : Array Oper) (R : World → World → Prop) (I : Bool → World → Prop) (b : Bool) (T : Nat → Value → World → Prop) (i : Nat) (o : Oper) (a : Act) (w : World) : Prop :=
  (Region.wanted o (yielded ops a.tmps) = true ∧ ((∃ v w', (execOp a.eval o).run P w = .ok (.value v) w' ∧ R w w' ∧ I b w' ∧ T i v w') ∨
    (∃ f args, (execOp a.eval o).run P w = .ok (.enter f args) w ∧ Calls P f args w fun e w' => ∃ v, e = .returned v ∧ R w w' ∧ I b w' ∧ T i v w') ∨
    (∃ w', (execOp a.eval o).run P w = .ok .skip w' ∧ R w w' ∧ I b w' ∧ T i undef w'))) ∨
  (Region.wanted o (yielded ops a.tmps) = false ∧ R w w ∧ I b w ∧ T i undef w)
theorem StepsB.off {b : Bool} {i : Nat} {o : Oper} {a : Act} {w : World} (hw : Region.wanted o (yielded ops a.tmps) = false) (hR : R w w) (hI : I b w) (hv : T i undef w) : StepsB P ops R I b T i o a w :=
  Or.inr ⟨hw, hR, hI, hv⟩
/-- What is said of a value, and stays true under R. -/
structure LineR (R : World → World → Prop) where
  p : Value → World → Prop
  st : ∀ v w w', R w w' → p v w → p v w'
def LineR.of {R : World → World → Prop} (q : Value → Prop) : LineR R := ⟨fun v _ => q v, fun _ _ _ _ h => h⟩
end
end
section
section
variable {P : Program} {ops : Array Oper} {Q : Exit → Act → World → Prop} {R : World → World → Prop} {m : Nat} {o : List (Nat × Nat)}
theorem wpF_forkCA {o2 : List (Nat × Nat)} {k i q : Nat} {oi oq : Oper} {a : Act} {w : World} (f : FuncId) (args : Array Value) (v : Value) (w1 : World) (hk : o[k]? = some (i, q + 2)) (hk2 : o2[k]? = some (q, i + 2)) (hpre : (o2.take k).map (·.1) = (o.take k).map (·.1)) (hok2 : flowOk ops m o2 = true) (hi : ops[i]? = some oi) (hq : ops[q]? = some oq) (hR0 : R w w)
    (hwi : Region.wanted oi (yielded ops a.tmps) = true) (hwq : Region.wanted oq (yielded ops a.tmps) = true) (he : (execOp a.eval oi).run P w = .ok (.enter f args) w) (hm : (execOp a.eval oq).run P w = .ok (.value v) w1) (hx : R w w1)
    (hc : Calls P f args w fun e w' => ∃ v, e = .returned v ∧ R w w' ∧ wpF P ops Q R m o (k + 1) (a.put oi.dst v) w') (h2 : wpF P ops Q R m o2 (k + 1) (a.put oq.dst v) w1) : wpF P ops Q R m o k a w :=
  wpF_fork hk hk2 hpre hok2 hi hq hR0 (StepF.call f args hwi he hc) (StepF.made v w1 hwq hm hx h2)
end
end
end Go.Proofs.Ytjhgcbchdnoleaa

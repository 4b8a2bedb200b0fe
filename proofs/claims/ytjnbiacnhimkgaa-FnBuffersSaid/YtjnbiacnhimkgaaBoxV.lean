/-
  A box of values: what its cells hold, and what becomes of it when cells are stored. Conditions: each lemma bears its own.
-/
import Derived.Test.YtjnbiacnhimkgaaChg
namespace Go.Proofs.Ytjnbiacnhimkgaa
open Go.ChangeShapes Go.WideShapes Go.ChangeAt Go.RowKit
set_option linter.unusedSimpArgs false
set_option linter.unusedVariables false
structure BoxV (B : Nat) (w : World) (vs : List Value) : Prop where
  c : ∀ (j : Nat) (v : Value), vs[j]? = some v → w.cell? ⟨B, j, none⟩ = some v
  fr : ∀ o, w.frozen? ⟨B, o, none⟩ = false
theorem BoxV.lt {B : Nat} {w : World} {v : Value} {vs : List Value} (h : BoxV B w (v :: vs)) : B < w.heap.size := World.block_lt_of_cell? w _ (h.c 0 v rfl)
theorem BoxV.chg {S : Nat → Prop} {B : Nat} {w w' : World} {v : Value} {vs : List Value} (h : BoxV B w (v :: vs)) (hx : Chg S w w') (hS : ¬ S B) : BoxV B w' (v :: vs) := by
  obtain ⟨x, y⟩ := hx.row h.lt hS
  exact ⟨fun j u hu => (x _).trans (h.c j u hu), fun o => (y o).trans (h.fr o)⟩
theorem BoxV.ext {B : Nat} {w w' : World} {v : Value} {vs : List Value} (h : BoxV B w (v :: vs)) (hx : Ext w w') : BoxV B w' (v :: vs) := h.chg (hx.chg (fun _ => False)) (fun h => h)
theorem BoxV.new (w : World) (vs : List Value) (T : TypeId) : BoxV w.heap.size (w.alloc (.cells vs.toArray T)) vs := by
  have hb : (w.alloc (.cells vs.toArray T)).heap[w.heap.size]? = some (.cells vs.toArray T) := heap_alloc_new w _
  refine ⟨fun j v hv => ?_, fun o => ?_⟩
  · rw [cell_of_row _ w.heap.size j vs.toArray _ _ hb]
    simpa using hv
  · unfold World.frozen?
    rw [hb]
    simp
theorem cellV_oth {w : World} {b o1 o2 : Nat} {v : Value} (h : o1 ≠ o2) : (w.setCell ⟨b, o1, none⟩ v).cell? ⟨b, o2, none⟩ = w.cell? ⟨b, o2, none⟩ :=
  World.cell?_setCell_other w ⟨b, o1, none⟩ ⟨b, o2, none⟩ v (fun e => h (by injection e))
theorem BoxV.set1 {B : Nat} {w : World} {vs : List Value} (h : BoxV B w vs) {j : Nat} (hj : j < vs.length) (u : Value) :
    BoxV B (w.setCell ⟨B, j, none⟩ u) (vs.set j u) ∧ Chg (fun k => k = B) w (w.setCell ⟨B, j, none⟩ u) := by
  refine ⟨⟨fun i v hv => ?_, fun o => ?_⟩, Chg.set (S := fun k => k = B) (Or.inl rfl) (Chg.refl _ _) _⟩
  · by_cases e : i = j
    · subst e
      rw [List.getElem?_set_self hj] at hv
      obtain rfl := Option.some.inj hv
      exact World.cell?_setCell_same' _ _ _ (by rw [h.c i vs[i] (List.getElem?_eq_getElem hj)]; rfl)
    · rw [List.getElem?_set_ne (Ne.symm e)] at hv
      rw [cellV_oth (Ne.symm e)]
      exact h.c i v hv
  · rw [World.frozen?_setCell]
    exact h.fr o
/-- Cells stored one after the other. -/
def setFrom (w : World) (B : Nat) : Nat → List Value → World
  | _, [] => w
  | k, v :: vs => setFrom (w.setCell ⟨B, k, none⟩ v) B (k + 1) vs
theorem BoxV.setAll {B : Nat} : ∀ {vs us pre : List Value} {w : World}, BoxV B w (pre ++ us) → us.length = vs.length → BoxV B (setFrom w B pre.length vs) (pre ++ vs) ∧ Chg (fun k => k = B) w (setFrom w B pre.length vs)
  | [], [], pre, w, h, _ => ⟨h, Chg.refl _ _⟩
  | [], _ :: _, _, _, _, hl => by simp at hl
  | _ :: _, [], _, _, _, hl => by simp at hl
  | v :: vs, u :: us, pre, w, h, hl => by
    obtain ⟨h1, h2⟩ := h.set1 (j := pre.length) (by simp) v
    have e : (pre ++ u :: us).set pre.length v = (pre ++ [v]) ++ us := by simp
    rw [e] at h1
    obtain ⟨k1, k2⟩ := BoxV.setAll (vs := vs) (us := us) (pre := pre ++ [v]) h1 (by simpa using hl)
    have e2 : (pre ++ [v]).length = pre.length + 1 := by simp
    rw [e2] at k1 k2
    have e3 : (pre ++ [v]) ++ vs = pre ++ v :: vs := by simp
    rw [e3] at k1
    exact ⟨k1, h2.trans k2⟩
theorem BoxV.set {B : Nat} {w : World} {us : List Value} (h : BoxV B w us) (vs : List Value) (hl : us.length = vs.length) :
    BoxV B (setFrom w B 0 vs) vs ∧ Chg (fun k => k = B) w (setFrom w B 0 vs) :=
  BoxV.setAll (pre := []) h hl
end Go.Proofs.Ytjnbiacnhimkgaa

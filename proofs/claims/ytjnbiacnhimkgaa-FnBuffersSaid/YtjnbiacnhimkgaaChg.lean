/-
  Worlds in which only some blocks have turned (Chg). No condition of its own.
-/
import Derived.Test.YtjnbiacnhimkgaaBase
namespace Go.Proofs.Ytjnbiacnhimkgaa
open Go.ChangeShapes Go.WideShapes Go.ChangeAt Go.RowKit
set_option linter.unusedVariables false
/-- Only blocks in S, and new ones, have turned. -/
structure Chg (S : Nat → Prop) (w w' : World) : Prop where
  os : w'.os = w.os
  tape : w'.tape = w.tape
  output : w'.output = w.output
  size : w.heap.size ≤ w'.heap.size
  block : ∀ k, k < w.heap.size → ¬ S k → w'.heap[k]? = w.heap[k]?
theorem Chg.refl (S : Nat → Prop) (w : World) : Chg S w w := ⟨rfl, rfl, rfl, Nat.le_refl _, fun _ _ _ => rfl⟩
theorem Chg.trans {S : Nat → Prop} {a b c : World} (h : Chg S a b) (k : Chg S b c) : Chg S a c :=
  ⟨k.os.trans h.os, k.tape.trans h.tape, k.output.trans h.output, Nat.le_trans h.size k.size, fun i hi hS => (k.block i (Nat.lt_of_lt_of_le hi h.size) hS).trans (h.block i hi hS)⟩
theorem Chg.mono {S T : Nat → Prop} {a b : World} (h : Chg S a b) (hST : ∀ k, k < a.heap.size → S k → T k) : Chg T a b :=
  ⟨h.os, h.tape, h.output, h.size, fun k hk hT => h.block k hk fun hS => hT (hST k hk hS)⟩
theorem Ext.chg {a b : World} (h : Ext a b) (S : Nat → Prop) : Chg S a b :=
  have k : Below a.heap.size a b := h
  ⟨k.os, k.tape, k.output, k.size, fun i hi _ => k.block i hi⟩
theorem Chg.ext {S : Nat → Prop} {a b : World} (h : Chg S a b) (hS : ∀ k, k < a.heap.size → ¬ S k) : Ext a b :=
  (show Below a.heap.size a b from ⟨h.os, h.tape, h.output, h.size, fun i hi => h.block i hi (hS i hi)⟩)
theorem Chg.alloc {S : Nat → Prop} {a b : World} (h : Chg S a b) (o : Obj) : Chg S a (b.alloc o) := h.trans ((Ext.refl b).alloc o |>.chg S)
theorem Chg.drew {S : Nat → Prop} {a b : World} (h : Chg S a b) : Chg S a b.drew := h.trans ((Ext.refl b).drew |>.chg S)
theorem Chg.drewN {S : Nat → Prop} {a b : World} (h : Chg S a b) (n : Nat) : Chg S a (b.drewN n) := h.trans ((Ext.refl b).drewN n |>.chg S)
theorem Chg.set {S : Nat → Prop} {a b : World} {p : Addr} (hp : S p.block ∨ a.heap.size ≤ p.block) (h : Chg S a b) (u : Value) : Chg S a (b.setCell p u) :=
  ⟨h.os, h.tape, h.output, by simpa [World.setCell] using h.size, fun k hk hS => by
    rw [Below.heap_setCell _ _ _ _ (by
      rcases hp with hp | hp
      · intro e; subst e; exact hS hp
      · omega)]
    exact h.block k hk hS⟩
theorem Chg.row {S : Nat → Prop} {W w1 : World} (h : Chg S W w1) {k : Nat} (hk : k < W.heap.size) (hS : ¬ S k) : (∀ o, w1.cell? ⟨k, o, none⟩ = W.cell? ⟨k, o, none⟩) ∧ (∀ o, w1.frozen? ⟨k, o, none⟩ = W.frozen? ⟨k, o, none⟩) :=
  ⟨fun o => World.cell?_of_block (w := W) (h.block k hk hS), fun o => World.frozen?_of_block (w := W) (h.block k hk hS)⟩
theorem Chg.more {S : Nat → Prop} {W w1 : World} (h : Chg S W w1) {k : Nat} (hk : k < W.heap.size) : k < w1.heap.size := Nat.lt_of_lt_of_le hk h.size

theorem lt_of_block {w : World} {p : Nat} {o : Obj} (h : w.heap[p]? = some o) : p < w.heap.size := (Array.getElem?_eq_some_iff.1 h).1
theorem block_set {w : World} {g i : Nat} {cs : Array Value} {t : TypeId} {fr : Nat × Nat} (h : w.heap[g]? = some (.cells cs t fr)) (v : Value) : (w.setCell ⟨g, i, none⟩ v).heap[g]? = some (.cells (cs.setIfInBounds i v) t fr) := by
  simp [World.setCell, Array.getElem?_modify, h]
end Go.Proofs.Ytjnbiacnhimkgaa

/-
  Slices of ints: what they hold (ReadS, OwnS), and contracts of the laws' helpers on them: szIntS, eqIntS, heldIntS, markIntS, toIntS. Conditions: the slices can be read (for markIntS: written).
-/
import Derived.Test.YtjnbiacnhimkgaaLawKit
import Derived.Test.YtjnbiacnhimkgaaChg
import Derived.Deep.QuietTactic
import Derived.BigQuiet
import Derived.LoopTactic
import Derived.Deep.OwnRows
namespace Go.Proofs.Ytjnbiacnhimkgaa
open Go.ChangeShapes Go.WideShapes Go.ChangeAt Go.RowKit
set_option linter.unusedSimpArgs false
set_option linter.unusedVariables false

/-- The slice's first cells hold xs. -/
def ReadS (w : World) (ao : Option Addr) (xs : List Int) : Prop :=
  xs = [] ∨ ∃ b off : Nat, ao = some ⟨b, off, none⟩ ∧ ∀ j : Nat, j < xs.length → w.cell? ⟨b, off + j, none⟩ = some (.int .i64 (xs.getD j 0))
/-- Likewise, in a block from lo up to hi, which may be written. -/
def OwnS (lo hi : Nat) (w : World) (ao : Option Addr) (xs : List Int) : Prop :=
  xs = [] ∨ ∃ b off : Nat, ao = some ⟨b, off, none⟩ ∧ lo ≤ b ∧ b < hi ∧ (∀ o, w.frozen? ⟨b, o, none⟩ = false) ∧ ∀ j : Nat, j < xs.length → w.cell? ⟨b, off + j, none⟩ = some (.int .i64 (xs.getD j 0))
theorem OwnS.read {lo hi : Nat} {w : World} {ao : Option Addr} {xs : List Int} (h : OwnS lo hi w ao xs) : ReadS w ao xs := by
  rcases h with h | ⟨b, off, h1, _, _, _, h2⟩
  · exact Or.inl h
  · exact Or.inr ⟨b, off, h1, h2⟩
theorem ReadS.ext {w w' : World} {ao : Option Addr} {xs : List Int} (h : ReadS w ao xs) (hx : Ext w w') : ReadS w' ao xs := by
  rcases h with h | ⟨b, off, h1, h2⟩
  · exact Or.inl h
  · refine Or.inr ⟨b, off, h1, fun j hj => ?_⟩
    have := h2 j hj
    rw [(hx.row (World.block_lt_of_cell? w _ this)).1]
    exact this
theorem OwnS.chg {lo hi : Nat} {S : Nat → Prop} {w w' : World} {ao : Option Addr} {xs : List Int} (h : OwnS lo hi w ao xs) (hx : Chg S w w') (hS : ∀ b, lo ≤ b → b < hi → ¬ S b) : OwnS lo hi w' ao xs := by
  rcases h with h | ⟨b, off, h1, h2, h3, h4, h5⟩
  · exact Or.inl h
  · rcases xs with _ | ⟨x, xs⟩
    · exact Or.inl rfl
    · have hb := World.block_lt_of_cell? w _ (h5 0 (by simp))
      obtain ⟨r1, r2⟩ := hx.row hb (hS b h2 h3)
      exact Or.inr ⟨b, off, h1, h2, h3, fun o => by rw [r2]; exact h4 o, fun j hj => by rw [r1]; exact h5 j hj⟩

theorem OwnS.mono {lo hi lo' hi' : Nat} {w : World} {ao : Option Addr} {xs : List Int} (h : OwnS lo hi w ao xs) (h1 : lo' ≤ lo) (h2 : hi ≤ hi') : OwnS lo' hi' w ao xs := by
  rcases h with h | ⟨b, off, k1, k2, k3, k4, k5⟩
  · exact Or.inl h
  · exact Or.inr ⟨b, off, k1, Nat.le_trans h1 k2, Nat.lt_of_lt_of_le k3 h2, k4, k5⟩
theorem cell_set_other {w : World} {b o1 o2 : Nat} {v : Value} (h : o1 ≠ o2) : (w.setCell ⟨b, o1, none⟩ v).cell? ⟨b, o2, none⟩ = w.cell? ⟨b, o2, none⟩ :=
  World.cell?_setCell_other w ⟨b, o1, none⟩ ⟨b, o2, none⟩ v (fun e => h (by injection e))
theorem take_succ_getD (xs : List Int) {k : Nat} (hk : k < xs.length) : xs.take (k + 1) = xs.take k ++ [xs.getD k 0] := by
  rw [List.take_succ_eq_append_getElem hk]; simp [List.getD, List.getElem?_eq_getElem hk]
theorem take_succ_eq {xs ys : List Int} {k : Nat} (hk : k < xs.length) (hk2 : k < ys.length) (h : xs.take k = ys.take k) (e : xs.getD k 0 = ys.getD k 0) : xs.take (k + 1) = ys.take (k + 1) := by
  rw [take_succ_getD xs hk, take_succ_getD ys hk2, h, e]
theorem ne_of_getD {xs ys : List Int} {k : Nat} (e : ¬ xs.getD k 0 = ys.getD k 0) : ¬ xs = ys := fun h => e (by rw [h])
/-- k, k + 1, .. -/
def marks (k : Int) (n : Nat) : List Int := (List.range n).map fun i : Nat => k + (i : Int)
theorem marks_length (k : Int) (n : Nat) : (marks k n).length = n := by simp [marks]
theorem marks_getD (k : Int) (n j : Nat) (h : j < n) : (marks k n).getD j 0 = k + (j : Int) := by
  simp [marks, List.getD, List.getElem?_map, List.getElem?_range h]
/-- What markIntS leaves. -/
def Marked (lo hi : Nat) (ao : Option Addr) (k0 : Int) (n : Nat) (w : World) (e : Ending) (w' : World) : Prop :=
  e = .returned (.int .i64 (k0 + n)) ∧ OwnS lo hi w' ao (marks k0 n) ∧ Chg (fun b => lo ≤ b ∧ b < hi) w w'
/-- A new slice that holds xs. -/
def NewInts (xs : List Int) (w : World) (e : Ending) (w' : World) : Prop :=
  ∃ (ao : Option Addr) (cap : Nat), e = .returned (.slice ao xs.length cap) ∧ OwnS w.heap.size w'.heap.size w' ao xs ∧ Ext w w'
theorem infoInt : (Try.prog.info? 3).map (fun i => (i.zero, i.size, i.bytes)) = some (some (.int .i64 0), 1, 8) := by kernel_rfl
end Go.Proofs.Ytjnbiacnhimkgaa

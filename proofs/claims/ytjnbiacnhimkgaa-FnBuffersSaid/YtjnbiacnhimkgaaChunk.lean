/-
  Slices of chunks: what they hold (ReadC, OwnC), and contracts of the laws' helpers on them. Conditions: the slices can be read.
-/
import Derived.Test.YtjnbiacnhimkgaaLawKit
import Derived.Test.YtjnbiacnhimkgaaChg
import Derived.Deep.QuietTactic
import Derived.BigQuiet
import Derived.LoopTactic
import Derived.Deep.OwnRows
namespace Go.Proofs.Ytjnbiacnhimkgaa
open Go.ChangeShapes Go.WideShapes Go.ChangeAt Go.RowKit
set_option linter.unusedSimpArgs false
/-- A chunk: its offset and its bytes. -/
abbrev Ck := Int × ByteArray
def dk : Ck := (0, ⟨#[]⟩)
/-- The chunks behind a slice's address can be read. -/
def ReadC (w : World) (ao : Option Addr) (cs : List Ck) : Prop :=
  cs = [] ∨ ∃ b off : Nat, ao = some ⟨b, off, none⟩ ∧ ∀ j : Nat, j < cs.length → w.cell? ⟨b, off + j * 2, none⟩ = some (.int .i64 (cs.getD j dk).1) ∧ w.cell? ⟨b, off + j * 2 + 1, none⟩ = some (.string (cs.getD j dk).2)
def OwnC (lo hi : Nat) (w : World) (ao : Option Addr) (cs : List Ck) : Prop :=
  cs = [] ∨ ∃ b off : Nat, ao = some ⟨b, off, none⟩ ∧ lo ≤ b ∧ b < hi ∧ (∀ o, w.frozen? ⟨b, o, none⟩ = false) ∧ ∀ j : Nat, j < cs.length → w.cell? ⟨b, off + j * 2, none⟩ = some (.int .i64 (cs.getD j dk).1) ∧ w.cell? ⟨b, off + j * 2 + 1, none⟩ = some (.string (cs.getD j dk).2)
theorem OwnC.read {lo hi : Nat} {w : World} {ao : Option Addr} {cs : List Ck} (h : OwnC lo hi w ao cs) : ReadC w ao cs := by
  rcases h with h | ⟨b, off, h1, _, _, _, h2⟩
  · exact Or.inl h
  · exact Or.inr ⟨b, off, h1, h2⟩
theorem ReadC.ext {w w' : World} {ao : Option Addr} {cs : List Ck} (h : ReadC w ao cs) (hx : Ext w w') : ReadC w' ao cs := by
  rcases h with h | ⟨b, off, h1, h2⟩
  · exact Or.inl h
  · refine Or.inr ⟨b, off, h1, fun j hj => ?_⟩
    obtain ⟨k1, k2⟩ := h2 j hj
    have hr := (hx.row (World.block_lt_of_cell? w _ k1)).1
    exact ⟨(hr _).trans k1, (hr _).trans k2⟩
theorem OwnC.chg {lo hi : Nat} {S : Nat → Prop} {w w' : World} {ao : Option Addr} {cs : List Ck} (h : OwnC lo hi w ao cs) (hx : Chg S w w') (hS : ∀ b, lo ≤ b → b < hi → ¬ S b) : OwnC lo hi w' ao cs := by
  rcases h with h | ⟨b, off, h1, h2, h3, h4, h5⟩
  · exact Or.inl h
  · rcases cs with _ | ⟨c, cs⟩
    · exact Or.inl rfl
    · have hb := World.block_lt_of_cell? w _ (h5 0 (by simp)).1
      have hr := hx.row hb (hS b h2 h3)
      refine Or.inr ⟨b, off, h1, h2, h3, fun o => (hr.2 o).trans (h4 o), fun j hj => ?_⟩
      obtain ⟨k1, k2⟩ := h5 j hj
      exact ⟨(hr.1 _).trans k1, (hr.1 _).trans k2⟩
theorem OwnC.mono {lo hi lo' hi' : Nat} {w : World} {ao : Option Addr} {cs : List Ck} (h : OwnC lo hi w ao cs) (h1 : lo' ≤ lo) (h2 : hi ≤ hi') : OwnC lo' hi' w ao cs := by
  rcases h with h | ⟨b, off, k1, k2, k3, k4, k5⟩
  · exact Or.inl h
  · exact Or.inr ⟨b, off, k1, Nat.le_trans h1 k2, Nat.lt_of_lt_of_le k3 h2, k4, k5⟩
/-- All bytes of chunks. -/
def tot (cs : List Ck) : Nat := (cs.map fun c => c.2.size).sum
theorem takeC_succ (cs : List Ck) {k : Nat} (hk : k < cs.length) : cs.take (k + 1) = cs.take k ++ [cs.getD k dk] := by
  rw [List.take_succ_eq_append_getElem hk]; simp [List.getD, List.getElem?_eq_getElem hk]
theorem tot_take (cs : List Ck) {k : Nat} (hk : k < cs.length) : tot (cs.take (k + 1)) = tot (cs.take k) + (cs.getD k dk).2.size := by
  rw [takeC_succ cs hk]; simp [tot]
theorem tot_take_le (cs : List Ck) (k : Nat) : tot (cs.take k) ≤ tot cs := by
  have h : tot cs = tot (cs.take k) + tot (cs.drop k) := by
    unfold tot
    rw [← List.sum_append_nat, ← List.map_append, List.take_append_drop]
  omega
theorem takeC_eq {xs ys : List Ck} {k : Nat} (hk : k < xs.length) (hk2 : k < ys.length) (h : xs.take k = ys.take k) (e : xs.getD k dk = ys.getD k dk) : xs.take (k + 1) = ys.take (k + 1) := by
  rw [takeC_succ xs hk, takeC_succ ys hk2, h, e]
theorem ne_of_getC {xs ys : List Ck} {k : Nat} (e : ¬ xs.getD k dk = ys.getD k dk) : ¬ xs = ys := fun h => e (by rw [h])
theorem text_eq (s u : ByteArray) : (s.toList == u.toList) = decide (s = u) := by
  rw [ByteArray.toList_eq, ByteArray.toList_eq]
  by_cases h : s = u
  · subst h; simp
  · have : s.data.toList ≠ u.data.toList := fun h2 => h (bytes_inj h2)
    rw [decide_eq_false h]
    exact beq_eq_false_iff_ne.2 this
end Go.Proofs.Ytjnbiacnhimkgaa

/-
  Rows of ints of the call's own.
-/
import Derived.Test.YtjhgcbchdnoleaaInts
import Derived.Test.YtjhgcbchdnoleaaRowV
namespace Go.Proofs.Ytjhgcbchdnoleaa
open Go.ChangeShapes Go.WideShapes Go.ChangeAt Go.RowKit
set_option linter.unusedSimpArgs false
section
theorem ReadS.v {w : World} {ao : Option Addr} {xs : List Int} (h : ReadS w ao xs) : ReadV w ao (xs.map (Value.int .i64)) := by
  rcases h with rfl | ⟨b, off, h1, h2⟩
  · exact Or.inl rfl
  · refine Or.inr ⟨b, off, h1, fun j u hj => ?_⟩
    rw [List.getElem?_map] at hj
    rcases hx : xs[j]? with _ | x
    · rw [hx] at hj; cases hj
    · rw [hx] at hj
      obtain rfl := Option.some.inj hj
      obtain ⟨hlt, hgx⟩ := List.getElem?_eq_some_iff.1 hx
      rw [h2 j hlt]
      simp [List.getD, hx]
theorem ints_one (xs : List Int) : ∀ u ∈ xs.map (Value.int .i64), u.oneCell' = true := by
  intro u hu
  simp only [List.mem_map] at hu
  obtain ⟨x, _, rfl⟩ := hu
  rfl
/-- A row of ints of the call's own. -/
theorem own_ints {w : World} {base : Nat} {e : TypeId} {v : Value} {n : Nat} {xs : List Int} (h : w.ownsRow base e 1 v n (xs.map (Value.int .i64))) :
    ∃ (ao : Option Addr) (cap : Nat), v = .slice ao xs.length cap ∧ xs.length = n ∧ OwnS base w.heap.size w ao xs := by
  obtain ⟨hl, ⟨rfl, rfl⟩ | ⟨g, cap, cur, rfl, hb, hblk, hle, _, hsz, htake⟩⟩ := h
  · have hx : xs = [] := by simpa using hl
    subst hx
    exact ⟨none, 0, rfl, rfl, Or.inl rfl⟩
  · have hl' : xs.length = n := by simpa using hl
    refine ⟨some ⟨g, 0, none⟩, cap, by rw [hl'], hl', Or.inr ⟨g, 0, rfl, hb, lt_of_block hblk, fun o => by simp [World.frozen?, hblk], fun j hj => ?_⟩⟩
    rw [Nat.zero_add, cell_of_row w g j cur _ _ hblk, ← Array.getElem?_toList]
    have h1 := congrArg (fun l => l[j]?) htake
    simp only [Nat.mul_one, List.getElem?_take, (by omega : j < n), if_true, List.getElem?_map] at h1
    rw [h1]
    simp [List.getElem?_eq_getElem hj, List.getD]
/-- Ints of the call's own, the block known whole, with its type. -/
def OwnT (e lo hi : Nat) (w : World) (ao : Option Addr) (xs : List Int) : Prop :=
  xs = [] ∨ ∃ (b off : Nat) (arr : Array Value), ao = some ⟨b, off, none⟩ ∧ lo ≤ b ∧ b < hi ∧ w.heap[b]? = some (.cells arr e (0, 0)) ∧ ∀ j : Nat, j < xs.length → arr[off + j]? = some (.int .i64 (xs.getD j 0))
theorem OwnT.own {e lo hi : Nat} {w : World} {ao : Option Addr} {xs : List Int} (h : OwnT e lo hi w ao xs) : OwnS lo hi w ao xs := by
  rcases h with h | ⟨b, off, arr, h1, h2, h3, h4, h5⟩
  · exact Or.inl h
  · exact Or.inr ⟨b, off, h1, h2, h3, fun o => by simp [World.frozen?, h4], fun j hj => by rw [cell_of_row w b (off + j) arr _ _ h4]; exact h5 j hj⟩
theorem OwnT.chg {e lo hi : Nat} {S : Nat → Prop} {w w' : World} {ao : Option Addr} {xs : List Int} (h : OwnT e lo hi w ao xs) (hx : Chg S w w') (hS : ∀ b arr, lo ≤ b → b < hi → w.heap[b]? = some (.cells arr e (0, 0)) → ¬ S b) : OwnT e lo hi w' ao xs := by
  rcases h with h | ⟨b, off, arr, h1, h2, h3, h4, h5⟩
  · exact Or.inl h
  · exact Or.inr ⟨b, off, arr, h1, h2, h3, by rw [hx.block b (lt_of_block h4) (hS b arr h2 h3 h4)]; exact h4, h5⟩
theorem OwnT.mono {e lo hi lo' hi' : Nat} {w : World} {ao : Option Addr} {xs : List Int} (h : OwnT e lo hi w ao xs) (h1 : lo' ≤ lo) (h2 : hi ≤ hi') : OwnT e lo' hi' w ao xs := by
  rcases h with h | ⟨b, off, arr, k1, k2, k3, k4, k5⟩
  · exact Or.inl h
  · exact Or.inr ⟨b, off, arr, k1, Nat.le_trans h1 k2, Nat.lt_of_lt_of_le k3 h2, k4, k5⟩
theorem own_intsT {w : World} {base : Nat} {e : TypeId} {v : Value} {n : Nat} {xs : List Int} (h : w.ownsRow base e 1 v n (xs.map (Value.int .i64))) :
    ∃ (ao : Option Addr) (cap : Nat), v = .slice ao xs.length cap ∧ xs.length = n ∧ OwnT e base w.heap.size w ao xs := by
  obtain ⟨hl, ⟨rfl, rfl⟩ | ⟨g, cap, cur, rfl, hb, hblk, hle, _, hsz, htake⟩⟩ := h
  · have hx : xs = [] := by simpa using hl
    subst hx
    exact ⟨none, 0, rfl, rfl, Or.inl rfl⟩
  · have hl' : xs.length = n := by simpa using hl
    refine ⟨some ⟨g, 0, none⟩, cap, by rw [hl'], hl', Or.inr ⟨g, 0, cur, rfl, hb, lt_of_block hblk, hblk, fun j hj => ?_⟩⟩
    rw [Nat.zero_add, ← Array.getElem?_toList]
    have h1 := congrArg (fun l => l[j]?) htake
    simp only [Nat.mul_one, List.getElem?_take, (by omega : j < n), if_true, List.getElem?_map] at h1
    rw [h1]
    simp [List.getElem?_eq_getElem hj, List.getD]
end
end Go.Proofs.Ytjhgcbchdnoleaa

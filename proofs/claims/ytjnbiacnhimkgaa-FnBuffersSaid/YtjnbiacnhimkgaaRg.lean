/-
  Rows of ranges: what they hold (ReadR, OwnR). Conditions: the slices can be read.
-/
import Derived.Test.YtjnbiacnhimkgaaRgP
import Derived.Test.YtjnbiacnhimkgaaChg
import Derived.Test.YtjnbiacnhimkgaaRowV
import Derived.Deep.QuietTactic
import Derived.BigQuiet
import Derived.LoopTactic
import Derived.Deep.OwnRows
namespace Go.Proofs.Ytjnbiacnhimkgaa
open Go.ChangeShapes Go.WideShapes Go.ChangeAt Go.RowKit
set_option linter.unusedSimpArgs false
set_option linter.unusedVariables false
/-- The ranges behind a slice's address can be read. -/
def ReadR (w : World) (ao : Option Addr) (rs : List Rg) : Prop :=
  rs = [] ∨ ∃ b off : Nat, ao = some ⟨b, off, none⟩ ∧ ∀ j : Nat, j < rs.length → w.cell? ⟨b, off + j * 2, none⟩ = some (.int .i64 (rs.getD j dr).1) ∧ w.cell? ⟨b, off + j * 2 + 1, none⟩ = some (.int .i64 (rs.getD j dr).2)
def OwnR (lo hi : Nat) (w : World) (ao : Option Addr) (rs : List Rg) : Prop :=
  rs = [] ∨ ∃ b off : Nat, ao = some ⟨b, off, none⟩ ∧ lo ≤ b ∧ b < hi ∧ (∀ o, w.frozen? ⟨b, o, none⟩ = false) ∧ ∀ j : Nat, j < rs.length → w.cell? ⟨b, off + j * 2, none⟩ = some (.int .i64 (rs.getD j dr).1) ∧ w.cell? ⟨b, off + j * 2 + 1, none⟩ = some (.int .i64 (rs.getD j dr).2)
theorem OwnR.read {lo hi : Nat} {w : World} {ao : Option Addr} {rs : List Rg} (h : OwnR lo hi w ao rs) : ReadR w ao rs := by
  rcases h with h | ⟨b, off, h1, _, _, _, h2⟩
  · exact Or.inl h
  · exact Or.inr ⟨b, off, h1, h2⟩
theorem ReadR.ext {w w' : World} {ao : Option Addr} {rs : List Rg} (h : ReadR w ao rs) (hx : Ext w w') : ReadR w' ao rs := by
  rcases h with h | ⟨b, off, h1, h2⟩
  · exact Or.inl h
  · refine Or.inr ⟨b, off, h1, fun j hj => ?_⟩
    obtain ⟨k1, k2⟩ := h2 j hj
    have hr := (hx.row (World.block_lt_of_cell? w _ k1)).1
    exact ⟨(hr _).trans k1, (hr _).trans k2⟩
theorem OwnR.chg {lo hi : Nat} {S : Nat → Prop} {w w' : World} {ao : Option Addr} {rs : List Rg} (h : OwnR lo hi w ao rs) (hx : Chg S w w') (hS : ∀ b, lo ≤ b → b < hi → ¬ S b) : OwnR lo hi w' ao rs := by
  rcases h with h | ⟨b, off, h1, h2, h3, h4, h5⟩
  · exact Or.inl h
  · rcases rs with _ | ⟨c, rs⟩
    · exact Or.inl rfl
    · have hb := World.block_lt_of_cell? w _ (h5 0 (by simp)).1
      have hr := hx.row hb (hS b h2 h3)
      refine Or.inr ⟨b, off, h1, h2, h3, fun o => (hr.2 o).trans (h4 o), fun j hj => ?_⟩
      obtain ⟨k1, k2⟩ := h5 j hj
      exact ⟨(hr.1 _).trans k1, (hr.1 _).trans k2⟩
theorem OwnR.mono {lo hi lo' hi' : Nat} {w : World} {ao : Option Addr} {rs : List Rg} (h : OwnR lo hi w ao rs) (h1 : lo' ≤ lo) (h2 : hi ≤ hi') : OwnR lo' hi' w ao rs := by
  rcases h with h | ⟨b, off, k1, k2, k3, k4, k5⟩
  · exact Or.inl h
  · exact Or.inr ⟨b, off, k1, Nat.le_trans h1 k2, Nat.lt_of_lt_of_le k3 h2, k4, k5⟩
/-- The cells of ranges. -/
def rgCells (rs : List Rg) : List Value := rs.flatMap fun r => [.int .i64 r.1, .int .i64 r.2]
theorem rgCells_length : ∀ rs : List Rg, (rgCells rs).length = rs.length * 2
  | [] => rfl
  | r :: rs => by
    have := rgCells_length rs
    simp only [rgCells, List.flatMap_cons, List.length_append, List.length_cons, List.length_nil] at *
    omega
theorem rgCells_at : ∀ (rs : List Rg) (j : Nat), j < rs.length → (rgCells rs)[j * 2]? = some (.int .i64 (rs.getD j dr).1) ∧ (rgCells rs)[j * 2 + 1]? = some (.int .i64 (rs.getD j dr).2)
  | [], _, h => absurd h (by simp)
  | r :: rs, 0, _ => ⟨rfl, rfl⟩
  | r :: rs, j + 1, h => by
    have := rgCells_at rs j (by simpa using h)
    have e : (j + 1) * 2 = j * 2 + 2 := by omega
    rw [e]
    exact this
theorem rgCells_one (rs : List Rg) : ∀ u ∈ rgCells rs, u.oneCell' = true := by
  intro u hu
  simp only [rgCells, List.mem_flatMap] at hu
  obtain ⟨r, _, hu⟩ := hu
  simp only [List.mem_cons, List.not_mem_nil, or_false] at hu
  rcases hu with rfl | rfl <;> rfl
theorem rgCells_app (ls : List Rg) (r : Rg) : rgCells ls ++ [.int .i64 r.1, .int .i64 r.2] = rgCells (ls ++ [r]) := by
  simp [rgCells]
theorem ReadR.v {w : World} {ao : Option Addr} {rs : List Rg} (h : ReadR w ao rs) : ReadV w ao (rgCells rs) := by
  rcases h with rfl | ⟨b, off, h1, h2⟩
  · exact Or.inl rfl
  · refine Or.inr ⟨b, off, h1, fun j u hu => ?_⟩
    have hlt : j < (rgCells rs).length := by
      rcases Nat.lt_or_ge j (rgCells rs).length with h | h
      · exact h
      · rw [List.getElem?_eq_none h] at hu; cases hu
    rw [rgCells_length] at hlt
    have hk : j / 2 < rs.length := by omega
    obtain ⟨a1, a2⟩ := rgCells_at rs (j / 2) hk
    obtain ⟨b1, b2⟩ := h2 (j / 2) hk
    rcases Nat.mod_two_eq_zero_or_one j with h0 | h0
    · have e : j / 2 * 2 = j := by omega
      rw [e] at a1 b1
      rw [hu] at a1
      rw [b1, Option.some.inj a1]
    · have e : j / 2 * 2 + 1 = j := by omega
      rw [e] at a2
      rw [Nat.add_assoc, e] at b2
      rw [hu] at a2
      rw [b2, Option.some.inj a2]
/-- A row of ranges of the call's own. -/
theorem own_ranges {w : World} {base : Nat} {e : TypeId} {v : Value} {n : Nat} {rs : List Rg} (h : w.ownsRow base e 2 v n (rgCells rs)) :
    ∃ (ao : Option Addr) (cap : Nat), v = .slice ao rs.length cap ∧ rs.length = n ∧ OwnR base w.heap.size w ao rs := by
  obtain ⟨hl, ⟨rfl, rfl⟩ | ⟨g, cap, cur, rfl, hb, hblk, hle, _, hsz, htake⟩⟩ := h
  · have hx : rs = [] := by
      rw [rgCells_length] at hl
      exact List.eq_nil_of_length_eq_zero (by omega)
    subst hx
    exact ⟨none, 0, rfl, rfl, Or.inl rfl⟩
  · have hl' : rs.length = n := by rw [rgCells_length] at hl; omega
    refine ⟨some ⟨g, 0, none⟩, cap, by rw [hl'], hl', Or.inr ⟨g, 0, rfl, hb, lt_of_block hblk, fun o => by simp [World.frozen?, hblk], fun j hj => ?_⟩⟩
    obtain ⟨k1, k2⟩ := rgCells_at rs j hj
    have h1 := congrArg (fun l => l[j * 2]?) htake
    have h2 := congrArg (fun l => l[j * 2 + 1]?) htake
    simp only [List.getElem?_take, (by omega : j * 2 < n * 2), (by omega : j * 2 + 1 < n * 2), if_true] at h1 h2
    constructor
    · rw [Nat.zero_add, cell_of_row w g (j * 2) cur _ _ hblk, ← Array.getElem?_toList, h1]; exact k1
    · rw [Nat.zero_add, cell_of_row w g (j * 2 + 1) cur _ _ hblk, ← Array.getElem?_toList, h2]; exact k2
end Go.Proofs.Ytjnbiacnhimkgaa

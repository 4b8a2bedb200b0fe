/-
  Chunks as rows of cells, two to a chunk: for append.
-/
import Derived.Test.YtjnbiacnhimkgaaChunk
import Derived.Test.YtjnbiacnhimkgaaRowV
namespace Go.Proofs.Ytjnbiacnhimkgaa
open Go.ChangeShapes Go.WideShapes Go.ChangeAt Go.RowKit
set_option linter.unusedSimpArgs false
/-- The cells of chunks. -/
def ckCells (cs : List Ck) : List Value := cs.flatMap fun c => [.int .i64 c.1, .string c.2]
theorem ckCells_length : ∀ cs : List Ck, (ckCells cs).length = cs.length * 2
  | [] => rfl
  | c :: cs => by
    have := ckCells_length cs
    simp only [ckCells, List.flatMap_cons, List.length_append, List.length_cons, List.length_nil] at this ⊢
    omega
theorem ckCells_at : ∀ (cs : List Ck) (j : Nat), j < cs.length → (ckCells cs)[j * 2]? = some (.int .i64 (cs.getD j dk).1) ∧ (ckCells cs)[j * 2 + 1]? = some (.string (cs.getD j dk).2)
  | [], _, h => absurd h (by simp)
  | c :: cs, 0, _ => ⟨rfl, rfl⟩
  | c :: cs, j + 1, h => by
    have := ckCells_at cs j (by simpa using h)
    have e1 : (j + 1) * 2 = j * 2 + 2 := by omega
    rw [e1]
    simpa [ckCells, List.getD] using this
theorem ckCells_one (cs : List Ck) : ∀ u ∈ ckCells cs, u.oneCell' = true := by
  intro u hu
  simp only [ckCells, List.mem_flatMap, List.mem_cons, List.not_mem_nil, or_false] at hu
  obtain ⟨c, _, rfl | rfl⟩ := hu <;> rfl
theorem ReadC.v {w : World} {ao : Option Addr} {cs : List Ck} (h : ReadC w ao cs) : ReadV w ao (ckCells cs) := by
  rcases h with rfl | ⟨b, off, h1, h2⟩
  · exact Or.inl rfl
  · refine Or.inr ⟨b, off, h1, fun j u hj => ?_⟩
    have hlt : j < cs.length * 2 := by
      have := (List.getElem?_eq_some_iff.1 hj).1
      rwa [ckCells_length] at this
    obtain ⟨k1, k2⟩ := ckCells_at cs (j / 2) (by omega)
    obtain ⟨d1, d2⟩ := h2 (j / 2) (by omega)
    rcases Nat.mod_two_eq_zero_or_one j with hm | hm
    · have e : j / 2 * 2 = j := by omega
      rw [e] at k1 d1
      rw [k1] at hj
      rw [d1, hj]
    · have e : j / 2 * 2 + 1 = j := by omega
      rw [e] at k2
      rw [k2] at hj
      have e2 : off + j / 2 * 2 + 1 = off + j := by omega
      rw [e2] at d2
      rw [d2, hj]
theorem own_chunks {w : World} {base : Nat} {e : TypeId} {v : Value} {n : Nat} {cs : List Ck} (h : w.ownsRow base e 2 v n (ckCells cs)) :
    ∃ (ao : Option Addr) (cap : Nat), v = .slice ao cs.length cap ∧ cs.length = n ∧ OwnC base w.heap.size w ao cs := by
  obtain ⟨hl, ⟨rfl, rfl⟩ | ⟨g, cap, cur, rfl, hb, hblk, hle, _, hsz, htake⟩⟩ := h
  · have hx : cs = [] := by
      rw [ckCells_length] at hl
      exact List.eq_nil_of_length_eq_zero (by omega)
    subst hx
    exact ⟨none, 0, rfl, rfl, Or.inl rfl⟩
  · have hl' : cs.length = n := by rw [ckCells_length] at hl; omega
    refine ⟨some ⟨g, 0, none⟩, cap, by rw [hl'], hl', Or.inr ⟨g, 0, rfl, hb, lt_of_block hblk, fun o => by simp [World.frozen?, hblk], fun j hj => ?_⟩⟩
    obtain ⟨k1, k2⟩ := ckCells_at cs j hj
    have h1 := congrArg (fun l => l[j * 2]?) htake
    have h2 := congrArg (fun l => l[j * 2 + 1]?) htake
    simp only [List.getElem?_take, (by omega : j * 2 < n * 2), (by omega : j * 2 + 1 < n * 2), if_true] at h1 h2
    constructor
    · rw [Nat.zero_add, cell_of_row w g (j * 2) cur _ _ hblk, ← Array.getElem?_toList, h1]; exact k1
    · rw [Nat.zero_add, cell_of_row w g (j * 2 + 1) cur _ _ hblk, ← Array.getElem?_toList, h2]; exact k2
end Go.Proofs.Ytjnbiacnhimkgaa

/-
  Contract of l1PickInt: one of the list's numbers; the cursor's own block alone turns. Condition: the list is not empty and can be read.
-/
import Derived.Test.YtofaihmiekoikaaDraw
namespace Go.Proofs.Ytofaihmiekoikaa
open Go.ChangeShapes Go.WideShapes Go.ChangeAt Go.RowKit
set_option linter.unusedSimpArgs false
set_option linter.unusedVariables false
set_option maxHeartbeats 1000000 in
theorem l1PickInt_any (p : Nat) (code : Value) (b off cap : Nat) (xs : List Int) (w : World) (hc : CurAt w p code) (hn : 0 < xs.length) (hm : xs.length ≤ 1000) (hb : b < w.heap.size) (hbp : b ≠ p)
    (hl : ∀ (j : Nat) (h : j < xs.length), w.cell? ⟨b, off + j, none⟩ = some (.int .i64 xs[j])) :
    Calls Try.prog 36 #[.pointer (some ⟨p, 0, none⟩), .slice (some ⟨b, off, none⟩) xs.length cap] w (Drawn (fun x => x ∈ xs) p code w) := by
  go_enter Try.func36, Try.ntmps36
  go_wp2_with fail
  refine (l1Below_pos p code _ _ (by omega) hc).mono ?_
  rintro e w1 ⟨x, rfl, ⟨x0, x1⟩, hcur, hg⟩
  have hx : x.toNat < xs.length := by omega
  have hcell : w1.cell? ⟨b, off + x.toNat, none⟩ = some (.int .i64 xs[x.toNat]) := by rw [(hg.row hb hbp).1]; exact hl _ hx
  have hmem : xs[x.toNat] ∈ xs := List.getElem_mem hx
  generalize xs[x.toNat] = y at *
  clear hl
  go_wp2
  go_ret
  exact ⟨y, rfl, hmem, hcur, hg⟩
theorem CurAt.drew {w : World} {p : Nat} {code : Value} (h : CurAt w p code) : CurAt w.drew p code := h.stays (((Ext.refl w).drew).chg (fun _ => False)) (fun _ _ h => h)
theorem new_ints {w : World} {xs : List Int} {T : TypeId} (j : Nat) (h : j < xs.length) : (w.alloc (.cells (xs.map (Value.int .i64)).toArray T)).cell? ⟨w.heap.size, 0 + j, none⟩ = some (.int .i64 xs[j]) := by
  have : (w.alloc (.cells (xs.map (Value.int .i64)).toArray T)).heap[w.heap.size]? = some (.cells (xs.map (Value.int .i64)).toArray T) := by
    show (w.heap.push _)[w.heap.size]? = _
    simp
  unfold World.cell?
  simp only [this]
  simp [h]
theorem l1PickInt_new (p : Nat) (code : Value) (xs : List Int) (T : TypeId) (w : World) (hc : CurAt w p code) (hn : 0 < xs.length) (hm : xs.length ≤ 1000) :
    Calls Try.prog 36 #[.pointer (some ⟨p, 0, none⟩), .slice (some ⟨w.heap.size, 0, none⟩) xs.length xs.length] (w.alloc (.cells (xs.map (Value.int .i64)).toArray T)) (Drawn (fun x => x ∈ xs) p code (w.alloc (.cells (xs.map (Value.int .i64)).toArray T))) :=
  l1PickInt_any p code w.heap.size 0 xs.length xs _ (hc.stays (((Ext.refl w).alloc _).chg (fun _ => False)) (fun _ _ h => h)) hn hm (by simp) (by have := hc.lt; omega) (fun j h => new_ints j h)
/-- A drawn number. -/
def DrewInt (w : World) (e : Ending) (w' : World) : Prop := ∃ n : Int, e = .returned (.int .i64 n) ∧ Ext w w'
theorem CodeAt.up {w : World} {p q : Nat} {code : Value} (h : CodeAt w p code) (hq : p ≤ q) : CodeAt w q code := by
  rcases h with h | ⟨b, off, len, cap, h1, h2, h3, h4⟩
  · exact Or.inl h
  · exact Or.inr ⟨b, off, len, cap, h1, by omega, h3, h4⟩
theorem CodeAt.grown {w w' : World} {code : Value} (h : CodeAt w w.heap.size code) (hx : Ext w w') : CodeAt w' w'.heap.size code :=
  (h.stays (hx.chg (fun _ => False)) (Nat.le_refl _) (fun _ _ h => h)).up hx.size
theorem alloc_at (w : World) (o : Obj) : (w.alloc o).heap[w.heap.size]? = some o := by
  show (w.heap.push _)[w.heap.size]? = _
  simp
theorem alloc_at' {w w1 : World} {o : Obj} (h : Ext (w.alloc o) w1) : w1.heap[w.heap.size]? = some o :=
  ((h.chg (fun _ => False)).block _ (by simp) (fun h => h)).trans (alloc_at w o)
end Go.Proofs.Ytofaihmiekoikaa

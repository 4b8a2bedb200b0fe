/-
  Slices of chunks: what they hold (ReadC, OwnC), and contracts of the laws' helpers on them. Conditions: the slices can be read.
-/
import Derived.Test.YtifhbchlmlaanaaLawKit
import Derived.Test.YtifhbchlmlaanaaChg
import Derived.Deep.QuietTactic
import Derived.BigQuiet
import Derived.LoopTactic
import Derived.Deep.OwnRows
namespace Go.Proofs.Ytifhbchlmlaanaa
open Go.ChangeShapes Go.WideShapes Go.ChangeAt Go.RowKit
set_option linter.unusedSimpArgs false
/-- A chunk: its offset and its bytes. -/
abbrev Ck := Int × ByteArray
def dk : Ck := (0, ⟨#[]⟩)
/-- The chunks behind a slice's address can be read. -/
def ReadC (w : World) (ao : Option Addr) (cs : List Ck) : Prop :=
  cs = [] ∨ ∃ b off : Nat, ao = some ⟨b, off, none⟩ ∧ ∀ j : Nat, j < cs.length → w.cell? ⟨b, off + j * 2, none⟩ = some (.int .i64 (cs.getD j dk).1) ∧ w.cell? ⟨b, off + j * 2 + 1, none⟩ = some (.string (cs.getD j dk).2)
def OwnC (lo hi : Nat) (w : World) (ao : Option Addr) (cs : List Ck) : Prop :=
  cs = [] ∨ ∃ b off : Nat, ao = some ⟨b, off, none⟩ ∧ lo ≤ b ∧ b < hi ∧ (∀ o, w.frozen? ⟨b, o, none⟩ = false) ∧ ∀ j : Nat, j < cs.length → w.cell? ⟨b, off + j * 2, none⟩ = some (.int .i64 (cs.getD j dk).1) ∧ w.cell? ⟨b, off + j * 2 + 1, none⟩ = some (.string (cs.getD j dk).2)
theorem OwnC.read {lo hi : Nat} {w : World} {ao : Option Addr} {cs : List Ck} (h : OwnC lo hi w ao cs) : ReadC w ao cs := by
  rcases h with h | ⟨b, off, h1, _, _, _, h2⟩
  · exact Or.inl h
  · exact Or.inr ⟨b, off, h1, h2⟩
theorem ReadC.ext {w w' : World} {ao : Option Addr} {cs : List Ck} (h : ReadC w ao cs) (hx : Ext w w') : ReadC w' ao cs := by
  rcases h with h | ⟨b, off, h1, h2⟩
  · exact Or.inl h
  · refine Or.inr ⟨b, off, h1, fun j hj => ?_⟩
    obtain ⟨k1, k2⟩ := h2 j hj
    have hr := (hx.row (World.block_lt_of_cell? w _ k1)).1
    exact ⟨(hr _).trans k1, (hr _).trans k2⟩
theorem OwnC.chg {lo hi : Nat} {S : Nat → Prop} {w w' : World} {ao : Option Addr} {cs : List Ck} (h : OwnC lo hi w ao cs) (hx : Chg S w w') (hS : ∀ b, lo ≤ b → b < hi → ¬ S b) : OwnC lo hi w' ao cs := by
  rcases h with h | ⟨b, off, h1, h2, h3, h4, h5⟩
  · exact Or.inl h
  · rcases cs with _ | ⟨c, cs⟩
    · exact Or.inl rfl
    · have hb := World.block_lt_of_cell? w _ (h5 0 (by simp)).1
      have hr := hx.row hb (hS b h2 h3)
      refine Or.inr ⟨b, off, h1, h2, h3, fun o => (hr.2 o).trans (h4 o), fun j hj => ?_⟩
      obtain ⟨k1, k2⟩ := h5 j hj
      exact ⟨(hr.1 _).trans k1, (hr.1 _).trans k2⟩
theorem OwnC.mono {lo hi lo' hi' : Nat} {w : World} {ao : Option Addr} {cs : List Ck} (h : OwnC lo hi w ao cs) (h1 : lo' ≤ lo) (h2 : hi ≤ hi') : OwnC lo' hi' w ao cs := by
  rcases h with h | ⟨b, off, k1, k2, k3, k4, k5⟩
  · exact Or.inl h
  · exact Or.inr ⟨b, off, k1, Nat.le_trans h1 k2, Nat.lt_of_lt_of_le k3 h2, k4, k5⟩
/-- All bytes of chunks. -/
def tot (cs : List Ck) : Nat := (cs.map fun c => c.2.size).sum
theorem takeC_succ (cs : List Ck) {k : Nat} (hk : k < cs.length) : cs.take (k + 1) = cs.take k ++ [cs.getD k dk] := by
  rw [List.take_succ_eq_append_getElem hk]; simp [List.getD, List.getElem?_eq_getElem hk]
theorem tot_take (cs : List Ck) {k : Nat} (hk : k < cs.length) : tot (cs.take (k + 1)) = tot (cs.take k) + (cs.getD k dk).2.size := by
  rw [takeC_succ cs hk]; simp [tot]
theorem tot_take_le (cs : List Ck) (k : Nat) : tot (cs.take k) ≤ tot cs := by
  have h : tot cs = tot (cs.take k) + tot (cs.drop k) := by
    unfold tot
    rw [← List.sum_append_nat, ← List.map_append, List.take_append_drop]
  omega
theorem takeC_eq {xs ys : List Ck} {k : Nat} (hk : k < xs.length) (hk2 : k < ys.length) (h : xs.take k = ys.take k) (e : xs.getD k dk = ys.getD k dk) : xs.take (k + 1) = ys.take (k + 1) := by
  rw [takeC_succ xs hk, takeC_succ ys hk2, h, e]
theorem ne_of_getC {xs ys : List Ck} {k : Nat} (e : ¬ xs.getD k dk = ys.getD k dk) : ¬ xs = ys := fun h => e (by rw [h])
theorem text_eq (s u : ByteArray) : (s.toList == u.toList) = decide (s = u) := by
  rw [ByteArray.toList_eq, ByteArray.toList_eq]
  by_cases h : s = u
  · subst h; simp
  · have : s.data.toList ≠ u.data.toList := fun h2 => h (bytes_inj h2)
    rw [decide_eq_false h]
    exact beq_eq_false_iff_ne.2 this
set_option maxHeartbeats 1000000 in
theorem eqChunk_any (c d : Ck) (w : World) :
    Calls Try.prog 114 #[.agg #[.int .i64 c.1, .string c.2], .agg #[.int .i64 d.1, .string d.2]] w fun e w' => e = .returned (.bool (decide (c = d))) ∧ Ext w w' := by
  obtain ⟨o, s⟩ := c
  obtain ⟨p, u⟩ := d
  by_cases h1 : o = p
  · have h1n : (o != p) = false := by simp [h1]
    by_cases h2 : s = u
    · have h2e : (s.toList == u.toList) = true := by rw [text_eq]; simp [h2]
      have h3 : decide (((o, s) : Ck) = (p, u)) = true := by simp [h1, h2]
      clear h1 h2
      go_enter Try.func114, Try.ntmps114
      go_wp2
      go_ret
      exact ⟨by rw [h3]; rfl, (by repeat (first | with_reducible exact Ext.refl _ | with_reducible assumption | with_reducible refine Ext.alloc ?_ _ | with_reducible refine Ext.drew ?_ | with_reducible refine Ext.drewN ?_ _ | ((with_reducible refine Ext.set ?_ ?_ _); (focus (first | (simp; done) | (simp; omega)))) | with_reducible refine Ext.trans ?_ (by assumption)))⟩
    · have h2e : (s.toList == u.toList) = false := by rw [text_eq]; simp [h2]
      have h3 : decide (((o, s) : Ck) = (p, u)) = false := by simp [h2]
      clear h1 h2
      go_enter Try.func114, Try.ntmps114
      go_wp2
      go_ret
      exact ⟨by rw [h3]; rfl, (by repeat (first | with_reducible exact Ext.refl _ | with_reducible assumption | with_reducible refine Ext.alloc ?_ _ | with_reducible refine Ext.drew ?_ | with_reducible refine Ext.drewN ?_ _ | ((with_reducible refine Ext.set ?_ ?_ _); (focus (first | (simp; done) | (simp; omega)))) | with_reducible refine Ext.trans ?_ (by assumption)))⟩
  · have h1n : (o != p) = true := by simp [h1]
    have h3 : decide (((o, s) : Ck) = (p, u)) = false := by simp [h1]
    clear h1
    go_enter Try.func114, Try.ntmps114
    go_wp2
    go_ret
    exact ⟨by rw [h3]; rfl, (by repeat (first | with_reducible exact Ext.refl _ | with_reducible assumption | with_reducible refine Ext.alloc ?_ _ | with_reducible refine Ext.drew ?_ | with_reducible refine Ext.drewN ?_ _ | ((with_reducible refine Ext.set ?_ ?_ _); (focus (first | (simp; done) | (simp; omega)))) | with_reducible refine Ext.trans ?_ (by assumption)))⟩
theorem toChunk_any (o : Int) (s : ByteArray) (w : World) :
    Calls Try.prog 117 #[.agg #[.int .i64 o, .string s]] w fun e w' => e = .returned (.agg #[.int .i64 o, .string s]) ∧ Ext w w' := by
  go_enter Try.func117, Try.ntmps117
  go_wp2
  exact bodyPost_ret (v := .agg #[.int .i64 o, .string s]) (by simp [results, Try.results117, go_sem]) rfl ⟨rfl, (by repeat (first | with_reducible exact Ext.refl _ | with_reducible assumption | with_reducible refine Ext.alloc ?_ _ | with_reducible refine Ext.drew ?_ | with_reducible refine Ext.drewN ?_ _ | ((with_reducible refine Ext.set ?_ ?_ _); (focus (first | (simp; done) | (simp; omega)))) | with_reducible refine Ext.trans ?_ (by assumption)))⟩
theorem szChunk_any (o : Int) (s : ByteArray) (left : Int) (w : World) (h0 : 0 ≤ left) (h1 : left ≤ 1048576) (hs : (s.size : Int) ≤ 9223372036854775807) :
    Calls Try.prog 116 #[.agg #[.int .i64 o, .string s], .int .i64 left] w fun e w' => e = .returned (.int .i64 (if left < s.size then -1 else left - s.size)) ∧ Ext w w' := by
  by_cases h : left < s.size
  · rw [if_pos h]
    go_enter Try.func116, Try.ntmps116
    go_wp2
    go_ret
    exact ⟨rfl, (by repeat (first | with_reducible exact Ext.refl _ | with_reducible assumption | with_reducible refine Ext.alloc ?_ _ | with_reducible refine Ext.drew ?_ | with_reducible refine Ext.drewN ?_ _ | ((with_reducible refine Ext.set ?_ ?_ _); (focus (first | (simp; done) | (simp; omega)))) | with_reducible refine Ext.trans ?_ (by assumption)))⟩
  · rw [if_neg h]
    go_enter Try.func116, Try.ntmps116
    go_wp2
    go_ret
    exact ⟨rfl, (by repeat (first | with_reducible exact Ext.refl _ | with_reducible assumption | with_reducible refine Ext.alloc ?_ _ | with_reducible refine Ext.drew ?_ | with_reducible refine Ext.drewN ?_ _ | ((with_reducible refine Ext.set ?_ ?_ _); (focus (first | (simp; done) | (simp; omega)))) | with_reducible refine Ext.trans ?_ (by assumption)))⟩
end Go.Proofs.Ytifhbchlmlaanaa

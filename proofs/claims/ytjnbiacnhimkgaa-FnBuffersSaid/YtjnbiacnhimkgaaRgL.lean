/-
  Contracts of the laws' helpers on slices of ranges: szRangeS, eqRangeS, toRangeS, markRangeS, heldRangeS. Conditions: the slices can be read (for the marks: written).
-/
import Derived.Test.YtjnbiacnhimkgaaRgS
import Derived.Test.YtjnbiacnhimkgaaTable
namespace Go.Proofs.Ytjnbiacnhimkgaa
open Go.ChangeShapes Go.WideShapes Go.ChangeAt Go.RowKit
set_option linter.unusedSimpArgs false
set_option linter.unusedVariables false
theorem takeR_succ' (rs : List Rg) {k : Nat} (hk : k < rs.length) : rs.take (k + 1) = rs.take k ++ [rs.getD k dr] := by
  rw [List.take_succ_eq_append_getElem hk]; simp [List.getD, List.getElem?_eq_getElem hk]
theorem takeR_eq {xs ys : List Rg} {k : Nat} (hk : k < xs.length) (hk2 : k < ys.length) (h : xs.take k = ys.take k) (e : xs.getD k dr = ys.getD k dr) : xs.take (k + 1) = ys.take (k + 1) := by
  rw [takeR_succ' xs hk, takeR_succ' ys hk2, h, e]
theorem ne_of_getR {xs ys : List Rg} {k : Nat} (e : ¬ xs.getD k dr = ys.getD k dr) : ¬ xs = ys := fun h => e (by rw [h])
theorem cellR_other {w : World} {b o1 o2 : Nat} {v : Value} (h : o1 ≠ o2) : (w.setCell ⟨b, o1, none⟩ v).cell? ⟨b, o2, none⟩ = w.cell? ⟨b, o2, none⟩ :=
  World.cell?_setCell_other w ⟨b, o1, none⟩ ⟨b, o2, none⟩ v (fun e => h (by injection e))
def zeroR (n : Nat) : Array Value := madeCells #[.int .i64 0, .int .i64 0] (n * 2)
theorem zeroR_at (n j : Nat) (h : j < n) : (zeroR n)[j * 2]? = some (.int .i64 0) ∧ (zeroR n)[j * 2 + 1]? = some (.int .i64 0) := by
  have e1 : j * 2 % 2 = 0 := by omega
  have e2 : (j * 2 + 1) % 2 = 1 := by omega
  constructor
  · simp [zeroR, madeCells, show j * 2 < n * 2 by omega, e1]
  · simp [zeroR, madeCells, show j * 2 + 1 < n * 2 by omega, e2]
theorem run_make_ranges (kl kc : IntKind) (n : Nat) (hb : n ≤ 4194304) (w : World) :
    (Instr.makeSlice 34 (.int kl (n : Int)) (.int kc (n : Int))).run Try.prog w = .ok (.slice (some ⟨w.heap.size, 0, none⟩) n n) (w.alloc (.cells (zeroR n) 61)) := by
  obtain ⟨i, hi, hzz⟩ := Option.map_eq_some_iff.1 infoRange
  simp only [Prod.mk.injEq] at hzz
  obtain ⟨hz, hs, hbb⟩ := hzz
  have hr := run_make (P := Try.prog) w 34 61 i _ Try.underlying34 hi hz kl kc n n (by omega) (Int.le_refl _) (by rw [hbb]; omega) (by omega)
  simp only [Int.toNat_natCast, hs] at hr
  exact hr
/-- The marks of n ranges, from number k on. -/
def marksR (k : Int) (n : Nat) : List Rg := (List.range n).map fun (j : Nat) => (k + 2 * (j : Int), k + 2 * (j : Int) + 1)
theorem marksR_length (k : Int) (n : Nat) : (marksR k n).length = n := by simp [marksR]
theorem marksR_getD (k : Int) (n j : Nat) (h : j < n) : (marksR k n).getD j dr = (k + 2 * (j : Int), k + 2 * (j : Int) + 1) := by
  simp [marksR, List.getD, h]
def MarkedR (lo hi : Nat) (ao : Option Addr) (k0 : Int) (n : Nat) (w : World) (e : Ending) (w' : World) : Prop :=
  e = .returned (.int .i64 (k0 + 2 * (n : Int))) ∧ OwnR lo hi w' ao (marksR k0 n) ∧ Chg (fun b => lo ≤ b ∧ b < hi) w w'
end Go.Proofs.Ytjnbiacnhimkgaa

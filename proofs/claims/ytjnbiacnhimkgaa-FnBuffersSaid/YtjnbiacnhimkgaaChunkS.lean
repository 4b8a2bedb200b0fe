/-
  Contracts of szChunkS, eqChunkS, toChunkS. Conditions: the slices can be read.
-/
import Derived.Test.YtjnbiacnhimkgaaChunk
import Derived.Test.YtjnbiacnhimkgaaTable
namespace Go.Proofs.Ytjnbiacnhimkgaa
open Go.ChangeShapes Go.WideShapes Go.ChangeAt Go.RowKit
set_option linter.unusedSimpArgs false
theorem cellC_other {w : World} {b o1 o2 : Nat} {v : Value} (h : o1 ≠ o2) : (w.setCell ⟨b, o1, none⟩ v).cell? ⟨b, o2, none⟩ = w.cell? ⟨b, o2, none⟩ :=
  World.cell?_setCell_other w ⟨b, o1, none⟩ ⟨b, o2, none⟩ v (fun e => h (by injection e))
theorem infoChunk : (Try.prog.info? 53).map (fun i => (i.zero, i.size, i.bytes)) = some (some (.agg #[.int .i64 0, .string ⟨#[]⟩]), 2, 24) := by kernel_rfl
def zeroC (n : Nat) : Array Value := madeCells #[.int .i64 0, .string ⟨#[]⟩] (n * 2)
theorem zeroC_at (n j : Nat) (h : j < n) : (zeroC n)[j * 2]? = some (.int .i64 0) ∧ (zeroC n)[j * 2 + 1]? = some (.string ⟨#[]⟩) := by
  have e1 : j * 2 % 2 = 0 := by omega
  have e2 : (j * 2 + 1) % 2 = 1 := by omega
  constructor
  · simp [zeroC, madeCells, show j * 2 < n * 2 by omega, e1]
  · simp [zeroC, madeCells, show j * 2 + 1 < n * 2 by omega, e2]
theorem run_make_chunks (kl kc : IntKind) (n : Nat) (hb : n ≤ 4194304) (w : World) :
    (Instr.makeSlice 24 (.int kl (n : Int)) (.int kc (n : Int))).run Try.prog w = .ok (.slice (some ⟨w.heap.size, 0, none⟩) n n) (w.alloc (.cells (zeroC n) 53)) := by
  obtain ⟨i, hi, hzz⟩ := Option.map_eq_some_iff.1 infoChunk
  simp only [Prod.mk.injEq] at hzz
  obtain ⟨hz, hs, hbb⟩ := hzz
  have hr := run_make (P := Try.prog) w 24 53 i _ Try.underlying24 hi hz kl kc n n (by omega) (Int.le_refl _) (by rw [hbb]; omega) (by omega)
  simp only [Int.toNat_natCast, hs] at hr
  exact hr
/-- A new slice that holds cs. -/
def NewC (cs : List Ck) (w : World) (e : Ending) (w' : World) : Prop :=
  ∃ (ao : Option Addr) (cap : Nat), e = .returned (.slice ao cs.length cap) ∧ OwnC w.heap.size w'.heap.size w' ao cs ∧ Ext w w'
end Go.Proofs.Ytjnbiacnhimkgaa

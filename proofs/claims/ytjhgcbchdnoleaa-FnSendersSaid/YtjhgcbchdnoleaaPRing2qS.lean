/-
  Part of the proof: Ring2.
-/
import Derived.Test.YtjhgcbchdnoleaaPG2
namespace Go.Proofs.Ytjhgcbchdnoleaa
section
open Go.ChangeShapes Go.WideShapes Go.ChangeAt Go.RowKit
set_option linter.unusedSimpArgs false
set_option maxHeartbeats 1000000 in
theorem NewRing_impl_yes (k : Nat) (w : World) (h : ringSz k = true) : Calls Try.prog 90 #[.int .i64 k] w (MadeRing k w) := by
  obtain ⟨k1, k2⟩ := ringSz_bd h
  have hmk := run_make_row' (P := Try.prog) 22 3 (.int .i64 0) 8 Try.underlying22 infoInt rfl .i64 .i64 k (by omega) (by omega)
  go_enter Try.func90, Try.ntmps90
  go_wp2_with (go_at_call 125; refine (isRingSize_any _ _).mono ?_; rintro e w1 ⟨rfl, rfl⟩)
  refine bodyPost_ret (v := .tuple #[.agg #[.int .i64 k, .int .i64 0, .int .i64 0, .slice (some ⟨w.heap.size + 1, 0, none⟩) k k], .bool true]) (by simp [results, Try.results90, go_sem, *]) rfl ⟨_, _, rfl, ?_, ?_⟩
  · refine Or.inr ⟨w.heap.size + 1, 0, rfl, by omega, by simp [World.setCell], fun o => ?_, fun j hj => ?_⟩
    · simp [go_sem]
    · simp at hj
      simp [go_sem]
      rw [← Array.getElem?_toList, toList_madeCells_one]
      simp [hj]
  · exact ((Ext.refl w).alloc _).alloc _
theorem NewRing_impl_no (n : Int) (w : World) (h : ringSz n = false) : Calls Try.prog 90 #[.int .i64 n] w fun e w' => e = .returned (.tuple #[.agg #[.int .i64 0, .int .i64 0, .int .i64 0, .slice none 0 0], .bool false]) ∧ Ext w w' := by
  go_enter Try.func90, Try.ntmps90
  go_wp2_with (go_at_call 125; refine (isRingSize_any _ _).mono ?_; rintro e w1 ⟨rfl, rfl⟩)
  exact bodyPost_ret (v := .tuple #[.agg #[.int .i64 0, .int .i64 0, .int .i64 0, .slice none 0 0], .bool false]) (by simp [results, Try.results90, go_sem, *]) rfl ⟨rfl, Ext.go⟩
end
end Go.Proofs.Ytjhgcbchdnoleaa

/-
  Part of the proof: SnNw.
-/
import Derived.Test.YtjhgcbchdnoleaaPWriteqS
import Derived.Test.YtjhgcbchdnoleaaPG10
namespace Go.Proofs.Ytjhgcbchdnoleaa
section
open Go.ChangeShapes Go.WideShapes Go.ChangeAt Go.RowKit
set_option linter.unusedSimpArgs false
set_option linter.unusedVariables false
set_option maxHeartbeats 1000000 in
theorem NewSender_implV (n : Int) (w : World) : Calls Try.prog 29 #[.int .i64 n] w (SnRes (nwSn n) (.bool (ringSz n)) w) := by
  rcases Bool.eq_false_or_eq_true (ringSz n) with h | h
  · obtain ⟨k, rfl⟩ : ∃ k : Nat, n = k := ⟨n.toNat, by have := ringSz_bd h; omega⟩
    have e : nwSn k = newSn k := if_pos h
    have e2 := hide h
    go_enter Try.func29, Try.ntmps29
    go_wp2_with fail
    refine (NewRing_impl_yes k _ h).mono ?_
    rintro en w1 ⟨d1, cd1, rfl, ho, hb⟩
    have hs := hb.size
    simp at hs
    have k0 : w.heap.size < w1.heap.size := by omega
    obtain ⟨xb, yb⟩ := hb.row (k := w.heap.size) xpf
    clear h
    replace e := hide e
    go_wp2
    rw [e.out, e2.out]
    refine bodyPost_ret (v := .tuple #[.agg #[.int .i64 0, .int .i64 k, .int .i64 0, .int .i64 0, .slice d1 k cd1, .slice none 0 0, .slice none 0 0, .slice none 0 0, .int .i64 (-1), .int .i64 0, .int .i64 0, .int .i64 0], .bool true]) (by simp [results, Try.results29, go_sem, *]) rfl ⟨d1, none, none, none, cd1, 0, 0, 0, by simp [newSn], ?_, ?_⟩
    · show OwnSnV _ _ _ _ _ ⟨List.replicate ((k : Int).toNat) 0, [], [], []⟩
      rw [Int.toNat_natCast]
      exact own_ringV (OwnS.mono (OwnS.chg (S := fun b => b = w.heap.size ∨ w1.heap.size ≤ b) (OwnS.mono (lo' := w.heap.size + 1) ho (by simp) (Nat.le_refl _)) Chg.go xap) (by omega) (by simp)) xpf
    · exact Ext.go
  · have e : nwSn n = ⟨0, 0, 0, 0, [], [], [], [], 0, 0, 0, 0⟩ := if_neg (by rw [h]; decide)
    have e2 := hide h
    go_enter Try.func29, Try.ntmps29
    go_wp2_with fail
    refine (NewRing_impl_no n _ h).mono ?_
    rintro en w1 ⟨rfl, hb⟩
    have hs := hb.size
    simp at hs
    have k0 : w.heap.size < w1.heap.size := by omega
    obtain ⟨xb, yb⟩ := hb.row (k := w.heap.size) xpf
    clear h
    replace e := hide e
    go_wp2
    rw [e.out, e2.out]
    refine bodyPost_ret (v := .tuple #[.agg #[.int .i64 0, .int .i64 0, .int .i64 0, .int .i64 0, .slice none 0 0, .slice none 0 0, .slice none 0 0, .slice none 0 0, .int .i64 0, .int .i64 0, .int .i64 0, .int .i64 0], .bool false]) (by simp [results, Try.results29, go_sem, *]) rfl ⟨none, none, none, none, 0, 0, 0, 0, rfl, ?_, ?_⟩
    · exact own_ringV (Or.inl rfl) xpf
    · exact Ext.go
end
end Go.Proofs.Ytjhgcbchdnoleaa

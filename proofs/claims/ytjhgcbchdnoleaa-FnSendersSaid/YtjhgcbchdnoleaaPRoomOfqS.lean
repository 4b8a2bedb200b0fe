/-
  Part of the proof: RoomOf.
-/
import Derived.Test.YtjhgcbchdnoleaaPRing2qS
namespace Go.Proofs.Ytjhgcbchdnoleaa
section
open Go.ChangeShapes Go.WideShapes Go.ChangeAt Go.RowKit
set_option linter.unusedSimpArgs false
set_option maxHeartbeats 1000000 in
theorem RoomOf_impl (z b e : Int) (ao : Option Addr) (n ca : Nat) (xs : List Int) (w : World) (hx : ReadS w ao xs) (hn : xs.length = n) (hl : (n : Int) ≤ 9223372036854775807) :
    Calls Try.prog 121 #[.agg #[.int .i64 z, .int .i64 b, .int .i64 e, .slice ao n ca]] w fun en w' => en = .returned (.int .i64 (roomOf z b e xs)) ∧ Ext w w' := by
  rcases Bool.eq_false_or_eq_true (isRing z b e xs) with hR | hR
  · obtain ⟨b1, b2, b3, b4, b5, b6, b7⟩ := isRing_bd hR
    go_enter Try.func121, Try.ntmps121
    go_wp2_with fail
    refine (IsRing_impl z b e ao n ca xs _ (hx.ext Ext.go) hn hl).mono ?_
    rintro en w1 ⟨rfl, hb⟩
    rw [hR]
    obtain ⟨c1, f1⟩ := hb.row (k := w.heap.size) (by simp)
    clear hx hn
    go_wp2
    all_goals (go_ret; exact ⟨by simp [roomOf, hR]; omega, Ext.go⟩)
  · go_enter Try.func121, Try.ntmps121
    go_wp2_with fail
    refine (IsRing_impl z b e ao n ca xs _ (hx.ext Ext.go) hn hl).mono ?_
    rintro en w1 ⟨rfl, hb⟩
    rw [hR]
    clear hx hn
    go_wp2
    go_ret
    exact ⟨by simp [roomOf, hR], Ext.go⟩
end
end Go.Proofs.Ytjhgcbchdnoleaa

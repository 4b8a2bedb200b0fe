/-
  Contracts of RoomOf. Conditions: the cells can be read.
-/
import Derived.Test.YtjhgcbchdnoleaaIsRing
namespace Go.Proofs.Ytjhgcbchdnoleaa
open Go.ChangeShapes Go.WideShapes Go.ChangeAt Go.RowKit
set_option linter.unusedSimpArgs false
/-- The room of a ring. -/
def roomOf (z b e : Int) (xs : List Int) : Int := if isRing z b e xs = true then min (z - (e - b)) (4611686018427387903 - e) else 0
theorem roomOf_bd (z b e : Int) (xs : List Int) : 0 ≤ roomOf z b e xs ∧ roomOf z b e xs ≤ 64 := by
  unfold roomOf
  split
  · have := isRing_bd (by assumption)
    omega
  · omega
set_option maxHeartbeats 1000000 in
theorem RoomOf_impl (z b e : Int) (ao : Option Addr) (n ca : Nat) (xs : List Int) (w : World) (hx : ReadS w ao xs) (hn : xs.length = n) (hl : (n : Int) ≤ 9223372036854775807) :
    Calls Try.prog 121 #[.agg #[.int .i64 z, .int .i64 b, .int .i64 e, .slice ao n ca]] w fun en w' => en = .returned (.int .i64 (roomOf z b e xs)) ∧ Ext w w' := by
  rcases Bool.eq_false_or_eq_true (isRing z b e xs) with hR | hR
  · obtain ⟨b1, b2, b3, b4, b5, b6, b7⟩ := isRing_bd hR
    go_enter Try.func121, Try.ntmps121
    go_wp2_with fail
    refine (IsRing_impl z b e ao n ca xs _ (hx.ext (by repeat (first | with_reducible exact Ext.refl _ | with_reducible assumption | with_reducible refine Ext.alloc ?_ _ | with_reducible refine Ext.drew ?_ | with_reducible refine Ext.drewN ?_ _ | ((with_reducible refine Ext.set ?_ ?_ _); (focus (first | (simp; done) | (simp; omega)))) | with_reducible refine Ext.trans ?_ (by assumption)))) hn hl).mono ?_
    rintro en w1 ⟨rfl, hb⟩
    rw [hR]
    obtain ⟨c1, f1⟩ := hb.row (k := w.heap.size) (by simp)
    clear hx hn
    go_wp2
    all_goals (go_ret; exact ⟨by simp [roomOf, hR]; omega, (by repeat (first | with_reducible exact Ext.refl _ | with_reducible assumption | with_reducible refine Ext.alloc ?_ _ | with_reducible refine Ext.drew ?_ | with_reducible refine Ext.drewN ?_ _ | ((with_reducible refine Ext.set ?_ ?_ _); (focus (first | (simp; done) | (simp; omega)))) | with_reducible refine Ext.trans ?_ (by assumption)))⟩)
  · go_enter Try.func121, Try.ntmps121
    go_wp2_with fail
    refine (IsRing_impl z b e ao n ca xs _ (hx.ext (by repeat (first | with_reducible exact Ext.refl _ | with_reducible assumption | with_reducible refine Ext.alloc ?_ _ | with_reducible refine Ext.drew ?_ | with_reducible refine Ext.drewN ?_ _ | ((with_reducible refine Ext.set ?_ ?_ _); (focus (first | (simp; done) | (simp; omega)))) | with_reducible refine Ext.trans ?_ (by assumption)))) hn hl).mono ?_
    rintro en w1 ⟨rfl, hb⟩
    rw [hR]
    clear hx hn
    go_wp2
    go_ret
    exact ⟨by simp [roomOf, hR], (by repeat (first | with_reducible exact Ext.refl _ | with_reducible assumption | with_reducible refine Ext.alloc ?_ _ | with_reducible refine Ext.drew ?_ | with_reducible refine Ext.drewN ?_ _ | ((with_reducible refine Ext.set ?_ ?_ _); (focus (first | (simp; done) | (simp; omega)))) | with_reducible refine Ext.trans ?_ (by assumption)))⟩
set_option maxHeartbeats 1000000 in
theorem RoomOf_spec (z b e : Int) (ao : Option Addr) (n ca : Nat) (xs : List Int) (w : World) (hx : ReadS w ao xs) (hn : xs.length = n) (hl : (n : Int) ≤ 9223372036854775807) (he : e ≤ 9223372036854775807) :
    Calls Try.prog 123 #[.agg #[.int .i64 z, .int .i64 b, .int .i64 e, .slice ao n ca]] w fun en w' => en = .returned (.int .i64 (roomOf z b e xs)) ∧ Ext w w' := by
  rcases Bool.eq_false_or_eq_true (isRing z b e xs) with hR | hR
  · obtain ⟨b1, b2, b3, b4, b5, b6, b7⟩ := isRing_bd hR
    go_enter Try.func123, Try.ntmps123
    go_wp2_with fail
    refine (IsRing_spec z b e ao n ca xs _ (hx.ext (by repeat (first | with_reducible exact Ext.refl _ | with_reducible assumption | with_reducible refine Ext.alloc ?_ _ | with_reducible refine Ext.drew ?_ | with_reducible refine Ext.drewN ?_ _ | ((with_reducible refine Ext.set ?_ ?_ _); (focus (first | (simp; done) | (simp; omega)))) | with_reducible refine Ext.trans ?_ (by assumption)))) hn hl he).mono ?_
    rintro en w1 ⟨rfl, hb⟩
    rw [hR]
    obtain ⟨c1, f1⟩ := hb.row (k := w.heap.size) (by simp)
    clear hx hn
    go_wp2
    all_goals (go_ret; exact ⟨by simp [roomOf, hR]; omega, (by repeat (first | with_reducible exact Ext.refl _ | with_reducible assumption | with_reducible refine Ext.alloc ?_ _ | with_reducible refine Ext.drew ?_ | with_reducible refine Ext.drewN ?_ _ | ((with_reducible refine Ext.set ?_ ?_ _); (focus (first | (simp; done) | (simp; omega)))) | with_reducible refine Ext.trans ?_ (by assumption)))⟩)
  · go_enter Try.func123, Try.ntmps123
    go_wp2_with fail
    refine (IsRing_spec z b e ao n ca xs _ (hx.ext (by repeat (first | with_reducible exact Ext.refl _ | with_reducible assumption | with_reducible refine Ext.alloc ?_ _ | with_reducible refine Ext.drew ?_ | with_reducible refine Ext.drewN ?_ _ | ((with_reducible refine Ext.set ?_ ?_ _); (focus (first | (simp; done) | (simp; omega)))) | with_reducible refine Ext.trans ?_ (by assumption)))) hn hl he).mono ?_
    rintro en w1 ⟨rfl, hb⟩
    rw [hR]
    clear hx hn
    go_wp2
    go_ret
    exact ⟨by simp [roomOf, hR], (by repeat (first | with_reducible exact Ext.refl _ | with_reducible assumption | with_reducible refine Ext.alloc ?_ _ | with_reducible refine Ext.drew ?_ | with_reducible refine Ext.drewN ?_ _ | ((with_reducible refine Ext.set ?_ ?_ _); (focus (first | (simp; done) | (simp; omega)))) | with_reducible refine Ext.trans ?_ (by assumption)))⟩
end Go.Proofs.Ytjhgcbchdnoleaa

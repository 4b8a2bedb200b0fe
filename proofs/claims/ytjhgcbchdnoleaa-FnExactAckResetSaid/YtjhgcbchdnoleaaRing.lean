/-
  Contracts of the laws' helpers on rings: szRing, eqRing, toRing, markRing, heldRing. Conditions: the cells can be read (written).
-/
import Derived.Test.YtjhgcbchdnoleaaInts
namespace Go.Proofs.Ytjhgcbchdnoleaa
open Go.ChangeShapes Go.WideShapes Go.ChangeAt Go.RowKit
set_option linter.unusedSimpArgs false

theorem szRing_any (z b e : Int) (ao : Option Addr) (n cap : Nat) (left : Int) (w : World) (hl : (n : Int) ≤ 9223372036854775807) (h0 : 0 ≤ left) (h1 : left ≤ 1048576) :
    Calls Try.prog 50 #[.agg #[.int .i64 z, .int .i64 b, .int .i64 e, .slice ao n cap], .int .i64 left] w fun e w' => e = .returned (.int .i64 (if left < n then -1 else left - n)) ∧ Ext w w' := by
  by_cases h : left < n
  · go_enter Try.func50, Try.ntmps50
    go_wp2_with (go_at_call 108; refine (szIntS_any _ _ _ _ _ hl h0 h1).mono ?_; rintro e w1 ⟨rfl, rfl⟩)
    go_ret
    exact ⟨by simp [h], (by repeat (first | with_reducible exact Ext.refl _ | with_reducible assumption | with_reducible refine Ext.alloc ?_ _ | with_reducible refine Ext.drew ?_ | with_reducible refine Ext.drewN ?_ _ | ((with_reducible refine Ext.set ?_ ?_ _); (focus (first | (simp; done) | (simp; omega)))) | with_reducible refine Ext.trans ?_ (by assumption)))⟩
  · go_enter Try.func50, Try.ntmps50
    have h2 : decide (left - n < 0) = false := by simp; omega
    go_wp2_with (go_at_call 108; refine (szIntS_any _ _ _ _ _ hl h0 h1).mono ?_; rintro e w1 ⟨rfl, rfl⟩)
    go_ret
    exact ⟨by simp [h], (by repeat (first | with_reducible exact Ext.refl _ | with_reducible assumption | with_reducible refine Ext.alloc ?_ _ | with_reducible refine Ext.drew ?_ | with_reducible refine Ext.drewN ?_ _ | ((with_reducible refine Ext.set ?_ ?_ _); (focus (first | (simp; done) | (simp; omega)))) | with_reducible refine Ext.trans ?_ (by assumption)))⟩
/-- A new ring with these numbers, whose cells hold xs. -/
def NewRingV (z b e : Int) (xs : List Int) (w : World) (en : Ending) (w' : World) : Prop :=
  ∃ (ao : Option Addr) (cap : Nat), en = .returned (.agg #[.int .i64 z, .int .i64 b, .int .i64 e, .slice ao xs.length cap]) ∧ OwnS w.heap.size w'.heap.size w' ao xs ∧ Ext w w'
theorem eqRing_any (z b e : Int) (ao bo : Option Addr) (n m ca cb : Nat) (xs ys : List Int) (w : World) (hx : ReadS w ao xs) (hy : ReadS w bo ys) (hn : xs.length = n) (hm : ys.length = m) (hl : (n : Int) ≤ 9223372036854775807) :
    Calls Try.prog 56 #[.agg #[.int .i64 z, .int .i64 b, .int .i64 e, .slice ao n ca], .agg #[.int .i64 z, .int .i64 b, .int .i64 e, .slice bo m cb]] w fun e w' => e = .returned (.bool (decide (xs = ys))) ∧ Ext w w' := by
  have hn' := hide hn
  have hm' := hide hm
  clear hn hm
  go_enter Try.func56, Try.ntmps56
  go_wp2_with fail
  refine (eqIntS_any ao bo n m ca cb xs ys _ (hx.ext (((Ext.refl w).alloc _).alloc _)) (hy.ext (((Ext.refl w).alloc _).alloc _)) hn'.out hm'.out hl).mono ?_
  rintro e w1 ⟨rfl, hb1⟩
  by_cases hd : xs = ys
  · have hd' : decide (xs = ys) = true := decide_eq_true hd
    clear hd
    go_wp2
    go_ret
    exact ⟨by simp [hd'], (((Ext.refl w).alloc _).alloc _).trans hb1⟩
  · have hd' : decide (xs = ys) = false := decide_eq_false hd
    clear hd
    go_wp2
    go_ret
    exact ⟨by simp [hd'], (((Ext.refl w).alloc _).alloc _).trans hb1⟩
set_option maxHeartbeats 1000000 in
theorem toRing_any (z b e : Int) (ao : Option Addr) (n cap : Nat) (xs : List Int) (w : World) (hx : ReadS w ao xs) (hn : xs.length = n) (hl : n ≤ 4194304) :
    Calls Try.prog 53 #[.agg #[.int .i64 z, .int .i64 b, .int .i64 e, .slice ao n cap]] w (NewRingV z b e xs w) := by
  have hn' := hide hn
  clear hn
  go_enter Try.func53, Try.ntmps53
  go_wp2_with fail
  refine (toIntS_any ao n cap xs _ (hx.ext (by repeat (first | exact Ext.refl _ | refine Ext.alloc ?_ _))) hn'.out hl).mono ?_
  rintro e1 w1 ⟨ao1, cap1, rfl, ho, hb1⟩
  have hk0 := hb1.more (k := w.heap.size) (by first | assumption | (simp; done) | (simp; omega) | omega); obtain ⟨hc0, hf0⟩ := hb1.row (k := w.heap.size) (by first | assumption | (simp; done) | (simp; omega) | omega); have hk1 := hb1.more (k := w.heap.size + 1) (by first | assumption | (simp; done) | (simp; omega) | omega); obtain ⟨hc1, hf1⟩ := hb1.row (k := w.heap.size + 1) (by first | assumption | (simp; done) | (simp; omega) | omega); have hk2 := hb1.more (k := w.heap.size + 1 + 1) (by first | assumption | (simp; done) | (simp; omega) | omega); obtain ⟨hc2, hf2⟩ := hb1.row (k := w.heap.size + 1 + 1) (by first | assumption | (simp; done) | (simp; omega) | omega)
  have ho' := hide ho
  clear ho
  go_wp2
  refine bodyPost_ret (v := .agg #[.int .i64 z, .int .i64 b, .int .i64 e, .slice ao1 xs.length cap1]) (by simp [results, Try.results53, go_sem, *]) rfl ⟨ao1, cap1, rfl, ?_, ?_⟩
  · refine OwnS.mono (OwnS.chg (S := fun k => k < w.heap.size + 1 + 1 + 1) ho'.out (by repeat (first | with_reducible exact Chg.refl _ _ | with_reducible assumption | with_reducible refine Chg.alloc ?_ _ | with_reducible refine Chg.drew ?_ | with_reducible refine Chg.drewN ?_ _ | ((with_reducible refine Chg.set ?_ ?_ _); (focus (first | (left; simp; done) | (left; simp; omega) | (right; simp; done) | (right; simp; omega)))) | with_reducible refine Chg.trans ?_ (by assumption))) (fun b h1 h2 => by simp at h1; omega)) (by simp; omega) (by simp [World.setCell])
  · repeat (first | with_reducible exact Ext.refl _ | with_reducible assumption | with_reducible refine Ext.alloc ?_ _ | with_reducible refine Ext.drew ?_ | with_reducible refine Ext.drewN ?_ _ | ((with_reducible refine Ext.set ?_ ?_ _); (focus (first | (simp; done) | (simp; omega)))) | with_reducible refine Ext.trans ?_ (by assumption))
end Go.Proofs.Ytjhgcbchdnoleaa

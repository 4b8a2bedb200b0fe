/-
  The state that follows: contracts. No condition.
-/
import Derived.Test.YtjhgcbchdnoleaaSnStep
import Derived.Test.YtjhgcbchdnoleaaSnd
namespace Go.Proofs.Ytjhgcbchdnoleaa
open Go.ChangeShapes Go.WideShapes Go.ChangeAt Go.RowKit
set_option linter.unusedSimpArgs false
set_option linter.unusedVariables false
set_option maxHeartbeats 2000000 in
set_option maxRecDepth 100000 in
theorem state_impl (s : Sn) (a : Ads) (c1 c2 c3 c4 : Nat) (w : World) :
    Calls Try.prog 79 #[.agg #[.int .i64 s.st, .int .i64 s.z, .int .i64 s.b, .int .i64 s.e, .slice a.r s.xs.length c1, .slice a.p s.p.length c2, .slice a.f s.f.length c3, .slice a.k s.k.length c4, .int .i64 s.fi, .int .i64 s.fk, .int .i64 s.se, .int .i64 s.co]] w fun e w' => e = .returned (.int .i64 (stI s.st s.b s.e s.fk s.se)) ∧ Ext w w' := by
  obtain ⟨st, z, b, e, xs, p, f, k, fi, fk, se, co⟩ := s
  dsimp only
  by_cases h1 : fk = 3
  · subst h1
    by_cases h2 : b = e
    · subst h2
      go_enter Try.func79, Try.ntmps79
      go_wp2
      go_ret
      exact ⟨by first | (simp [stI, *]; done) | (simp [stI, *]; (repeat' split) <;> omega), (by repeat (first | with_reducible exact Ext.refl _ | with_reducible assumption | with_reducible refine Ext.alloc ?_ _ | with_reducible refine Ext.drew ?_ | with_reducible refine Ext.drewN ?_ _ | ((with_reducible refine Ext.set ?_ ?_ _); (focus (first | (simp; done) | (simp; omega)))) | with_reducible refine Ext.trans ?_ (by assumption)))⟩
    · have h2e : (b == e) = false := by simp [h2]
      go_enter Try.func79, Try.ntmps79
      go_wp2
      go_ret
      exact ⟨by first | (simp [stI, *]; done) | (simp [stI, *]; (repeat' split) <;> omega), (by repeat (first | with_reducible exact Ext.refl _ | with_reducible assumption | with_reducible refine Ext.alloc ?_ _ | with_reducible refine Ext.drew ?_ | with_reducible refine Ext.drewN ?_ _ | ((with_reducible refine Ext.set ?_ ?_ _); (focus (first | (simp; done) | (simp; omega)))) | with_reducible refine Ext.trans ?_ (by assumption)))⟩
  · have h1e : (fk == 3) = false := by simp [h1]
    by_cases h3 : fk = 2
    · subst h3
      go_enter Try.func79, Try.ntmps79
      go_wp2
      go_ret
      exact ⟨by first | (simp [stI, *]; done) | (simp [stI, *]; (repeat' split) <;> omega), (by repeat (first | with_reducible exact Ext.refl _ | with_reducible assumption | with_reducible refine Ext.alloc ?_ _ | with_reducible refine Ext.drew ?_ | with_reducible refine Ext.drewN ?_ _ | ((with_reducible refine Ext.set ?_ ?_ _); (focus (first | (simp; done) | (simp; omega)))) | with_reducible refine Ext.trans ?_ (by assumption)))⟩
    · have h3e : (fk == 2) = false := by simp [h3]
      by_cases h4 : fk = 1
      · subst h4
        by_cases h5 : st = 2
        · subst h5
          go_enter Try.func79, Try.ntmps79
          go_wp2
          go_ret
          exact ⟨by first | (simp [stI, *]; done) | (simp [stI, *]; (repeat' split) <;> omega), (by repeat (first | with_reducible exact Ext.refl _ | with_reducible assumption | with_reducible refine Ext.alloc ?_ _ | with_reducible refine Ext.drew ?_ | with_reducible refine Ext.drewN ?_ _ | ((with_reducible refine Ext.set ?_ ?_ _); (focus (first | (simp; done) | (simp; omega)))) | with_reducible refine Ext.trans ?_ (by assumption)))⟩
        · have h5e : (st == 2) = false := by simp [h5]
          by_cases h6 : 0 < se
          · have h6e : decide (0 < se) = true := decide_eq_true h6
            go_enter Try.func79, Try.ntmps79
            go_wp2
            go_ret
            exact ⟨by first | (simp [stI, *]; done) | (simp [stI, *]; (repeat' split) <;> omega), (by repeat (first | with_reducible exact Ext.refl _ | with_reducible assumption | with_reducible refine Ext.alloc ?_ _ | with_reducible refine Ext.drew ?_ | with_reducible refine Ext.drewN ?_ _ | ((with_reducible refine Ext.set ?_ ?_ _); (focus (first | (simp; done) | (simp; omega)))) | with_reducible refine Ext.trans ?_ (by assumption)))⟩
          · have h6e : decide (0 < se) = false := decide_eq_false h6
            by_cases h7 : st = 1
            · subst h7
              go_enter Try.func79, Try.ntmps79
              go_wp2
              go_ret
              exact ⟨by first | (simp [stI, *]; done) | (simp [stI, *]; (repeat' split) <;> omega), (by repeat (first | with_reducible exact Ext.refl _ | with_reducible assumption | with_reducible refine Ext.alloc ?_ _ | with_reducible refine Ext.drew ?_ | with_reducible refine Ext.drewN ?_ _ | ((with_reducible refine Ext.set ?_ ?_ _); (focus (first | (simp; done) | (simp; omega)))) | with_reducible refine Ext.trans ?_ (by assumption)))⟩
            · have h7e : (st == 1) = false := by simp [h7]
              go_enter Try.func79, Try.ntmps79
              go_wp2
              go_ret
              exact ⟨by first | (simp [stI, *]; done) | (simp [stI, *]; (repeat' split) <;> omega), (by repeat (first | with_reducible exact Ext.refl _ | with_reducible assumption | with_reducible refine Ext.alloc ?_ _ | with_reducible refine Ext.drew ?_ | with_reducible refine Ext.drewN ?_ _ | ((with_reducible refine Ext.set ?_ ?_ _); (focus (first | (simp; done) | (simp; omega)))) | with_reducible refine Ext.trans ?_ (by assumption)))⟩
      · have h4e : (fk == 1) = false := by simp [h4]
        by_cases h8 : 1 < fk
        · have h8e : decide (1 < fk) = true := decide_eq_true h8
          by_cases h6 : 0 < se
          · have h6e : decide (0 < se) = true := decide_eq_true h6
            go_enter Try.func79, Try.ntmps79
            go_wp2
            go_ret
            exact ⟨by first | (simp [stI, *]; done) | (simp [stI, *]; (repeat' split) <;> omega), (by repeat (first | with_reducible exact Ext.refl _ | with_reducible assumption | with_reducible refine Ext.alloc ?_ _ | with_reducible refine Ext.drew ?_ | with_reducible refine Ext.drewN ?_ _ | ((with_reducible refine Ext.set ?_ ?_ _); (focus (first | (simp; done) | (simp; omega)))) | with_reducible refine Ext.trans ?_ (by assumption)))⟩
          · have h6e : decide (0 < se) = false := decide_eq_false h6
            go_enter Try.func79, Try.ntmps79
            go_wp2
            go_ret
            exact ⟨by first | (simp [stI, *]; done) | (simp [stI, *]; (repeat' split) <;> omega), (by repeat (first | with_reducible exact Ext.refl _ | with_reducible assumption | with_reducible refine Ext.alloc ?_ _ | with_reducible refine Ext.drew ?_ | with_reducible refine Ext.drewN ?_ _ | ((with_reducible refine Ext.set ?_ ?_ _); (focus (first | (simp; done) | (simp; omega)))) | with_reducible refine Ext.trans ?_ (by assumption)))⟩
        · have h8e : decide (1 < fk) = false := decide_eq_false h8
          by_cases h6 : 0 < se
          · have h6e : decide (0 < se) = true := decide_eq_true h6
            go_enter Try.func79, Try.ntmps79
            go_wp2
            go_ret
            exact ⟨by first | (simp [stI, *]; done) | (simp [stI, *]; (repeat' split) <;> omega), (by repeat (first | with_reducible exact Ext.refl _ | with_reducible assumption | with_reducible refine Ext.alloc ?_ _ | with_reducible refine Ext.drew ?_ | with_reducible refine Ext.drewN ?_ _ | ((with_reducible refine Ext.set ?_ ?_ _); (focus (first | (simp; done) | (simp; omega)))) | with_reducible refine Ext.trans ?_ (by assumption)))⟩
          · have h6e : decide (0 < se) = false := decide_eq_false h6
            go_enter Try.func79, Try.ntmps79
            go_wp2
            go_ret
            exact ⟨by first | (simp [stI, *]; done) | (simp [stI, *]; (repeat' split) <;> omega), (by repeat (first | with_reducible exact Ext.refl _ | with_reducible assumption | with_reducible refine Ext.alloc ?_ _ | with_reducible refine Ext.drew ?_ | with_reducible refine Ext.drewN ?_ _ | ((with_reducible refine Ext.set ?_ ?_ _); (focus (first | (simp; done) | (simp; omega)))) | with_reducible refine Ext.trans ?_ (by assumption)))⟩
set_option maxHeartbeats 2000000 in
set_option maxRecDepth 100000 in
theorem state_spec (s : Sn) (a : Ads) (c1 c2 c3 c4 : Nat) (w : World) :
    Calls Try.prog 86 #[.agg #[.int .i64 s.st, .int .i64 s.z, .int .i64 s.b, .int .i64 s.e, .slice a.r s.xs.length c1, .slice a.p s.p.length c2, .slice a.f s.f.length c3, .slice a.k s.k.length c4, .int .i64 s.fi, .int .i64 s.fk, .int .i64 s.se, .int .i64 s.co]] w fun e w' => e = .returned (.int .i64 (stS s.st s.b s.e s.fk s.se)) ∧ Ext w w' := by
  obtain ⟨st, z, b, e, xs, p, f, k, fi, fk, se, co⟩ := s
  dsimp only
  by_cases h1 : fk = 3
  · subst h1
    by_cases h2 : b = e
    · subst h2
      go_enter Try.func86, Try.ntmps86
      go_wp2
      go_ret
      exact ⟨by first | (simp [stS, *]; done) | (simp [stS, *]; (repeat' split) <;> omega), (by repeat (first | with_reducible exact Ext.refl _ | with_reducible assumption | with_reducible refine Ext.alloc ?_ _ | with_reducible refine Ext.drew ?_ | with_reducible refine Ext.drewN ?_ _ | ((with_reducible refine Ext.set ?_ ?_ _); (focus (first | (simp; done) | (simp; omega)))) | with_reducible refine Ext.trans ?_ (by assumption)))⟩
    · have h2e : (b == e) = false := by simp [h2]
      go_enter Try.func86, Try.ntmps86
      go_wp2
      go_ret
      exact ⟨by first | (simp [stS, *]; done) | (simp [stS, *]; (repeat' split) <;> omega), (by repeat (first | with_reducible exact Ext.refl _ | with_reducible assumption | with_reducible refine Ext.alloc ?_ _ | with_reducible refine Ext.drew ?_ | with_reducible refine Ext.drewN ?_ _ | ((with_reducible refine Ext.set ?_ ?_ _); (focus (first | (simp; done) | (simp; omega)))) | with_reducible refine Ext.trans ?_ (by assumption)))⟩
  · have h1e : (fk == 3) = false := by simp [h1]
    by_cases h3 : fk = 2
    · subst h3
      go_enter Try.func86, Try.ntmps86
      go_wp2
      go_ret
      exact ⟨by first | (simp [stS, *]; done) | (simp [stS, *]; (repeat' split) <;> omega), (by repeat (first | with_reducible exact Ext.refl _ | with_reducible assumption | with_reducible refine Ext.alloc ?_ _ | with_reducible refine Ext.drew ?_ | with_reducible refine Ext.drewN ?_ _ | ((with_reducible refine Ext.set ?_ ?_ _); (focus (first | (simp; done) | (simp; omega)))) | with_reducible refine Ext.trans ?_ (by assumption)))⟩
    · have h3e : (fk == 2) = false := by simp [h3]
      by_cases h4 : fk = 1
      · subst h4
        by_cases h5 : st = 2
        · subst h5
          go_enter Try.func86, Try.ntmps86
          go_wp2
          go_ret
          exact ⟨by first | (simp [stS, *]; done) | (simp [stS, *]; (repeat' split) <;> omega), (by repeat (first | with_reducible exact Ext.refl _ | with_reducible assumption | with_reducible refine Ext.alloc ?_ _ | with_reducible refine Ext.drew ?_ | with_reducible refine Ext.drewN ?_ _ | ((with_reducible refine Ext.set ?_ ?_ _); (focus (first | (simp; done) | (simp; omega)))) | with_reducible refine Ext.trans ?_ (by assumption)))⟩
        · have h5e : (st == 2) = false := by simp [h5]
          by_cases h6 : 0 < se
          · have h6e : decide (0 < se) = true := decide_eq_true h6
            go_enter Try.func86, Try.ntmps86
            go_wp2
            go_ret
            exact ⟨by first | (simp [stS, *]; done) | (simp [stS, *]; (repeat' split) <;> omega), (by repeat (first | with_reducible exact Ext.refl _ | with_reducible assumption | with_reducible refine Ext.alloc ?_ _ | with_reducible refine Ext.drew ?_ | with_reducible refine Ext.drewN ?_ _ | ((with_reducible refine Ext.set ?_ ?_ _); (focus (first | (simp; done) | (simp; omega)))) | with_reducible refine Ext.trans ?_ (by assumption)))⟩
          · have h6e : decide (0 < se) = false := decide_eq_false h6
            by_cases h7 : st = 1
            · subst h7
              go_enter Try.func86, Try.ntmps86
              go_wp2
              go_ret
              exact ⟨by first | (simp [stS, *]; done) | (simp [stS, *]; (repeat' split) <;> omega), (by repeat (first | with_reducible exact Ext.refl _ | with_reducible assumption | with_reducible refine Ext.alloc ?_ _ | with_reducible refine Ext.drew ?_ | with_reducible refine Ext.drewN ?_ _ | ((with_reducible refine Ext.set ?_ ?_ _); (focus (first | (simp; done) | (simp; omega)))) | with_reducible refine Ext.trans ?_ (by assumption)))⟩
            · have h7e : (st == 1) = false := by simp [h7]
              go_enter Try.func86, Try.ntmps86
              go_wp2
              go_ret
              exact ⟨by first | (simp [stS, *]; done) | (simp [stS, *]; (repeat' split) <;> omega), (by repeat (first | with_reducible exact Ext.refl _ | with_reducible assumption | with_reducible refine Ext.alloc ?_ _ | with_reducible refine Ext.drew ?_ | with_reducible refine Ext.drewN ?_ _ | ((with_reducible refine Ext.set ?_ ?_ _); (focus (first | (simp; done) | (simp; omega)))) | with_reducible refine Ext.trans ?_ (by assumption)))⟩
      · have h4e : (fk == 1) = false := by simp [h4]
        by_cases h8 : 1 < fk
        · have h8e : decide (1 < fk) = true := decide_eq_true h8
          by_cases h6 : 0 < se
          · have h6e : decide (0 < se) = true := decide_eq_true h6
            go_enter Try.func86, Try.ntmps86
            go_wp2
            go_ret
            exact ⟨by first | (simp [stS, *]; done) | (simp [stS, *]; (repeat' split) <;> omega), (by repeat (first | with_reducible exact Ext.refl _ | with_reducible assumption | with_reducible refine Ext.alloc ?_ _ | with_reducible refine Ext.drew ?_ | with_reducible refine Ext.drewN ?_ _ | ((with_reducible refine Ext.set ?_ ?_ _); (focus (first | (simp; done) | (simp; omega)))) | with_reducible refine Ext.trans ?_ (by assumption)))⟩
          · have h6e : decide (0 < se) = false := decide_eq_false h6
            go_enter Try.func86, Try.ntmps86
            go_wp2
            go_ret
            exact ⟨by first | (simp [stS, *]; done) | (simp [stS, *]; (repeat' split) <;> omega), (by repeat (first | with_reducible exact Ext.refl _ | with_reducible assumption | with_reducible refine Ext.alloc ?_ _ | with_reducible refine Ext.drew ?_ | with_reducible refine Ext.drewN ?_ _ | ((with_reducible refine Ext.set ?_ ?_ _); (focus (first | (simp; done) | (simp; omega)))) | with_reducible refine Ext.trans ?_ (by assumption)))⟩
        · have h8e : decide (1 < fk) = false := decide_eq_false h8
          by_cases h6 : 0 < se
          · have h6e : decide (0 < se) = true := decide_eq_true h6
            go_enter Try.func86, Try.ntmps86
            go_wp2
            go_ret
            exact ⟨by first | (simp [stS, *]; done) | (simp [stS, *]; (repeat' split) <;> omega), (by repeat (first | with_reducible exact Ext.refl _ | with_reducible assumption | with_reducible refine Ext.alloc ?_ _ | with_reducible refine Ext.drew ?_ | with_reducible refine Ext.drewN ?_ _ | ((with_reducible refine Ext.set ?_ ?_ _); (focus (first | (simp; done) | (simp; omega)))) | with_reducible refine Ext.trans ?_ (by assumption)))⟩
          · have h6e : decide (0 < se) = false := decide_eq_false h6
            go_enter Try.func86, Try.ntmps86
            go_wp2
            go_ret
            exact ⟨by first | (simp [stS, *]; done) | (simp [stS, *]; (repeat' split) <;> omega), (by repeat (first | with_reducible exact Ext.refl _ | with_reducible assumption | with_reducible refine Ext.alloc ?_ _ | with_reducible refine Ext.drew ?_ | with_reducible refine Ext.drewN ?_ _ | ((with_reducible refine Ext.set ?_ ?_ _); (focus (first | (simp; done) | (simp; omega)))) | with_reducible refine Ext.trans ?_ (by assumption)))⟩
set_option maxHeartbeats 2000000 in
theorem endsBehind_impl (m : Int) (ao : Option Addr) (n ca : Nat) (rs : List Rg) (w : World) (hx : ReadR w ao rs) (hn : rs.length = n) (hl : (n : Int) ≤ 9223372036854775807) :
    Calls Try.prog 78 #[.slice ao n ca, .int .i64 m] w fun e w' => e = .returned (.bool (endsB rs m)) ∧ Ext w w' := by
  by_cases h0 : 0 < n
  · have h0e : decide ((0 : Int) < (n : Int)) = true := decide_eq_true (by omega)
    have h0f : decide (0 < n) = true := decide_eq_true h0
    rcases hx with hnil | ⟨bx, off, rfl, hx⟩
    · rw [hnil] at hn; simp at hn; omega
    obtain ⟨cx, cx2⟩ := hx (n - 1) (by omega)
    have la : bx < w.heap.size := World.block_lt_of_cell? w _ cx
    have hwr : IntKind.i64.wrap ((n : Int) - 1) = ((n - 1 : Nat) : Int) := (IntWalk.i64_in _ (by omega)).trans (by omega)
    have i1 : (0 : Int) ≤ ((n - 1 : Nat) : Int) := by omega
    have i2 : ((n - 1 : Nat) : Int) < (n : Int) := by omega
    have hE : Hid (endsB rs m = decide (m < (rs.getD (n - 1) dr).2)) := hide (by
      unfold endsB
      rw [hn, decide_eq_true h0]; rfl)
    clear hx
    obtain ⟨j, hj⟩ : ∃ j, j = n - 1 := ⟨_, rfl⟩
    rw [← hj] at cx cx2 hwr i1 i2 hE
    clear hj
    generalize rs.getD j dr = x at *
    obtain ⟨x1, x2⟩ := x
    dsimp only at *
    go_enter Try.func78, Try.ntmps78
    go_wp2
    go_ret
    exact ⟨by first | (rw [hE.out]; rfl) | (simp [hE.out]), (by repeat (first | with_reducible exact Ext.refl _ | with_reducible assumption | with_reducible refine Ext.alloc ?_ _ | with_reducible refine Ext.drew ?_ | with_reducible refine Ext.drewN ?_ _ | ((with_reducible refine Ext.set ?_ ?_ _); (focus (first | (simp; done) | (simp; omega)))) | with_reducible refine Ext.trans ?_ (by assumption)))⟩
  · have h0e : decide ((0 : Int) < (n : Int)) = false := decide_eq_false (by omega)
    have h0f : decide (0 < n) = false := decide_eq_false h0
    have hE : Hid (endsB rs m = false) := hide (by
      unfold endsB
      rw [hn, decide_eq_false h0]; rfl)
    clear hx
    go_enter Try.func78, Try.ntmps78
    go_wp2
    go_ret
    exact ⟨by (rw [hE.out]) <;> rfl, (by repeat (first | with_reducible exact Ext.refl _ | with_reducible assumption | with_reducible refine Ext.alloc ?_ _ | with_reducible refine Ext.drew ?_ | with_reducible refine Ext.drewN ?_ _ | ((with_reducible refine Ext.set ?_ ?_ _); (focus (first | (simp; done) | (simp; omega)))) | with_reducible refine Ext.trans ?_ (by assumption)))⟩
end Go.Proofs.Ytjhgcbchdnoleaa

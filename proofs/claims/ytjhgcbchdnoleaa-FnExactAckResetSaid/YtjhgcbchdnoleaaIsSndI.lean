/-
  IsSender of the program: contract. Condition: the slices can be read.
-/
import Derived.Test.YtjhgcbchdnoleaaSnWh
import Derived.Test.YtjhgcbchdnoleaaIsRing
import Derived.Test.YtjhgcbchdnoleaaTabA
namespace Go.Proofs.Ytjhgcbchdnoleaa
open Go.ChangeShapes Go.WideShapes Go.ChangeAt Go.RowKit
set_option linter.unusedSimpArgs false
set_option linter.unusedVariables false
theorem cond_y {b : Bool} {u v : Value} (h : b = true) : (bif b then u else v) = u := by rw [h]; rfl
theorem cond_n {b : Bool} {u v : Value} (h : b = false) : (bif b then u else v) = v := by rw [h]; rfl
theorem beq_dec (x y : Int) : (x == y) = decide (x = y) := by
  by_cases h : x = y <;> simp [h]
theorem sndI_tail (s : Sn) (hd : sndHd s = true) (hn : isRst s = false) (F : Int) (hF : F = if s.fk = 0 then -1 else s.e) :
    sndI s = (((((((decide (cntSum s.p s.f s.k = s.e) && (decide (cntR (joinR s.p s.f s.k) = s.e) && !endsB (joinR s.p s.f s.k) s.e)) && gapR s.k 0 == s.b) && !endsB s.f s.se) && !endsB s.k s.se) && s.co == 0) && s.fi == F) && s.st == stI s.st s.b s.e s.fk s.se) := by
  subst hF
  unfold sndI wholeI
  rw [hd, hn]
  simp only [beq_dec, Bool.true_and, Bool.and_assoc]
  rfl
set_option maxHeartbeats 16000000 in
set_option maxRecDepth 100000 in
theorem IsSender_impl (s : Sn) (a : Ads) (c1 c2 c3 c4 : Nat) (w : World) (hx : ReadSnd w a ⟨s.xs, s.p, s.f, s.k⟩) (hl : s.xs.length ≤ 1048576) (hsum : s.p.length + s.f.length + s.k.length ≤ 1048576) :
    Calls Try.prog 19 #[.agg #[.int .i64 s.st, .int .i64 s.z, .int .i64 s.b, .int .i64 s.e, .slice a.r s.xs.length c1, .slice a.p s.p.length c2, .slice a.f s.f.length c3, .slice a.k s.k.length c4, .int .i64 s.fi, .int .i64 s.fk, .int .i64 s.se, .int .i64 s.co]] w fun en w' => en = .returned (.bool (sndI s)) ∧ Ext w w' := by
  obtain ⟨st, z, b, e, xs, p, f, k, fi, fk, se, co⟩ := s
  dsimp only at *
  have hx' := hide hx
  clear hx
  obtain ⟨R, hR⟩ : ∃ R, Hid (sndI ⟨st, z, b, e, xs, p, f, k, fi, fk, se, co⟩ = R) := ⟨_, hide rfl⟩
  rw [hR.out]
  go_enter Try.func19, Try.ntmps19
  go_wp2_with fail
  refine (IsRing_impl z b e a.r _ c1 xs _ (hx'.out.r.ext (by repeat (first | with_reducible exact Ext.refl _ | with_reducible assumption | with_reducible refine Ext.alloc ?_ _ | with_reducible refine Ext.drew ?_ | ((with_reducible refine Ext.set ?_ ?_ _); (focus (first | (simp; done) | (simp; omega) | omega)))))) rfl (by omega)).mono ?_
  rintro en w1 ⟨rfl, hw1⟩
  have xw1 : Ext w w1 := (by repeat (first | with_reducible exact Ext.refl _ | with_reducible assumption | with_reducible refine Ext.alloc ?_ _ | with_reducible refine Ext.drew ?_ | with_reducible refine Ext.drewN ?_ _ | ((with_reducible refine Ext.set ?_ ?_ _); (focus (first | (simp; done) | (simp; omega)))) | with_reducible refine Ext.trans ?_ (by assumption)))
  have kw1_0 := hw1.more (k := w.heap.size) (by first | assumption | (simp; done) | (simp; omega) | omega)
  obtain ⟨cw1_0, fw1_0⟩ := hw1.row (k := w.heap.size) (by first | assumption | (simp; done) | (simp; omega) | omega)
  rcases Bool.eq_false_or_eq_true (isRing z b e xs) with r1 | r1
  rotate_left
  · rw [r1]
    have hRv : Hid (R = false) := hide (by rw [← hR.out]; simp [sndI, sndHd, r1])
    go_wp2
    go_ret
    exact ⟨by (rw [hRv.out]) <;> rfl, (by repeat (first | with_reducible exact Ext.refl _ | with_reducible assumption | with_reducible refine Ext.alloc ?_ _ | with_reducible refine Ext.drew ?_ | ((with_reducible refine Ext.set ?_ ?_ _); (focus (first | (simp; done) | (simp; omega) | omega))) | with_reducible refine Ext.trans ?_ hw1))⟩
  rw [r1]
  go_wp2_with fail
  refine (IsRanges_impl a.p _ c2 p _ (hx'.out.p.ext (by repeat (first | with_reducible exact Ext.refl _ | with_reducible assumption | with_reducible refine Ext.alloc ?_ _ | with_reducible refine Ext.drew ?_ | ((with_reducible refine Ext.set ?_ ?_ _); (focus (first | (simp; done) | (simp; omega) | omega))) | with_reducible refine Ext.trans ?_ hw1))) rfl (by omega)).mono ?_
  rintro en w2 ⟨rfl, hw2⟩
  have xw2 : Ext w w2 := (by repeat (first | with_reducible exact Ext.refl _ | with_reducible assumption | with_reducible refine Ext.alloc ?_ _ | with_reducible refine Ext.drew ?_ | with_reducible refine Ext.drewN ?_ _ | ((with_reducible refine Ext.set ?_ ?_ _); (focus (first | (simp; done) | (simp; omega)))) | with_reducible refine Ext.trans ?_ (by assumption)))
  have kw2_0 := hw2.more (k := w.heap.size) (by first | assumption | (simp; done) | (simp; omega) | omega)
  obtain ⟨cw2_0, fw2_0⟩ := hw2.row (k := w.heap.size) (by first | assumption | (simp; done) | (simp; omega) | omega)
  rcases Bool.eq_false_or_eq_true (isRgs p) with r2 | r2
  rotate_left
  · rw [r2]
    have hRv : Hid (R = false) := hide (by rw [← hR.out]; simp [sndI, sndHd, r1, r2])
    go_wp2
    go_ret
    exact ⟨by (rw [hRv.out]) <;> rfl, (by repeat (first | with_reducible exact Ext.refl _ | with_reducible assumption | with_reducible refine Ext.alloc ?_ _ | with_reducible refine Ext.drew ?_ | ((with_reducible refine Ext.set ?_ ?_ _); (focus (first | (simp; done) | (simp; omega) | omega))) | with_reducible refine Ext.trans ?_ hw2 | with_reducible refine Ext.trans ?_ hw1))⟩
  rw [r2]
  go_wp2_with fail
  refine (IsRanges_impl a.f _ c3 f _ (hx'.out.f.ext (by repeat (first | with_reducible exact Ext.refl _ | with_reducible assumption | with_reducible refine Ext.alloc ?_ _ | with_reducible refine Ext.drew ?_ | ((with_reducible refine Ext.set ?_ ?_ _); (focus (first | (simp; done) | (simp; omega) | omega))) | with_reducible refine Ext.trans ?_ hw2 | with_reducible refine Ext.trans ?_ hw1))) rfl (by omega)).mono ?_
  rintro en w3 ⟨rfl, hw3⟩
  have xw3 : Ext w w3 := (by repeat (first | with_reducible exact Ext.refl _ | with_reducible assumption | with_reducible refine Ext.alloc ?_ _ | with_reducible refine Ext.drew ?_ | with_reducible refine Ext.drewN ?_ _ | ((with_reducible refine Ext.set ?_ ?_ _); (focus (first | (simp; done) | (simp; omega)))) | with_reducible refine Ext.trans ?_ (by assumption)))
  have kw3_0 := hw3.more (k := w.heap.size) (by first | assumption | (simp; done) | (simp; omega) | omega)
  obtain ⟨cw3_0, fw3_0⟩ := hw3.row (k := w.heap.size) (by first | assumption | (simp; done) | (simp; omega) | omega)
  rcases Bool.eq_false_or_eq_true (isRgs f) with r3 | r3
  rotate_left
  · rw [r3]
    have hRv : Hid (R = false) := hide (by rw [← hR.out]; simp [sndI, sndHd, r1, r2, r3])
    go_wp2
    go_ret
    exact ⟨by (rw [hRv.out]) <;> rfl, (by repeat (first | with_reducible exact Ext.refl _ | with_reducible assumption | with_reducible refine Ext.alloc ?_ _ | with_reducible refine Ext.drew ?_ | ((with_reducible refine Ext.set ?_ ?_ _); (focus (first | (simp; done) | (simp; omega) | omega))) | with_reducible refine Ext.trans ?_ hw3 | with_reducible refine Ext.trans ?_ hw2 | with_reducible refine Ext.trans ?_ hw1))⟩
  rw [r3]
  go_wp2_with fail
  refine (IsRanges_impl a.k _ c4 k _ (hx'.out.k.ext (by repeat (first | with_reducible exact Ext.refl _ | with_reducible assumption | with_reducible refine Ext.alloc ?_ _ | with_reducible refine Ext.drew ?_ | ((with_reducible refine Ext.set ?_ ?_ _); (focus (first | (simp; done) | (simp; omega) | omega))) | with_reducible refine Ext.trans ?_ hw3 | with_reducible refine Ext.trans ?_ hw2 | with_reducible refine Ext.trans ?_ hw1))) rfl (by omega)).mono ?_
  rintro en w4 ⟨rfl, hw4⟩
  have xw4 : Ext w w4 := (by repeat (first | with_reducible exact Ext.refl _ | with_reducible assumption | with_reducible refine Ext.alloc ?_ _ | with_reducible refine Ext.drew ?_ | with_reducible refine Ext.drewN ?_ _ | ((with_reducible refine Ext.set ?_ ?_ _); (focus (first | (simp; done) | (simp; omega)))) | with_reducible refine Ext.trans ?_ (by assumption)))
  have kw4_0 := hw4.more (k := w.heap.size) (by first | assumption | (simp; done) | (simp; omega) | omega)
  obtain ⟨cw4_0, fw4_0⟩ := hw4.row (k := w.heap.size) (by first | assumption | (simp; done) | (simp; omega) | omega)
  rcases Bool.eq_false_or_eq_true (isRgs k) with r4 | r4
  rotate_left
  · rw [r4]
    have hRv : Hid (R = false) := hide (by rw [← hR.out]; simp [sndI, sndHd, r1, r2, r3, r4])
    go_wp2
    go_ret
    exact ⟨by (rw [hRv.out]) <;> rfl, (by repeat (first | with_reducible exact Ext.refl _ | with_reducible assumption | with_reducible refine Ext.alloc ?_ _ | with_reducible refine Ext.drew ?_ | ((with_reducible refine Ext.set ?_ ?_ _); (focus (first | (simp; done) | (simp; omega) | omega))) | with_reducible refine Ext.trans ?_ hw4 | with_reducible refine Ext.trans ?_ hw3 | with_reducible refine Ext.trans ?_ hw2 | with_reducible refine Ext.trans ?_ hw1))⟩
  rw [r4]
  go_wp2_with fail
  refine (within_any se 0 e _).mono ?_
  rintro en _ ⟨rfl, rfl⟩
  rcases Bool.eq_false_or_eq_true (inB 0 se e) with r5 | r5
  rotate_left
  · rw [r5]
    have hRv : Hid (R = false) := hide (by rw [← hR.out]; simp [sndI, sndHd, r1, r2, r3, r4, r5])
    go_wp2
    go_ret
    exact ⟨by (rw [hRv.out]) <;> rfl, (by repeat (first | with_reducible exact Ext.refl _ | with_reducible assumption | with_reducible refine Ext.alloc ?_ _ | with_reducible refine Ext.drew ?_ | ((with_reducible refine Ext.set ?_ ?_ _); (focus (first | (simp; done) | (simp; omega) | omega))) | with_reducible refine Ext.trans ?_ hw4 | with_reducible refine Ext.trans ?_ hw3 | with_reducible refine Ext.trans ?_ hw2 | with_reducible refine Ext.trans ?_ hw1))⟩
  rw [r5]
  go_wp2_with fail
  refine (isQuic_any co _).mono ?_
  rintro en _ ⟨rfl, rfl⟩
  rcases Bool.eq_false_or_eq_true (inB 0 co 4611686018427387903) with r6 | r6
  rotate_left
  · rw [r6]
    have hRv : Hid (R = false) := hide (by rw [← hR.out]; simp [sndI, sndHd, r1, r2, r3, r4, r5, r6])
    go_wp2
    go_ret
    exact ⟨by (rw [hRv.out]) <;> rfl, (by repeat (first | with_reducible exact Ext.refl _ | with_reducible assumption | with_reducible refine Ext.alloc ?_ _ | with_reducible refine Ext.drew ?_ | ((with_reducible refine Ext.set ?_ ?_ _); (focus (first | (simp; done) | (simp; omega) | omega))) | with_reducible refine Ext.trans ?_ hw4 | with_reducible refine Ext.trans ?_ hw3 | with_reducible refine Ext.trans ?_ hw2 | with_reducible refine Ext.trans ?_ hw1))⟩
  rw [r6]
  go_wp2_with fail
  refine (within_any fk 0 3 _).mono ?_
  rintro en _ ⟨rfl, rfl⟩
  rcases Bool.eq_false_or_eq_true (inB 0 fk 3) with r7 | r7
  rotate_left
  · rw [r7]
    have hRv : Hid (R = false) := hide (by rw [← hR.out]; simp [sndI, sndHd, r1, r2, r3, r4, r5, r6, r7])
    go_wp2
    go_ret
    exact ⟨by (rw [hRv.out]) <;> rfl, (by repeat (first | with_reducible exact Ext.refl _ | with_reducible assumption | with_reducible refine Ext.alloc ?_ _ | with_reducible refine Ext.drew ?_ | ((with_reducible refine Ext.set ?_ ?_ _); (focus (first | (simp; done) | (simp; omega) | omega))) | with_reducible refine Ext.trans ?_ hw4 | with_reducible refine Ext.trans ?_ hw3 | with_reducible refine Ext.trans ?_ hw2 | with_reducible refine Ext.trans ?_ hw1))⟩
  rw [r7]
  have hHd : Hid (sndHd ⟨st, z, b, e, xs, p, f, k, fi, fk, se, co⟩ = true) := hide (by simp [sndHd, r1, r2, r3, r4, r5, r6, r7])
  have hrb := isRing_bd r1
  have hseb := inB_true r5
  have hcob := inB_true r6
  have hfkb := inB_true r7
  by_cases s4 : st = 4
  · have s4e : (st == 4) = true := by simp [s4]
    have hrs : isRst ⟨st, z, b, e, xs, p, f, k, fi, fk, se, co⟩ = true := by simp [isRst, s4]
    by_cases d1 : p.length = 0
    · have d1e : ((p.length : Int) == 0) = true := by simp [d1]
      by_cases d2 : f.length = 0
      · have d2e : ((f.length : Int) == 0) = true := by simp [d2]
        by_cases d3 : k.length = 0
        · have d3e : ((k.length : Int) == 0) = true := by simp [d3]
          by_cases d4 : b = e
          · have d4e : (b == e) = true := by simp [d4]
            by_cases d5 : fi = se
            · have d5e : (fi == se) = true := by simp [d5]
              by_cases d6 : se = e
              · have d6e : (se == e) = true := by simp [d6]
                by_cases d7 : fk = 0
                · have d7e : (fk == 0) = true := by simp [d7]
                  have hRv : Hid (R = true) := hide (by rw [← hR.out]; unfold sndI; rw [hHd.out, hrs]; simp [sndRst, *])
                  go_wp2
                  go_ret
                  exact ⟨by (rw [hRv.out]) <;> rfl, (by repeat (first | with_reducible exact Ext.refl _ | with_reducible assumption | with_reducible refine Ext.alloc ?_ _ | with_reducible refine Ext.drew ?_ | ((with_reducible refine Ext.set ?_ ?_ _); (focus (first | (simp; done) | (simp; omega) | omega))) | with_reducible refine Ext.trans ?_ hw4 | with_reducible refine Ext.trans ?_ hw3 | with_reducible refine Ext.trans ?_ hw2 | with_reducible refine Ext.trans ?_ hw1))⟩
                · have d7e : (fk == 0) = false := by simp [d7]
                  have hRv : Hid (R = false) := hide (by rw [← hR.out]; unfold sndI; rw [hHd.out, hrs]; simp [sndRst, *])
                  go_wp2
                  go_ret
                  exact ⟨by (rw [hRv.out]) <;> rfl, (by repeat (first | with_reducible exact Ext.refl _ | with_reducible assumption | with_reducible refine Ext.alloc ?_ _ | with_reducible refine Ext.drew ?_ | ((with_reducible refine Ext.set ?_ ?_ _); (focus (first | (simp; done) | (simp; omega) | omega))) | with_reducible refine Ext.trans ?_ hw4 | with_reducible refine Ext.trans ?_ hw3 | with_reducible refine Ext.trans ?_ hw2 | with_reducible refine Ext.trans ?_ hw1))⟩
              · have d6e : (se == e) = false := by simp [d6]
                have hRv : Hid (R = false) := hide (by rw [← hR.out]; unfold sndI; rw [hHd.out, hrs]; simp [sndRst, *])
                go_wp2
                go_ret
                exact ⟨by (rw [hRv.out]) <;> rfl, (by repeat (first | with_reducible exact Ext.refl _ | with_reducible assumption | with_reducible refine Ext.alloc ?_ _ | with_reducible refine Ext.drew ?_ | ((with_reducible refine Ext.set ?_ ?_ _); (focus (first | (simp; done) | (simp; omega) | omega))) | with_reducible refine Ext.trans ?_ hw4 | with_reducible refine Ext.trans ?_ hw3 | with_reducible refine Ext.trans ?_ hw2 | with_reducible refine Ext.trans ?_ hw1))⟩
            · have d5e : (fi == se) = false := by simp [d5]
              have hRv : Hid (R = false) := hide (by rw [← hR.out]; unfold sndI; rw [hHd.out, hrs]; simp [sndRst, *])
              go_wp2
              go_ret
              exact ⟨by (rw [hRv.out]) <;> rfl, (by repeat (first | with_reducible exact Ext.refl _ | with_reducible assumption | with_reducible refine Ext.alloc ?_ _ | with_reducible refine Ext.drew ?_ | ((with_reducible refine Ext.set ?_ ?_ _); (focus (first | (simp; done) | (simp; omega) | omega))) | with_reducible refine Ext.trans ?_ hw4 | with_reducible refine Ext.trans ?_ hw3 | with_reducible refine Ext.trans ?_ hw2 | with_reducible refine Ext.trans ?_ hw1))⟩
          · have d4e : (b == e) = false := by simp [d4]
            have hRv : Hid (R = false) := hide (by rw [← hR.out]; unfold sndI; rw [hHd.out, hrs]; simp [sndRst, *])
            go_wp2
            go_ret
            exact ⟨by (rw [hRv.out]) <;> rfl, (by repeat (first | with_reducible exact Ext.refl _ | with_reducible assumption | with_reducible refine Ext.alloc ?_ _ | with_reducible refine Ext.drew ?_ | ((with_reducible refine Ext.set ?_ ?_ _); (focus (first | (simp; done) | (simp; omega) | omega))) | with_reducible refine Ext.trans ?_ hw4 | with_reducible refine Ext.trans ?_ hw3 | with_reducible refine Ext.trans ?_ hw2 | with_reducible refine Ext.trans ?_ hw1))⟩
        · have d3e : ((k.length : Int) == 0) = false := by simp [d3]
          have hRv : Hid (R = false) := hide (by rw [← hR.out]; unfold sndI; rw [hHd.out, hrs]; simp [sndRst, *])
          go_wp2
          go_ret
          exact ⟨by (rw [hRv.out]) <;> rfl, (by repeat (first | with_reducible exact Ext.refl _ | with_reducible assumption | with_reducible refine Ext.alloc ?_ _ | with_reducible refine Ext.drew ?_ | ((with_reducible refine Ext.set ?_ ?_ _); (focus (first | (simp; done) | (simp; omega) | omega))) | with_reducible refine Ext.trans ?_ hw4 | with_reducible refine Ext.trans ?_ hw3 | with_reducible refine Ext.trans ?_ hw2 | with_reducible refine Ext.trans ?_ hw1))⟩
      · have d2e : ((f.length : Int) == 0) = false := by simp [d2]
        have hRv : Hid (R = false) := hide (by rw [← hR.out]; unfold sndI; rw [hHd.out, hrs]; simp [sndRst, *])
        go_wp2
        go_ret
        exact ⟨by (rw [hRv.out]) <;> rfl, (by repeat (first | with_reducible exact Ext.refl _ | with_reducible assumption | with_reducible refine Ext.alloc ?_ _ | with_reducible refine Ext.drew ?_ | ((with_reducible refine Ext.set ?_ ?_ _); (focus (first | (simp; done) | (simp; omega) | omega))) | with_reducible refine Ext.trans ?_ hw4 | with_reducible refine Ext.trans ?_ hw3 | with_reducible refine Ext.trans ?_ hw2 | with_reducible refine Ext.trans ?_ hw1))⟩
    · have d1e : ((p.length : Int) == 0) = false := by simp [d1]
      have hRv : Hid (R = false) := hide (by rw [← hR.out]; unfold sndI; rw [hHd.out, hrs]; simp [sndRst, *])
      go_wp2
      go_ret
      exact ⟨by (rw [hRv.out]) <;> rfl, (by repeat (first | with_reducible exact Ext.refl _ | with_reducible assumption | with_reducible refine Ext.alloc ?_ _ | with_reducible refine Ext.drew ?_ | ((with_reducible refine Ext.set ?_ ?_ _); (focus (first | (simp; done) | (simp; omega) | omega))) | with_reducible refine Ext.trans ?_ hw4 | with_reducible refine Ext.trans ?_ hw3 | with_reducible refine Ext.trans ?_ hw2 | with_reducible refine Ext.trans ?_ hw1))⟩
  · have s4e : (st == 4) = false := by simp [s4]
    by_cases s5 : st = 5
    · have s5e : (st == 5) = true := by simp [s5]
      have hrs : isRst ⟨st, z, b, e, xs, p, f, k, fi, fk, se, co⟩ = true := by simp [isRst, s5]
      by_cases d1 : p.length = 0
      · have d1e : ((p.length : Int) == 0) = true := by simp [d1]
        by_cases d2 : f.length = 0
        · have d2e : ((f.length : Int) == 0) = true := by simp [d2]
          by_cases d3 : k.length = 0
          · have d3e : ((k.length : Int) == 0) = true := by simp [d3]
            by_cases d4 : b = e
            · have d4e : (b == e) = true := by simp [d4]
              by_cases d5 : fi = se
              · have d5e : (fi == se) = true := by simp [d5]
                by_cases d6 : se = e
                · have d6e : (se == e) = true := by simp [d6]
                  by_cases d7 : fk = 0
                  · have d7e : (fk == 0) = true := by simp [d7]
                    have hRv : Hid (R = true) := hide (by rw [← hR.out]; unfold sndI; rw [hHd.out, hrs]; simp [sndRst, *])
                    go_wp2
                    go_ret
                    exact ⟨by (rw [hRv.out]) <;> rfl, (by repeat (first | with_reducible exact Ext.refl _ | with_reducible assumption | with_reducible refine Ext.alloc ?_ _ | with_reducible refine Ext.drew ?_ | ((with_reducible refine Ext.set ?_ ?_ _); (focus (first | (simp; done) | (simp; omega) | omega))) | with_reducible refine Ext.trans ?_ hw4 | with_reducible refine Ext.trans ?_ hw3 | with_reducible refine Ext.trans ?_ hw2 | with_reducible refine Ext.trans ?_ hw1))⟩
                  · have d7e : (fk == 0) = false := by simp [d7]
                    have hRv : Hid (R = false) := hide (by rw [← hR.out]; unfold sndI; rw [hHd.out, hrs]; simp [sndRst, *])
                    go_wp2
                    go_ret
                    exact ⟨by (rw [hRv.out]) <;> rfl, (by repeat (first | with_reducible exact Ext.refl _ | with_reducible assumption | with_reducible refine Ext.alloc ?_ _ | with_reducible refine Ext.drew ?_ | ((with_reducible refine Ext.set ?_ ?_ _); (focus (first | (simp; done) | (simp; omega) | omega))) | with_reducible refine Ext.trans ?_ hw4 | with_reducible refine Ext.trans ?_ hw3 | with_reducible refine Ext.trans ?_ hw2 | with_reducible refine Ext.trans ?_ hw1))⟩
                · have d6e : (se == e) = false := by simp [d6]
                  have hRv : Hid (R = false) := hide (by rw [← hR.out]; unfold sndI; rw [hHd.out, hrs]; simp [sndRst, *])
                  go_wp2
                  go_ret
                  exact ⟨by (rw [hRv.out]) <;> rfl, (by repeat (first | with_reducible exact Ext.refl _ | with_reducible assumption | with_reducible refine Ext.alloc ?_ _ | with_reducible refine Ext.drew ?_ | ((with_reducible refine Ext.set ?_ ?_ _); (focus (first | (simp; done) | (simp; omega) | omega))) | with_reducible refine Ext.trans ?_ hw4 | with_reducible refine Ext.trans ?_ hw3 | with_reducible refine Ext.trans ?_ hw2 | with_reducible refine Ext.trans ?_ hw1))⟩
              · have d5e : (fi == se) = false := by simp [d5]
                have hRv : Hid (R = false) := hide (by rw [← hR.out]; unfold sndI; rw [hHd.out, hrs]; simp [sndRst, *])
                go_wp2
                go_ret
                exact ⟨by (rw [hRv.out]) <;> rfl, (by repeat (first | with_reducible exact Ext.refl _ | with_reducible assumption | with_reducible refine Ext.alloc ?_ _ | with_reducible refine Ext.drew ?_ | ((with_reducible refine Ext.set ?_ ?_ _); (focus (first | (simp; done) | (simp; omega) | omega))) | with_reducible refine Ext.trans ?_ hw4 | with_reducible refine Ext.trans ?_ hw3 | with_reducible refine Ext.trans ?_ hw2 | with_reducible refine Ext.trans ?_ hw1))⟩
            · have d4e : (b == e) = false := by simp [d4]
              have hRv : Hid (R = false) := hide (by rw [← hR.out]; unfold sndI; rw [hHd.out, hrs]; simp [sndRst, *])
              go_wp2
              go_ret
              exact ⟨by (rw [hRv.out]) <;> rfl, (by repeat (first | with_reducible exact Ext.refl _ | with_reducible assumption | with_reducible refine Ext.alloc ?_ _ | with_reducible refine Ext.drew ?_ | ((with_reducible refine Ext.set ?_ ?_ _); (focus (first | (simp; done) | (simp; omega) | omega))) | with_reducible refine Ext.trans ?_ hw4 | with_reducible refine Ext.trans ?_ hw3 | with_reducible refine Ext.trans ?_ hw2 | with_reducible refine Ext.trans ?_ hw1))⟩
          · have d3e : ((k.length : Int) == 0) = false := by simp [d3]
            have hRv : Hid (R = false) := hide (by rw [← hR.out]; unfold sndI; rw [hHd.out, hrs]; simp [sndRst, *])
            go_wp2
            go_ret
            exact ⟨by (rw [hRv.out]) <;> rfl, (by repeat (first | with_reducible exact Ext.refl _ | with_reducible assumption | with_reducible refine Ext.alloc ?_ _ | with_reducible refine Ext.drew ?_ | ((with_reducible refine Ext.set ?_ ?_ _); (focus (first | (simp; done) | (simp; omega) | omega))) | with_reducible refine Ext.trans ?_ hw4 | with_reducible refine Ext.trans ?_ hw3 | with_reducible refine Ext.trans ?_ hw2 | with_reducible refine Ext.trans ?_ hw1))⟩
        · have d2e : ((f.length : Int) == 0) = false := by simp [d2]
          have hRv : Hid (R = false) := hide (by rw [← hR.out]; unfold sndI; rw [hHd.out, hrs]; simp [sndRst, *])
          go_wp2
          go_ret
          exact ⟨by (rw [hRv.out]) <;> rfl, (by repeat (first | with_reducible exact Ext.refl _ | with_reducible assumption | with_reducible refine Ext.alloc ?_ _ | with_reducible refine Ext.drew ?_ | ((with_reducible refine Ext.set ?_ ?_ _); (focus (first | (simp; done) | (simp; omega) | omega))) | with_reducible refine Ext.trans ?_ hw4 | with_reducible refine Ext.trans ?_ hw3 | with_reducible refine Ext.trans ?_ hw2 | with_reducible refine Ext.trans ?_ hw1))⟩
      · have d1e : ((p.length : Int) == 0) = false := by simp [d1]
        have hRv : Hid (R = false) := hide (by rw [← hR.out]; unfold sndI; rw [hHd.out, hrs]; simp [sndRst, *])
        go_wp2
        go_ret
        exact ⟨by (rw [hRv.out]) <;> rfl, (by repeat (first | with_reducible exact Ext.refl _ | with_reducible assumption | with_reducible refine Ext.alloc ?_ _ | with_reducible refine Ext.drew ?_ | ((with_reducible refine Ext.set ?_ ?_ _); (focus (first | (simp; done) | (simp; omega) | omega))) | with_reducible refine Ext.trans ?_ hw4 | with_reducible refine Ext.trans ?_ hw3 | with_reducible refine Ext.trans ?_ hw2 | with_reducible refine Ext.trans ?_ hw1))⟩
    · have s5e : (st == 5) = false := by simp [s5]
      have hrs : Hid (isRst ⟨st, z, b, e, xs, p, f, k, fi, fk, se, co⟩ = false) := hide (by simp [isRst, s4, s5])
      by_cases fk0 : fk = 0
      · have fke : (fk == 0) = true := by simp [fk0]
        have fkn : (fk = 0) = True := by simp [fk0]
        replace fk0 := hide fk0
        replace fkn := fkn
        go_wp2_with fail
        refine wp_region_linesA [Line.is (.pointer (some ⟨w.heap.size, 5, none⟩)), Line.is (.slice a.p p.length c2), Line.is (.pointer (some ⟨w.heap.size, 6, none⟩)), Line.is (.slice a.f f.length c3), Line.is (.pointer (some ⟨w.heap.size, 7, none⟩)), Line.is (.slice a.k k.length c4), Line.is (.pointer (some ⟨w.heap.size, 1, none⟩)), Line.is (.pointer (some ⟨w.heap.size, 3, none⟩)), Line.is (.int .i64 e), Line.is (.bool (decide (cntSum p f k = e) && (decide (cntR (joinR p f k) = e) && !endsB (joinR p f k) e))), Line.is (.bool (decide (cntSum p f k = e) && (decide (cntR (joinR p f k) = e) && !endsB (joinR p f k) e))), Line.is ((bif (decide (cntSum p f k = e) && (decide (cntR (joinR p f k) = e) && !endsB (joinR p f k) e)) then (.pointer (some ⟨w.heap.size, 7, none⟩) : Value) else undef)), Line.is ((bif (decide (cntSum p f k = e) && (decide (cntR (joinR p f k) = e) && !endsB (joinR p f k) e)) then (.slice a.k k.length c4 : Value) else undef)), Line.is ((bif (decide (cntSum p f k = e) && (decide (cntR (joinR p f k) = e) && !endsB (joinR p f k) e)) then (.int .i64 (gapR k 0) : Value) else undef)), Line.is ((bif (decide (cntSum p f k = e) && (decide (cntR (joinR p f k) = e) && !endsB (joinR p f k) e)) then (.pointer (some ⟨w.heap.size, 1, none⟩) : Value) else undef)), Line.is ((bif (decide (cntSum p f k = e) && (decide (cntR (joinR p f k) = e) && !endsB (joinR p f k) e)) then (.pointer (some ⟨w.heap.size, 2, none⟩) : Value) else undef)), Line.is ((bif (decide (cntSum p f k = e) && (decide (cntR (joinR p f k) = e) && !endsB (joinR p f k) e)) then (.int .i64 b : Value) else undef)), Line.is ((bif (decide (cntSum p f k = e) && (decide (cntR (joinR p f k) = e) && !endsB (joinR p f k) e)) then (.bool ((gapR k 0) == b) : Value) else undef)), Line.is (.bool ((decide (cntSum p f k = e) && (decide (cntR (joinR p f k) = e) && !endsB (joinR p f k) e)) && ((gapR k 0) == b))), Line.is (.bool ((decide (cntSum p f k = e) && (decide (cntR (joinR p f k) = e) && !endsB (joinR p f k) e)) && ((gapR k 0) == b))), Line.is ((bif ((decide (cntSum p f k = e) && (decide (cntR (joinR p f k) = e) && !endsB (joinR p f k) e)) && ((gapR k 0) == b)) then (.pointer (some ⟨w.heap.size, 6, none⟩) : Value) else undef)), Line.is ((bif ((decide (cntSum p f k = e) && (decide (cntR (joinR p f k) = e) && !endsB (joinR p f k) e)) && ((gapR k 0) == b)) then (.slice a.f f.length c3 : Value) else undef)), Line.is ((bif ((decide (cntSum p f k = e) && (decide (cntR (joinR p f k) = e) && !endsB (joinR p f k) e)) && ((gapR k 0) == b)) then (.pointer (some ⟨w.heap.size, 10, none⟩) : Value) else undef)), Line.is ((bif ((decide (cntSum p f k = e) && (decide (cntR (joinR p f k) = e) && !endsB (joinR p f k) e)) && ((gapR k 0) == b)) then (.int .i64 se : Value) else undef)), Line.is ((bif ((decide (cntSum p f k = e) && (decide (cntR (joinR p f k) = e) && !endsB (joinR p f k) e)) && ((gapR k 0) == b)) then (.bool (endsB f se) : Value) else undef)), Line.is ((bif ((decide (cntSum p f k = e) && (decide (cntR (joinR p f k) = e) && !endsB (joinR p f k) e)) && ((gapR k 0) == b)) then (.bool (!(endsB f se)) : Value) else undef)), Line.is (.bool (((decide (cntSum p f k = e) && (decide (cntR (joinR p f k) = e) && !endsB (joinR p f k) e)) && ((gapR k 0) == b)) && (!(endsB f se)))), Line.is (.bool (((decide (cntSum p f k = e) && (decide (cntR (joinR p f k) = e) && !endsB (joinR p f k) e)) && ((gapR k 0) == b)) && (!(endsB f se)))), Line.is ((bif (((decide (cntSum p f k = e) && (decide (cntR (joinR p f k) = e) && !endsB (joinR p f k) e)) && ((gapR k 0) == b)) && (!(endsB f se))) then (.pointer (some ⟨w.heap.size, 7, none⟩) : Value) else undef)), Line.is ((bif (((decide (cntSum p f k = e) && (decide (cntR (joinR p f k) = e) && !endsB (joinR p f k) e)) && ((gapR k 0) == b)) && (!(endsB f se))) then (.slice a.k k.length c4 : Value) else undef)), Line.is ((bif (((decide (cntSum p f k = e) && (decide (cntR (joinR p f k) = e) && !endsB (joinR p f k) e)) && ((gapR k 0) == b)) && (!(endsB f se))) then (.pointer (some ⟨w.heap.size, 10, none⟩) : Value) else undef)), Line.is ((bif (((decide (cntSum p f k = e) && (decide (cntR (joinR p f k) = e) && !endsB (joinR p f k) e)) && ((gapR k 0) == b)) && (!(endsB f se))) then (.int .i64 se : Value) else undef)), Line.is ((bif (((decide (cntSum p f k = e) && (decide (cntR (joinR p f k) = e) && !endsB (joinR p f k) e)) && ((gapR k 0) == b)) && (!(endsB f se))) then (.bool (endsB k se) : Value) else undef)), Line.is ((bif (((decide (cntSum p f k = e) && (decide (cntR (joinR p f k) = e) && !endsB (joinR p f k) e)) && ((gapR k 0) == b)) && (!(endsB f se))) then (.bool (!(endsB k se)) : Value) else undef)), Line.is (.bool ((((decide (cntSum p f k = e) && (decide (cntR (joinR p f k) = e) && !endsB (joinR p f k) e)) && ((gapR k 0) == b)) && (!(endsB f se))) && (!(endsB k se)))), Line.is (.bool ((((decide (cntSum p f k = e) && (decide (cntR (joinR p f k) = e) && !endsB (joinR p f k) e)) && ((gapR k 0) == b)) && (!(endsB f se))) && (!(endsB k se)))), Line.is ((bif ((((decide (cntSum p f k = e) && (decide (cntR (joinR p f k) = e) && !endsB (joinR p f k) e)) && ((gapR k 0) == b)) && (!(endsB f se))) && (!(endsB k se))) then (.pointer (some ⟨w.heap.size, 11, none⟩) : Value) else undef)), Line.is ((bif ((((decide (cntSum p f k = e) && (decide (cntR (joinR p f k) = e) && !endsB (joinR p f k) e)) && ((gapR k 0) == b)) && (!(endsB f se))) && (!(endsB k se))) then (.int .i64 co : Value) else undef)), Line.is ((bif ((((decide (cntSum p f k = e) && (decide (cntR (joinR p f k) = e) && !endsB (joinR p f k) e)) && ((gapR k 0) == b)) && (!(endsB f se))) && (!(endsB k se))) then (.bool (co == 0) : Value) else undef)), Line.is (.bool (((((decide (cntSum p f k = e) && (decide (cntR (joinR p f k) = e) && !endsB (joinR p f k) e)) && ((gapR k 0) == b)) && (!(endsB f se))) && (!(endsB k se))) && (co == 0))), Line.is (.bool (((((decide (cntSum p f k = e) && (decide (cntR (joinR p f k) = e) && !endsB (joinR p f k) e)) && ((gapR k 0) == b)) && (!(endsB f se))) && (!(endsB k se))) && (co == 0))), Line.is ((bif (((((decide (cntSum p f k = e) && (decide (cntR (joinR p f k) = e) && !endsB (joinR p f k) e)) && ((gapR k 0) == b)) && (!(endsB f se))) && (!(endsB k se))) && (co == 0)) then (.pointer (some ⟨w.heap.size, 8, none⟩) : Value) else undef)), Line.is ((bif (((((decide (cntSum p f k = e) && (decide (cntR (joinR p f k) = e) && !endsB (joinR p f k) e)) && ((gapR k 0) == b)) && (!(endsB f se))) && (!(endsB k se))) && (co == 0)) then (.int .i64 fi : Value) else undef)), Line.is ((bif (((((decide (cntSum p f k = e) && (decide (cntR (joinR p f k) = e) && !endsB (joinR p f k) e)) && ((gapR k 0) == b)) && (!(endsB f se))) && (!(endsB k se))) && (co == 0)) then (.int .i64 (-1) : Value) else undef)), Line.is ((bif (((((decide (cntSum p f k = e) && (decide (cntR (joinR p f k) = e) && !endsB (joinR p f k) e)) && ((gapR k 0) == b)) && (!(endsB f se))) && (!(endsB k se))) && (co == 0)) then (.bool (fi == (-1)) : Value) else undef)), Line.is (.bool ((((((decide (cntSum p f k = e) && (decide (cntR (joinR p f k) = e) && !endsB (joinR p f k) e)) && ((gapR k 0) == b)) && (!(endsB f se))) && (!(endsB k se))) && (co == 0)) && (fi == (-1)))), Line.is (.bool ((((((decide (cntSum p f k = e) && (decide (cntR (joinR p f k) = e) && !endsB (joinR p f k) e)) && ((gapR k 0) == b)) && (!(endsB f se))) && (!(endsB k se))) && (co == 0)) && (fi == (-1)))), Line.is ((bif ((((((decide (cntSum p f k = e) && (decide (cntR (joinR p f k) = e) && !endsB (joinR p f k) e)) && ((gapR k 0) == b)) && (!(endsB f se))) && (!(endsB k se))) && (co == 0)) && (fi == (-1))) then (.pointer (some ⟨w.heap.size, 0, none⟩) : Value) else undef)), Line.is ((bif ((((((decide (cntSum p f k = e) && (decide (cntR (joinR p f k) = e) && !endsB (joinR p f k) e)) && ((gapR k 0) == b)) && (!(endsB f se))) && (!(endsB k se))) && (co == 0)) && (fi == (-1))) then (.int .i64 st : Value) else undef)), Line.is ((bif ((((((decide (cntSum p f k = e) && (decide (cntR (joinR p f k) = e) && !endsB (joinR p f k) e)) && ((gapR k 0) == b)) && (!(endsB f se))) && (!(endsB k se))) && (co == 0)) && (fi == (-1))) then (.agg #[.int .i64 st, .int .i64 z, .int .i64 b, .int .i64 e, .slice a.r xs.length c1, .slice a.p p.length c2, .slice a.f f.length c3, .slice a.k k.length c4, .int .i64 fi, .int .i64 fk, .int .i64 se, .int .i64 co] : Value) else undef)), Line.is ((bif ((((((decide (cntSum p f k = e) && (decide (cntR (joinR p f k) = e) && !endsB (joinR p f k) e)) && ((gapR k 0) == b)) && (!(endsB f se))) && (!(endsB k se))) && (co == 0)) && (fi == (-1))) then (.int .i64 (stI st b e fk se) : Value) else undef)), Line.is ((bif ((((((decide (cntSum p f k = e) && (decide (cntR (joinR p f k) = e) && !endsB (joinR p f k) e)) && ((gapR k 0) == b)) && (!(endsB f se))) && (!(endsB k se))) && (co == 0)) && (fi == (-1))) then (.bool (st == (stI st b e fk se)) : Value) else undef)), Line.is (.bool (((((((decide (cntSum p f k = e) && (decide (cntR (joinR p f k) = e) && !endsB (joinR p f k) e)) && ((gapR k 0) == b)) && (!(endsB f se))) && (!(endsB k se))) && (co == 0)) && (fi == (-1))) && (st == (stI st b e fk se)))), Line.is (.bool (((((((decide (cntSum p f k = e) && (decide (cntR (joinR p f k) = e) && !endsB (joinR p f k) e)) && ((gapR k 0) == b)) && (!(endsB f se))) && (!(endsB k se))) && (co == 0)) && (fi == (-1))) && (st == (stI st b e fk se))))] [108, 109, 110, 111, 112, 113, 114, 115, 116, 117, 118, 119, 120, 121, 122, 123, 124, 125, 126, 127, 128, 129, 130, 131, 132, 133, 134, 135, 136, 137, 138, 139, 140, 141, 142, 143, 144, 145, 146, 147, 148, 149, 150, 151, 152, 153, 154, 155, 156, 157, 158, 159, 160, 2] ?_ ?_ (by kernel_rfl) (by kernel_rfl) (by kernel_rfl) (by kernel_rfl) (by kernel_rfl) ?_ ?_
        rotate_left
        · intro g
          simp only [fillAt, List.foldl_cons, List.foldl_nil, Act.put, List.setIfInBounds_toArray, List.set_cons_zero, List.set_cons_succ]
          exact rfl
        · refine Each.cons ?_ (Each.cons ?_ (Each.cons ?_ (Each.cons ?_ (Each.cons ?_ (Each.cons ?_ (Each.cons ?_ (Each.cons ?_ (Each.cons ?_ (Each.cons ?_ (Each.cons ?_ (Each.cons ?_ (Each.cons ?_ (Each.cons ?_ (Each.cons ?_ (Each.cons ?_ (Each.cons ?_ (Each.cons ?_ (Each.cons ?_ (Each.cons ?_ (Each.cons ?_ (Each.cons ?_ (Each.cons ?_ (Each.cons ?_ (Each.cons ?_ (Each.cons ?_ (Each.cons ?_ (Each.cons ?_ (Each.cons ?_ (Each.cons ?_ (Each.cons ?_ (Each.cons ?_ (Each.cons ?_ (Each.cons ?_ (Each.cons ?_ (Each.cons ?_ (Each.cons ?_ (Each.cons ?_ (Each.cons ?_ (Each.cons ?_ (Each.cons ?_ (Each.cons ?_ (Each.cons ?_ (Each.cons ?_ (Each.cons ?_ (Each.cons ?_ (Each.cons ?_ (Each.cons ?_ (Each.cons ?_ (Each.cons ?_ (Each.cons ?_ (Each.cons ?_ (Each.cons ?_ (Each.cons ?_ (Each.nil))))))))))))))))))))))))))))))))))))))))))))))))))))))
          · intro g ws hws hl
            simp only [fillAt, List.foldl_cons, List.foldl_nil, Act.put, List.setIfInBounds_toArray, List.set_cons_zero, List.set_cons_succ]
            refine Stays.plain (.pointer (some ⟨w.heap.size, 5, none⟩)) (by rfl) ?_ rfl
            first | (go_simp; done) | (go_simp; rfl) | (go_simp; with_reducible rfl)
          · intro g ws hws hl
            have ln0 : g 108 = .pointer (some ⟨w.heap.size, 5, none⟩) := linesOf_get 0 hl (by kernel_rfl)
            simp only [fillAt, List.foldl_cons, List.foldl_nil, Act.put, List.setIfInBounds_toArray, List.set_cons_zero, List.set_cons_succ, ln0]
            obtain ⟨q0, p0⟩ := hws.row (k := w.heap.size) (by first | assumption | (simp; done) | (simp; omega) | omega)
            refine Stays.plain (.slice a.p p.length c2) (by rfl) ?_ rfl
            first | (go_simp; done) | (go_simp; rfl) | (go_simp; with_reducible rfl)
          · intro g ws hws hl
            simp only [fillAt, List.foldl_cons, List.foldl_nil, Act.put, List.setIfInBounds_toArray, List.set_cons_zero, List.set_cons_succ]
            refine Stays.plain (.pointer (some ⟨w.heap.size, 6, none⟩)) (by rfl) ?_ rfl
            first | (go_simp; done) | (go_simp; rfl) | (go_simp; with_reducible rfl)
          · intro g ws hws hl
            have ln2 : g 110 = .pointer (some ⟨w.heap.size, 6, none⟩) := linesOf_get 2 hl (by kernel_rfl)
            simp only [fillAt, List.foldl_cons, List.foldl_nil, Act.put, List.setIfInBounds_toArray, List.set_cons_zero, List.set_cons_succ, ln2]
            obtain ⟨q0, p0⟩ := hws.row (k := w.heap.size) (by first | assumption | (simp; done) | (simp; omega) | omega)
            refine Stays.plain (.slice a.f f.length c3) (by rfl) ?_ rfl
            first | (go_simp; done) | (go_simp; rfl) | (go_simp; with_reducible rfl)
          · intro g ws hws hl
            simp only [fillAt, List.foldl_cons, List.foldl_nil, Act.put, List.setIfInBounds_toArray, List.set_cons_zero, List.set_cons_succ]
            refine Stays.plain (.pointer (some ⟨w.heap.size, 7, none⟩)) (by rfl) ?_ rfl
            first | (go_simp; done) | (go_simp; rfl) | (go_simp; with_reducible rfl)
          · intro g ws hws hl
            have ln4 : g 112 = .pointer (some ⟨w.heap.size, 7, none⟩) := linesOf_get 4 hl (by kernel_rfl)
            simp only [fillAt, List.foldl_cons, List.foldl_nil, Act.put, List.setIfInBounds_toArray, List.set_cons_zero, List.set_cons_succ, ln4]
            obtain ⟨q0, p0⟩ := hws.row (k := w.heap.size) (by first | assumption | (simp; done) | (simp; omega) | omega)
            refine Stays.plain (.slice a.k k.length c4) (by rfl) ?_ rfl
            first | (go_simp; done) | (go_simp; rfl) | (go_simp; with_reducible rfl)
          · intro g ws hws hl
            simp only [fillAt, List.foldl_cons, List.foldl_nil, Act.put, List.setIfInBounds_toArray, List.set_cons_zero, List.set_cons_succ]
            refine Stays.plain (.pointer (some ⟨w.heap.size, 1, none⟩)) (by rfl) ?_ rfl
            first | (go_simp; done) | (go_simp; rfl) | (go_simp; with_reducible rfl)
          · intro g ws hws hl
            have ln6 : g 114 = .pointer (some ⟨w.heap.size, 1, none⟩) := linesOf_get 6 hl (by kernel_rfl)
            simp only [fillAt, List.foldl_cons, List.foldl_nil, Act.put, List.setIfInBounds_toArray, List.set_cons_zero, List.set_cons_succ, ln6]
            refine Stays.plain (.pointer (some ⟨w.heap.size, 3, none⟩)) (by rfl) ?_ rfl
            first | (go_simp; done) | (go_simp; rfl) | (go_simp; with_reducible rfl)
          · intro g ws hws hl
            have ln7 : g 115 = .pointer (some ⟨w.heap.size, 3, none⟩) := linesOf_get 7 hl (by kernel_rfl)
            simp only [fillAt, List.foldl_cons, List.foldl_nil, Act.put, List.setIfInBounds_toArray, List.set_cons_zero, List.set_cons_succ, ln7]
            obtain ⟨q0, p0⟩ := hws.row (k := w.heap.size) (by first | assumption | (simp; done) | (simp; omega) | omega)
            refine Stays.plain (.int .i64 e) (by rfl) ?_ rfl
            first | (go_simp; done) | (go_simp; rfl) | (go_simp; with_reducible rfl)
          · intro g ws hws hl
            have ln1 : g 109 = .slice a.p p.length c2 := linesOf_get 1 hl (by kernel_rfl)
            have ln3 : g 111 = .slice a.f f.length c3 := linesOf_get 3 hl (by kernel_rfl)
            have ln5 : g 113 = .slice a.k k.length c4 := linesOf_get 5 hl (by kernel_rfl)
            have ln8 : g 116 = .int .i64 e := linesOf_get 8 hl (by kernel_rfl)
            simp only [fillAt, List.foldl_cons, List.foldl_nil, Act.put, List.setIfInBounds_toArray, List.set_cons_zero, List.set_cons_succ, ln1, ln3, ln5, ln8]
            refine Stays.call 76 ?_ (by rfl) ?_ ?_
            rotate_left
            · go_simp
              try with_reducible rfl
            · refine (areWhole_impl e a.p a.f a.k c2 c3 c4 p f k ws (hx'.out.p.ext (xw4.drew.trans hws)) (hx'.out.f.ext (xw4.drew.trans hws)) (hx'.out.k.ext (xw4.drew.trans hws)) hsum).mono ?_
              rintro e w' ⟨rfl, h2⟩
              exact ⟨_, rfl, h2, rfl⟩
          · intro g ws hws hl
            have ln9 : g 117 = .bool (decide (cntSum p f k = e) && (decide (cntR (joinR p f k) = e) && !endsB (joinR p f k) e)) := linesOf_get 9 hl (by kernel_rfl)
            simp only [fillAt, List.foldl_cons, List.foldl_nil, Act.put, List.setIfInBounds_toArray, List.set_cons_zero, List.set_cons_succ, ln9]
            refine Stays.plain (.bool (decide (cntSum p f k = e) && (decide (cntR (joinR p f k) = e) && !endsB (joinR p f k) e))) (by rfl) ?_ rfl
            first | (go_simp; done) | (go_simp; rfl) | (go_simp; with_reducible rfl)
          · intro g ws hws hl
            have ln10 : g 118 = .bool (decide (cntSum p f k = e) && (decide (cntR (joinR p f k) = e) && !endsB (joinR p f k) e)) := linesOf_get 10 hl (by kernel_rfl)
            rcases Bool.eq_false_or_eq_true ((decide (cntSum p f k = e) && (decide (cntR (joinR p f k) = e) && !endsB (joinR p f k) e))) with hg0 | hg0
            · skip
              rw [hg0] at ln10
              simp only [fillAt, List.foldl_cons, List.foldl_nil, Act.put, List.setIfInBounds_toArray, List.set_cons_zero, List.set_cons_succ, ln10]
              refine Stays.plain (.pointer (some ⟨w.heap.size, 7, none⟩)) (by rfl) ?_ (show (_ : Value) = (bif (decide (cntSum p f k = e) && (decide (cntR (joinR p f k) = e) && !endsB (joinR p f k) e)) then (.pointer (some ⟨w.heap.size, 7, none⟩) : Value) else undef) from (by rw [cond_y hg0]))
              first | (go_simp; done) | (go_simp; rfl) | (go_simp; with_reducible rfl)
            · skip
              rw [hg0] at ln10
              simp only [fillAt, List.foldl_cons, List.foldl_nil, Act.put, List.setIfInBounds_toArray, List.set_cons_zero, List.set_cons_succ, ln10]
              refine Stays.off (by rfl) (show (undef : Value) = (bif (decide (cntSum p f k = e) && (decide (cntR (joinR p f k) = e) && !endsB (joinR p f k) e)) then (.pointer (some ⟨w.heap.size, 7, none⟩) : Value) else undef) from (by rw [cond_n hg0]))
          · intro g ws hws hl
            have ln10 : g 118 = .bool (decide (cntSum p f k = e) && (decide (cntR (joinR p f k) = e) && !endsB (joinR p f k) e)) := linesOf_get 10 hl (by kernel_rfl)
            have ln11 : g 119 = (bif (decide (cntSum p f k = e) && (decide (cntR (joinR p f k) = e) && !endsB (joinR p f k) e)) then (.pointer (some ⟨w.heap.size, 7, none⟩) : Value) else undef) := linesOf_get 11 hl (by kernel_rfl)
            rcases Bool.eq_false_or_eq_true ((decide (cntSum p f k = e) && (decide (cntR (joinR p f k) = e) && !endsB (joinR p f k) e))) with hg0 | hg0
            · skip
              rw [hg0] at ln10
              rw [cond_y hg0] at ln11
              simp only [fillAt, List.foldl_cons, List.foldl_nil, Act.put, List.setIfInBounds_toArray, List.set_cons_zero, List.set_cons_succ, ln10, ln11]
              obtain ⟨q0, p0⟩ := hws.row (k := w.heap.size) (by first | assumption | (simp; done) | (simp; omega) | omega)
              refine Stays.plain (.slice a.k k.length c4) (by rfl) ?_ (show (_ : Value) = (bif (decide (cntSum p f k = e) && (decide (cntR (joinR p f k) = e) && !endsB (joinR p f k) e)) then (.slice a.k k.length c4 : Value) else undef) from (by rw [cond_y hg0]))
              first | (go_simp; done) | (go_simp; rfl) | (go_simp; with_reducible rfl)
            · skip
              rw [hg0] at ln10
              simp only [fillAt, List.foldl_cons, List.foldl_nil, Act.put, List.setIfInBounds_toArray, List.set_cons_zero, List.set_cons_succ, ln10]
              refine Stays.off (by rfl) (show (undef : Value) = (bif (decide (cntSum p f k = e) && (decide (cntR (joinR p f k) = e) && !endsB (joinR p f k) e)) then (.slice a.k k.length c4 : Value) else undef) from (by rw [cond_n hg0]))
          · intro g ws hws hl
            have ln10 : g 118 = .bool (decide (cntSum p f k = e) && (decide (cntR (joinR p f k) = e) && !endsB (joinR p f k) e)) := linesOf_get 10 hl (by kernel_rfl)
            have ln12 : g 120 = (bif (decide (cntSum p f k = e) && (decide (cntR (joinR p f k) = e) && !endsB (joinR p f k) e)) then (.slice a.k k.length c4 : Value) else undef) := linesOf_get 12 hl (by kernel_rfl)
            rcases Bool.eq_false_or_eq_true ((decide (cntSum p f k = e) && (decide (cntR (joinR p f k) = e) && !endsB (joinR p f k) e))) with hg0 | hg0
            · skip
              rw [hg0] at ln10
              rw [cond_y hg0] at ln12
              simp only [fillAt, List.foldl_cons, List.foldl_nil, Act.put, List.setIfInBounds_toArray, List.set_cons_zero, List.set_cons_succ, ln10, ln12]
              refine Stays.call 77 ?_ (by rfl) ?_ ?_
              rotate_left
              · go_simp
                try with_reducible rfl
              · refine (FirstGap_impl 0 a.k _ c4 k ws (hx'.out.k.ext (xw4.drew.trans hws)) rfl (by omega)).mono ?_
                rintro e w' ⟨rfl, h2⟩
                exact ⟨_, rfl, h2, (show (_ : Value) = (bif (decide (cntSum p f k = e) && (decide (cntR (joinR p f k) = e) && !endsB (joinR p f k) e)) then (.int .i64 (gapR k 0) : Value) else undef) from (by rw [cond_y hg0]))⟩
            · skip
              rw [hg0] at ln10
              simp only [fillAt, List.foldl_cons, List.foldl_nil, Act.put, List.setIfInBounds_toArray, List.set_cons_zero, List.set_cons_succ, ln10]
              refine Stays.off (by rfl) (show (undef : Value) = (bif (decide (cntSum p f k = e) && (decide (cntR (joinR p f k) = e) && !endsB (joinR p f k) e)) then (.int .i64 (gapR k 0) : Value) else undef) from (by rw [cond_n hg0]))
          · intro g ws hws hl
            have ln10 : g 118 = .bool (decide (cntSum p f k = e) && (decide (cntR (joinR p f k) = e) && !endsB (joinR p f k) e)) := linesOf_get 10 hl (by kernel_rfl)
            rcases Bool.eq_false_or_eq_true ((decide (cntSum p f k = e) && (decide (cntR (joinR p f k) = e) && !endsB (joinR p f k) e))) with hg0 | hg0
            · skip
              rw [hg0] at ln10
              simp only [fillAt, List.foldl_cons, List.foldl_nil, Act.put, List.setIfInBounds_toArray, List.set_cons_zero, List.set_cons_succ, ln10]
              refine Stays.plain (.pointer (some ⟨w.heap.size, 1, none⟩)) (by rfl) ?_ (show (_ : Value) = (bif (decide (cntSum p f k = e) && (decide (cntR (joinR p f k) = e) && !endsB (joinR p f k) e)) then (.pointer (some ⟨w.heap.size, 1, none⟩) : Value) else undef) from (by rw [cond_y hg0]))
              first | (go_simp; done) | (go_simp; rfl) | (go_simp; with_reducible rfl)
            · skip
              rw [hg0] at ln10
              simp only [fillAt, List.foldl_cons, List.foldl_nil, Act.put, List.setIfInBounds_toArray, List.set_cons_zero, List.set_cons_succ, ln10]
              refine Stays.off (by rfl) (show (undef : Value) = (bif (decide (cntSum p f k = e) && (decide (cntR (joinR p f k) = e) && !endsB (joinR p f k) e)) then (.pointer (some ⟨w.heap.size, 1, none⟩) : Value) else undef) from (by rw [cond_n hg0]))
          · intro g ws hws hl
            have ln10 : g 118 = .bool (decide (cntSum p f k = e) && (decide (cntR (joinR p f k) = e) && !endsB (joinR p f k) e)) := linesOf_get 10 hl (by kernel_rfl)
            have ln14 : g 122 = (bif (decide (cntSum p f k = e) && (decide (cntR (joinR p f k) = e) && !endsB (joinR p f k) e)) then (.pointer (some ⟨w.heap.size, 1, none⟩) : Value) else undef) := linesOf_get 14 hl (by kernel_rfl)
            rcases Bool.eq_false_or_eq_true ((decide (cntSum p f k = e) && (decide (cntR (joinR p f k) = e) && !endsB (joinR p f k) e))) with hg0 | hg0
            · skip
              rw [hg0] at ln10
              rw [cond_y hg0] at ln14
              simp only [fillAt, List.foldl_cons, List.foldl_nil, Act.put, List.setIfInBounds_toArray, List.set_cons_zero, List.set_cons_succ, ln10, ln14]
              refine Stays.plain (.pointer (some ⟨w.heap.size, 2, none⟩)) (by rfl) ?_ (show (_ : Value) = (bif (decide (cntSum p f k = e) && (decide (cntR (joinR p f k) = e) && !endsB (joinR p f k) e)) then (.pointer (some ⟨w.heap.size, 2, none⟩) : Value) else undef) from (by rw [cond_y hg0]))
              first | (go_simp; done) | (go_simp; rfl) | (go_simp; with_reducible rfl)
            · skip
              rw [hg0] at ln10
              simp only [fillAt, List.foldl_cons, List.foldl_nil, Act.put, List.setIfInBounds_toArray, List.set_cons_zero, List.set_cons_succ, ln10]
              refine Stays.off (by rfl) (show (undef : Value) = (bif (decide (cntSum p f k = e) && (decide (cntR (joinR p f k) = e) && !endsB (joinR p f k) e)) then (.pointer (some ⟨w.heap.size, 2, none⟩) : Value) else undef) from (by rw [cond_n hg0]))
          · intro g ws hws hl
            have ln10 : g 118 = .bool (decide (cntSum p f k = e) && (decide (cntR (joinR p f k) = e) && !endsB (joinR p f k) e)) := linesOf_get 10 hl (by kernel_rfl)
            have ln15 : g 123 = (bif (decide (cntSum p f k = e) && (decide (cntR (joinR p f k) = e) && !endsB (joinR p f k) e)) then (.pointer (some ⟨w.heap.size, 2, none⟩) : Value) else undef) := linesOf_get 15 hl (by kernel_rfl)
            rcases Bool.eq_false_or_eq_true ((decide (cntSum p f k = e) && (decide (cntR (joinR p f k) = e) && !endsB (joinR p f k) e))) with hg0 | hg0
            · skip
              rw [hg0] at ln10
              rw [cond_y hg0] at ln15
              simp only [fillAt, List.foldl_cons, List.foldl_nil, Act.put, List.setIfInBounds_toArray, List.set_cons_zero, List.set_cons_succ, ln10, ln15]
              obtain ⟨q0, p0⟩ := hws.row (k := w.heap.size) (by first | assumption | (simp; done) | (simp; omega) | omega)
              refine Stays.plain (.int .i64 b) (by rfl) ?_ (show (_ : Value) = (bif (decide (cntSum p f k = e) && (decide (cntR (joinR p f k) = e) && !endsB (joinR p f k) e)) then (.int .i64 b : Value) else undef) from (by rw [cond_y hg0]))
              first | (go_simp; done) | (go_simp; rfl) | (go_simp; with_reducible rfl)
            · skip
              rw [hg0] at ln10
              simp only [fillAt, List.foldl_cons, List.foldl_nil, Act.put, List.setIfInBounds_toArray, List.set_cons_zero, List.set_cons_succ, ln10]
              refine Stays.off (by rfl) (show (undef : Value) = (bif (decide (cntSum p f k = e) && (decide (cntR (joinR p f k) = e) && !endsB (joinR p f k) e)) then (.int .i64 b : Value) else undef) from (by rw [cond_n hg0]))
          · intro g ws hws hl
            have ln10 : g 118 = .bool (decide (cntSum p f k = e) && (decide (cntR (joinR p f k) = e) && !endsB (joinR p f k) e)) := linesOf_get 10 hl (by kernel_rfl)
            have ln13 : g 121 = (bif (decide (cntSum p f k = e) && (decide (cntR (joinR p f k) = e) && !endsB (joinR p f k) e)) then (.int .i64 (gapR k 0) : Value) else undef) := linesOf_get 13 hl (by kernel_rfl)
            have ln16 : g 124 = (bif (decide (cntSum p f k = e) && (decide (cntR (joinR p f k) = e) && !endsB (joinR p f k) e)) then (.int .i64 b : Value) else undef) := linesOf_get 16 hl (by kernel_rfl)
            rcases Bool.eq_false_or_eq_true ((decide (cntSum p f k = e) && (decide (cntR (joinR p f k) = e) && !endsB (joinR p f k) e))) with hg0 | hg0
            · skip
              rw [hg0] at ln10
              rw [cond_y hg0] at ln13
              rw [cond_y hg0] at ln16
              simp only [fillAt, List.foldl_cons, List.foldl_nil, Act.put, List.setIfInBounds_toArray, List.set_cons_zero, List.set_cons_succ, ln10, ln13, ln16]
              refine Stays.plain (.bool ((gapR k 0) == b)) (by rfl) ?_ (show (_ : Value) = (bif (decide (cntSum p f k = e) && (decide (cntR (joinR p f k) = e) && !endsB (joinR p f k) e)) then (.bool ((gapR k 0) == b) : Value) else undef) from (by rw [cond_y hg0]))
              first | (go_simp; done) | (go_simp; rfl) | (go_simp; with_reducible rfl)
            · skip
              rw [hg0] at ln10
              simp only [fillAt, List.foldl_cons, List.foldl_nil, Act.put, List.setIfInBounds_toArray, List.set_cons_zero, List.set_cons_succ, ln10]
              refine Stays.off (by rfl) (show (undef : Value) = (bif (decide (cntSum p f k = e) && (decide (cntR (joinR p f k) = e) && !endsB (joinR p f k) e)) then (.bool ((gapR k 0) == b) : Value) else undef) from (by rw [cond_n hg0]))
          · intro g ws hws hl
            have ln10 : g 118 = .bool (decide (cntSum p f k = e) && (decide (cntR (joinR p f k) = e) && !endsB (joinR p f k) e)) := linesOf_get 10 hl (by kernel_rfl)
            have ln17 : g 125 = (bif (decide (cntSum p f k = e) && (decide (cntR (joinR p f k) = e) && !endsB (joinR p f k) e)) then (.bool ((gapR k 0) == b) : Value) else undef) := linesOf_get 17 hl (by kernel_rfl)
            rcases Bool.eq_false_or_eq_true ((decide (cntSum p f k = e) && (decide (cntR (joinR p f k) = e) && !endsB (joinR p f k) e))) with hp | hp
            · skip
              rw [hp] at ln10
              rw [cond_y hp] at ln17
              simp only [fillAt, List.foldl_cons, List.foldl_nil, Act.put, List.setIfInBounds_toArray, List.set_cons_zero, List.set_cons_succ, ln10, ln17]
              refine Stays.plain (.bool ((decide (cntSum p f k = e) && (decide (cntR (joinR p f k) = e) && !endsB (joinR p f k) e)) && ((gapR k 0) == b))) (by rfl) ?_ rfl
              first | (rw [hp]; go_simp; done) | (rw [hp]; go_simp; rfl) | (simp [hp, go_sem]; done) | (go_simp; simp [hp])
            · skip
              rw [hp] at ln10
              simp only [fillAt, List.foldl_cons, List.foldl_nil, Act.put, List.setIfInBounds_toArray, List.set_cons_zero, List.set_cons_succ, ln10, ln17]
              refine Stays.plain (.bool ((decide (cntSum p f k = e) && (decide (cntR (joinR p f k) = e) && !endsB (joinR p f k) e)) && ((gapR k 0) == b))) (by rfl) ?_ rfl
              first | (rw [hp]; go_simp; done) | (rw [hp]; go_simp; rfl) | (simp [hp, go_sem]; done) | (go_simp; simp [hp])
          · intro g ws hws hl
            have ln18 : g 126 = .bool ((decide (cntSum p f k = e) && (decide (cntR (joinR p f k) = e) && !endsB (joinR p f k) e)) && ((gapR k 0) == b)) := linesOf_get 18 hl (by kernel_rfl)
            simp only [fillAt, List.foldl_cons, List.foldl_nil, Act.put, List.setIfInBounds_toArray, List.set_cons_zero, List.set_cons_succ, ln18]
            refine Stays.plain (.bool ((decide (cntSum p f k = e) && (decide (cntR (joinR p f k) = e) && !endsB (joinR p f k) e)) && ((gapR k 0) == b))) (by rfl) ?_ rfl
            first | (go_simp; done) | (go_simp; rfl) | (go_simp; with_reducible rfl)
          · intro g ws hws hl
            have ln19 : g 127 = .bool ((decide (cntSum p f k = e) && (decide (cntR (joinR p f k) = e) && !endsB (joinR p f k) e)) && ((gapR k 0) == b)) := linesOf_get 19 hl (by kernel_rfl)
            rcases Bool.eq_false_or_eq_true (((decide (cntSum p f k = e) && (decide (cntR (joinR p f k) = e) && !endsB (joinR p f k) e)) && ((gapR k 0) == b))) with hg0 | hg0
            · skip
              rw [hg0] at ln19
              simp only [fillAt, List.foldl_cons, List.foldl_nil, Act.put, List.setIfInBounds_toArray, List.set_cons_zero, List.set_cons_succ, ln19]
              refine Stays.plain (.pointer (some ⟨w.heap.size, 6, none⟩)) (by rfl) ?_ (show (_ : Value) = (bif ((decide (cntSum p f k = e) && (decide (cntR (joinR p f k) = e) && !endsB (joinR p f k) e)) && ((gapR k 0) == b)) then (.pointer (some ⟨w.heap.size, 6, none⟩) : Value) else undef) from (by rw [cond_y hg0]))
              first | (go_simp; done) | (go_simp; rfl) | (go_simp; with_reducible rfl)
            · skip
              rw [hg0] at ln19
              simp only [fillAt, List.foldl_cons, List.foldl_nil, Act.put, List.setIfInBounds_toArray, List.set_cons_zero, List.set_cons_succ, ln19]
              refine Stays.off (by rfl) (show (undef : Value) = (bif ((decide (cntSum p f k = e) && (decide (cntR (joinR p f k) = e) && !endsB (joinR p f k) e)) && ((gapR k 0) == b)) then (.pointer (some ⟨w.heap.size, 6, none⟩) : Value) else undef) from (by rw [cond_n hg0]))
          · intro g ws hws hl
            have ln19 : g 127 = .bool ((decide (cntSum p f k = e) && (decide (cntR (joinR p f k) = e) && !endsB (joinR p f k) e)) && ((gapR k 0) == b)) := linesOf_get 19 hl (by kernel_rfl)
            have ln20 : g 128 = (bif ((decide (cntSum p f k = e) && (decide (cntR (joinR p f k) = e) && !endsB (joinR p f k) e)) && ((gapR k 0) == b)) then (.pointer (some ⟨w.heap.size, 6, none⟩) : Value) else undef) := linesOf_get 20 hl (by kernel_rfl)
            rcases Bool.eq_false_or_eq_true (((decide (cntSum p f k = e) && (decide (cntR (joinR p f k) = e) && !endsB (joinR p f k) e)) && ((gapR k 0) == b))) with hg0 | hg0
            · skip
              rw [hg0] at ln19
              rw [cond_y hg0] at ln20
              simp only [fillAt, List.foldl_cons, List.foldl_nil, Act.put, List.setIfInBounds_toArray, List.set_cons_zero, List.set_cons_succ, ln19, ln20]
              obtain ⟨q0, p0⟩ := hws.row (k := w.heap.size) (by first | assumption | (simp; done) | (simp; omega) | omega)
              refine Stays.plain (.slice a.f f.length c3) (by rfl) ?_ (show (_ : Value) = (bif ((decide (cntSum p f k = e) && (decide (cntR (joinR p f k) = e) && !endsB (joinR p f k) e)) && ((gapR k 0) == b)) then (.slice a.f f.length c3 : Value) else undef) from (by rw [cond_y hg0]))
              first | (go_simp; done) | (go_simp; rfl) | (go_simp; with_reducible rfl)
            · skip
              rw [hg0] at ln19
              simp only [fillAt, List.foldl_cons, List.foldl_nil, Act.put, List.setIfInBounds_toArray, List.set_cons_zero, List.set_cons_succ, ln19]
              refine Stays.off (by rfl) (show (undef : Value) = (bif ((decide (cntSum p f k = e) && (decide (cntR (joinR p f k) = e) && !endsB (joinR p f k) e)) && ((gapR k 0) == b)) then (.slice a.f f.length c3 : Value) else undef) from (by rw [cond_n hg0]))
          · intro g ws hws hl
            have ln19 : g 127 = .bool ((decide (cntSum p f k = e) && (decide (cntR (joinR p f k) = e) && !endsB (joinR p f k) e)) && ((gapR k 0) == b)) := linesOf_get 19 hl (by kernel_rfl)
            rcases Bool.eq_false_or_eq_true (((decide (cntSum p f k = e) && (decide (cntR (joinR p f k) = e) && !endsB (joinR p f k) e)) && ((gapR k 0) == b))) with hg0 | hg0
            · skip
              rw [hg0] at ln19
              simp only [fillAt, List.foldl_cons, List.foldl_nil, Act.put, List.setIfInBounds_toArray, List.set_cons_zero, List.set_cons_succ, ln19]
              refine Stays.plain (.pointer (some ⟨w.heap.size, 10, none⟩)) (by rfl) ?_ (show (_ : Value) = (bif ((decide (cntSum p f k = e) && (decide (cntR (joinR p f k) = e) && !endsB (joinR p f k) e)) && ((gapR k 0) == b)) then (.pointer (some ⟨w.heap.size, 10, none⟩) : Value) else undef) from (by rw [cond_y hg0]))
              first | (go_simp; done) | (go_simp; rfl) | (go_simp; with_reducible rfl)
            · skip
              rw [hg0] at ln19
              simp only [fillAt, List.foldl_cons, List.foldl_nil, Act.put, List.setIfInBounds_toArray, List.set_cons_zero, List.set_cons_succ, ln19]
              refine Stays.off (by rfl) (show (undef : Value) = (bif ((decide (cntSum p f k = e) && (decide (cntR (joinR p f k) = e) && !endsB (joinR p f k) e)) && ((gapR k 0) == b)) then (.pointer (some ⟨w.heap.size, 10, none⟩) : Value) else undef) from (by rw [cond_n hg0]))
          · intro g ws hws hl
            have ln19 : g 127 = .bool ((decide (cntSum p f k = e) && (decide (cntR (joinR p f k) = e) && !endsB (joinR p f k) e)) && ((gapR k 0) == b)) := linesOf_get 19 hl (by kernel_rfl)
            have ln22 : g 130 = (bif ((decide (cntSum p f k = e) && (decide (cntR (joinR p f k) = e) && !endsB (joinR p f k) e)) && ((gapR k 0) == b)) then (.pointer (some ⟨w.heap.size, 10, none⟩) : Value) else undef) := linesOf_get 22 hl (by kernel_rfl)
            rcases Bool.eq_false_or_eq_true (((decide (cntSum p f k = e) && (decide (cntR (joinR p f k) = e) && !endsB (joinR p f k) e)) && ((gapR k 0) == b))) with hg0 | hg0
            · skip
              rw [hg0] at ln19
              rw [cond_y hg0] at ln22
              simp only [fillAt, List.foldl_cons, List.foldl_nil, Act.put, List.setIfInBounds_toArray, List.set_cons_zero, List.set_cons_succ, ln19, ln22]
              obtain ⟨q0, p0⟩ := hws.row (k := w.heap.size) (by first | assumption | (simp; done) | (simp; omega) | omega)
              refine Stays.plain (.int .i64 se) (by rfl) ?_ (show (_ : Value) = (bif ((decide (cntSum p f k = e) && (decide (cntR (joinR p f k) = e) && !endsB (joinR p f k) e)) && ((gapR k 0) == b)) then (.int .i64 se : Value) else undef) from (by rw [cond_y hg0]))
              first | (go_simp; done) | (go_simp; rfl) | (go_simp; with_reducible rfl)
            · skip
              rw [hg0] at ln19
              simp only [fillAt, List.foldl_cons, List.foldl_nil, Act.put, List.setIfInBounds_toArray, List.set_cons_zero, List.set_cons_succ, ln19]
              refine Stays.off (by rfl) (show (undef : Value) = (bif ((decide (cntSum p f k = e) && (decide (cntR (joinR p f k) = e) && !endsB (joinR p f k) e)) && ((gapR k 0) == b)) then (.int .i64 se : Value) else undef) from (by rw [cond_n hg0]))
          · intro g ws hws hl
            have ln19 : g 127 = .bool ((decide (cntSum p f k = e) && (decide (cntR (joinR p f k) = e) && !endsB (joinR p f k) e)) && ((gapR k 0) == b)) := linesOf_get 19 hl (by kernel_rfl)
            have ln21 : g 129 = (bif ((decide (cntSum p f k = e) && (decide (cntR (joinR p f k) = e) && !endsB (joinR p f k) e)) && ((gapR k 0) == b)) then (.slice a.f f.length c3 : Value) else undef) := linesOf_get 21 hl (by kernel_rfl)
            have ln23 : g 131 = (bif ((decide (cntSum p f k = e) && (decide (cntR (joinR p f k) = e) && !endsB (joinR p f k) e)) && ((gapR k 0) == b)) then (.int .i64 se : Value) else undef) := linesOf_get 23 hl (by kernel_rfl)
            rcases Bool.eq_false_or_eq_true (((decide (cntSum p f k = e) && (decide (cntR (joinR p f k) = e) && !endsB (joinR p f k) e)) && ((gapR k 0) == b))) with hg0 | hg0
            · skip
              rw [hg0] at ln19
              rw [cond_y hg0] at ln21
              rw [cond_y hg0] at ln23
              simp only [fillAt, List.foldl_cons, List.foldl_nil, Act.put, List.setIfInBounds_toArray, List.set_cons_zero, List.set_cons_succ, ln19, ln21, ln23]
              refine Stays.call 78 ?_ (by rfl) ?_ ?_
              rotate_left
              · go_simp
                try with_reducible rfl
              · refine (endsBehind_impl se a.f _ c3 f ws (hx'.out.f.ext (xw4.drew.trans hws)) rfl (by omega)).mono ?_
                rintro e w' ⟨rfl, h2⟩
                exact ⟨_, rfl, h2, (show (_ : Value) = (bif ((decide (cntSum p f k = e) && (decide (cntR (joinR p f k) = e) && !endsB (joinR p f k) e)) && ((gapR k 0) == b)) then (.bool (endsB f se) : Value) else undef) from (by rw [cond_y hg0]))⟩
            · skip
              rw [hg0] at ln19
              simp only [fillAt, List.foldl_cons, List.foldl_nil, Act.put, List.setIfInBounds_toArray, List.set_cons_zero, List.set_cons_succ, ln19]
              refine Stays.off (by rfl) (show (undef : Value) = (bif ((decide (cntSum p f k = e) && (decide (cntR (joinR p f k) = e) && !endsB (joinR p f k) e)) && ((gapR k 0) == b)) then (.bool (endsB f se) : Value) else undef) from (by rw [cond_n hg0]))
          · intro g ws hws hl
            have ln19 : g 127 = .bool ((decide (cntSum p f k = e) && (decide (cntR (joinR p f k) = e) && !endsB (joinR p f k) e)) && ((gapR k 0) == b)) := linesOf_get 19 hl (by kernel_rfl)
            have ln24 : g 132 = (bif ((decide (cntSum p f k = e) && (decide (cntR (joinR p f k) = e) && !endsB (joinR p f k) e)) && ((gapR k 0) == b)) then (.bool (endsB f se) : Value) else undef) := linesOf_get 24 hl (by kernel_rfl)
            rcases Bool.eq_false_or_eq_true (((decide (cntSum p f k = e) && (decide (cntR (joinR p f k) = e) && !endsB (joinR p f k) e)) && ((gapR k 0) == b))) with hg0 | hg0
            · skip
              rw [hg0] at ln19
              rw [cond_y hg0] at ln24
              simp only [fillAt, List.foldl_cons, List.foldl_nil, Act.put, List.setIfInBounds_toArray, List.set_cons_zero, List.set_cons_succ, ln19, ln24]
              refine Stays.plain (.bool (!(endsB f se))) (by rfl) ?_ (show (_ : Value) = (bif ((decide (cntSum p f k = e) && (decide (cntR (joinR p f k) = e) && !endsB (joinR p f k) e)) && ((gapR k 0) == b)) then (.bool (!(endsB f se)) : Value) else undef) from (by rw [cond_y hg0]))
              first | (go_simp; done) | (go_simp; rfl) | (go_simp; with_reducible rfl)
            · skip
              rw [hg0] at ln19
              simp only [fillAt, List.foldl_cons, List.foldl_nil, Act.put, List.setIfInBounds_toArray, List.set_cons_zero, List.set_cons_succ, ln19]
              refine Stays.off (by rfl) (show (undef : Value) = (bif ((decide (cntSum p f k = e) && (decide (cntR (joinR p f k) = e) && !endsB (joinR p f k) e)) && ((gapR k 0) == b)) then (.bool (!(endsB f se)) : Value) else undef) from (by rw [cond_n hg0]))
          · intro g ws hws hl
            have ln19 : g 127 = .bool ((decide (cntSum p f k = e) && (decide (cntR (joinR p f k) = e) && !endsB (joinR p f k) e)) && ((gapR k 0) == b)) := linesOf_get 19 hl (by kernel_rfl)
            have ln25 : g 133 = (bif ((decide (cntSum p f k = e) && (decide (cntR (joinR p f k) = e) && !endsB (joinR p f k) e)) && ((gapR k 0) == b)) then (.bool (!(endsB f se)) : Value) else undef) := linesOf_get 25 hl (by kernel_rfl)
            rcases Bool.eq_false_or_eq_true (((decide (cntSum p f k = e) && (decide (cntR (joinR p f k) = e) && !endsB (joinR p f k) e)) && ((gapR k 0) == b))) with hp | hp
            · skip
              rw [hp] at ln19
              rw [cond_y hp] at ln25
              simp only [fillAt, List.foldl_cons, List.foldl_nil, Act.put, List.setIfInBounds_toArray, List.set_cons_zero, List.set_cons_succ, ln19, ln25]
              refine Stays.plain (.bool (((decide (cntSum p f k = e) && (decide (cntR (joinR p f k) = e) && !endsB (joinR p f k) e)) && ((gapR k 0) == b)) && (!(endsB f se)))) (by rfl) ?_ rfl
              first | (rw [hp]; go_simp; done) | (rw [hp]; go_simp; rfl) | (simp [hp, go_sem]; done) | (go_simp; simp [hp])
            · skip
              rw [hp] at ln19
              simp only [fillAt, List.foldl_cons, List.foldl_nil, Act.put, List.setIfInBounds_toArray, List.set_cons_zero, List.set_cons_succ, ln19, ln25]
              refine Stays.plain (.bool (((decide (cntSum p f k = e) && (decide (cntR (joinR p f k) = e) && !endsB (joinR p f k) e)) && ((gapR k 0) == b)) && (!(endsB f se)))) (by rfl) ?_ rfl
              first | (rw [hp]; go_simp; done) | (rw [hp]; go_simp; rfl) | (simp [hp, go_sem]; done) | (go_simp; simp [hp])
          · intro g ws hws hl
            have ln26 : g 134 = .bool (((decide (cntSum p f k = e) && (decide (cntR (joinR p f k) = e) && !endsB (joinR p f k) e)) && ((gapR k 0) == b)) && (!(endsB f se))) := linesOf_get 26 hl (by kernel_rfl)
            simp only [fillAt, List.foldl_cons, List.foldl_nil, Act.put, List.setIfInBounds_toArray, List.set_cons_zero, List.set_cons_succ, ln26]
            refine Stays.plain (.bool (((decide (cntSum p f k = e) && (decide (cntR (joinR p f k) = e) && !endsB (joinR p f k) e)) && ((gapR k 0) == b)) && (!(endsB f se)))) (by rfl) ?_ rfl
            first | (go_simp; done) | (go_simp; rfl) | (go_simp; with_reducible rfl)
          · intro g ws hws hl
            have ln27 : g 135 = .bool (((decide (cntSum p f k = e) && (decide (cntR (joinR p f k) = e) && !endsB (joinR p f k) e)) && ((gapR k 0) == b)) && (!(endsB f se))) := linesOf_get 27 hl (by kernel_rfl)
            rcases Bool.eq_false_or_eq_true ((((decide (cntSum p f k = e) && (decide (cntR (joinR p f k) = e) && !endsB (joinR p f k) e)) && ((gapR k 0) == b)) && (!(endsB f se)))) with hg0 | hg0
            · skip
              rw [hg0] at ln27
              simp only [fillAt, List.foldl_cons, List.foldl_nil, Act.put, List.setIfInBounds_toArray, List.set_cons_zero, List.set_cons_succ, ln27]
              refine Stays.plain (.pointer (some ⟨w.heap.size, 7, none⟩)) (by rfl) ?_ (show (_ : Value) = (bif (((decide (cntSum p f k = e) && (decide (cntR (joinR p f k) = e) && !endsB (joinR p f k) e)) && ((gapR k 0) == b)) && (!(endsB f se))) then (.pointer (some ⟨w.heap.size, 7, none⟩) : Value) else undef) from (by rw [cond_y hg0]))
              first | (go_simp; done) | (go_simp; rfl) | (go_simp; with_reducible rfl)
            · skip
              rw [hg0] at ln27
              simp only [fillAt, List.foldl_cons, List.foldl_nil, Act.put, List.setIfInBounds_toArray, List.set_cons_zero, List.set_cons_succ, ln27]
              refine Stays.off (by rfl) (show (undef : Value) = (bif (((decide (cntSum p f k = e) && (decide (cntR (joinR p f k) = e) && !endsB (joinR p f k) e)) && ((gapR k 0) == b)) && (!(endsB f se))) then (.pointer (some ⟨w.heap.size, 7, none⟩) : Value) else undef) from (by rw [cond_n hg0]))
          · intro g ws hws hl
            have ln27 : g 135 = .bool (((decide (cntSum p f k = e) && (decide (cntR (joinR p f k) = e) && !endsB (joinR p f k) e)) && ((gapR k 0) == b)) && (!(endsB f se))) := linesOf_get 27 hl (by kernel_rfl)
            have ln28 : g 136 = (bif (((decide (cntSum p f k = e) && (decide (cntR (joinR p f k) = e) && !endsB (joinR p f k) e)) && ((gapR k 0) == b)) && (!(endsB f se))) then (.pointer (some ⟨w.heap.size, 7, none⟩) : Value) else undef) := linesOf_get 28 hl (by kernel_rfl)
            rcases Bool.eq_false_or_eq_true ((((decide (cntSum p f k = e) && (decide (cntR (joinR p f k) = e) && !endsB (joinR p f k) e)) && ((gapR k 0) == b)) && (!(endsB f se)))) with hg0 | hg0
            · skip
              rw [hg0] at ln27
              rw [cond_y hg0] at ln28
              simp only [fillAt, List.foldl_cons, List.foldl_nil, Act.put, List.setIfInBounds_toArray, List.set_cons_zero, List.set_cons_succ, ln27, ln28]
              obtain ⟨q0, p0⟩ := hws.row (k := w.heap.size) (by first | assumption | (simp; done) | (simp; omega) | omega)
              refine Stays.plain (.slice a.k k.length c4) (by rfl) ?_ (show (_ : Value) = (bif (((decide (cntSum p f k = e) && (decide (cntR (joinR p f k) = e) && !endsB (joinR p f k) e)) && ((gapR k 0) == b)) && (!(endsB f se))) then (.slice a.k k.length c4 : Value) else undef) from (by rw [cond_y hg0]))
              first | (go_simp; done) | (go_simp; rfl) | (go_simp; with_reducible rfl)
            · skip
              rw [hg0] at ln27
              simp only [fillAt, List.foldl_cons, List.foldl_nil, Act.put, List.setIfInBounds_toArray, List.set_cons_zero, List.set_cons_succ, ln27]
              refine Stays.off (by rfl) (show (undef : Value) = (bif (((decide (cntSum p f k = e) && (decide (cntR (joinR p f k) = e) && !endsB (joinR p f k) e)) && ((gapR k 0) == b)) && (!(endsB f se))) then (.slice a.k k.length c4 : Value) else undef) from (by rw [cond_n hg0]))
          · intro g ws hws hl
            have ln27 : g 135 = .bool (((decide (cntSum p f k = e) && (decide (cntR (joinR p f k) = e) && !endsB (joinR p f k) e)) && ((gapR k 0) == b)) && (!(endsB f se))) := linesOf_get 27 hl (by kernel_rfl)
            rcases Bool.eq_false_or_eq_true ((((decide (cntSum p f k = e) && (decide (cntR (joinR p f k) = e) && !endsB (joinR p f k) e)) && ((gapR k 0) == b)) && (!(endsB f se)))) with hg0 | hg0
            · skip
              rw [hg0] at ln27
              simp only [fillAt, List.foldl_cons, List.foldl_nil, Act.put, List.setIfInBounds_toArray, List.set_cons_zero, List.set_cons_succ, ln27]
              refine Stays.plain (.pointer (some ⟨w.heap.size, 10, none⟩)) (by rfl) ?_ (show (_ : Value) = (bif (((decide (cntSum p f k = e) && (decide (cntR (joinR p f k) = e) && !endsB (joinR p f k) e)) && ((gapR k 0) == b)) && (!(endsB f se))) then (.pointer (some ⟨w.heap.size, 10, none⟩) : Value) else undef) from (by rw [cond_y hg0]))
              first | (go_simp; done) | (go_simp; rfl) | (go_simp; with_reducible rfl)
            · skip
              rw [hg0] at ln27
              simp only [fillAt, List.foldl_cons, List.foldl_nil, Act.put, List.setIfInBounds_toArray, List.set_cons_zero, List.set_cons_succ, ln27]
              refine Stays.off (by rfl) (show (undef : Value) = (bif (((decide (cntSum p f k = e) && (decide (cntR (joinR p f k) = e) && !endsB (joinR p f k) e)) && ((gapR k 0) == b)) && (!(endsB f se))) then (.pointer (some ⟨w.heap.size, 10, none⟩) : Value) else undef) from (by rw [cond_n hg0]))
          · intro g ws hws hl
            have ln27 : g 135 = .bool (((decide (cntSum p f k = e) && (decide (cntR (joinR p f k) = e) && !endsB (joinR p f k) e)) && ((gapR k 0) == b)) && (!(endsB f se))) := linesOf_get 27 hl (by kernel_rfl)
            have ln30 : g 138 = (bif (((decide (cntSum p f k = e) && (decide (cntR (joinR p f k) = e) && !endsB (joinR p f k) e)) && ((gapR k 0) == b)) && (!(endsB f se))) then (.pointer (some ⟨w.heap.size, 10, none⟩) : Value) else undef) := linesOf_get 30 hl (by kernel_rfl)
            rcases Bool.eq_false_or_eq_true ((((decide (cntSum p f k = e) && (decide (cntR (joinR p f k) = e) && !endsB (joinR p f k) e)) && ((gapR k 0) == b)) && (!(endsB f se)))) with hg0 | hg0
            · skip
              rw [hg0] at ln27
              rw [cond_y hg0] at ln30
              simp only [fillAt, List.foldl_cons, List.foldl_nil, Act.put, List.setIfInBounds_toArray, List.set_cons_zero, List.set_cons_succ, ln27, ln30]
              obtain ⟨q0, p0⟩ := hws.row (k := w.heap.size) (by first | assumption | (simp; done) | (simp; omega) | omega)
              refine Stays.plain (.int .i64 se) (by rfl) ?_ (show (_ : Value) = (bif (((decide (cntSum p f k = e) && (decide (cntR (joinR p f k) = e) && !endsB (joinR p f k) e)) && ((gapR k 0) == b)) && (!(endsB f se))) then (.int .i64 se : Value) else undef) from (by rw [cond_y hg0]))
              first | (go_simp; done) | (go_simp; rfl) | (go_simp; with_reducible rfl)
            · skip
              rw [hg0] at ln27
              simp only [fillAt, List.foldl_cons, List.foldl_nil, Act.put, List.setIfInBounds_toArray, List.set_cons_zero, List.set_cons_succ, ln27]
              refine Stays.off (by rfl) (show (undef : Value) = (bif (((decide (cntSum p f k = e) && (decide (cntR (joinR p f k) = e) && !endsB (joinR p f k) e)) && ((gapR k 0) == b)) && (!(endsB f se))) then (.int .i64 se : Value) else undef) from (by rw [cond_n hg0]))
          · intro g ws hws hl
            have ln27 : g 135 = .bool (((decide (cntSum p f k = e) && (decide (cntR (joinR p f k) = e) && !endsB (joinR p f k) e)) && ((gapR k 0) == b)) && (!(endsB f se))) := linesOf_get 27 hl (by kernel_rfl)
            have ln29 : g 137 = (bif (((decide (cntSum p f k = e) && (decide (cntR (joinR p f k) = e) && !endsB (joinR p f k) e)) && ((gapR k 0) == b)) && (!(endsB f se))) then (.slice a.k k.length c4 : Value) else undef) := linesOf_get 29 hl (by kernel_rfl)
            have ln31 : g 139 = (bif (((decide (cntSum p f k = e) && (decide (cntR (joinR p f k) = e) && !endsB (joinR p f k) e)) && ((gapR k 0) == b)) && (!(endsB f se))) then (.int .i64 se : Value) else undef) := linesOf_get 31 hl (by kernel_rfl)
            rcases Bool.eq_false_or_eq_true ((((decide (cntSum p f k = e) && (decide (cntR (joinR p f k) = e) && !endsB (joinR p f k) e)) && ((gapR k 0) == b)) && (!(endsB f se)))) with hg0 | hg0
            · skip
              rw [hg0] at ln27
              rw [cond_y hg0] at ln29
              rw [cond_y hg0] at ln31
              simp only [fillAt, List.foldl_cons, List.foldl_nil, Act.put, List.setIfInBounds_toArray, List.set_cons_zero, List.set_cons_succ, ln27, ln29, ln31]
              refine Stays.call 78 ?_ (by rfl) ?_ ?_
              rotate_left
              · go_simp
                try with_reducible rfl
              · refine (endsBehind_impl se a.k _ c4 k ws (hx'.out.k.ext (xw4.drew.trans hws)) rfl (by omega)).mono ?_
                rintro e w' ⟨rfl, h2⟩
                exact ⟨_, rfl, h2, (show (_ : Value) = (bif (((decide (cntSum p f k = e) && (decide (cntR (joinR p f k) = e) && !endsB (joinR p f k) e)) && ((gapR k 0) == b)) && (!(endsB f se))) then (.bool (endsB k se) : Value) else undef) from (by rw [cond_y hg0]))⟩
            · skip
              rw [hg0] at ln27
              simp only [fillAt, List.foldl_cons, List.foldl_nil, Act.put, List.setIfInBounds_toArray, List.set_cons_zero, List.set_cons_succ, ln27]
              refine Stays.off (by rfl) (show (undef : Value) = (bif (((decide (cntSum p f k = e) && (decide (cntR (joinR p f k) = e) && !endsB (joinR p f k) e)) && ((gapR k 0) == b)) && (!(endsB f se))) then (.bool (endsB k se) : Value) else undef) from (by rw [cond_n hg0]))
          · intro g ws hws hl
            have ln27 : g 135 = .bool (((decide (cntSum p f k = e) && (decide (cntR (joinR p f k) = e) && !endsB (joinR p f k) e)) && ((gapR k 0) == b)) && (!(endsB f se))) := linesOf_get 27 hl (by kernel_rfl)
            have ln32 : g 140 = (bif (((decide (cntSum p f k = e) && (decide (cntR (joinR p f k) = e) && !endsB (joinR p f k) e)) && ((gapR k 0) == b)) && (!(endsB f se))) then (.bool (endsB k se) : Value) else undef) := linesOf_get 32 hl (by kernel_rfl)
            rcases Bool.eq_false_or_eq_true ((((decide (cntSum p f k = e) && (decide (cntR (joinR p f k) = e) && !endsB (joinR p f k) e)) && ((gapR k 0) == b)) && (!(endsB f se)))) with hg0 | hg0
            · skip
              rw [hg0] at ln27
              rw [cond_y hg0] at ln32
              simp only [fillAt, List.foldl_cons, List.foldl_nil, Act.put, List.setIfInBounds_toArray, List.set_cons_zero, List.set_cons_succ, ln27, ln32]
              refine Stays.plain (.bool (!(endsB k se))) (by rfl) ?_ (show (_ : Value) = (bif (((decide (cntSum p f k = e) && (decide (cntR (joinR p f k) = e) && !endsB (joinR p f k) e)) && ((gapR k 0) == b)) && (!(endsB f se))) then (.bool (!(endsB k se)) : Value) else undef) from (by rw [cond_y hg0]))
              first | (go_simp; done) | (go_simp; rfl) | (go_simp; with_reducible rfl)
            · skip
              rw [hg0] at ln27
              simp only [fillAt, List.foldl_cons, List.foldl_nil, Act.put, List.setIfInBounds_toArray, List.set_cons_zero, List.set_cons_succ, ln27]
              refine Stays.off (by rfl) (show (undef : Value) = (bif (((decide (cntSum p f k = e) && (decide (cntR (joinR p f k) = e) && !endsB (joinR p f k) e)) && ((gapR k 0) == b)) && (!(endsB f se))) then (.bool (!(endsB k se)) : Value) else undef) from (by rw [cond_n hg0]))
          · intro g ws hws hl
            have ln27 : g 135 = .bool (((decide (cntSum p f k = e) && (decide (cntR (joinR p f k) = e) && !endsB (joinR p f k) e)) && ((gapR k 0) == b)) && (!(endsB f se))) := linesOf_get 27 hl (by kernel_rfl)
            have ln33 : g 141 = (bif (((decide (cntSum p f k = e) && (decide (cntR (joinR p f k) = e) && !endsB (joinR p f k) e)) && ((gapR k 0) == b)) && (!(endsB f se))) then (.bool (!(endsB k se)) : Value) else undef) := linesOf_get 33 hl (by kernel_rfl)
            rcases Bool.eq_false_or_eq_true ((((decide (cntSum p f k = e) && (decide (cntR (joinR p f k) = e) && !endsB (joinR p f k) e)) && ((gapR k 0) == b)) && (!(endsB f se)))) with hp | hp
            · skip
              rw [hp] at ln27
              rw [cond_y hp] at ln33
              simp only [fillAt, List.foldl_cons, List.foldl_nil, Act.put, List.setIfInBounds_toArray, List.set_cons_zero, List.set_cons_succ, ln27, ln33]
              refine Stays.plain (.bool ((((decide (cntSum p f k = e) && (decide (cntR (joinR p f k) = e) && !endsB (joinR p f k) e)) && ((gapR k 0) == b)) && (!(endsB f se))) && (!(endsB k se)))) (by rfl) ?_ rfl
              first | (rw [hp]; go_simp; done) | (rw [hp]; go_simp; rfl) | (simp [hp, go_sem]; done) | (go_simp; simp [hp])
            · skip
              rw [hp] at ln27
              simp only [fillAt, List.foldl_cons, List.foldl_nil, Act.put, List.setIfInBounds_toArray, List.set_cons_zero, List.set_cons_succ, ln27, ln33]
              refine Stays.plain (.bool ((((decide (cntSum p f k = e) && (decide (cntR (joinR p f k) = e) && !endsB (joinR p f k) e)) && ((gapR k 0) == b)) && (!(endsB f se))) && (!(endsB k se)))) (by rfl) ?_ rfl
              first | (rw [hp]; go_simp; done) | (rw [hp]; go_simp; rfl) | (simp [hp, go_sem]; done) | (go_simp; simp [hp])
          · intro g ws hws hl
            have ln34 : g 142 = .bool ((((decide (cntSum p f k = e) && (decide (cntR (joinR p f k) = e) && !endsB (joinR p f k) e)) && ((gapR k 0) == b)) && (!(endsB f se))) && (!(endsB k se))) := linesOf_get 34 hl (by kernel_rfl)
            simp only [fillAt, List.foldl_cons, List.foldl_nil, Act.put, List.setIfInBounds_toArray, List.set_cons_zero, List.set_cons_succ, ln34]
            refine Stays.plain (.bool ((((decide (cntSum p f k = e) && (decide (cntR (joinR p f k) = e) && !endsB (joinR p f k) e)) && ((gapR k 0) == b)) && (!(endsB f se))) && (!(endsB k se)))) (by rfl) ?_ rfl
            first | (go_simp; done) | (go_simp; rfl) | (go_simp; with_reducible rfl)
          · intro g ws hws hl
            have ln35 : g 143 = .bool ((((decide (cntSum p f k = e) && (decide (cntR (joinR p f k) = e) && !endsB (joinR p f k) e)) && ((gapR k 0) == b)) && (!(endsB f se))) && (!(endsB k se))) := linesOf_get 35 hl (by kernel_rfl)
            rcases Bool.eq_false_or_eq_true (((((decide (cntSum p f k = e) && (decide (cntR (joinR p f k) = e) && !endsB (joinR p f k) e)) && ((gapR k 0) == b)) && (!(endsB f se))) && (!(endsB k se)))) with hg0 | hg0
            · skip
              rw [hg0] at ln35
              simp only [fillAt, List.foldl_cons, List.foldl_nil, Act.put, List.setIfInBounds_toArray, List.set_cons_zero, List.set_cons_succ, ln35]
              refine Stays.plain (.pointer (some ⟨w.heap.size, 11, none⟩)) (by rfl) ?_ (show (_ : Value) = (bif ((((decide (cntSum p f k = e) && (decide (cntR (joinR p f k) = e) && !endsB (joinR p f k) e)) && ((gapR k 0) == b)) && (!(endsB f se))) && (!(endsB k se))) then (.pointer (some ⟨w.heap.size, 11, none⟩) : Value) else undef) from (by rw [cond_y hg0]))
              first | (go_simp; done) | (go_simp; rfl) | (go_simp; with_reducible rfl)
            · skip
              rw [hg0] at ln35
              simp only [fillAt, List.foldl_cons, List.foldl_nil, Act.put, List.setIfInBounds_toArray, List.set_cons_zero, List.set_cons_succ, ln35]
              refine Stays.off (by rfl) (show (undef : Value) = (bif ((((decide (cntSum p f k = e) && (decide (cntR (joinR p f k) = e) && !endsB (joinR p f k) e)) && ((gapR k 0) == b)) && (!(endsB f se))) && (!(endsB k se))) then (.pointer (some ⟨w.heap.size, 11, none⟩) : Value) else undef) from (by rw [cond_n hg0]))
          · intro g ws hws hl
            have ln35 : g 143 = .bool ((((decide (cntSum p f k = e) && (decide (cntR (joinR p f k) = e) && !endsB (joinR p f k) e)) && ((gapR k 0) == b)) && (!(endsB f se))) && (!(endsB k se))) := linesOf_get 35 hl (by kernel_rfl)
            have ln36 : g 144 = (bif ((((decide (cntSum p f k = e) && (decide (cntR (joinR p f k) = e) && !endsB (joinR p f k) e)) && ((gapR k 0) == b)) && (!(endsB f se))) && (!(endsB k se))) then (.pointer (some ⟨w.heap.size, 11, none⟩) : Value) else undef) := linesOf_get 36 hl (by kernel_rfl)
            rcases Bool.eq_false_or_eq_true (((((decide (cntSum p f k = e) && (decide (cntR (joinR p f k) = e) && !endsB (joinR p f k) e)) && ((gapR k 0) == b)) && (!(endsB f se))) && (!(endsB k se)))) with hg0 | hg0
            · skip
              rw [hg0] at ln35
              rw [cond_y hg0] at ln36
              simp only [fillAt, List.foldl_cons, List.foldl_nil, Act.put, List.setIfInBounds_toArray, List.set_cons_zero, List.set_cons_succ, ln35, ln36]
              obtain ⟨q0, p0⟩ := hws.row (k := w.heap.size) (by first | assumption | (simp; done) | (simp; omega) | omega)
              refine Stays.plain (.int .i64 co) (by rfl) ?_ (show (_ : Value) = (bif ((((decide (cntSum p f k = e) && (decide (cntR (joinR p f k) = e) && !endsB (joinR p f k) e)) && ((gapR k 0) == b)) && (!(endsB f se))) && (!(endsB k se))) then (.int .i64 co : Value) else undef) from (by rw [cond_y hg0]))
              first | (go_simp; done) | (go_simp; rfl) | (go_simp; with_reducible rfl)
            · skip
              rw [hg0] at ln35
              simp only [fillAt, List.foldl_cons, List.foldl_nil, Act.put, List.setIfInBounds_toArray, List.set_cons_zero, List.set_cons_succ, ln35]
              refine Stays.off (by rfl) (show (undef : Value) = (bif ((((decide (cntSum p f k = e) && (decide (cntR (joinR p f k) = e) && !endsB (joinR p f k) e)) && ((gapR k 0) == b)) && (!(endsB f se))) && (!(endsB k se))) then (.int .i64 co : Value) else undef) from (by rw [cond_n hg0]))
          · intro g ws hws hl
            have ln35 : g 143 = .bool ((((decide (cntSum p f k = e) && (decide (cntR (joinR p f k) = e) && !endsB (joinR p f k) e)) && ((gapR k 0) == b)) && (!(endsB f se))) && (!(endsB k se))) := linesOf_get 35 hl (by kernel_rfl)
            have ln37 : g 145 = (bif ((((decide (cntSum p f k = e) && (decide (cntR (joinR p f k) = e) && !endsB (joinR p f k) e)) && ((gapR k 0) == b)) && (!(endsB f se))) && (!(endsB k se))) then (.int .i64 co : Value) else undef) := linesOf_get 37 hl (by kernel_rfl)
            rcases Bool.eq_false_or_eq_true (((((decide (cntSum p f k = e) && (decide (cntR (joinR p f k) = e) && !endsB (joinR p f k) e)) && ((gapR k 0) == b)) && (!(endsB f se))) && (!(endsB k se)))) with hg0 | hg0
            · skip
              rw [hg0] at ln35
              rw [cond_y hg0] at ln37
              simp only [fillAt, List.foldl_cons, List.foldl_nil, Act.put, List.setIfInBounds_toArray, List.set_cons_zero, List.set_cons_succ, ln35, ln37]
              refine Stays.plain (.bool (co == 0)) (by rfl) ?_ (show (_ : Value) = (bif ((((decide (cntSum p f k = e) && (decide (cntR (joinR p f k) = e) && !endsB (joinR p f k) e)) && ((gapR k 0) == b)) && (!(endsB f se))) && (!(endsB k se))) then (.bool (co == 0) : Value) else undef) from (by rw [cond_y hg0]))
              first | (go_simp; done) | (go_simp; rfl) | (go_simp; with_reducible rfl)
            · skip
              rw [hg0] at ln35
              simp only [fillAt, List.foldl_cons, List.foldl_nil, Act.put, List.setIfInBounds_toArray, List.set_cons_zero, List.set_cons_succ, ln35]
              refine Stays.off (by rfl) (show (undef : Value) = (bif ((((decide (cntSum p f k = e) && (decide (cntR (joinR p f k) = e) && !endsB (joinR p f k) e)) && ((gapR k 0) == b)) && (!(endsB f se))) && (!(endsB k se))) then (.bool (co == 0) : Value) else undef) from (by rw [cond_n hg0]))
          · intro g ws hws hl
            have ln35 : g 143 = .bool ((((decide (cntSum p f k = e) && (decide (cntR (joinR p f k) = e) && !endsB (joinR p f k) e)) && ((gapR k 0) == b)) && (!(endsB f se))) && (!(endsB k se))) := linesOf_get 35 hl (by kernel_rfl)
            have ln38 : g 146 = (bif ((((decide (cntSum p f k = e) && (decide (cntR (joinR p f k) = e) && !endsB (joinR p f k) e)) && ((gapR k 0) == b)) && (!(endsB f se))) && (!(endsB k se))) then (.bool (co == 0) : Value) else undef) := linesOf_get 38 hl (by kernel_rfl)
            rcases Bool.eq_false_or_eq_true (((((decide (cntSum p f k = e) && (decide (cntR (joinR p f k) = e) && !endsB (joinR p f k) e)) && ((gapR k 0) == b)) && (!(endsB f se))) && (!(endsB k se)))) with hp | hp
            · skip
              rw [hp] at ln35
              rw [cond_y hp] at ln38
              simp only [fillAt, List.foldl_cons, List.foldl_nil, Act.put, List.setIfInBounds_toArray, List.set_cons_zero, List.set_cons_succ, ln35, ln38]
              refine Stays.plain (.bool (((((decide (cntSum p f k = e) && (decide (cntR (joinR p f k) = e) && !endsB (joinR p f k) e)) && ((gapR k 0) == b)) && (!(endsB f se))) && (!(endsB k se))) && (co == 0))) (by rfl) ?_ rfl
              first | (rw [hp]; go_simp; done) | (rw [hp]; go_simp; rfl) | (simp [hp, go_sem]; done) | (go_simp; simp [hp])
            · skip
              rw [hp] at ln35
              simp only [fillAt, List.foldl_cons, List.foldl_nil, Act.put, List.setIfInBounds_toArray, List.set_cons_zero, List.set_cons_succ, ln35, ln38]
              refine Stays.plain (.bool (((((decide (cntSum p f k = e) && (decide (cntR (joinR p f k) = e) && !endsB (joinR p f k) e)) && ((gapR k 0) == b)) && (!(endsB f se))) && (!(endsB k se))) && (co == 0))) (by rfl) ?_ rfl
              first | (rw [hp]; go_simp; done) | (rw [hp]; go_simp; rfl) | (simp [hp, go_sem]; done) | (go_simp; simp [hp])
          · intro g ws hws hl
            have ln39 : g 147 = .bool (((((decide (cntSum p f k = e) && (decide (cntR (joinR p f k) = e) && !endsB (joinR p f k) e)) && ((gapR k 0) == b)) && (!(endsB f se))) && (!(endsB k se))) && (co == 0)) := linesOf_get 39 hl (by kernel_rfl)
            simp only [fillAt, List.foldl_cons, List.foldl_nil, Act.put, List.setIfInBounds_toArray, List.set_cons_zero, List.set_cons_succ, ln39]
            refine Stays.plain (.bool (((((decide (cntSum p f k = e) && (decide (cntR (joinR p f k) = e) && !endsB (joinR p f k) e)) && ((gapR k 0) == b)) && (!(endsB f se))) && (!(endsB k se))) && (co == 0))) (by rfl) ?_ rfl
            first | (go_simp; done) | (go_simp; rfl) | (go_simp; with_reducible rfl)
          · intro g ws hws hl
            have ln40 : g 148 = .bool (((((decide (cntSum p f k = e) && (decide (cntR (joinR p f k) = e) && !endsB (joinR p f k) e)) && ((gapR k 0) == b)) && (!(endsB f se))) && (!(endsB k se))) && (co == 0)) := linesOf_get 40 hl (by kernel_rfl)
            rcases Bool.eq_false_or_eq_true ((((((decide (cntSum p f k = e) && (decide (cntR (joinR p f k) = e) && !endsB (joinR p f k) e)) && ((gapR k 0) == b)) && (!(endsB f se))) && (!(endsB k se))) && (co == 0))) with hg0 | hg0
            · skip
              rw [hg0] at ln40
              simp only [fillAt, List.foldl_cons, List.foldl_nil, Act.put, List.setIfInBounds_toArray, List.set_cons_zero, List.set_cons_succ, ln40]
              refine Stays.plain (.pointer (some ⟨w.heap.size, 8, none⟩)) (by rfl) ?_ (show (_ : Value) = (bif (((((decide (cntSum p f k = e) && (decide (cntR (joinR p f k) = e) && !endsB (joinR p f k) e)) && ((gapR k 0) == b)) && (!(endsB f se))) && (!(endsB k se))) && (co == 0)) then (.pointer (some ⟨w.heap.size, 8, none⟩) : Value) else undef) from (by rw [cond_y hg0]))
              first | (go_simp; done) | (go_simp; rfl) | (go_simp; with_reducible rfl)
            · skip
              rw [hg0] at ln40
              simp only [fillAt, List.foldl_cons, List.foldl_nil, Act.put, List.setIfInBounds_toArray, List.set_cons_zero, List.set_cons_succ, ln40]
              refine Stays.off (by rfl) (show (undef : Value) = (bif (((((decide (cntSum p f k = e) && (decide (cntR (joinR p f k) = e) && !endsB (joinR p f k) e)) && ((gapR k 0) == b)) && (!(endsB f se))) && (!(endsB k se))) && (co == 0)) then (.pointer (some ⟨w.heap.size, 8, none⟩) : Value) else undef) from (by rw [cond_n hg0]))
          · intro g ws hws hl
            have ln40 : g 148 = .bool (((((decide (cntSum p f k = e) && (decide (cntR (joinR p f k) = e) && !endsB (joinR p f k) e)) && ((gapR k 0) == b)) && (!(endsB f se))) && (!(endsB k se))) && (co == 0)) := linesOf_get 40 hl (by kernel_rfl)
            have ln41 : g 149 = (bif (((((decide (cntSum p f k = e) && (decide (cntR (joinR p f k) = e) && !endsB (joinR p f k) e)) && ((gapR k 0) == b)) && (!(endsB f se))) && (!(endsB k se))) && (co == 0)) then (.pointer (some ⟨w.heap.size, 8, none⟩) : Value) else undef) := linesOf_get 41 hl (by kernel_rfl)
            rcases Bool.eq_false_or_eq_true ((((((decide (cntSum p f k = e) && (decide (cntR (joinR p f k) = e) && !endsB (joinR p f k) e)) && ((gapR k 0) == b)) && (!(endsB f se))) && (!(endsB k se))) && (co == 0))) with hg0 | hg0
            · skip
              rw [hg0] at ln40
              rw [cond_y hg0] at ln41
              simp only [fillAt, List.foldl_cons, List.foldl_nil, Act.put, List.setIfInBounds_toArray, List.set_cons_zero, List.set_cons_succ, ln40, ln41]
              obtain ⟨q0, p0⟩ := hws.row (k := w.heap.size) (by first | assumption | (simp; done) | (simp; omega) | omega)
              refine Stays.plain (.int .i64 fi) (by rfl) ?_ (show (_ : Value) = (bif (((((decide (cntSum p f k = e) && (decide (cntR (joinR p f k) = e) && !endsB (joinR p f k) e)) && ((gapR k 0) == b)) && (!(endsB f se))) && (!(endsB k se))) && (co == 0)) then (.int .i64 fi : Value) else undef) from (by rw [cond_y hg0]))
              first | (go_simp; done) | (go_simp; rfl) | (go_simp; with_reducible rfl)
            · skip
              rw [hg0] at ln40
              simp only [fillAt, List.foldl_cons, List.foldl_nil, Act.put, List.setIfInBounds_toArray, List.set_cons_zero, List.set_cons_succ, ln40]
              refine Stays.off (by rfl) (show (undef : Value) = (bif (((((decide (cntSum p f k = e) && (decide (cntR (joinR p f k) = e) && !endsB (joinR p f k) e)) && ((gapR k 0) == b)) && (!(endsB f se))) && (!(endsB k se))) && (co == 0)) then (.int .i64 fi : Value) else undef) from (by rw [cond_n hg0]))
          · intro g ws hws hl
            have ln40 : g 148 = .bool (((((decide (cntSum p f k = e) && (decide (cntR (joinR p f k) = e) && !endsB (joinR p f k) e)) && ((gapR k 0) == b)) && (!(endsB f se))) && (!(endsB k se))) && (co == 0)) := linesOf_get 40 hl (by kernel_rfl)
            rcases Bool.eq_false_or_eq_true ((((((decide (cntSum p f k = e) && (decide (cntR (joinR p f k) = e) && !endsB (joinR p f k) e)) && ((gapR k 0) == b)) && (!(endsB f se))) && (!(endsB k se))) && (co == 0))) with hg0 | hg0
            · skip
              rw [hg0] at ln40
              simp only [fillAt, List.foldl_cons, List.foldl_nil, Act.put, List.setIfInBounds_toArray, List.set_cons_zero, List.set_cons_succ, ln40]
              refine Stays.plain (.int .i64 (-1)) (by rfl) ?_ (show (_ : Value) = (bif (((((decide (cntSum p f k = e) && (decide (cntR (joinR p f k) = e) && !endsB (joinR p f k) e)) && ((gapR k 0) == b)) && (!(endsB f se))) && (!(endsB k se))) && (co == 0)) then (.int .i64 (-1) : Value) else undef) from (by rw [cond_y hg0]))
              first | (go_simp; done) | (go_simp; rfl) | (go_simp; with_reducible rfl)
            · skip
              rw [hg0] at ln40
              simp only [fillAt, List.foldl_cons, List.foldl_nil, Act.put, List.setIfInBounds_toArray, List.set_cons_zero, List.set_cons_succ, ln40]
              refine Stays.off (by rfl) (show (undef : Value) = (bif (((((decide (cntSum p f k = e) && (decide (cntR (joinR p f k) = e) && !endsB (joinR p f k) e)) && ((gapR k 0) == b)) && (!(endsB f se))) && (!(endsB k se))) && (co == 0)) then (.int .i64 (-1) : Value) else undef) from (by rw [cond_n hg0]))
          · intro g ws hws hl
            have ln40 : g 148 = .bool (((((decide (cntSum p f k = e) && (decide (cntR (joinR p f k) = e) && !endsB (joinR p f k) e)) && ((gapR k 0) == b)) && (!(endsB f se))) && (!(endsB k se))) && (co == 0)) := linesOf_get 40 hl (by kernel_rfl)
            have ln42 : g 150 = (bif (((((decide (cntSum p f k = e) && (decide (cntR (joinR p f k) = e) && !endsB (joinR p f k) e)) && ((gapR k 0) == b)) && (!(endsB f se))) && (!(endsB k se))) && (co == 0)) then (.int .i64 fi : Value) else undef) := linesOf_get 42 hl (by kernel_rfl)
            have ln43 : g 151 = (bif (((((decide (cntSum p f k = e) && (decide (cntR (joinR p f k) = e) && !endsB (joinR p f k) e)) && ((gapR k 0) == b)) && (!(endsB f se))) && (!(endsB k se))) && (co == 0)) then (.int .i64 (-1) : Value) else undef) := linesOf_get 43 hl (by kernel_rfl)
            rcases Bool.eq_false_or_eq_true ((((((decide (cntSum p f k = e) && (decide (cntR (joinR p f k) = e) && !endsB (joinR p f k) e)) && ((gapR k 0) == b)) && (!(endsB f se))) && (!(endsB k se))) && (co == 0))) with hg0 | hg0
            · skip
              rw [hg0] at ln40
              rw [cond_y hg0] at ln42
              rw [cond_y hg0] at ln43
              simp only [fillAt, List.foldl_cons, List.foldl_nil, Act.put, List.setIfInBounds_toArray, List.set_cons_zero, List.set_cons_succ, ln40, ln42, ln43]
              refine Stays.plain (.bool (fi == (-1))) (by rfl) ?_ (show (_ : Value) = (bif (((((decide (cntSum p f k = e) && (decide (cntR (joinR p f k) = e) && !endsB (joinR p f k) e)) && ((gapR k 0) == b)) && (!(endsB f se))) && (!(endsB k se))) && (co == 0)) then (.bool (fi == (-1)) : Value) else undef) from (by rw [cond_y hg0]))
              first | (go_simp; done) | (go_simp; rfl) | (go_simp; with_reducible rfl)
            · skip
              rw [hg0] at ln40
              simp only [fillAt, List.foldl_cons, List.foldl_nil, Act.put, List.setIfInBounds_toArray, List.set_cons_zero, List.set_cons_succ, ln40]
              refine Stays.off (by rfl) (show (undef : Value) = (bif (((((decide (cntSum p f k = e) && (decide (cntR (joinR p f k) = e) && !endsB (joinR p f k) e)) && ((gapR k 0) == b)) && (!(endsB f se))) && (!(endsB k se))) && (co == 0)) then (.bool (fi == (-1)) : Value) else undef) from (by rw [cond_n hg0]))
          · intro g ws hws hl
            have ln40 : g 148 = .bool (((((decide (cntSum p f k = e) && (decide (cntR (joinR p f k) = e) && !endsB (joinR p f k) e)) && ((gapR k 0) == b)) && (!(endsB f se))) && (!(endsB k se))) && (co == 0)) := linesOf_get 40 hl (by kernel_rfl)
            have ln44 : g 152 = (bif (((((decide (cntSum p f k = e) && (decide (cntR (joinR p f k) = e) && !endsB (joinR p f k) e)) && ((gapR k 0) == b)) && (!(endsB f se))) && (!(endsB k se))) && (co == 0)) then (.bool (fi == (-1)) : Value) else undef) := linesOf_get 44 hl (by kernel_rfl)
            rcases Bool.eq_false_or_eq_true ((((((decide (cntSum p f k = e) && (decide (cntR (joinR p f k) = e) && !endsB (joinR p f k) e)) && ((gapR k 0) == b)) && (!(endsB f se))) && (!(endsB k se))) && (co == 0))) with hp | hp
            · skip
              rw [hp] at ln40
              rw [cond_y hp] at ln44
              simp only [fillAt, List.foldl_cons, List.foldl_nil, Act.put, List.setIfInBounds_toArray, List.set_cons_zero, List.set_cons_succ, ln40, ln44]
              refine Stays.plain (.bool ((((((decide (cntSum p f k = e) && (decide (cntR (joinR p f k) = e) && !endsB (joinR p f k) e)) && ((gapR k 0) == b)) && (!(endsB f se))) && (!(endsB k se))) && (co == 0)) && (fi == (-1)))) (by rfl) ?_ rfl
              first | (rw [hp]; go_simp; done) | (rw [hp]; go_simp; rfl) | (simp [hp, go_sem]; done) | (go_simp; simp [hp])
            · skip
              rw [hp] at ln40
              simp only [fillAt, List.foldl_cons, List.foldl_nil, Act.put, List.setIfInBounds_toArray, List.set_cons_zero, List.set_cons_succ, ln40, ln44]
              refine Stays.plain (.bool ((((((decide (cntSum p f k = e) && (decide (cntR (joinR p f k) = e) && !endsB (joinR p f k) e)) && ((gapR k 0) == b)) && (!(endsB f se))) && (!(endsB k se))) && (co == 0)) && (fi == (-1)))) (by rfl) ?_ rfl
              first | (rw [hp]; go_simp; done) | (rw [hp]; go_simp; rfl) | (simp [hp, go_sem]; done) | (go_simp; simp [hp])
          · intro g ws hws hl
            have ln45 : g 153 = .bool ((((((decide (cntSum p f k = e) && (decide (cntR (joinR p f k) = e) && !endsB (joinR p f k) e)) && ((gapR k 0) == b)) && (!(endsB f se))) && (!(endsB k se))) && (co == 0)) && (fi == (-1))) := linesOf_get 45 hl (by kernel_rfl)
            simp only [fillAt, List.foldl_cons, List.foldl_nil, Act.put, List.setIfInBounds_toArray, List.set_cons_zero, List.set_cons_succ, ln45]
            refine Stays.plain (.bool ((((((decide (cntSum p f k = e) && (decide (cntR (joinR p f k) = e) && !endsB (joinR p f k) e)) && ((gapR k 0) == b)) && (!(endsB f se))) && (!(endsB k se))) && (co == 0)) && (fi == (-1)))) (by rfl) ?_ rfl
            first | (go_simp; done) | (go_simp; rfl) | (go_simp; with_reducible rfl)
          · intro g ws hws hl
            have ln46 : g 154 = .bool ((((((decide (cntSum p f k = e) && (decide (cntR (joinR p f k) = e) && !endsB (joinR p f k) e)) && ((gapR k 0) == b)) && (!(endsB f se))) && (!(endsB k se))) && (co == 0)) && (fi == (-1))) := linesOf_get 46 hl (by kernel_rfl)
            rcases Bool.eq_false_or_eq_true (((((((decide (cntSum p f k = e) && (decide (cntR (joinR p f k) = e) && !endsB (joinR p f k) e)) && ((gapR k 0) == b)) && (!(endsB f se))) && (!(endsB k se))) && (co == 0)) && (fi == (-1)))) with hg0 | hg0
            · skip
              rw [hg0] at ln46
              simp only [fillAt, List.foldl_cons, List.foldl_nil, Act.put, List.setIfInBounds_toArray, List.set_cons_zero, List.set_cons_succ, ln46]
              refine Stays.plain (.pointer (some ⟨w.heap.size, 0, none⟩)) (by rfl) ?_ (show (_ : Value) = (bif ((((((decide (cntSum p f k = e) && (decide (cntR (joinR p f k) = e) && !endsB (joinR p f k) e)) && ((gapR k 0) == b)) && (!(endsB f se))) && (!(endsB k se))) && (co == 0)) && (fi == (-1))) then (.pointer (some ⟨w.heap.size, 0, none⟩) : Value) else undef) from (by rw [cond_y hg0]))
              first | (go_simp; done) | (go_simp; rfl) | (go_simp; with_reducible rfl)
            · skip
              rw [hg0] at ln46
              simp only [fillAt, List.foldl_cons, List.foldl_nil, Act.put, List.setIfInBounds_toArray, List.set_cons_zero, List.set_cons_succ, ln46]
              refine Stays.off (by rfl) (show (undef : Value) = (bif ((((((decide (cntSum p f k = e) && (decide (cntR (joinR p f k) = e) && !endsB (joinR p f k) e)) && ((gapR k 0) == b)) && (!(endsB f se))) && (!(endsB k se))) && (co == 0)) && (fi == (-1))) then (.pointer (some ⟨w.heap.size, 0, none⟩) : Value) else undef) from (by rw [cond_n hg0]))
          · intro g ws hws hl
            have ln46 : g 154 = .bool ((((((decide (cntSum p f k = e) && (decide (cntR (joinR p f k) = e) && !endsB (joinR p f k) e)) && ((gapR k 0) == b)) && (!(endsB f se))) && (!(endsB k se))) && (co == 0)) && (fi == (-1))) := linesOf_get 46 hl (by kernel_rfl)
            have ln47 : g 155 = (bif ((((((decide (cntSum p f k = e) && (decide (cntR (joinR p f k) = e) && !endsB (joinR p f k) e)) && ((gapR k 0) == b)) && (!(endsB f se))) && (!(endsB k se))) && (co == 0)) && (fi == (-1))) then (.pointer (some ⟨w.heap.size, 0, none⟩) : Value) else undef) := linesOf_get 47 hl (by kernel_rfl)
            rcases Bool.eq_false_or_eq_true (((((((decide (cntSum p f k = e) && (decide (cntR (joinR p f k) = e) && !endsB (joinR p f k) e)) && ((gapR k 0) == b)) && (!(endsB f se))) && (!(endsB k se))) && (co == 0)) && (fi == (-1)))) with hg0 | hg0
            · skip
              rw [hg0] at ln46
              rw [cond_y hg0] at ln47
              simp only [fillAt, List.foldl_cons, List.foldl_nil, Act.put, List.setIfInBounds_toArray, List.set_cons_zero, List.set_cons_succ, ln46, ln47]
              obtain ⟨q0, p0⟩ := hws.row (k := w.heap.size) (by first | assumption | (simp; done) | (simp; omega) | omega)
              refine Stays.plain (.int .i64 st) (by rfl) ?_ (show (_ : Value) = (bif ((((((decide (cntSum p f k = e) && (decide (cntR (joinR p f k) = e) && !endsB (joinR p f k) e)) && ((gapR k 0) == b)) && (!(endsB f se))) && (!(endsB k se))) && (co == 0)) && (fi == (-1))) then (.int .i64 st : Value) else undef) from (by rw [cond_y hg0]))
              first | (go_simp; done) | (go_simp; rfl) | (go_simp; with_reducible rfl)
            · skip
              rw [hg0] at ln46
              simp only [fillAt, List.foldl_cons, List.foldl_nil, Act.put, List.setIfInBounds_toArray, List.set_cons_zero, List.set_cons_succ, ln46]
              refine Stays.off (by rfl) (show (undef : Value) = (bif ((((((decide (cntSum p f k = e) && (decide (cntR (joinR p f k) = e) && !endsB (joinR p f k) e)) && ((gapR k 0) == b)) && (!(endsB f se))) && (!(endsB k se))) && (co == 0)) && (fi == (-1))) then (.int .i64 st : Value) else undef) from (by rw [cond_n hg0]))
          · intro g ws hws hl
            have ln46 : g 154 = .bool ((((((decide (cntSum p f k = e) && (decide (cntR (joinR p f k) = e) && !endsB (joinR p f k) e)) && ((gapR k 0) == b)) && (!(endsB f se))) && (!(endsB k se))) && (co == 0)) && (fi == (-1))) := linesOf_get 46 hl (by kernel_rfl)
            rcases Bool.eq_false_or_eq_true (((((((decide (cntSum p f k = e) && (decide (cntR (joinR p f k) = e) && !endsB (joinR p f k) e)) && ((gapR k 0) == b)) && (!(endsB f se))) && (!(endsB k se))) && (co == 0)) && (fi == (-1)))) with hg0 | hg0
            · skip
              rw [hg0] at ln46
              simp only [fillAt, List.foldl_cons, List.foldl_nil, Act.put, List.setIfInBounds_toArray, List.set_cons_zero, List.set_cons_succ, ln46]
              obtain ⟨q0, p0⟩ := hws.row (k := w.heap.size) (by first | assumption | (simp; done) | (simp; omega) | omega)
              refine Stays.plain (.agg #[.int .i64 st, .int .i64 z, .int .i64 b, .int .i64 e, .slice a.r xs.length c1, .slice a.p p.length c2, .slice a.f f.length c3, .slice a.k k.length c4, .int .i64 fi, .int .i64 fk, .int .i64 se, .int .i64 co]) (by rfl) ?_ (show (_ : Value) = (bif ((((((decide (cntSum p f k = e) && (decide (cntR (joinR p f k) = e) && !endsB (joinR p f k) e)) && ((gapR k 0) == b)) && (!(endsB f se))) && (!(endsB k se))) && (co == 0)) && (fi == (-1))) then (.agg #[.int .i64 st, .int .i64 z, .int .i64 b, .int .i64 e, .slice a.r xs.length c1, .slice a.p p.length c2, .slice a.f f.length c3, .slice a.k k.length c4, .int .i64 fi, .int .i64 fk, .int .i64 se, .int .i64 co] : Value) else undef) from (by rw [cond_y hg0]))
              first | (go_simp; done) | (go_simp; rfl) | (go_simp; with_reducible rfl)
            · skip
              rw [hg0] at ln46
              simp only [fillAt, List.foldl_cons, List.foldl_nil, Act.put, List.setIfInBounds_toArray, List.set_cons_zero, List.set_cons_succ, ln46]
              refine Stays.off (by rfl) (show (undef : Value) = (bif ((((((decide (cntSum p f k = e) && (decide (cntR (joinR p f k) = e) && !endsB (joinR p f k) e)) && ((gapR k 0) == b)) && (!(endsB f se))) && (!(endsB k se))) && (co == 0)) && (fi == (-1))) then (.agg #[.int .i64 st, .int .i64 z, .int .i64 b, .int .i64 e, .slice a.r xs.length c1, .slice a.p p.length c2, .slice a.f f.length c3, .slice a.k k.length c4, .int .i64 fi, .int .i64 fk, .int .i64 se, .int .i64 co] : Value) else undef) from (by rw [cond_n hg0]))
          · intro g ws hws hl
            have ln46 : g 154 = .bool ((((((decide (cntSum p f k = e) && (decide (cntR (joinR p f k) = e) && !endsB (joinR p f k) e)) && ((gapR k 0) == b)) && (!(endsB f se))) && (!(endsB k se))) && (co == 0)) && (fi == (-1))) := linesOf_get 46 hl (by kernel_rfl)
            have ln49 : g 157 = (bif ((((((decide (cntSum p f k = e) && (decide (cntR (joinR p f k) = e) && !endsB (joinR p f k) e)) && ((gapR k 0) == b)) && (!(endsB f se))) && (!(endsB k se))) && (co == 0)) && (fi == (-1))) then (.agg #[.int .i64 st, .int .i64 z, .int .i64 b, .int .i64 e, .slice a.r xs.length c1, .slice a.p p.length c2, .slice a.f f.length c3, .slice a.k k.length c4, .int .i64 fi, .int .i64 fk, .int .i64 se, .int .i64 co] : Value) else undef) := linesOf_get 49 hl (by kernel_rfl)
            rcases Bool.eq_false_or_eq_true (((((((decide (cntSum p f k = e) && (decide (cntR (joinR p f k) = e) && !endsB (joinR p f k) e)) && ((gapR k 0) == b)) && (!(endsB f se))) && (!(endsB k se))) && (co == 0)) && (fi == (-1)))) with hg0 | hg0
            · skip
              rw [hg0] at ln46
              rw [cond_y hg0] at ln49
              simp only [fillAt, List.foldl_cons, List.foldl_nil, Act.put, List.setIfInBounds_toArray, List.set_cons_zero, List.set_cons_succ, ln46, ln49]
              refine Stays.call 79 ?_ (by rfl) ?_ ?_
              rotate_left
              · go_simp
                try with_reducible rfl
              · refine (state_impl ⟨st, z, b, e, xs, p, f, k, fi, fk, se, co⟩ a c1 c2 c3 c4 ws).mono ?_
                rintro e w' ⟨rfl, h2⟩
                exact ⟨_, rfl, h2, (show (_ : Value) = (bif ((((((decide (cntSum p f k = e) && (decide (cntR (joinR p f k) = e) && !endsB (joinR p f k) e)) && ((gapR k 0) == b)) && (!(endsB f se))) && (!(endsB k se))) && (co == 0)) && (fi == (-1))) then (.int .i64 (stI st b e fk se) : Value) else undef) from (by rw [cond_y hg0]))⟩
            · skip
              rw [hg0] at ln46
              simp only [fillAt, List.foldl_cons, List.foldl_nil, Act.put, List.setIfInBounds_toArray, List.set_cons_zero, List.set_cons_succ, ln46]
              refine Stays.off (by rfl) (show (undef : Value) = (bif ((((((decide (cntSum p f k = e) && (decide (cntR (joinR p f k) = e) && !endsB (joinR p f k) e)) && ((gapR k 0) == b)) && (!(endsB f se))) && (!(endsB k se))) && (co == 0)) && (fi == (-1))) then (.int .i64 (stI st b e fk se) : Value) else undef) from (by rw [cond_n hg0]))
          · intro g ws hws hl
            have ln46 : g 154 = .bool ((((((decide (cntSum p f k = e) && (decide (cntR (joinR p f k) = e) && !endsB (joinR p f k) e)) && ((gapR k 0) == b)) && (!(endsB f se))) && (!(endsB k se))) && (co == 0)) && (fi == (-1))) := linesOf_get 46 hl (by kernel_rfl)
            have ln48 : g 156 = (bif ((((((decide (cntSum p f k = e) && (decide (cntR (joinR p f k) = e) && !endsB (joinR p f k) e)) && ((gapR k 0) == b)) && (!(endsB f se))) && (!(endsB k se))) && (co == 0)) && (fi == (-1))) then (.int .i64 st : Value) else undef) := linesOf_get 48 hl (by kernel_rfl)
            have ln50 : g 158 = (bif ((((((decide (cntSum p f k = e) && (decide (cntR (joinR p f k) = e) && !endsB (joinR p f k) e)) && ((gapR k 0) == b)) && (!(endsB f se))) && (!(endsB k se))) && (co == 0)) && (fi == (-1))) then (.int .i64 (stI st b e fk se) : Value) else undef) := linesOf_get 50 hl (by kernel_rfl)
            rcases Bool.eq_false_or_eq_true (((((((decide (cntSum p f k = e) && (decide (cntR (joinR p f k) = e) && !endsB (joinR p f k) e)) && ((gapR k 0) == b)) && (!(endsB f se))) && (!(endsB k se))) && (co == 0)) && (fi == (-1)))) with hg0 | hg0
            · skip
              rw [hg0] at ln46
              rw [cond_y hg0] at ln48
              rw [cond_y hg0] at ln50
              simp only [fillAt, List.foldl_cons, List.foldl_nil, Act.put, List.setIfInBounds_toArray, List.set_cons_zero, List.set_cons_succ, ln46, ln48, ln50]
              refine Stays.plain (.bool (st == (stI st b e fk se))) (by rfl) ?_ (show (_ : Value) = (bif ((((((decide (cntSum p f k = e) && (decide (cntR (joinR p f k) = e) && !endsB (joinR p f k) e)) && ((gapR k 0) == b)) && (!(endsB f se))) && (!(endsB k se))) && (co == 0)) && (fi == (-1))) then (.bool (st == (stI st b e fk se)) : Value) else undef) from (by rw [cond_y hg0]))
              first | (go_simp; done) | (go_simp; rfl) | (go_simp; with_reducible rfl)
            · skip
              rw [hg0] at ln46
              simp only [fillAt, List.foldl_cons, List.foldl_nil, Act.put, List.setIfInBounds_toArray, List.set_cons_zero, List.set_cons_succ, ln46]
              refine Stays.off (by rfl) (show (undef : Value) = (bif ((((((decide (cntSum p f k = e) && (decide (cntR (joinR p f k) = e) && !endsB (joinR p f k) e)) && ((gapR k 0) == b)) && (!(endsB f se))) && (!(endsB k se))) && (co == 0)) && (fi == (-1))) then (.bool (st == (stI st b e fk se)) : Value) else undef) from (by rw [cond_n hg0]))
          · intro g ws hws hl
            have ln46 : g 154 = .bool ((((((decide (cntSum p f k = e) && (decide (cntR (joinR p f k) = e) && !endsB (joinR p f k) e)) && ((gapR k 0) == b)) && (!(endsB f se))) && (!(endsB k se))) && (co == 0)) && (fi == (-1))) := linesOf_get 46 hl (by kernel_rfl)
            have ln51 : g 159 = (bif ((((((decide (cntSum p f k = e) && (decide (cntR (joinR p f k) = e) && !endsB (joinR p f k) e)) && ((gapR k 0) == b)) && (!(endsB f se))) && (!(endsB k se))) && (co == 0)) && (fi == (-1))) then (.bool (st == (stI st b e fk se)) : Value) else undef) := linesOf_get 51 hl (by kernel_rfl)
            rcases Bool.eq_false_or_eq_true (((((((decide (cntSum p f k = e) && (decide (cntR (joinR p f k) = e) && !endsB (joinR p f k) e)) && ((gapR k 0) == b)) && (!(endsB f se))) && (!(endsB k se))) && (co == 0)) && (fi == (-1)))) with hp | hp
            · skip
              rw [hp] at ln46
              rw [cond_y hp] at ln51
              simp only [fillAt, List.foldl_cons, List.foldl_nil, Act.put, List.setIfInBounds_toArray, List.set_cons_zero, List.set_cons_succ, ln46, ln51]
              refine Stays.plain (.bool (((((((decide (cntSum p f k = e) && (decide (cntR (joinR p f k) = e) && !endsB (joinR p f k) e)) && ((gapR k 0) == b)) && (!(endsB f se))) && (!(endsB k se))) && (co == 0)) && (fi == (-1))) && (st == (stI st b e fk se)))) (by rfl) ?_ rfl
              first | (rw [hp]; go_simp; done) | (rw [hp]; go_simp; rfl) | (simp [hp, go_sem]; done) | (go_simp; simp [hp])
            · skip
              rw [hp] at ln46
              simp only [fillAt, List.foldl_cons, List.foldl_nil, Act.put, List.setIfInBounds_toArray, List.set_cons_zero, List.set_cons_succ, ln46, ln51]
              refine Stays.plain (.bool (((((((decide (cntSum p f k = e) && (decide (cntR (joinR p f k) = e) && !endsB (joinR p f k) e)) && ((gapR k 0) == b)) && (!(endsB f se))) && (!(endsB k se))) && (co == 0)) && (fi == (-1))) && (st == (stI st b e fk se)))) (by rfl) ?_ rfl
              first | (rw [hp]; go_simp; done) | (rw [hp]; go_simp; rfl) | (simp [hp, go_sem]; done) | (go_simp; simp [hp])
          · intro g ws hws hl
            have ln52 : g 160 = .bool (((((((decide (cntSum p f k = e) && (decide (cntR (joinR p f k) = e) && !endsB (joinR p f k) e)) && ((gapR k 0) == b)) && (!(endsB f se))) && (!(endsB k se))) && (co == 0)) && (fi == (-1))) && (st == (stI st b e fk se))) := linesOf_get 52 hl (by kernel_rfl)
            simp only [fillAt, List.foldl_cons, List.foldl_nil, Act.put, List.setIfInBounds_toArray, List.set_cons_zero, List.set_cons_succ, ln52]
            refine Stays.plain (.bool (((((((decide (cntSum p f k = e) && (decide (cntR (joinR p f k) = e) && !endsB (joinR p f k) e)) && ((gapR k 0) == b)) && (!(endsB f se))) && (!(endsB k se))) && (co == 0)) && (fi == (-1))) && (st == (stI st b e fk se)))) (by rfl) ?_ rfl
            first | (go_simp; done) | (go_simp; rfl) | (go_simp; with_reducible rfl)
        · intro g ws hws hl
          have ln0 : g 108 = .pointer (some ⟨w.heap.size, 5, none⟩) := (allLines_get 108 0 0 hl rfl)
          have ln1 : g 109 = .slice a.p p.length c2 := (allLines_get 109 1 0 hl rfl)
          have ln2 : g 110 = .pointer (some ⟨w.heap.size, 6, none⟩) := (allLines_get 110 2 0 hl rfl)
          have ln3 : g 111 = .slice a.f f.length c3 := (allLines_get 111 3 0 hl rfl)
          have ln4 : g 112 = .pointer (some ⟨w.heap.size, 7, none⟩) := (allLines_get 112 4 0 hl rfl)
          have ln5 : g 113 = .slice a.k k.length c4 := (allLines_get 113 5 0 hl rfl)
          have ln6 : g 114 = .pointer (some ⟨w.heap.size, 1, none⟩) := (allLines_get 114 6 0 hl rfl)
          have ln7 : g 115 = .pointer (some ⟨w.heap.size, 3, none⟩) := (allLines_get 115 7 0 hl rfl)
          have ln8 : g 116 = .int .i64 e := (allLines_get 116 8 0 hl rfl)
          have ln9 : g 117 = .bool (decide (cntSum p f k = e) && (decide (cntR (joinR p f k) = e) && !endsB (joinR p f k) e)) := (allLines_get 117 9 0 hl rfl)
          have ln10 : g 118 = .bool (decide (cntSum p f k = e) && (decide (cntR (joinR p f k) = e) && !endsB (joinR p f k) e)) := (allLines_get 118 10 0 hl rfl)
          have ln18 : g 126 = .bool ((decide (cntSum p f k = e) && (decide (cntR (joinR p f k) = e) && !endsB (joinR p f k) e)) && ((gapR k 0) == b)) := (allLines_get 126 18 0 hl rfl)
          have ln19 : g 127 = .bool ((decide (cntSum p f k = e) && (decide (cntR (joinR p f k) = e) && !endsB (joinR p f k) e)) && ((gapR k 0) == b)) := (allLines_get 127 19 0 hl rfl)
          have ln26 : g 134 = .bool (((decide (cntSum p f k = e) && (decide (cntR (joinR p f k) = e) && !endsB (joinR p f k) e)) && ((gapR k 0) == b)) && (!(endsB f se))) := (allLines_get 134 26 0 hl rfl)
          have ln27 : g 135 = .bool (((decide (cntSum p f k = e) && (decide (cntR (joinR p f k) = e) && !endsB (joinR p f k) e)) && ((gapR k 0) == b)) && (!(endsB f se))) := (allLines_get 135 27 0 hl rfl)
          have ln34 : g 142 = .bool ((((decide (cntSum p f k = e) && (decide (cntR (joinR p f k) = e) && !endsB (joinR p f k) e)) && ((gapR k 0) == b)) && (!(endsB f se))) && (!(endsB k se))) := (allLines_get 142 34 0 hl rfl)
          have ln35 : g 143 = .bool ((((decide (cntSum p f k = e) && (decide (cntR (joinR p f k) = e) && !endsB (joinR p f k) e)) && ((gapR k 0) == b)) && (!(endsB f se))) && (!(endsB k se))) := (allLines_get 143 35 0 hl rfl)
          have ln39 : g 147 = .bool (((((decide (cntSum p f k = e) && (decide (cntR (joinR p f k) = e) && !endsB (joinR p f k) e)) && ((gapR k 0) == b)) && (!(endsB f se))) && (!(endsB k se))) && (co == 0)) := (allLines_get 147 39 0 hl rfl)
          have ln40 : g 148 = .bool (((((decide (cntSum p f k = e) && (decide (cntR (joinR p f k) = e) && !endsB (joinR p f k) e)) && ((gapR k 0) == b)) && (!(endsB f se))) && (!(endsB k se))) && (co == 0)) := (allLines_get 148 40 0 hl rfl)
          have ln45 : g 153 = .bool ((((((decide (cntSum p f k = e) && (decide (cntR (joinR p f k) = e) && !endsB (joinR p f k) e)) && ((gapR k 0) == b)) && (!(endsB f se))) && (!(endsB k se))) && (co == 0)) && (fi == (-1))) := (allLines_get 153 45 0 hl rfl)
          have ln46 : g 154 = .bool ((((((decide (cntSum p f k = e) && (decide (cntR (joinR p f k) = e) && !endsB (joinR p f k) e)) && ((gapR k 0) == b)) && (!(endsB f se))) && (!(endsB k se))) && (co == 0)) && (fi == (-1))) := (allLines_get 154 46 0 hl rfl)
          have ln52 : g 160 = .bool (((((((decide (cntSum p f k = e) && (decide (cntR (joinR p f k) = e) && !endsB (joinR p f k) e)) && ((gapR k 0) == b)) && (!(endsB f se))) && (!(endsB k se))) && (co == 0)) && (fi == (-1))) && (st == (stI st b e fk se))) := (allLines_get 160 52 0 hl rfl)
          have ln53 : g 2 = .bool (((((((decide (cntSum p f k = e) && (decide (cntR (joinR p f k) = e) && !endsB (joinR p f k) e)) && ((gapR k 0) == b)) && (!(endsB f se))) && (!(endsB k se))) && (co == 0)) && (fi == (-1))) && (st == (stI st b e fk se))) := (allLines_get 2 53 0 hl rfl)
          clear hl
          simp only [fillAt, List.foldl_cons, List.foldl_nil, Act.put, List.setIfInBounds_toArray, List.set_cons_zero, List.set_cons_succ, ln0, ln1, ln2, ln3, ln4, ln5, ln6, ln7, ln8, ln9, ln10, ln18, ln19, ln26, ln27, ln34, ln35, ln39, ln40, ln45, ln46, ln52, ln53]
          have hxw : Ext w ws := xw4.drew.trans hws
          have hRv : Hid (R = (((((((decide (cntSum p f k = e) && (decide (cntR (joinR p f k) = e) && !endsB (joinR p f k) e)) && gapR k 0 == b) && !endsB f se) && !endsB k se) && co == 0) && fi == (-1)) && st == stI st b e fk se)) := hide (hR.out.symm.trans (sndI_tail _ hHd.out hrs.out _ (by rw [if_pos fk0.out])))
          go_wp2
          go_ret
          exact ⟨by (rw [hRv.out]) <;> rfl, hxw⟩
      · have fke : (fk == 0) = false := by simp [fk0]
        have fkn : (fk = 0) = False := by simp [fk0]
        go_wp2_with fail
        refine wp_region_linesA [Line.is (.pointer (some ⟨w.heap.size, 5, none⟩)), Line.is (.slice a.p p.length c2), Line.is (.pointer (some ⟨w.heap.size, 6, none⟩)), Line.is (.slice a.f f.length c3), Line.is (.pointer (some ⟨w.heap.size, 7, none⟩)), Line.is (.slice a.k k.length c4), Line.is (.pointer (some ⟨w.heap.size, 1, none⟩)), Line.is (.pointer (some ⟨w.heap.size, 3, none⟩)), Line.is (.int .i64 e), Line.is (.bool (decide (cntSum p f k = e) && (decide (cntR (joinR p f k) = e) && !endsB (joinR p f k) e))), Line.is (.bool (decide (cntSum p f k = e) && (decide (cntR (joinR p f k) = e) && !endsB (joinR p f k) e))), Line.is ((bif (decide (cntSum p f k = e) && (decide (cntR (joinR p f k) = e) && !endsB (joinR p f k) e)) then (.pointer (some ⟨w.heap.size, 7, none⟩) : Value) else undef)), Line.is ((bif (decide (cntSum p f k = e) && (decide (cntR (joinR p f k) = e) && !endsB (joinR p f k) e)) then (.slice a.k k.length c4 : Value) else undef)), Line.is ((bif (decide (cntSum p f k = e) && (decide (cntR (joinR p f k) = e) && !endsB (joinR p f k) e)) then (.int .i64 (gapR k 0) : Value) else undef)), Line.is ((bif (decide (cntSum p f k = e) && (decide (cntR (joinR p f k) = e) && !endsB (joinR p f k) e)) then (.pointer (some ⟨w.heap.size, 1, none⟩) : Value) else undef)), Line.is ((bif (decide (cntSum p f k = e) && (decide (cntR (joinR p f k) = e) && !endsB (joinR p f k) e)) then (.pointer (some ⟨w.heap.size, 2, none⟩) : Value) else undef)), Line.is ((bif (decide (cntSum p f k = e) && (decide (cntR (joinR p f k) = e) && !endsB (joinR p f k) e)) then (.int .i64 b : Value) else undef)), Line.is ((bif (decide (cntSum p f k = e) && (decide (cntR (joinR p f k) = e) && !endsB (joinR p f k) e)) then (.bool ((gapR k 0) == b) : Value) else undef)), Line.is (.bool ((decide (cntSum p f k = e) && (decide (cntR (joinR p f k) = e) && !endsB (joinR p f k) e)) && ((gapR k 0) == b))), Line.is (.bool ((decide (cntSum p f k = e) && (decide (cntR (joinR p f k) = e) && !endsB (joinR p f k) e)) && ((gapR k 0) == b))), Line.is ((bif ((decide (cntSum p f k = e) && (decide (cntR (joinR p f k) = e) && !endsB (joinR p f k) e)) && ((gapR k 0) == b)) then (.pointer (some ⟨w.heap.size, 6, none⟩) : Value) else undef)), Line.is ((bif ((decide (cntSum p f k = e) && (decide (cntR (joinR p f k) = e) && !endsB (joinR p f k) e)) && ((gapR k 0) == b)) then (.slice a.f f.length c3 : Value) else undef)), Line.is ((bif ((decide (cntSum p f k = e) && (decide (cntR (joinR p f k) = e) && !endsB (joinR p f k) e)) && ((gapR k 0) == b)) then (.pointer (some ⟨w.heap.size, 10, none⟩) : Value) else undef)), Line.is ((bif ((decide (cntSum p f k = e) && (decide (cntR (joinR p f k) = e) && !endsB (joinR p f k) e)) && ((gapR k 0) == b)) then (.int .i64 se : Value) else undef)), Line.is ((bif ((decide (cntSum p f k = e) && (decide (cntR (joinR p f k) = e) && !endsB (joinR p f k) e)) && ((gapR k 0) == b)) then (.bool (endsB f se) : Value) else undef)), Line.is ((bif ((decide (cntSum p f k = e) && (decide (cntR (joinR p f k) = e) && !endsB (joinR p f k) e)) && ((gapR k 0) == b)) then (.bool (!(endsB f se)) : Value) else undef)), Line.is (.bool (((decide (cntSum p f k = e) && (decide (cntR (joinR p f k) = e) && !endsB (joinR p f k) e)) && ((gapR k 0) == b)) && (!(endsB f se)))), Line.is (.bool (((decide (cntSum p f k = e) && (decide (cntR (joinR p f k) = e) && !endsB (joinR p f k) e)) && ((gapR k 0) == b)) && (!(endsB f se)))), Line.is ((bif (((decide (cntSum p f k = e) && (decide (cntR (joinR p f k) = e) && !endsB (joinR p f k) e)) && ((gapR k 0) == b)) && (!(endsB f se))) then (.pointer (some ⟨w.heap.size, 7, none⟩) : Value) else undef)), Line.is ((bif (((decide (cntSum p f k = e) && (decide (cntR (joinR p f k) = e) && !endsB (joinR p f k) e)) && ((gapR k 0) == b)) && (!(endsB f se))) then (.slice a.k k.length c4 : Value) else undef)), Line.is ((bif (((decide (cntSum p f k = e) && (decide (cntR (joinR p f k) = e) && !endsB (joinR p f k) e)) && ((gapR k 0) == b)) && (!(endsB f se))) then (.pointer (some ⟨w.heap.size, 10, none⟩) : Value) else undef)), Line.is ((bif (((decide (cntSum p f k = e) && (decide (cntR (joinR p f k) = e) && !endsB (joinR p f k) e)) && ((gapR k 0) == b)) && (!(endsB f se))) then (.int .i64 se : Value) else undef)), Line.is ((bif (((decide (cntSum p f k = e) && (decide (cntR (joinR p f k) = e) && !endsB (joinR p f k) e)) && ((gapR k 0) == b)) && (!(endsB f se))) then (.bool (endsB k se) : Value) else undef)), Line.is ((bif (((decide (cntSum p f k = e) && (decide (cntR (joinR p f k) = e) && !endsB (joinR p f k) e)) && ((gapR k 0) == b)) && (!(endsB f se))) then (.bool (!(endsB k se)) : Value) else undef)), Line.is (.bool ((((decide (cntSum p f k = e) && (decide (cntR (joinR p f k) = e) && !endsB (joinR p f k) e)) && ((gapR k 0) == b)) && (!(endsB f se))) && (!(endsB k se)))), Line.is (.bool ((((decide (cntSum p f k = e) && (decide (cntR (joinR p f k) = e) && !endsB (joinR p f k) e)) && ((gapR k 0) == b)) && (!(endsB f se))) && (!(endsB k se)))), Line.is ((bif ((((decide (cntSum p f k = e) && (decide (cntR (joinR p f k) = e) && !endsB (joinR p f k) e)) && ((gapR k 0) == b)) && (!(endsB f se))) && (!(endsB k se))) then (.pointer (some ⟨w.heap.size, 11, none⟩) : Value) else undef)), Line.is ((bif ((((decide (cntSum p f k = e) && (decide (cntR (joinR p f k) = e) && !endsB (joinR p f k) e)) && ((gapR k 0) == b)) && (!(endsB f se))) && (!(endsB k se))) then (.int .i64 co : Value) else undef)), Line.is ((bif ((((decide (cntSum p f k = e) && (decide (cntR (joinR p f k) = e) && !endsB (joinR p f k) e)) && ((gapR k 0) == b)) && (!(endsB f se))) && (!(endsB k se))) then (.bool (co == 0) : Value) else undef)), Line.is (.bool (((((decide (cntSum p f k = e) && (decide (cntR (joinR p f k) = e) && !endsB (joinR p f k) e)) && ((gapR k 0) == b)) && (!(endsB f se))) && (!(endsB k se))) && (co == 0))), Line.is (.bool (((((decide (cntSum p f k = e) && (decide (cntR (joinR p f k) = e) && !endsB (joinR p f k) e)) && ((gapR k 0) == b)) && (!(endsB f se))) && (!(endsB k se))) && (co == 0))), Line.is ((bif (((((decide (cntSum p f k = e) && (decide (cntR (joinR p f k) = e) && !endsB (joinR p f k) e)) && ((gapR k 0) == b)) && (!(endsB f se))) && (!(endsB k se))) && (co == 0)) then (.pointer (some ⟨w.heap.size, 8, none⟩) : Value) else undef)), Line.is ((bif (((((decide (cntSum p f k = e) && (decide (cntR (joinR p f k) = e) && !endsB (joinR p f k) e)) && ((gapR k 0) == b)) && (!(endsB f se))) && (!(endsB k se))) && (co == 0)) then (.int .i64 fi : Value) else undef)), Line.is ((bif (((((decide (cntSum p f k = e) && (decide (cntR (joinR p f k) = e) && !endsB (joinR p f k) e)) && ((gapR k 0) == b)) && (!(endsB f se))) && (!(endsB k se))) && (co == 0)) then (.int .i64 e : Value) else undef)), Line.is ((bif (((((decide (cntSum p f k = e) && (decide (cntR (joinR p f k) = e) && !endsB (joinR p f k) e)) && ((gapR k 0) == b)) && (!(endsB f se))) && (!(endsB k se))) && (co == 0)) then (.bool (fi == e) : Value) else undef)), Line.is (.bool ((((((decide (cntSum p f k = e) && (decide (cntR (joinR p f k) = e) && !endsB (joinR p f k) e)) && ((gapR k 0) == b)) && (!(endsB f se))) && (!(endsB k se))) && (co == 0)) && (fi == e))), Line.is (.bool ((((((decide (cntSum p f k = e) && (decide (cntR (joinR p f k) = e) && !endsB (joinR p f k) e)) && ((gapR k 0) == b)) && (!(endsB f se))) && (!(endsB k se))) && (co == 0)) && (fi == e))), Line.is ((bif ((((((decide (cntSum p f k = e) && (decide (cntR (joinR p f k) = e) && !endsB (joinR p f k) e)) && ((gapR k 0) == b)) && (!(endsB f se))) && (!(endsB k se))) && (co == 0)) && (fi == e)) then (.pointer (some ⟨w.heap.size, 0, none⟩) : Value) else undef)), Line.is ((bif ((((((decide (cntSum p f k = e) && (decide (cntR (joinR p f k) = e) && !endsB (joinR p f k) e)) && ((gapR k 0) == b)) && (!(endsB f se))) && (!(endsB k se))) && (co == 0)) && (fi == e)) then (.int .i64 st : Value) else undef)), Line.is ((bif ((((((decide (cntSum p f k = e) && (decide (cntR (joinR p f k) = e) && !endsB (joinR p f k) e)) && ((gapR k 0) == b)) && (!(endsB f se))) && (!(endsB k se))) && (co == 0)) && (fi == e)) then (.agg #[.int .i64 st, .int .i64 z, .int .i64 b, .int .i64 e, .slice a.r xs.length c1, .slice a.p p.length c2, .slice a.f f.length c3, .slice a.k k.length c4, .int .i64 fi, .int .i64 fk, .int .i64 se, .int .i64 co] : Value) else undef)), Line.is ((bif ((((((decide (cntSum p f k = e) && (decide (cntR (joinR p f k) = e) && !endsB (joinR p f k) e)) && ((gapR k 0) == b)) && (!(endsB f se))) && (!(endsB k se))) && (co == 0)) && (fi == e)) then (.int .i64 (stI st b e fk se) : Value) else undef)), Line.is ((bif ((((((decide (cntSum p f k = e) && (decide (cntR (joinR p f k) = e) && !endsB (joinR p f k) e)) && ((gapR k 0) == b)) && (!(endsB f se))) && (!(endsB k se))) && (co == 0)) && (fi == e)) then (.bool (st == (stI st b e fk se)) : Value) else undef)), Line.is (.bool (((((((decide (cntSum p f k = e) && (decide (cntR (joinR p f k) = e) && !endsB (joinR p f k) e)) && ((gapR k 0) == b)) && (!(endsB f se))) && (!(endsB k se))) && (co == 0)) && (fi == e)) && (st == (stI st b e fk se)))), Line.is (.bool (((((((decide (cntSum p f k = e) && (decide (cntR (joinR p f k) = e) && !endsB (joinR p f k) e)) && ((gapR k 0) == b)) && (!(endsB f se))) && (!(endsB k se))) && (co == 0)) && (fi == e)) && (st == (stI st b e fk se))))] [108, 109, 110, 111, 112, 113, 114, 115, 116, 117, 118, 119, 120, 121, 122, 123, 124, 125, 126, 127, 128, 129, 130, 131, 132, 133, 134, 135, 136, 137, 138, 139, 140, 141, 142, 143, 144, 145, 146, 147, 148, 149, 150, 151, 152, 153, 154, 155, 156, 157, 158, 159, 160, 2] ?_ ?_ (by kernel_rfl) (by kernel_rfl) (by kernel_rfl) (by kernel_rfl) (by kernel_rfl) ?_ ?_
        rotate_left
        · intro g
          simp only [fillAt, List.foldl_cons, List.foldl_nil, Act.put, List.setIfInBounds_toArray, List.set_cons_zero, List.set_cons_succ]
          exact rfl
        · refine Each.cons ?_ (Each.cons ?_ (Each.cons ?_ (Each.cons ?_ (Each.cons ?_ (Each.cons ?_ (Each.cons ?_ (Each.cons ?_ (Each.cons ?_ (Each.cons ?_ (Each.cons ?_ (Each.cons ?_ (Each.cons ?_ (Each.cons ?_ (Each.cons ?_ (Each.cons ?_ (Each.cons ?_ (Each.cons ?_ (Each.cons ?_ (Each.cons ?_ (Each.cons ?_ (Each.cons ?_ (Each.cons ?_ (Each.cons ?_ (Each.cons ?_ (Each.cons ?_ (Each.cons ?_ (Each.cons ?_ (Each.cons ?_ (Each.cons ?_ (Each.cons ?_ (Each.cons ?_ (Each.cons ?_ (Each.cons ?_ (Each.cons ?_ (Each.cons ?_ (Each.cons ?_ (Each.cons ?_ (Each.cons ?_ (Each.cons ?_ (Each.cons ?_ (Each.cons ?_ (Each.cons ?_ (Each.cons ?_ (Each.cons ?_ (Each.cons ?_ (Each.cons ?_ (Each.cons ?_ (Each.cons ?_ (Each.cons ?_ (Each.cons ?_ (Each.cons ?_ (Each.cons ?_ (Each.cons ?_ (Each.nil))))))))))))))))))))))))))))))))))))))))))))))))))))))
          · intro g ws hws hl
            simp only [fillAt, List.foldl_cons, List.foldl_nil, Act.put, List.setIfInBounds_toArray, List.set_cons_zero, List.set_cons_succ]
            refine Stays.plain (.pointer (some ⟨w.heap.size, 5, none⟩)) (by rfl) ?_ rfl
            first | (go_simp; done) | (go_simp; rfl) | (go_simp; with_reducible rfl)
          · intro g ws hws hl
            have ln0 : g 108 = .pointer (some ⟨w.heap.size, 5, none⟩) := linesOf_get 0 hl (by kernel_rfl)
            simp only [fillAt, List.foldl_cons, List.foldl_nil, Act.put, List.setIfInBounds_toArray, List.set_cons_zero, List.set_cons_succ, ln0]
            obtain ⟨q0, p0⟩ := hws.row (k := w.heap.size) (by first | assumption | (simp; done) | (simp; omega) | omega)
            refine Stays.plain (.slice a.p p.length c2) (by rfl) ?_ rfl
            first | (go_simp; done) | (go_simp; rfl) | (go_simp; with_reducible rfl)
          · intro g ws hws hl
            simp only [fillAt, List.foldl_cons, List.foldl_nil, Act.put, List.setIfInBounds_toArray, List.set_cons_zero, List.set_cons_succ]
            refine Stays.plain (.pointer (some ⟨w.heap.size, 6, none⟩)) (by rfl) ?_ rfl
            first | (go_simp; done) | (go_simp; rfl) | (go_simp; with_reducible rfl)
          · intro g ws hws hl
            have ln2 : g 110 = .pointer (some ⟨w.heap.size, 6, none⟩) := linesOf_get 2 hl (by kernel_rfl)
            simp only [fillAt, List.foldl_cons, List.foldl_nil, Act.put, List.setIfInBounds_toArray, List.set_cons_zero, List.set_cons_succ, ln2]
            obtain ⟨q0, p0⟩ := hws.row (k := w.heap.size) (by first | assumption | (simp; done) | (simp; omega) | omega)
            refine Stays.plain (.slice a.f f.length c3) (by rfl) ?_ rfl
            first | (go_simp; done) | (go_simp; rfl) | (go_simp; with_reducible rfl)
          · intro g ws hws hl
            simp only [fillAt, List.foldl_cons, List.foldl_nil, Act.put, List.setIfInBounds_toArray, List.set_cons_zero, List.set_cons_succ]
            refine Stays.plain (.pointer (some ⟨w.heap.size, 7, none⟩)) (by rfl) ?_ rfl
            first | (go_simp; done) | (go_simp; rfl) | (go_simp; with_reducible rfl)
          · intro g ws hws hl
            have ln4 : g 112 = .pointer (some ⟨w.heap.size, 7, none⟩) := linesOf_get 4 hl (by kernel_rfl)
            simp only [fillAt, List.foldl_cons, List.foldl_nil, Act.put, List.setIfInBounds_toArray, List.set_cons_zero, List.set_cons_succ, ln4]
            obtain ⟨q0, p0⟩ := hws.row (k := w.heap.size) (by first | assumption | (simp; done) | (simp; omega) | omega)
            refine Stays.plain (.slice a.k k.length c4) (by rfl) ?_ rfl
            first | (go_simp; done) | (go_simp; rfl) | (go_simp; with_reducible rfl)
          · intro g ws hws hl
            simp only [fillAt, List.foldl_cons, List.foldl_nil, Act.put, List.setIfInBounds_toArray, List.set_cons_zero, List.set_cons_succ]
            refine Stays.plain (.pointer (some ⟨w.heap.size, 1, none⟩)) (by rfl) ?_ rfl
            first | (go_simp; done) | (go_simp; rfl) | (go_simp; with_reducible rfl)
          · intro g ws hws hl
            have ln6 : g 114 = .pointer (some ⟨w.heap.size, 1, none⟩) := linesOf_get 6 hl (by kernel_rfl)
            simp only [fillAt, List.foldl_cons, List.foldl_nil, Act.put, List.setIfInBounds_toArray, List.set_cons_zero, List.set_cons_succ, ln6]
            refine Stays.plain (.pointer (some ⟨w.heap.size, 3, none⟩)) (by rfl) ?_ rfl
            first | (go_simp; done) | (go_simp; rfl) | (go_simp; with_reducible rfl)
          · intro g ws hws hl
            have ln7 : g 115 = .pointer (some ⟨w.heap.size, 3, none⟩) := linesOf_get 7 hl (by kernel_rfl)
            simp only [fillAt, List.foldl_cons, List.foldl_nil, Act.put, List.setIfInBounds_toArray, List.set_cons_zero, List.set_cons_succ, ln7]
            obtain ⟨q0, p0⟩ := hws.row (k := w.heap.size) (by first | assumption | (simp; done) | (simp; omega) | omega)
            refine Stays.plain (.int .i64 e) (by rfl) ?_ rfl
            first | (go_simp; done) | (go_simp; rfl) | (go_simp; with_reducible rfl)
          · intro g ws hws hl
            have ln1 : g 109 = .slice a.p p.length c2 := linesOf_get 1 hl (by kernel_rfl)
            have ln3 : g 111 = .slice a.f f.length c3 := linesOf_get 3 hl (by kernel_rfl)
            have ln5 : g 113 = .slice a.k k.length c4 := linesOf_get 5 hl (by kernel_rfl)
            have ln8 : g 116 = .int .i64 e := linesOf_get 8 hl (by kernel_rfl)
            simp only [fillAt, List.foldl_cons, List.foldl_nil, Act.put, List.setIfInBounds_toArray, List.set_cons_zero, List.set_cons_succ, ln1, ln3, ln5, ln8]
            refine Stays.call 76 ?_ (by rfl) ?_ ?_
            rotate_left
            · go_simp
              try with_reducible rfl
            · refine (areWhole_impl e a.p a.f a.k c2 c3 c4 p f k ws (hx'.out.p.ext (xw4.drew.trans hws)) (hx'.out.f.ext (xw4.drew.trans hws)) (hx'.out.k.ext (xw4.drew.trans hws)) hsum).mono ?_
              rintro e w' ⟨rfl, h2⟩
              exact ⟨_, rfl, h2, rfl⟩
          · intro g ws hws hl
            have ln9 : g 117 = .bool (decide (cntSum p f k = e) && (decide (cntR (joinR p f k) = e) && !endsB (joinR p f k) e)) := linesOf_get 9 hl (by kernel_rfl)
            simp only [fillAt, List.foldl_cons, List.foldl_nil, Act.put, List.setIfInBounds_toArray, List.set_cons_zero, List.set_cons_succ, ln9]
            refine Stays.plain (.bool (decide (cntSum p f k = e) && (decide (cntR (joinR p f k) = e) && !endsB (joinR p f k) e))) (by rfl) ?_ rfl
            first | (go_simp; done) | (go_simp; rfl) | (go_simp; with_reducible rfl)
          · intro g ws hws hl
            have ln10 : g 118 = .bool (decide (cntSum p f k = e) && (decide (cntR (joinR p f k) = e) && !endsB (joinR p f k) e)) := linesOf_get 10 hl (by kernel_rfl)
            rcases Bool.eq_false_or_eq_true ((decide (cntSum p f k = e) && (decide (cntR (joinR p f k) = e) && !endsB (joinR p f k) e))) with hg0 | hg0
            · skip
              rw [hg0] at ln10
              simp only [fillAt, List.foldl_cons, List.foldl_nil, Act.put, List.setIfInBounds_toArray, List.set_cons_zero, List.set_cons_succ, ln10]
              refine Stays.plain (.pointer (some ⟨w.heap.size, 7, none⟩)) (by rfl) ?_ (show (_ : Value) = (bif (decide (cntSum p f k = e) && (decide (cntR (joinR p f k) = e) && !endsB (joinR p f k) e)) then (.pointer (some ⟨w.heap.size, 7, none⟩) : Value) else undef) from (by rw [cond_y hg0]))
              first | (go_simp; done) | (go_simp; rfl) | (go_simp; with_reducible rfl)
            · skip
              rw [hg0] at ln10
              simp only [fillAt, List.foldl_cons, List.foldl_nil, Act.put, List.setIfInBounds_toArray, List.set_cons_zero, List.set_cons_succ, ln10]
              refine Stays.off (by rfl) (show (undef : Value) = (bif (decide (cntSum p f k = e) && (decide (cntR (joinR p f k) = e) && !endsB (joinR p f k) e)) then (.pointer (some ⟨w.heap.size, 7, none⟩) : Value) else undef) from (by rw [cond_n hg0]))
          · intro g ws hws hl
            have ln10 : g 118 = .bool (decide (cntSum p f k = e) && (decide (cntR (joinR p f k) = e) && !endsB (joinR p f k) e)) := linesOf_get 10 hl (by kernel_rfl)
            have ln11 : g 119 = (bif (decide (cntSum p f k = e) && (decide (cntR (joinR p f k) = e) && !endsB (joinR p f k) e)) then (.pointer (some ⟨w.heap.size, 7, none⟩) : Value) else undef) := linesOf_get 11 hl (by kernel_rfl)
            rcases Bool.eq_false_or_eq_true ((decide (cntSum p f k = e) && (decide (cntR (joinR p f k) = e) && !endsB (joinR p f k) e))) with hg0 | hg0
            · skip
              rw [hg0] at ln10
              rw [cond_y hg0] at ln11
              simp only [fillAt, List.foldl_cons, List.foldl_nil, Act.put, List.setIfInBounds_toArray, List.set_cons_zero, List.set_cons_succ, ln10, ln11]
              obtain ⟨q0, p0⟩ := hws.row (k := w.heap.size) (by first | assumption | (simp; done) | (simp; omega) | omega)
              refine Stays.plain (.slice a.k k.length c4) (by rfl) ?_ (show (_ : Value) = (bif (decide (cntSum p f k = e) && (decide (cntR (joinR p f k) = e) && !endsB (joinR p f k) e)) then (.slice a.k k.length c4 : Value) else undef) from (by rw [cond_y hg0]))
              first | (go_simp; done) | (go_simp; rfl) | (go_simp; with_reducible rfl)
            · skip
              rw [hg0] at ln10
              simp only [fillAt, List.foldl_cons, List.foldl_nil, Act.put, List.setIfInBounds_toArray, List.set_cons_zero, List.set_cons_succ, ln10]
              refine Stays.off (by rfl) (show (undef : Value) = (bif (decide (cntSum p f k = e) && (decide (cntR (joinR p f k) = e) && !endsB (joinR p f k) e)) then (.slice a.k k.length c4 : Value) else undef) from (by rw [cond_n hg0]))
          · intro g ws hws hl
            have ln10 : g 118 = .bool (decide (cntSum p f k = e) && (decide (cntR (joinR p f k) = e) && !endsB (joinR p f k) e)) := linesOf_get 10 hl (by kernel_rfl)
            have ln12 : g 120 = (bif (decide (cntSum p f k = e) && (decide (cntR (joinR p f k) = e) && !endsB (joinR p f k) e)) then (.slice a.k k.length c4 : Value) else undef) := linesOf_get 12 hl (by kernel_rfl)
            rcases Bool.eq_false_or_eq_true ((decide (cntSum p f k = e) && (decide (cntR (joinR p f k) = e) && !endsB (joinR p f k) e))) with hg0 | hg0
            · skip
              rw [hg0] at ln10
              rw [cond_y hg0] at ln12
              simp only [fillAt, List.foldl_cons, List.foldl_nil, Act.put, List.setIfInBounds_toArray, List.set_cons_zero, List.set_cons_succ, ln10, ln12]
              refine Stays.call 77 ?_ (by rfl) ?_ ?_
              rotate_left
              · go_simp
                try with_reducible rfl
              · refine (FirstGap_impl 0 a.k _ c4 k ws (hx'.out.k.ext (xw4.drew.trans hws)) rfl (by omega)).mono ?_
                rintro e w' ⟨rfl, h2⟩
                exact ⟨_, rfl, h2, (show (_ : Value) = (bif (decide (cntSum p f k = e) && (decide (cntR (joinR p f k) = e) && !endsB (joinR p f k) e)) then (.int .i64 (gapR k 0) : Value) else undef) from (by rw [cond_y hg0]))⟩
            · skip
              rw [hg0] at ln10
              simp only [fillAt, List.foldl_cons, List.foldl_nil, Act.put, List.setIfInBounds_toArray, List.set_cons_zero, List.set_cons_succ, ln10]
              refine Stays.off (by rfl) (show (undef : Value) = (bif (decide (cntSum p f k = e) && (decide (cntR (joinR p f k) = e) && !endsB (joinR p f k) e)) then (.int .i64 (gapR k 0) : Value) else undef) from (by rw [cond_n hg0]))
          · intro g ws hws hl
            have ln10 : g 118 = .bool (decide (cntSum p f k = e) && (decide (cntR (joinR p f k) = e) && !endsB (joinR p f k) e)) := linesOf_get 10 hl (by kernel_rfl)
            rcases Bool.eq_false_or_eq_true ((decide (cntSum p f k = e) && (decide (cntR (joinR p f k) = e) && !endsB (joinR p f k) e))) with hg0 | hg0
            · skip
              rw [hg0] at ln10
              simp only [fillAt, List.foldl_cons, List.foldl_nil, Act.put, List.setIfInBounds_toArray, List.set_cons_zero, List.set_cons_succ, ln10]
              refine Stays.plain (.pointer (some ⟨w.heap.size, 1, none⟩)) (by rfl) ?_ (show (_ : Value) = (bif (decide (cntSum p f k = e) && (decide (cntR (joinR p f k) = e) && !endsB (joinR p f k) e)) then (.pointer (some ⟨w.heap.size, 1, none⟩) : Value) else undef) from (by rw [cond_y hg0]))
              first | (go_simp; done) | (go_simp; rfl) | (go_simp; with_reducible rfl)
            · skip
              rw [hg0] at ln10
              simp only [fillAt, List.foldl_cons, List.foldl_nil, Act.put, List.setIfInBounds_toArray, List.set_cons_zero, List.set_cons_succ, ln10]
              refine Stays.off (by rfl) (show (undef : Value) = (bif (decide (cntSum p f k = e) && (decide (cntR (joinR p f k) = e) && !endsB (joinR p f k) e)) then (.pointer (some ⟨w.heap.size, 1, none⟩) : Value) else undef) from (by rw [cond_n hg0]))
          · intro g ws hws hl
            have ln10 : g 118 = .bool (decide (cntSum p f k = e) && (decide (cntR (joinR p f k) = e) && !endsB (joinR p f k) e)) := linesOf_get 10 hl (by kernel_rfl)
            have ln14 : g 122 = (bif (decide (cntSum p f k = e) && (decide (cntR (joinR p f k) = e) && !endsB (joinR p f k) e)) then (.pointer (some ⟨w.heap.size, 1, none⟩) : Value) else undef) := linesOf_get 14 hl (by kernel_rfl)
            rcases Bool.eq_false_or_eq_true ((decide (cntSum p f k = e) && (decide (cntR (joinR p f k) = e) && !endsB (joinR p f k) e))) with hg0 | hg0
            · skip
              rw [hg0] at ln10
              rw [cond_y hg0] at ln14
              simp only [fillAt, List.foldl_cons, List.foldl_nil, Act.put, List.setIfInBounds_toArray, List.set_cons_zero, List.set_cons_succ, ln10, ln14]
              refine Stays.plain (.pointer (some ⟨w.heap.size, 2, none⟩)) (by rfl) ?_ (show (_ : Value) = (bif (decide (cntSum p f k = e) && (decide (cntR (joinR p f k) = e) && !endsB (joinR p f k) e)) then (.pointer (some ⟨w.heap.size, 2, none⟩) : Value) else undef) from (by rw [cond_y hg0]))
              first | (go_simp; done) | (go_simp; rfl) | (go_simp; with_reducible rfl)
            · skip
              rw [hg0] at ln10
              simp only [fillAt, List.foldl_cons, List.foldl_nil, Act.put, List.setIfInBounds_toArray, List.set_cons_zero, List.set_cons_succ, ln10]
              refine Stays.off (by rfl) (show (undef : Value) = (bif (decide (cntSum p f k = e) && (decide (cntR (joinR p f k) = e) && !endsB (joinR p f k) e)) then (.pointer (some ⟨w.heap.size, 2, none⟩) : Value) else undef) from (by rw [cond_n hg0]))
          · intro g ws hws hl
            have ln10 : g 118 = .bool (decide (cntSum p f k = e) && (decide (cntR (joinR p f k) = e) && !endsB (joinR p f k) e)) := linesOf_get 10 hl (by kernel_rfl)
            have ln15 : g 123 = (bif (decide (cntSum p f k = e) && (decide (cntR (joinR p f k) = e) && !endsB (joinR p f k) e)) then (.pointer (some ⟨w.heap.size, 2, none⟩) : Value) else undef) := linesOf_get 15 hl (by kernel_rfl)
            rcases Bool.eq_false_or_eq_true ((decide (cntSum p f k = e) && (decide (cntR (joinR p f k) = e) && !endsB (joinR p f k) e))) with hg0 | hg0
            · skip
              rw [hg0] at ln10
              rw [cond_y hg0] at ln15
              simp only [fillAt, List.foldl_cons, List.foldl_nil, Act.put, List.setIfInBounds_toArray, List.set_cons_zero, List.set_cons_succ, ln10, ln15]
              obtain ⟨q0, p0⟩ := hws.row (k := w.heap.size) (by first | assumption | (simp; done) | (simp; omega) | omega)
              refine Stays.plain (.int .i64 b) (by rfl) ?_ (show (_ : Value) = (bif (decide (cntSum p f k = e) && (decide (cntR (joinR p f k) = e) && !endsB (joinR p f k) e)) then (.int .i64 b : Value) else undef) from (by rw [cond_y hg0]))
              first | (go_simp; done) | (go_simp; rfl) | (go_simp; with_reducible rfl)
            · skip
              rw [hg0] at ln10
              simp only [fillAt, List.foldl_cons, List.foldl_nil, Act.put, List.setIfInBounds_toArray, List.set_cons_zero, List.set_cons_succ, ln10]
              refine Stays.off (by rfl) (show (undef : Value) = (bif (decide (cntSum p f k = e) && (decide (cntR (joinR p f k) = e) && !endsB (joinR p f k) e)) then (.int .i64 b : Value) else undef) from (by rw [cond_n hg0]))
          · intro g ws hws hl
            have ln10 : g 118 = .bool (decide (cntSum p f k = e) && (decide (cntR (joinR p f k) = e) && !endsB (joinR p f k) e)) := linesOf_get 10 hl (by kernel_rfl)
            have ln13 : g 121 = (bif (decide (cntSum p f k = e) && (decide (cntR (joinR p f k) = e) && !endsB (joinR p f k) e)) then (.int .i64 (gapR k 0) : Value) else undef) := linesOf_get 13 hl (by kernel_rfl)
            have ln16 : g 124 = (bif (decide (cntSum p f k = e) && (decide (cntR (joinR p f k) = e) && !endsB (joinR p f k) e)) then (.int .i64 b : Value) else undef) := linesOf_get 16 hl (by kernel_rfl)
            rcases Bool.eq_false_or_eq_true ((decide (cntSum p f k = e) && (decide (cntR (joinR p f k) = e) && !endsB (joinR p f k) e))) with hg0 | hg0
            · skip
              rw [hg0] at ln10
              rw [cond_y hg0] at ln13
              rw [cond_y hg0] at ln16
              simp only [fillAt, List.foldl_cons, List.foldl_nil, Act.put, List.setIfInBounds_toArray, List.set_cons_zero, List.set_cons_succ, ln10, ln13, ln16]
              refine Stays.plain (.bool ((gapR k 0) == b)) (by rfl) ?_ (show (_ : Value) = (bif (decide (cntSum p f k = e) && (decide (cntR (joinR p f k) = e) && !endsB (joinR p f k) e)) then (.bool ((gapR k 0) == b) : Value) else undef) from (by rw [cond_y hg0]))
              first | (go_simp; done) | (go_simp; rfl) | (go_simp; with_reducible rfl)
            · skip
              rw [hg0] at ln10
              simp only [fillAt, List.foldl_cons, List.foldl_nil, Act.put, List.setIfInBounds_toArray, List.set_cons_zero, List.set_cons_succ, ln10]
              refine Stays.off (by rfl) (show (undef : Value) = (bif (decide (cntSum p f k = e) && (decide (cntR (joinR p f k) = e) && !endsB (joinR p f k) e)) then (.bool ((gapR k 0) == b) : Value) else undef) from (by rw [cond_n hg0]))
          · intro g ws hws hl
            have ln10 : g 118 = .bool (decide (cntSum p f k = e) && (decide (cntR (joinR p f k) = e) && !endsB (joinR p f k) e)) := linesOf_get 10 hl (by kernel_rfl)
            have ln17 : g 125 = (bif (decide (cntSum p f k = e) && (decide (cntR (joinR p f k) = e) && !endsB (joinR p f k) e)) then (.bool ((gapR k 0) == b) : Value) else undef) := linesOf_get 17 hl (by kernel_rfl)
            rcases Bool.eq_false_or_eq_true ((decide (cntSum p f k = e) && (decide (cntR (joinR p f k) = e) && !endsB (joinR p f k) e))) with hp | hp
            · skip
              rw [hp] at ln10
              rw [cond_y hp] at ln17
              simp only [fillAt, List.foldl_cons, List.foldl_nil, Act.put, List.setIfInBounds_toArray, List.set_cons_zero, List.set_cons_succ, ln10, ln17]
              refine Stays.plain (.bool ((decide (cntSum p f k = e) && (decide (cntR (joinR p f k) = e) && !endsB (joinR p f k) e)) && ((gapR k 0) == b))) (by rfl) ?_ rfl
              first | (rw [hp]; go_simp; done) | (rw [hp]; go_simp; rfl) | (simp [hp, go_sem]; done) | (go_simp; simp [hp])
            · skip
              rw [hp] at ln10
              simp only [fillAt, List.foldl_cons, List.foldl_nil, Act.put, List.setIfInBounds_toArray, List.set_cons_zero, List.set_cons_succ, ln10, ln17]
              refine Stays.plain (.bool ((decide (cntSum p f k = e) && (decide (cntR (joinR p f k) = e) && !endsB (joinR p f k) e)) && ((gapR k 0) == b))) (by rfl) ?_ rfl
              first | (rw [hp]; go_simp; done) | (rw [hp]; go_simp; rfl) | (simp [hp, go_sem]; done) | (go_simp; simp [hp])
          · intro g ws hws hl
            have ln18 : g 126 = .bool ((decide (cntSum p f k = e) && (decide (cntR (joinR p f k) = e) && !endsB (joinR p f k) e)) && ((gapR k 0) == b)) := linesOf_get 18 hl (by kernel_rfl)
            simp only [fillAt, List.foldl_cons, List.foldl_nil, Act.put, List.setIfInBounds_toArray, List.set_cons_zero, List.set_cons_succ, ln18]
            refine Stays.plain (.bool ((decide (cntSum p f k = e) && (decide (cntR (joinR p f k) = e) && !endsB (joinR p f k) e)) && ((gapR k 0) == b))) (by rfl) ?_ rfl
            first | (go_simp; done) | (go_simp; rfl) | (go_simp; with_reducible rfl)
          · intro g ws hws hl
            have ln19 : g 127 = .bool ((decide (cntSum p f k = e) && (decide (cntR (joinR p f k) = e) && !endsB (joinR p f k) e)) && ((gapR k 0) == b)) := linesOf_get 19 hl (by kernel_rfl)
            rcases Bool.eq_false_or_eq_true (((decide (cntSum p f k = e) && (decide (cntR (joinR p f k) = e) && !endsB (joinR p f k) e)) && ((gapR k 0) == b))) with hg0 | hg0
            · skip
              rw [hg0] at ln19
              simp only [fillAt, List.foldl_cons, List.foldl_nil, Act.put, List.setIfInBounds_toArray, List.set_cons_zero, List.set_cons_succ, ln19]
              refine Stays.plain (.pointer (some ⟨w.heap.size, 6, none⟩)) (by rfl) ?_ (show (_ : Value) = (bif ((decide (cntSum p f k = e) && (decide (cntR (joinR p f k) = e) && !endsB (joinR p f k) e)) && ((gapR k 0) == b)) then (.pointer (some ⟨w.heap.size, 6, none⟩) : Value) else undef) from (by rw [cond_y hg0]))
              first | (go_simp; done) | (go_simp; rfl) | (go_simp; with_reducible rfl)
            · skip
              rw [hg0] at ln19
              simp only [fillAt, List.foldl_cons, List.foldl_nil, Act.put, List.setIfInBounds_toArray, List.set_cons_zero, List.set_cons_succ, ln19]
              refine Stays.off (by rfl) (show (undef : Value) = (bif ((decide (cntSum p f k = e) && (decide (cntR (joinR p f k) = e) && !endsB (joinR p f k) e)) && ((gapR k 0) == b)) then (.pointer (some ⟨w.heap.size, 6, none⟩) : Value) else undef) from (by rw [cond_n hg0]))
          · intro g ws hws hl
            have ln19 : g 127 = .bool ((decide (cntSum p f k = e) && (decide (cntR (joinR p f k) = e) && !endsB (joinR p f k) e)) && ((gapR k 0) == b)) := linesOf_get 19 hl (by kernel_rfl)
            have ln20 : g 128 = (bif ((decide (cntSum p f k = e) && (decide (cntR (joinR p f k) = e) && !endsB (joinR p f k) e)) && ((gapR k 0) == b)) then (.pointer (some ⟨w.heap.size, 6, none⟩) : Value) else undef) := linesOf_get 20 hl (by kernel_rfl)
            rcases Bool.eq_false_or_eq_true (((decide (cntSum p f k = e) && (decide (cntR (joinR p f k) = e) && !endsB (joinR p f k) e)) && ((gapR k 0) == b))) with hg0 | hg0
            · skip
              rw [hg0] at ln19
              rw [cond_y hg0] at ln20
              simp only [fillAt, List.foldl_cons, List.foldl_nil, Act.put, List.setIfInBounds_toArray, List.set_cons_zero, List.set_cons_succ, ln19, ln20]
              obtain ⟨q0, p0⟩ := hws.row (k := w.heap.size) (by first | assumption | (simp; done) | (simp; omega) | omega)
              refine Stays.plain (.slice a.f f.length c3) (by rfl) ?_ (show (_ : Value) = (bif ((decide (cntSum p f k = e) && (decide (cntR (joinR p f k) = e) && !endsB (joinR p f k) e)) && ((gapR k 0) == b)) then (.slice a.f f.length c3 : Value) else undef) from (by rw [cond_y hg0]))
              first | (go_simp; done) | (go_simp; rfl) | (go_simp; with_reducible rfl)
            · skip
              rw [hg0] at ln19
              simp only [fillAt, List.foldl_cons, List.foldl_nil, Act.put, List.setIfInBounds_toArray, List.set_cons_zero, List.set_cons_succ, ln19]
              refine Stays.off (by rfl) (show (undef : Value) = (bif ((decide (cntSum p f k = e) && (decide (cntR (joinR p f k) = e) && !endsB (joinR p f k) e)) && ((gapR k 0) == b)) then (.slice a.f f.length c3 : Value) else undef) from (by rw [cond_n hg0]))
          · intro g ws hws hl
            have ln19 : g 127 = .bool ((decide (cntSum p f k = e) && (decide (cntR (joinR p f k) = e) && !endsB (joinR p f k) e)) && ((gapR k 0) == b)) := linesOf_get 19 hl (by kernel_rfl)
            rcases Bool.eq_false_or_eq_true (((decide (cntSum p f k = e) && (decide (cntR (joinR p f k) = e) && !endsB (joinR p f k) e)) && ((gapR k 0) == b))) with hg0 | hg0
            · skip
              rw [hg0] at ln19
              simp only [fillAt, List.foldl_cons, List.foldl_nil, Act.put, List.setIfInBounds_toArray, List.set_cons_zero, List.set_cons_succ, ln19]
              refine Stays.plain (.pointer (some ⟨w.heap.size, 10, none⟩)) (by rfl) ?_ (show (_ : Value) = (bif ((decide (cntSum p f k = e) && (decide (cntR (joinR p f k) = e) && !endsB (joinR p f k) e)) && ((gapR k 0) == b)) then (.pointer (some ⟨w.heap.size, 10, none⟩) : Value) else undef) from (by rw [cond_y hg0]))
              first | (go_simp; done) | (go_simp; rfl) | (go_simp; with_reducible rfl)
            · skip
              rw [hg0] at ln19
              simp only [fillAt, List.foldl_cons, List.foldl_nil, Act.put, List.setIfInBounds_toArray, List.set_cons_zero, List.set_cons_succ, ln19]
              refine Stays.off (by rfl) (show (undef : Value) = (bif ((decide (cntSum p f k = e) && (decide (cntR (joinR p f k) = e) && !endsB (joinR p f k) e)) && ((gapR k 0) == b)) then (.pointer (some ⟨w.heap.size, 10, none⟩) : Value) else undef) from (by rw [cond_n hg0]))
          · intro g ws hws hl
            have ln19 : g 127 = .bool ((decide (cntSum p f k = e) && (decide (cntR (joinR p f k) = e) && !endsB (joinR p f k) e)) && ((gapR k 0) == b)) := linesOf_get 19 hl (by kernel_rfl)
            have ln22 : g 130 = (bif ((decide (cntSum p f k = e) && (decide (cntR (joinR p f k) = e) && !endsB (joinR p f k) e)) && ((gapR k 0) == b)) then (.pointer (some ⟨w.heap.size, 10, none⟩) : Value) else undef) := linesOf_get 22 hl (by kernel_rfl)
            rcases Bool.eq_false_or_eq_true (((decide (cntSum p f k = e) && (decide (cntR (joinR p f k) = e) && !endsB (joinR p f k) e)) && ((gapR k 0) == b))) with hg0 | hg0
            · skip
              rw [hg0] at ln19
              rw [cond_y hg0] at ln22
              simp only [fillAt, List.foldl_cons, List.foldl_nil, Act.put, List.setIfInBounds_toArray, List.set_cons_zero, List.set_cons_succ, ln19, ln22]
              obtain ⟨q0, p0⟩ := hws.row (k := w.heap.size) (by first | assumption | (simp; done) | (simp; omega) | omega)
              refine Stays.plain (.int .i64 se) (by rfl) ?_ (show (_ : Value) = (bif ((decide (cntSum p f k = e) && (decide (cntR (joinR p f k) = e) && !endsB (joinR p f k) e)) && ((gapR k 0) == b)) then (.int .i64 se : Value) else undef) from (by rw [cond_y hg0]))
              first | (go_simp; done) | (go_simp; rfl) | (go_simp; with_reducible rfl)
            · skip
              rw [hg0] at ln19
              simp only [fillAt, List.foldl_cons, List.foldl_nil, Act.put, List.setIfInBounds_toArray, List.set_cons_zero, List.set_cons_succ, ln19]
              refine Stays.off (by rfl) (show (undef : Value) = (bif ((decide (cntSum p f k = e) && (decide (cntR (joinR p f k) = e) && !endsB (joinR p f k) e)) && ((gapR k 0) == b)) then (.int .i64 se : Value) else undef) from (by rw [cond_n hg0]))
          · intro g ws hws hl
            have ln19 : g 127 = .bool ((decide (cntSum p f k = e) && (decide (cntR (joinR p f k) = e) && !endsB (joinR p f k) e)) && ((gapR k 0) == b)) := linesOf_get 19 hl (by kernel_rfl)
            have ln21 : g 129 = (bif ((decide (cntSum p f k = e) && (decide (cntR (joinR p f k) = e) && !endsB (joinR p f k) e)) && ((gapR k 0) == b)) then (.slice a.f f.length c3 : Value) else undef) := linesOf_get 21 hl (by kernel_rfl)
            have ln23 : g 131 = (bif ((decide (cntSum p f k = e) && (decide (cntR (joinR p f k) = e) && !endsB (joinR p f k) e)) && ((gapR k 0) == b)) then (.int .i64 se : Value) else undef) := linesOf_get 23 hl (by kernel_rfl)
            rcases Bool.eq_false_or_eq_true (((decide (cntSum p f k = e) && (decide (cntR (joinR p f k) = e) && !endsB (joinR p f k) e)) && ((gapR k 0) == b))) with hg0 | hg0
            · skip
              rw [hg0] at ln19
              rw [cond_y hg0] at ln21
              rw [cond_y hg0] at ln23
              simp only [fillAt, List.foldl_cons, List.foldl_nil, Act.put, List.setIfInBounds_toArray, List.set_cons_zero, List.set_cons_succ, ln19, ln21, ln23]
              refine Stays.call 78 ?_ (by rfl) ?_ ?_
              rotate_left
              · go_simp
                try with_reducible rfl
              · refine (endsBehind_impl se a.f _ c3 f ws (hx'.out.f.ext (xw4.drew.trans hws)) rfl (by omega)).mono ?_
                rintro e w' ⟨rfl, h2⟩
                exact ⟨_, rfl, h2, (show (_ : Value) = (bif ((decide (cntSum p f k = e) && (decide (cntR (joinR p f k) = e) && !endsB (joinR p f k) e)) && ((gapR k 0) == b)) then (.bool (endsB f se) : Value) else undef) from (by rw [cond_y hg0]))⟩
            · skip
              rw [hg0] at ln19
              simp only [fillAt, List.foldl_cons, List.foldl_nil, Act.put, List.setIfInBounds_toArray, List.set_cons_zero, List.set_cons_succ, ln19]
              refine Stays.off (by rfl) (show (undef : Value) = (bif ((decide (cntSum p f k = e) && (decide (cntR (joinR p f k) = e) && !endsB (joinR p f k) e)) && ((gapR k 0) == b)) then (.bool (endsB f se) : Value) else undef) from (by rw [cond_n hg0]))
          · intro g ws hws hl
            have ln19 : g 127 = .bool ((decide (cntSum p f k = e) && (decide (cntR (joinR p f k) = e) && !endsB (joinR p f k) e)) && ((gapR k 0) == b)) := linesOf_get 19 hl (by kernel_rfl)
            have ln24 : g 132 = (bif ((decide (cntSum p f k = e) && (decide (cntR (joinR p f k) = e) && !endsB (joinR p f k) e)) && ((gapR k 0) == b)) then (.bool (endsB f se) : Value) else undef) := linesOf_get 24 hl (by kernel_rfl)
            rcases Bool.eq_false_or_eq_true (((decide (cntSum p f k = e) && (decide (cntR (joinR p f k) = e) && !endsB (joinR p f k) e)) && ((gapR k 0) == b))) with hg0 | hg0
            · skip
              rw [hg0] at ln19
              rw [cond_y hg0] at ln24
              simp only [fillAt, List.foldl_cons, List.foldl_nil, Act.put, List.setIfInBounds_toArray, List.set_cons_zero, List.set_cons_succ, ln19, ln24]
              refine Stays.plain (.bool (!(endsB f se))) (by rfl) ?_ (show (_ : Value) = (bif ((decide (cntSum p f k = e) && (decide (cntR (joinR p f k) = e) && !endsB (joinR p f k) e)) && ((gapR k 0) == b)) then (.bool (!(endsB f se)) : Value) else undef) from (by rw [cond_y hg0]))
              first | (go_simp; done) | (go_simp; rfl) | (go_simp; with_reducible rfl)
            · skip
              rw [hg0] at ln19
              simp only [fillAt, List.foldl_cons, List.foldl_nil, Act.put, List.setIfInBounds_toArray, List.set_cons_zero, List.set_cons_succ, ln19]
              refine Stays.off (by rfl) (show (undef : Value) = (bif ((decide (cntSum p f k = e) && (decide (cntR (joinR p f k) = e) && !endsB (joinR p f k) e)) && ((gapR k 0) == b)) then (.bool (!(endsB f se)) : Value) else undef) from (by rw [cond_n hg0]))
          · intro g ws hws hl
            have ln19 : g 127 = .bool ((decide (cntSum p f k = e) && (decide (cntR (joinR p f k) = e) && !endsB (joinR p f k) e)) && ((gapR k 0) == b)) := linesOf_get 19 hl (by kernel_rfl)
            have ln25 : g 133 = (bif ((decide (cntSum p f k = e) && (decide (cntR (joinR p f k) = e) && !endsB (joinR p f k) e)) && ((gapR k 0) == b)) then (.bool (!(endsB f se)) : Value) else undef) := linesOf_get 25 hl (by kernel_rfl)
            rcases Bool.eq_false_or_eq_true (((decide (cntSum p f k = e) && (decide (cntR (joinR p f k) = e) && !endsB (joinR p f k) e)) && ((gapR k 0) == b))) with hp | hp
            · skip
              rw [hp] at ln19
              rw [cond_y hp] at ln25
              simp only [fillAt, List.foldl_cons, List.foldl_nil, Act.put, List.setIfInBounds_toArray, List.set_cons_zero, List.set_cons_succ, ln19, ln25]
              refine Stays.plain (.bool (((decide (cntSum p f k = e) && (decide (cntR (joinR p f k) = e) && !endsB (joinR p f k) e)) && ((gapR k 0) == b)) && (!(endsB f se)))) (by rfl) ?_ rfl
              first | (rw [hp]; go_simp; done) | (rw [hp]; go_simp; rfl) | (simp [hp, go_sem]; done) | (go_simp; simp [hp])
            · skip
              rw [hp] at ln19
              simp only [fillAt, List.foldl_cons, List.foldl_nil, Act.put, List.setIfInBounds_toArray, List.set_cons_zero, List.set_cons_succ, ln19, ln25]
              refine Stays.plain (.bool (((decide (cntSum p f k = e) && (decide (cntR (joinR p f k) = e) && !endsB (joinR p f k) e)) && ((gapR k 0) == b)) && (!(endsB f se)))) (by rfl) ?_ rfl
              first | (rw [hp]; go_simp; done) | (rw [hp]; go_simp; rfl) | (simp [hp, go_sem]; done) | (go_simp; simp [hp])
          · intro g ws hws hl
            have ln26 : g 134 = .bool (((decide (cntSum p f k = e) && (decide (cntR (joinR p f k) = e) && !endsB (joinR p f k) e)) && ((gapR k 0) == b)) && (!(endsB f se))) := linesOf_get 26 hl (by kernel_rfl)
            simp only [fillAt, List.foldl_cons, List.foldl_nil, Act.put, List.setIfInBounds_toArray, List.set_cons_zero, List.set_cons_succ, ln26]
            refine Stays.plain (.bool (((decide (cntSum p f k = e) && (decide (cntR (joinR p f k) = e) && !endsB (joinR p f k) e)) && ((gapR k 0) == b)) && (!(endsB f se)))) (by rfl) ?_ rfl
            first | (go_simp; done) | (go_simp; rfl) | (go_simp; with_reducible rfl)
          · intro g ws hws hl
            have ln27 : g 135 = .bool (((decide (cntSum p f k = e) && (decide (cntR (joinR p f k) = e) && !endsB (joinR p f k) e)) && ((gapR k 0) == b)) && (!(endsB f se))) := linesOf_get 27 hl (by kernel_rfl)
            rcases Bool.eq_false_or_eq_true ((((decide (cntSum p f k = e) && (decide (cntR (joinR p f k) = e) && !endsB (joinR p f k) e)) && ((gapR k 0) == b)) && (!(endsB f se)))) with hg0 | hg0
            · skip
              rw [hg0] at ln27
              simp only [fillAt, List.foldl_cons, List.foldl_nil, Act.put, List.setIfInBounds_toArray, List.set_cons_zero, List.set_cons_succ, ln27]
              refine Stays.plain (.pointer (some ⟨w.heap.size, 7, none⟩)) (by rfl) ?_ (show (_ : Value) = (bif (((decide (cntSum p f k = e) && (decide (cntR (joinR p f k) = e) && !endsB (joinR p f k) e)) && ((gapR k 0) == b)) && (!(endsB f se))) then (.pointer (some ⟨w.heap.size, 7, none⟩) : Value) else undef) from (by rw [cond_y hg0]))
              first | (go_simp; done) | (go_simp; rfl) | (go_simp; with_reducible rfl)
            · skip
              rw [hg0] at ln27
              simp only [fillAt, List.foldl_cons, List.foldl_nil, Act.put, List.setIfInBounds_toArray, List.set_cons_zero, List.set_cons_succ, ln27]
              refine Stays.off (by rfl) (show (undef : Value) = (bif (((decide (cntSum p f k = e) && (decide (cntR (joinR p f k) = e) && !endsB (joinR p f k) e)) && ((gapR k 0) == b)) && (!(endsB f se))) then (.pointer (some ⟨w.heap.size, 7, none⟩) : Value) else undef) from (by rw [cond_n hg0]))
          · intro g ws hws hl
            have ln27 : g 135 = .bool (((decide (cntSum p f k = e) && (decide (cntR (joinR p f k) = e) && !endsB (joinR p f k) e)) && ((gapR k 0) == b)) && (!(endsB f se))) := linesOf_get 27 hl (by kernel_rfl)
            have ln28 : g 136 = (bif (((decide (cntSum p f k = e) && (decide (cntR (joinR p f k) = e) && !endsB (joinR p f k) e)) && ((gapR k 0) == b)) && (!(endsB f se))) then (.pointer (some ⟨w.heap.size, 7, none⟩) : Value) else undef) := linesOf_get 28 hl (by kernel_rfl)
            rcases Bool.eq_false_or_eq_true ((((decide (cntSum p f k = e) && (decide (cntR (joinR p f k) = e) && !endsB (joinR p f k) e)) && ((gapR k 0) == b)) && (!(endsB f se)))) with hg0 | hg0
            · skip
              rw [hg0] at ln27
              rw [cond_y hg0] at ln28
              simp only [fillAt, List.foldl_cons, List.foldl_nil, Act.put, List.setIfInBounds_toArray, List.set_cons_zero, List.set_cons_succ, ln27, ln28]
              obtain ⟨q0, p0⟩ := hws.row (k := w.heap.size) (by first | assumption | (simp; done) | (simp; omega) | omega)
              refine Stays.plain (.slice a.k k.length c4) (by rfl) ?_ (show (_ : Value) = (bif (((decide (cntSum p f k = e) && (decide (cntR (joinR p f k) = e) && !endsB (joinR p f k) e)) && ((gapR k 0) == b)) && (!(endsB f se))) then (.slice a.k k.length c4 : Value) else undef) from (by rw [cond_y hg0]))
              first | (go_simp; done) | (go_simp; rfl) | (go_simp; with_reducible rfl)
            · skip
              rw [hg0] at ln27
              simp only [fillAt, List.foldl_cons, List.foldl_nil, Act.put, List.setIfInBounds_toArray, List.set_cons_zero, List.set_cons_succ, ln27]
              refine Stays.off (by rfl) (show (undef : Value) = (bif (((decide (cntSum p f k = e) && (decide (cntR (joinR p f k) = e) && !endsB (joinR p f k) e)) && ((gapR k 0) == b)) && (!(endsB f se))) then (.slice a.k k.length c4 : Value) else undef) from (by rw [cond_n hg0]))
          · intro g ws hws hl
            have ln27 : g 135 = .bool (((decide (cntSum p f k = e) && (decide (cntR (joinR p f k) = e) && !endsB (joinR p f k) e)) && ((gapR k 0) == b)) && (!(endsB f se))) := linesOf_get 27 hl (by kernel_rfl)
            rcases Bool.eq_false_or_eq_true ((((decide (cntSum p f k = e) && (decide (cntR (joinR p f k) = e) && !endsB (joinR p f k) e)) && ((gapR k 0) == b)) && (!(endsB f se)))) with hg0 | hg0
            · skip
              rw [hg0] at ln27
              simp only [fillAt, List.foldl_cons, List.foldl_nil, Act.put, List.setIfInBounds_toArray, List.set_cons_zero, List.set_cons_succ, ln27]
              refine Stays.plain (.pointer (some ⟨w.heap.size, 10, none⟩)) (by rfl) ?_ (show (_ : Value) = (bif (((decide (cntSum p f k = e) && (decide (cntR (joinR p f k) = e) && !endsB (joinR p f k) e)) && ((gapR k 0) == b)) && (!(endsB f se))) then (.pointer (some ⟨w.heap.size, 10, none⟩) : Value) else undef) from (by rw [cond_y hg0]))
              first | (go_simp; done) | (go_simp; rfl) | (go_simp; with_reducible rfl)
            · skip
              rw [hg0] at ln27
              simp only [fillAt, List.foldl_cons, List.foldl_nil, Act.put, List.setIfInBounds_toArray, List.set_cons_zero, List.set_cons_succ, ln27]
              refine Stays.off (by rfl) (show (undef : Value) = (bif (((decide (cntSum p f k = e) && (decide (cntR (joinR p f k) = e) && !endsB (joinR p f k) e)) && ((gapR k 0) == b)) && (!(endsB f se))) then (.pointer (some ⟨w.heap.size, 10, none⟩) : Value) else undef) from (by rw [cond_n hg0]))
          · intro g ws hws hl
            have ln27 : g 135 = .bool (((decide (cntSum p f k = e) && (decide (cntR (joinR p f k) = e) && !endsB (joinR p f k) e)) && ((gapR k 0) == b)) && (!(endsB f se))) := linesOf_get 27 hl (by kernel_rfl)
            have ln30 : g 138 = (bif (((decide (cntSum p f k = e) && (decide (cntR (joinR p f k) = e) && !endsB (joinR p f k) e)) && ((gapR k 0) == b)) && (!(endsB f se))) then (.pointer (some ⟨w.heap.size, 10, none⟩) : Value) else undef) := linesOf_get 30 hl (by kernel_rfl)
            rcases Bool.eq_false_or_eq_true ((((decide (cntSum p f k = e) && (decide (cntR (joinR p f k) = e) && !endsB (joinR p f k) e)) && ((gapR k 0) == b)) && (!(endsB f se)))) with hg0 | hg0
            · skip
              rw [hg0] at ln27
              rw [cond_y hg0] at ln30
              simp only [fillAt, List.foldl_cons, List.foldl_nil, Act.put, List.setIfInBounds_toArray, List.set_cons_zero, List.set_cons_succ, ln27, ln30]
              obtain ⟨q0, p0⟩ := hws.row (k := w.heap.size) (by first | assumption | (simp; done) | (simp; omega) | omega)
              refine Stays.plain (.int .i64 se) (by rfl) ?_ (show (_ : Value) = (bif (((decide (cntSum p f k = e) && (decide (cntR (joinR p f k) = e) && !endsB (joinR p f k) e)) && ((gapR k 0) == b)) && (!(endsB f se))) then (.int .i64 se : Value) else undef) from (by rw [cond_y hg0]))
              first | (go_simp; done) | (go_simp; rfl) | (go_simp; with_reducible rfl)
            · skip
              rw [hg0] at ln27
              simp only [fillAt, List.foldl_cons, List.foldl_nil, Act.put, List.setIfInBounds_toArray, List.set_cons_zero, List.set_cons_succ, ln27]
              refine Stays.off (by rfl) (show (undef : Value) = (bif (((decide (cntSum p f k = e) && (decide (cntR (joinR p f k) = e) && !endsB (joinR p f k) e)) && ((gapR k 0) == b)) && (!(endsB f se))) then (.int .i64 se : Value) else undef) from (by rw [cond_n hg0]))
          · intro g ws hws hl
            have ln27 : g 135 = .bool (((decide (cntSum p f k = e) && (decide (cntR (joinR p f k) = e) && !endsB (joinR p f k) e)) && ((gapR k 0) == b)) && (!(endsB f se))) := linesOf_get 27 hl (by kernel_rfl)
            have ln29 : g 137 = (bif (((decide (cntSum p f k = e) && (decide (cntR (joinR p f k) = e) && !endsB (joinR p f k) e)) && ((gapR k 0) == b)) && (!(endsB f se))) then (.slice a.k k.length c4 : Value) else undef) := linesOf_get 29 hl (by kernel_rfl)
            have ln31 : g 139 = (bif (((decide (cntSum p f k = e) && (decide (cntR (joinR p f k) = e) && !endsB (joinR p f k) e)) && ((gapR k 0) == b)) && (!(endsB f se))) then (.int .i64 se : Value) else undef) := linesOf_get 31 hl (by kernel_rfl)
            rcases Bool.eq_false_or_eq_true ((((decide (cntSum p f k = e) && (decide (cntR (joinR p f k) = e) && !endsB (joinR p f k) e)) && ((gapR k 0) == b)) && (!(endsB f se)))) with hg0 | hg0
            · skip
              rw [hg0] at ln27
              rw [cond_y hg0] at ln29
              rw [cond_y hg0] at ln31
              simp only [fillAt, List.foldl_cons, List.foldl_nil, Act.put, List.setIfInBounds_toArray, List.set_cons_zero, List.set_cons_succ, ln27, ln29, ln31]
              refine Stays.call 78 ?_ (by rfl) ?_ ?_
              rotate_left
              · go_simp
                try with_reducible rfl
              · refine (endsBehind_impl se a.k _ c4 k ws (hx'.out.k.ext (xw4.drew.trans hws)) rfl (by omega)).mono ?_
                rintro e w' ⟨rfl, h2⟩
                exact ⟨_, rfl, h2, (show (_ : Value) = (bif (((decide (cntSum p f k = e) && (decide (cntR (joinR p f k) = e) && !endsB (joinR p f k) e)) && ((gapR k 0) == b)) && (!(endsB f se))) then (.bool (endsB k se) : Value) else undef) from (by rw [cond_y hg0]))⟩
            · skip
              rw [hg0] at ln27
              simp only [fillAt, List.foldl_cons, List.foldl_nil, Act.put, List.setIfInBounds_toArray, List.set_cons_zero, List.set_cons_succ, ln27]
              refine Stays.off (by rfl) (show (undef : Value) = (bif (((decide (cntSum p f k = e) && (decide (cntR (joinR p f k) = e) && !endsB (joinR p f k) e)) && ((gapR k 0) == b)) && (!(endsB f se))) then (.bool (endsB k se) : Value) else undef) from (by rw [cond_n hg0]))
          · intro g ws hws hl
            have ln27 : g 135 = .bool (((decide (cntSum p f k = e) && (decide (cntR (joinR p f k) = e) && !endsB (joinR p f k) e)) && ((gapR k 0) == b)) && (!(endsB f se))) := linesOf_get 27 hl (by kernel_rfl)
            have ln32 : g 140 = (bif (((decide (cntSum p f k = e) && (decide (cntR (joinR p f k) = e) && !endsB (joinR p f k) e)) && ((gapR k 0) == b)) && (!(endsB f se))) then (.bool (endsB k se) : Value) else undef) := linesOf_get 32 hl (by kernel_rfl)
            rcases Bool.eq_false_or_eq_true ((((decide (cntSum p f k = e) && (decide (cntR (joinR p f k) = e) && !endsB (joinR p f k) e)) && ((gapR k 0) == b)) && (!(endsB f se)))) with hg0 | hg0
            · skip
              rw [hg0] at ln27
              rw [cond_y hg0] at ln32
              simp only [fillAt, List.foldl_cons, List.foldl_nil, Act.put, List.setIfInBounds_toArray, List.set_cons_zero, List.set_cons_succ, ln27, ln32]
              refine Stays.plain (.bool (!(endsB k se))) (by rfl) ?_ (show (_ : Value) = (bif (((decide (cntSum p f k = e) && (decide (cntR (joinR p f k) = e) && !endsB (joinR p f k) e)) && ((gapR k 0) == b)) && (!(endsB f se))) then (.bool (!(endsB k se)) : Value) else undef) from (by rw [cond_y hg0]))
              first | (go_simp; done) | (go_simp; rfl) | (go_simp; with_reducible rfl)
            · skip
              rw [hg0] at ln27
              simp only [fillAt, List.foldl_cons, List.foldl_nil, Act.put, List.setIfInBounds_toArray, List.set_cons_zero, List.set_cons_succ, ln27]
              refine Stays.off (by rfl) (show (undef : Value) = (bif (((decide (cntSum p f k = e) && (decide (cntR (joinR p f k) = e) && !endsB (joinR p f k) e)) && ((gapR k 0) == b)) && (!(endsB f se))) then (.bool (!(endsB k se)) : Value) else undef) from (by rw [cond_n hg0]))
          · intro g ws hws hl
            have ln27 : g 135 = .bool (((decide (cntSum p f k = e) && (decide (cntR (joinR p f k) = e) && !endsB (joinR p f k) e)) && ((gapR k 0) == b)) && (!(endsB f se))) := linesOf_get 27 hl (by kernel_rfl)
            have ln33 : g 141 = (bif (((decide (cntSum p f k = e) && (decide (cntR (joinR p f k) = e) && !endsB (joinR p f k) e)) && ((gapR k 0) == b)) && (!(endsB f se))) then (.bool (!(endsB k se)) : Value) else undef) := linesOf_get 33 hl (by kernel_rfl)
            rcases Bool.eq_false_or_eq_true ((((decide (cntSum p f k = e) && (decide (cntR (joinR p f k) = e) && !endsB (joinR p f k) e)) && ((gapR k 0) == b)) && (!(endsB f se)))) with hp | hp
            · skip
              rw [hp] at ln27
              rw [cond_y hp] at ln33
              simp only [fillAt, List.foldl_cons, List.foldl_nil, Act.put, List.setIfInBounds_toArray, List.set_cons_zero, List.set_cons_succ, ln27, ln33]
              refine Stays.plain (.bool ((((decide (cntSum p f k = e) && (decide (cntR (joinR p f k) = e) && !endsB (joinR p f k) e)) && ((gapR k 0) == b)) && (!(endsB f se))) && (!(endsB k se)))) (by rfl) ?_ rfl
              first | (rw [hp]; go_simp; done) | (rw [hp]; go_simp; rfl) | (simp [hp, go_sem]; done) | (go_simp; simp [hp])
            · skip
              rw [hp] at ln27
              simp only [fillAt, List.foldl_cons, List.foldl_nil, Act.put, List.setIfInBounds_toArray, List.set_cons_zero, List.set_cons_succ, ln27, ln33]
              refine Stays.plain (.bool ((((decide (cntSum p f k = e) && (decide (cntR (joinR p f k) = e) && !endsB (joinR p f k) e)) && ((gapR k 0) == b)) && (!(endsB f se))) && (!(endsB k se)))) (by rfl) ?_ rfl
              first | (rw [hp]; go_simp; done) | (rw [hp]; go_simp; rfl) | (simp [hp, go_sem]; done) | (go_simp; simp [hp])
          · intro g ws hws hl
            have ln34 : g 142 = .bool ((((decide (cntSum p f k = e) && (decide (cntR (joinR p f k) = e) && !endsB (joinR p f k) e)) && ((gapR k 0) == b)) && (!(endsB f se))) && (!(endsB k se))) := linesOf_get 34 hl (by kernel_rfl)
            simp only [fillAt, List.foldl_cons, List.foldl_nil, Act.put, List.setIfInBounds_toArray, List.set_cons_zero, List.set_cons_succ, ln34]
            refine Stays.plain (.bool ((((decide (cntSum p f k = e) && (decide (cntR (joinR p f k) = e) && !endsB (joinR p f k) e)) && ((gapR k 0) == b)) && (!(endsB f se))) && (!(endsB k se)))) (by rfl) ?_ rfl
            first | (go_simp; done) | (go_simp; rfl) | (go_simp; with_reducible rfl)
          · intro g ws hws hl
            have ln35 : g 143 = .bool ((((decide (cntSum p f k = e) && (decide (cntR (joinR p f k) = e) && !endsB (joinR p f k) e)) && ((gapR k 0) == b)) && (!(endsB f se))) && (!(endsB k se))) := linesOf_get 35 hl (by kernel_rfl)
            rcases Bool.eq_false_or_eq_true (((((decide (cntSum p f k = e) && (decide (cntR (joinR p f k) = e) && !endsB (joinR p f k) e)) && ((gapR k 0) == b)) && (!(endsB f se))) && (!(endsB k se)))) with hg0 | hg0
            · skip
              rw [hg0] at ln35
              simp only [fillAt, List.foldl_cons, List.foldl_nil, Act.put, List.setIfInBounds_toArray, List.set_cons_zero, List.set_cons_succ, ln35]
              refine Stays.plain (.pointer (some ⟨w.heap.size, 11, none⟩)) (by rfl) ?_ (show (_ : Value) = (bif ((((decide (cntSum p f k = e) && (decide (cntR (joinR p f k) = e) && !endsB (joinR p f k) e)) && ((gapR k 0) == b)) && (!(endsB f se))) && (!(endsB k se))) then (.pointer (some ⟨w.heap.size, 11, none⟩) : Value) else undef) from (by rw [cond_y hg0]))
              first | (go_simp; done) | (go_simp; rfl) | (go_simp; with_reducible rfl)
            · skip
              rw [hg0] at ln35
              simp only [fillAt, List.foldl_cons, List.foldl_nil, Act.put, List.setIfInBounds_toArray, List.set_cons_zero, List.set_cons_succ, ln35]
              refine Stays.off (by rfl) (show (undef : Value) = (bif ((((decide (cntSum p f k = e) && (decide (cntR (joinR p f k) = e) && !endsB (joinR p f k) e)) && ((gapR k 0) == b)) && (!(endsB f se))) && (!(endsB k se))) then (.pointer (some ⟨w.heap.size, 11, none⟩) : Value) else undef) from (by rw [cond_n hg0]))
          · intro g ws hws hl
            have ln35 : g 143 = .bool ((((decide (cntSum p f k = e) && (decide (cntR (joinR p f k) = e) && !endsB (joinR p f k) e)) && ((gapR k 0) == b)) && (!(endsB f se))) && (!(endsB k se))) := linesOf_get 35 hl (by kernel_rfl)
            have ln36 : g 144 = (bif ((((decide (cntSum p f k = e) && (decide (cntR (joinR p f k) = e) && !endsB (joinR p f k) e)) && ((gapR k 0) == b)) && (!(endsB f se))) && (!(endsB k se))) then (.pointer (some ⟨w.heap.size, 11, none⟩) : Value) else undef) := linesOf_get 36 hl (by kernel_rfl)
            rcases Bool.eq_false_or_eq_true (((((decide (cntSum p f k = e) && (decide (cntR (joinR p f k) = e) && !endsB (joinR p f k) e)) && ((gapR k 0) == b)) && (!(endsB f se))) && (!(endsB k se)))) with hg0 | hg0
            · skip
              rw [hg0] at ln35
              rw [cond_y hg0] at ln36
              simp only [fillAt, List.foldl_cons, List.foldl_nil, Act.put, List.setIfInBounds_toArray, List.set_cons_zero, List.set_cons_succ, ln35, ln36]
              obtain ⟨q0, p0⟩ := hws.row (k := w.heap.size) (by first | assumption | (simp; done) | (simp; omega) | omega)
              refine Stays.plain (.int .i64 co) (by rfl) ?_ (show (_ : Value) = (bif ((((decide (cntSum p f k = e) && (decide (cntR (joinR p f k) = e) && !endsB (joinR p f k) e)) && ((gapR k 0) == b)) && (!(endsB f se))) && (!(endsB k se))) then (.int .i64 co : Value) else undef) from (by rw [cond_y hg0]))
              first | (go_simp; done) | (go_simp; rfl) | (go_simp; with_reducible rfl)
            · skip
              rw [hg0] at ln35
              simp only [fillAt, List.foldl_cons, List.foldl_nil, Act.put, List.setIfInBounds_toArray, List.set_cons_zero, List.set_cons_succ, ln35]
              refine Stays.off (by rfl) (show (undef : Value) = (bif ((((decide (cntSum p f k = e) && (decide (cntR (joinR p f k) = e) && !endsB (joinR p f k) e)) && ((gapR k 0) == b)) && (!(endsB f se))) && (!(endsB k se))) then (.int .i64 co : Value) else undef) from (by rw [cond_n hg0]))
          · intro g ws hws hl
            have ln35 : g 143 = .bool ((((decide (cntSum p f k = e) && (decide (cntR (joinR p f k) = e) && !endsB (joinR p f k) e)) && ((gapR k 0) == b)) && (!(endsB f se))) && (!(endsB k se))) := linesOf_get 35 hl (by kernel_rfl)
            have ln37 : g 145 = (bif ((((decide (cntSum p f k = e) && (decide (cntR (joinR p f k) = e) && !endsB (joinR p f k) e)) && ((gapR k 0) == b)) && (!(endsB f se))) && (!(endsB k se))) then (.int .i64 co : Value) else undef) := linesOf_get 37 hl (by kernel_rfl)
            rcases Bool.eq_false_or_eq_true (((((decide (cntSum p f k = e) && (decide (cntR (joinR p f k) = e) && !endsB (joinR p f k) e)) && ((gapR k 0) == b)) && (!(endsB f se))) && (!(endsB k se)))) with hg0 | hg0
            · skip
              rw [hg0] at ln35
              rw [cond_y hg0] at ln37
              simp only [fillAt, List.foldl_cons, List.foldl_nil, Act.put, List.setIfInBounds_toArray, List.set_cons_zero, List.set_cons_succ, ln35, ln37]
              refine Stays.plain (.bool (co == 0)) (by rfl) ?_ (show (_ : Value) = (bif ((((decide (cntSum p f k = e) && (decide (cntR (joinR p f k) = e) && !endsB (joinR p f k) e)) && ((gapR k 0) == b)) && (!(endsB f se))) && (!(endsB k se))) then (.bool (co == 0) : Value) else undef) from (by rw [cond_y hg0]))
              first | (go_simp; done) | (go_simp; rfl) | (go_simp; with_reducible rfl)
            · skip
              rw [hg0] at ln35
              simp only [fillAt, List.foldl_cons, List.foldl_nil, Act.put, List.setIfInBounds_toArray, List.set_cons_zero, List.set_cons_succ, ln35]
              refine Stays.off (by rfl) (show (undef : Value) = (bif ((((decide (cntSum p f k = e) && (decide (cntR (joinR p f k) = e) && !endsB (joinR p f k) e)) && ((gapR k 0) == b)) && (!(endsB f se))) && (!(endsB k se))) then (.bool (co == 0) : Value) else undef) from (by rw [cond_n hg0]))
          · intro g ws hws hl
            have ln35 : g 143 = .bool ((((decide (cntSum p f k = e) && (decide (cntR (joinR p f k) = e) && !endsB (joinR p f k) e)) && ((gapR k 0) == b)) && (!(endsB f se))) && (!(endsB k se))) := linesOf_get 35 hl (by kernel_rfl)
            have ln38 : g 146 = (bif ((((decide (cntSum p f k = e) && (decide (cntR (joinR p f k) = e) && !endsB (joinR p f k) e)) && ((gapR k 0) == b)) && (!(endsB f se))) && (!(endsB k se))) then (.bool (co == 0) : Value) else undef) := linesOf_get 38 hl (by kernel_rfl)
            rcases Bool.eq_false_or_eq_true (((((decide (cntSum p f k = e) && (decide (cntR (joinR p f k) = e) && !endsB (joinR p f k) e)) && ((gapR k 0) == b)) && (!(endsB f se))) && (!(endsB k se)))) with hp | hp
            · skip
              rw [hp] at ln35
              rw [cond_y hp] at ln38
              simp only [fillAt, List.foldl_cons, List.foldl_nil, Act.put, List.setIfInBounds_toArray, List.set_cons_zero, List.set_cons_succ, ln35, ln38]
              refine Stays.plain (.bool (((((decide (cntSum p f k = e) && (decide (cntR (joinR p f k) = e) && !endsB (joinR p f k) e)) && ((gapR k 0) == b)) && (!(endsB f se))) && (!(endsB k se))) && (co == 0))) (by rfl) ?_ rfl
              first | (rw [hp]; go_simp; done) | (rw [hp]; go_simp; rfl) | (simp [hp, go_sem]; done) | (go_simp; simp [hp])
            · skip
              rw [hp] at ln35
              simp only [fillAt, List.foldl_cons, List.foldl_nil, Act.put, List.setIfInBounds_toArray, List.set_cons_zero, List.set_cons_succ, ln35, ln38]
              refine Stays.plain (.bool (((((decide (cntSum p f k = e) && (decide (cntR (joinR p f k) = e) && !endsB (joinR p f k) e)) && ((gapR k 0) == b)) && (!(endsB f se))) && (!(endsB k se))) && (co == 0))) (by rfl) ?_ rfl
              first | (rw [hp]; go_simp; done) | (rw [hp]; go_simp; rfl) | (simp [hp, go_sem]; done) | (go_simp; simp [hp])
          · intro g ws hws hl
            have ln39 : g 147 = .bool (((((decide (cntSum p f k = e) && (decide (cntR (joinR p f k) = e) && !endsB (joinR p f k) e)) && ((gapR k 0) == b)) && (!(endsB f se))) && (!(endsB k se))) && (co == 0)) := linesOf_get 39 hl (by kernel_rfl)
            simp only [fillAt, List.foldl_cons, List.foldl_nil, Act.put, List.setIfInBounds_toArray, List.set_cons_zero, List.set_cons_succ, ln39]
            refine Stays.plain (.bool (((((decide (cntSum p f k = e) && (decide (cntR (joinR p f k) = e) && !endsB (joinR p f k) e)) && ((gapR k 0) == b)) && (!(endsB f se))) && (!(endsB k se))) && (co == 0))) (by rfl) ?_ rfl
            first | (go_simp; done) | (go_simp; rfl) | (go_simp; with_reducible rfl)
          · intro g ws hws hl
            have ln40 : g 148 = .bool (((((decide (cntSum p f k = e) && (decide (cntR (joinR p f k) = e) && !endsB (joinR p f k) e)) && ((gapR k 0) == b)) && (!(endsB f se))) && (!(endsB k se))) && (co == 0)) := linesOf_get 40 hl (by kernel_rfl)
            rcases Bool.eq_false_or_eq_true ((((((decide (cntSum p f k = e) && (decide (cntR (joinR p f k) = e) && !endsB (joinR p f k) e)) && ((gapR k 0) == b)) && (!(endsB f se))) && (!(endsB k se))) && (co == 0))) with hg0 | hg0
            · skip
              rw [hg0] at ln40
              simp only [fillAt, List.foldl_cons, List.foldl_nil, Act.put, List.setIfInBounds_toArray, List.set_cons_zero, List.set_cons_succ, ln40]
              refine Stays.plain (.pointer (some ⟨w.heap.size, 8, none⟩)) (by rfl) ?_ (show (_ : Value) = (bif (((((decide (cntSum p f k = e) && (decide (cntR (joinR p f k) = e) && !endsB (joinR p f k) e)) && ((gapR k 0) == b)) && (!(endsB f se))) && (!(endsB k se))) && (co == 0)) then (.pointer (some ⟨w.heap.size, 8, none⟩) : Value) else undef) from (by rw [cond_y hg0]))
              first | (go_simp; done) | (go_simp; rfl) | (go_simp; with_reducible rfl)
            · skip
              rw [hg0] at ln40
              simp only [fillAt, List.foldl_cons, List.foldl_nil, Act.put, List.setIfInBounds_toArray, List.set_cons_zero, List.set_cons_succ, ln40]
              refine Stays.off (by rfl) (show (undef : Value) = (bif (((((decide (cntSum p f k = e) && (decide (cntR (joinR p f k) = e) && !endsB (joinR p f k) e)) && ((gapR k 0) == b)) && (!(endsB f se))) && (!(endsB k se))) && (co == 0)) then (.pointer (some ⟨w.heap.size, 8, none⟩) : Value) else undef) from (by rw [cond_n hg0]))
          · intro g ws hws hl
            have ln40 : g 148 = .bool (((((decide (cntSum p f k = e) && (decide (cntR (joinR p f k) = e) && !endsB (joinR p f k) e)) && ((gapR k 0) == b)) && (!(endsB f se))) && (!(endsB k se))) && (co == 0)) := linesOf_get 40 hl (by kernel_rfl)
            have ln41 : g 149 = (bif (((((decide (cntSum p f k = e) && (decide (cntR (joinR p f k) = e) && !endsB (joinR p f k) e)) && ((gapR k 0) == b)) && (!(endsB f se))) && (!(endsB k se))) && (co == 0)) then (.pointer (some ⟨w.heap.size, 8, none⟩) : Value) else undef) := linesOf_get 41 hl (by kernel_rfl)
            rcases Bool.eq_false_or_eq_true ((((((decide (cntSum p f k = e) && (decide (cntR (joinR p f k) = e) && !endsB (joinR p f k) e)) && ((gapR k 0) == b)) && (!(endsB f se))) && (!(endsB k se))) && (co == 0))) with hg0 | hg0
            · skip
              rw [hg0] at ln40
              rw [cond_y hg0] at ln41
              simp only [fillAt, List.foldl_cons, List.foldl_nil, Act.put, List.setIfInBounds_toArray, List.set_cons_zero, List.set_cons_succ, ln40, ln41]
              obtain ⟨q0, p0⟩ := hws.row (k := w.heap.size) (by first | assumption | (simp; done) | (simp; omega) | omega)
              refine Stays.plain (.int .i64 fi) (by rfl) ?_ (show (_ : Value) = (bif (((((decide (cntSum p f k = e) && (decide (cntR (joinR p f k) = e) && !endsB (joinR p f k) e)) && ((gapR k 0) == b)) && (!(endsB f se))) && (!(endsB k se))) && (co == 0)) then (.int .i64 fi : Value) else undef) from (by rw [cond_y hg0]))
              first | (go_simp; done) | (go_simp; rfl) | (go_simp; with_reducible rfl)
            · skip
              rw [hg0] at ln40
              simp only [fillAt, List.foldl_cons, List.foldl_nil, Act.put, List.setIfInBounds_toArray, List.set_cons_zero, List.set_cons_succ, ln40]
              refine Stays.off (by rfl) (show (undef : Value) = (bif (((((decide (cntSum p f k = e) && (decide (cntR (joinR p f k) = e) && !endsB (joinR p f k) e)) && ((gapR k 0) == b)) && (!(endsB f se))) && (!(endsB k se))) && (co == 0)) then (.int .i64 fi : Value) else undef) from (by rw [cond_n hg0]))
          · intro g ws hws hl
            have ln40 : g 148 = .bool (((((decide (cntSum p f k = e) && (decide (cntR (joinR p f k) = e) && !endsB (joinR p f k) e)) && ((gapR k 0) == b)) && (!(endsB f se))) && (!(endsB k se))) && (co == 0)) := linesOf_get 40 hl (by kernel_rfl)
            rcases Bool.eq_false_or_eq_true ((((((decide (cntSum p f k = e) && (decide (cntR (joinR p f k) = e) && !endsB (joinR p f k) e)) && ((gapR k 0) == b)) && (!(endsB f se))) && (!(endsB k se))) && (co == 0))) with hg0 | hg0
            · skip
              rw [hg0] at ln40
              simp only [fillAt, List.foldl_cons, List.foldl_nil, Act.put, List.setIfInBounds_toArray, List.set_cons_zero, List.set_cons_succ, ln40]
              refine Stays.plain (.int .i64 e) (by rfl) ?_ (show (_ : Value) = (bif (((((decide (cntSum p f k = e) && (decide (cntR (joinR p f k) = e) && !endsB (joinR p f k) e)) && ((gapR k 0) == b)) && (!(endsB f se))) && (!(endsB k se))) && (co == 0)) then (.int .i64 e : Value) else undef) from (by rw [cond_y hg0]))
              first | (go_simp; done) | (go_simp; rfl) | (go_simp; with_reducible rfl)
            · skip
              rw [hg0] at ln40
              simp only [fillAt, List.foldl_cons, List.foldl_nil, Act.put, List.setIfInBounds_toArray, List.set_cons_zero, List.set_cons_succ, ln40]
              refine Stays.off (by rfl) (show (undef : Value) = (bif (((((decide (cntSum p f k = e) && (decide (cntR (joinR p f k) = e) && !endsB (joinR p f k) e)) && ((gapR k 0) == b)) && (!(endsB f se))) && (!(endsB k se))) && (co == 0)) then (.int .i64 e : Value) else undef) from (by rw [cond_n hg0]))
          · intro g ws hws hl
            have ln40 : g 148 = .bool (((((decide (cntSum p f k = e) && (decide (cntR (joinR p f k) = e) && !endsB (joinR p f k) e)) && ((gapR k 0) == b)) && (!(endsB f se))) && (!(endsB k se))) && (co == 0)) := linesOf_get 40 hl (by kernel_rfl)
            have ln42 : g 150 = (bif (((((decide (cntSum p f k = e) && (decide (cntR (joinR p f k) = e) && !endsB (joinR p f k) e)) && ((gapR k 0) == b)) && (!(endsB f se))) && (!(endsB k se))) && (co == 0)) then (.int .i64 fi : Value) else undef) := linesOf_get 42 hl (by kernel_rfl)
            have ln43 : g 151 = (bif (((((decide (cntSum p f k = e) && (decide (cntR (joinR p f k) = e) && !endsB (joinR p f k) e)) && ((gapR k 0) == b)) && (!(endsB f se))) && (!(endsB k se))) && (co == 0)) then (.int .i64 e : Value) else undef) := linesOf_get 43 hl (by kernel_rfl)
            rcases Bool.eq_false_or_eq_true ((((((decide (cntSum p f k = e) && (decide (cntR (joinR p f k) = e) && !endsB (joinR p f k) e)) && ((gapR k 0) == b)) && (!(endsB f se))) && (!(endsB k se))) && (co == 0))) with hg0 | hg0
            · skip
              rw [hg0] at ln40
              rw [cond_y hg0] at ln42
              rw [cond_y hg0] at ln43
              simp only [fillAt, List.foldl_cons, List.foldl_nil, Act.put, List.setIfInBounds_toArray, List.set_cons_zero, List.set_cons_succ, ln40, ln42, ln43]
              refine Stays.plain (.bool (fi == e)) (by rfl) ?_ (show (_ : Value) = (bif (((((decide (cntSum p f k = e) && (decide (cntR (joinR p f k) = e) && !endsB (joinR p f k) e)) && ((gapR k 0) == b)) && (!(endsB f se))) && (!(endsB k se))) && (co == 0)) then (.bool (fi == e) : Value) else undef) from (by rw [cond_y hg0]))
              first | (go_simp; done) | (go_simp; rfl) | (go_simp; with_reducible rfl)
            · skip
              rw [hg0] at ln40
              simp only [fillAt, List.foldl_cons, List.foldl_nil, Act.put, List.setIfInBounds_toArray, List.set_cons_zero, List.set_cons_succ, ln40]
              refine Stays.off (by rfl) (show (undef : Value) = (bif (((((decide (cntSum p f k = e) && (decide (cntR (joinR p f k) = e) && !endsB (joinR p f k) e)) && ((gapR k 0) == b)) && (!(endsB f se))) && (!(endsB k se))) && (co == 0)) then (.bool (fi == e) : Value) else undef) from (by rw [cond_n hg0]))
          · intro g ws hws hl
            have ln40 : g 148 = .bool (((((decide (cntSum p f k = e) && (decide (cntR (joinR p f k) = e) && !endsB (joinR p f k) e)) && ((gapR k 0) == b)) && (!(endsB f se))) && (!(endsB k se))) && (co == 0)) := linesOf_get 40 hl (by kernel_rfl)
            have ln44 : g 152 = (bif (((((decide (cntSum p f k = e) && (decide (cntR (joinR p f k) = e) && !endsB (joinR p f k) e)) && ((gapR k 0) == b)) && (!(endsB f se))) && (!(endsB k se))) && (co == 0)) then (.bool (fi == e) : Value) else undef) := linesOf_get 44 hl (by kernel_rfl)
            rcases Bool.eq_false_or_eq_true ((((((decide (cntSum p f k = e) && (decide (cntR (joinR p f k) = e) && !endsB (joinR p f k) e)) && ((gapR k 0) == b)) && (!(endsB f se))) && (!(endsB k se))) && (co == 0))) with hp | hp
            · skip
              rw [hp] at ln40
              rw [cond_y hp] at ln44
              simp only [fillAt, List.foldl_cons, List.foldl_nil, Act.put, List.setIfInBounds_toArray, List.set_cons_zero, List.set_cons_succ, ln40, ln44]
              refine Stays.plain (.bool ((((((decide (cntSum p f k = e) && (decide (cntR (joinR p f k) = e) && !endsB (joinR p f k) e)) && ((gapR k 0) == b)) && (!(endsB f se))) && (!(endsB k se))) && (co == 0)) && (fi == e))) (by rfl) ?_ rfl
              first | (rw [hp]; go_simp; done) | (rw [hp]; go_simp; rfl) | (simp [hp, go_sem]; done) | (go_simp; simp [hp])
            · skip
              rw [hp] at ln40
              simp only [fillAt, List.foldl_cons, List.foldl_nil, Act.put, List.setIfInBounds_toArray, List.set_cons_zero, List.set_cons_succ, ln40, ln44]
              refine Stays.plain (.bool ((((((decide (cntSum p f k = e) && (decide (cntR (joinR p f k) = e) && !endsB (joinR p f k) e)) && ((gapR k 0) == b)) && (!(endsB f se))) && (!(endsB k se))) && (co == 0)) && (fi == e))) (by rfl) ?_ rfl
              first | (rw [hp]; go_simp; done) | (rw [hp]; go_simp; rfl) | (simp [hp, go_sem]; done) | (go_simp; simp [hp])
          · intro g ws hws hl
            have ln45 : g 153 = .bool ((((((decide (cntSum p f k = e) && (decide (cntR (joinR p f k) = e) && !endsB (joinR p f k) e)) && ((gapR k 0) == b)) && (!(endsB f se))) && (!(endsB k se))) && (co == 0)) && (fi == e)) := linesOf_get 45 hl (by kernel_rfl)
            simp only [fillAt, List.foldl_cons, List.foldl_nil, Act.put, List.setIfInBounds_toArray, List.set_cons_zero, List.set_cons_succ, ln45]
            refine Stays.plain (.bool ((((((decide (cntSum p f k = e) && (decide (cntR (joinR p f k) = e) && !endsB (joinR p f k) e)) && ((gapR k 0) == b)) && (!(endsB f se))) && (!(endsB k se))) && (co == 0)) && (fi == e))) (by rfl) ?_ rfl
            first | (go_simp; done) | (go_simp; rfl) | (go_simp; with_reducible rfl)
          · intro g ws hws hl
            have ln46 : g 154 = .bool ((((((decide (cntSum p f k = e) && (decide (cntR (joinR p f k) = e) && !endsB (joinR p f k) e)) && ((gapR k 0) == b)) && (!(endsB f se))) && (!(endsB k se))) && (co == 0)) && (fi == e)) := linesOf_get 46 hl (by kernel_rfl)
            rcases Bool.eq_false_or_eq_true (((((((decide (cntSum p f k = e) && (decide (cntR (joinR p f k) = e) && !endsB (joinR p f k) e)) && ((gapR k 0) == b)) && (!(endsB f se))) && (!(endsB k se))) && (co == 0)) && (fi == e))) with hg0 | hg0
            · skip
              rw [hg0] at ln46
              simp only [fillAt, List.foldl_cons, List.foldl_nil, Act.put, List.setIfInBounds_toArray, List.set_cons_zero, List.set_cons_succ, ln46]
              refine Stays.plain (.pointer (some ⟨w.heap.size, 0, none⟩)) (by rfl) ?_ (show (_ : Value) = (bif ((((((decide (cntSum p f k = e) && (decide (cntR (joinR p f k) = e) && !endsB (joinR p f k) e)) && ((gapR k 0) == b)) && (!(endsB f se))) && (!(endsB k se))) && (co == 0)) && (fi == e)) then (.pointer (some ⟨w.heap.size, 0, none⟩) : Value) else undef) from (by rw [cond_y hg0]))
              first | (go_simp; done) | (go_simp; rfl) | (go_simp; with_reducible rfl)
            · skip
              rw [hg0] at ln46
              simp only [fillAt, List.foldl_cons, List.foldl_nil, Act.put, List.setIfInBounds_toArray, List.set_cons_zero, List.set_cons_succ, ln46]
              refine Stays.off (by rfl) (show (undef : Value) = (bif ((((((decide (cntSum p f k = e) && (decide (cntR (joinR p f k) = e) && !endsB (joinR p f k) e)) && ((gapR k 0) == b)) && (!(endsB f se))) && (!(endsB k se))) && (co == 0)) && (fi == e)) then (.pointer (some ⟨w.heap.size, 0, none⟩) : Value) else undef) from (by rw [cond_n hg0]))
          · intro g ws hws hl
            have ln46 : g 154 = .bool ((((((decide (cntSum p f k = e) && (decide (cntR (joinR p f k) = e) && !endsB (joinR p f k) e)) && ((gapR k 0) == b)) && (!(endsB f se))) && (!(endsB k se))) && (co == 0)) && (fi == e)) := linesOf_get 46 hl (by kernel_rfl)
            have ln47 : g 155 = (bif ((((((decide (cntSum p f k = e) && (decide (cntR (joinR p f k) = e) && !endsB (joinR p f k) e)) && ((gapR k 0) == b)) && (!(endsB f se))) && (!(endsB k se))) && (co == 0)) && (fi == e)) then (.pointer (some ⟨w.heap.size, 0, none⟩) : Value) else undef) := linesOf_get 47 hl (by kernel_rfl)
            rcases Bool.eq_false_or_eq_true (((((((decide (cntSum p f k = e) && (decide (cntR (joinR p f k) = e) && !endsB (joinR p f k) e)) && ((gapR k 0) == b)) && (!(endsB f se))) && (!(endsB k se))) && (co == 0)) && (fi == e))) with hg0 | hg0
            · skip
              rw [hg0] at ln46
              rw [cond_y hg0] at ln47
              simp only [fillAt, List.foldl_cons, List.foldl_nil, Act.put, List.setIfInBounds_toArray, List.set_cons_zero, List.set_cons_succ, ln46, ln47]
              obtain ⟨q0, p0⟩ := hws.row (k := w.heap.size) (by first | assumption | (simp; done) | (simp; omega) | omega)
              refine Stays.plain (.int .i64 st) (by rfl) ?_ (show (_ : Value) = (bif ((((((decide (cntSum p f k = e) && (decide (cntR (joinR p f k) = e) && !endsB (joinR p f k) e)) && ((gapR k 0) == b)) && (!(endsB f se))) && (!(endsB k se))) && (co == 0)) && (fi == e)) then (.int .i64 st : Value) else undef) from (by rw [cond_y hg0]))
              first | (go_simp; done) | (go_simp; rfl) | (go_simp; with_reducible rfl)
            · skip
              rw [hg0] at ln46
              simp only [fillAt, List.foldl_cons, List.foldl_nil, Act.put, List.setIfInBounds_toArray, List.set_cons_zero, List.set_cons_succ, ln46]
              refine Stays.off (by rfl) (show (undef : Value) = (bif ((((((decide (cntSum p f k = e) && (decide (cntR (joinR p f k) = e) && !endsB (joinR p f k) e)) && ((gapR k 0) == b)) && (!(endsB f se))) && (!(endsB k se))) && (co == 0)) && (fi == e)) then (.int .i64 st : Value) else undef) from (by rw [cond_n hg0]))
          · intro g ws hws hl
            have ln46 : g 154 = .bool ((((((decide (cntSum p f k = e) && (decide (cntR (joinR p f k) = e) && !endsB (joinR p f k) e)) && ((gapR k 0) == b)) && (!(endsB f se))) && (!(endsB k se))) && (co == 0)) && (fi == e)) := linesOf_get 46 hl (by kernel_rfl)
            rcases Bool.eq_false_or_eq_true (((((((decide (cntSum p f k = e) && (decide (cntR (joinR p f k) = e) && !endsB (joinR p f k) e)) && ((gapR k 0) == b)) && (!(endsB f se))) && (!(endsB k se))) && (co == 0)) && (fi == e))) with hg0 | hg0
            · skip
              rw [hg0] at ln46
              simp only [fillAt, List.foldl_cons, List.foldl_nil, Act.put, List.setIfInBounds_toArray, List.set_cons_zero, List.set_cons_succ, ln46]
              obtain ⟨q0, p0⟩ := hws.row (k := w.heap.size) (by first | assumption | (simp; done) | (simp; omega) | omega)
              refine Stays.plain (.agg #[.int .i64 st, .int .i64 z, .int .i64 b, .int .i64 e, .slice a.r xs.length c1, .slice a.p p.length c2, .slice a.f f.length c3, .slice a.k k.length c4, .int .i64 fi, .int .i64 fk, .int .i64 se, .int .i64 co]) (by rfl) ?_ (show (_ : Value) = (bif ((((((decide (cntSum p f k = e) && (decide (cntR (joinR p f k) = e) && !endsB (joinR p f k) e)) && ((gapR k 0) == b)) && (!(endsB f se))) && (!(endsB k se))) && (co == 0)) && (fi == e)) then (.agg #[.int .i64 st, .int .i64 z, .int .i64 b, .int .i64 e, .slice a.r xs.length c1, .slice a.p p.length c2, .slice a.f f.length c3, .slice a.k k.length c4, .int .i64 fi, .int .i64 fk, .int .i64 se, .int .i64 co] : Value) else undef) from (by rw [cond_y hg0]))
              first | (go_simp; done) | (go_simp; rfl) | (go_simp; with_reducible rfl)
            · skip
              rw [hg0] at ln46
              simp only [fillAt, List.foldl_cons, List.foldl_nil, Act.put, List.setIfInBounds_toArray, List.set_cons_zero, List.set_cons_succ, ln46]
              refine Stays.off (by rfl) (show (undef : Value) = (bif ((((((decide (cntSum p f k = e) && (decide (cntR (joinR p f k) = e) && !endsB (joinR p f k) e)) && ((gapR k 0) == b)) && (!(endsB f se))) && (!(endsB k se))) && (co == 0)) && (fi == e)) then (.agg #[.int .i64 st, .int .i64 z, .int .i64 b, .int .i64 e, .slice a.r xs.length c1, .slice a.p p.length c2, .slice a.f f.length c3, .slice a.k k.length c4, .int .i64 fi, .int .i64 fk, .int .i64 se, .int .i64 co] : Value) else undef) from (by rw [cond_n hg0]))
          · intro g ws hws hl
            have ln46 : g 154 = .bool ((((((decide (cntSum p f k = e) && (decide (cntR (joinR p f k) = e) && !endsB (joinR p f k) e)) && ((gapR k 0) == b)) && (!(endsB f se))) && (!(endsB k se))) && (co == 0)) && (fi == e)) := linesOf_get 46 hl (by kernel_rfl)
            have ln49 : g 157 = (bif ((((((decide (cntSum p f k = e) && (decide (cntR (joinR p f k) = e) && !endsB (joinR p f k) e)) && ((gapR k 0) == b)) && (!(endsB f se))) && (!(endsB k se))) && (co == 0)) && (fi == e)) then (.agg #[.int .i64 st, .int .i64 z, .int .i64 b, .int .i64 e, .slice a.r xs.length c1, .slice a.p p.length c2, .slice a.f f.length c3, .slice a.k k.length c4, .int .i64 fi, .int .i64 fk, .int .i64 se, .int .i64 co] : Value) else undef) := linesOf_get 49 hl (by kernel_rfl)
            rcases Bool.eq_false_or_eq_true (((((((decide (cntSum p f k = e) && (decide (cntR (joinR p f k) = e) && !endsB (joinR p f k) e)) && ((gapR k 0) == b)) && (!(endsB f se))) && (!(endsB k se))) && (co == 0)) && (fi == e))) with hg0 | hg0
            · skip
              rw [hg0] at ln46
              rw [cond_y hg0] at ln49
              simp only [fillAt, List.foldl_cons, List.foldl_nil, Act.put, List.setIfInBounds_toArray, List.set_cons_zero, List.set_cons_succ, ln46, ln49]
              refine Stays.call 79 ?_ (by rfl) ?_ ?_
              rotate_left
              · go_simp
                try with_reducible rfl
              · refine (state_impl ⟨st, z, b, e, xs, p, f, k, fi, fk, se, co⟩ a c1 c2 c3 c4 ws).mono ?_
                rintro e w' ⟨rfl, h2⟩
                exact ⟨_, rfl, h2, (show (_ : Value) = (bif ((((((decide (cntSum p f k = e) && (decide (cntR (joinR p f k) = e) && !endsB (joinR p f k) e)) && ((gapR k 0) == b)) && (!(endsB f se))) && (!(endsB k se))) && (co == 0)) && (fi == e)) then (.int .i64 (stI st b e fk se) : Value) else undef) from (by rw [cond_y hg0]))⟩
            · skip
              rw [hg0] at ln46
              simp only [fillAt, List.foldl_cons, List.foldl_nil, Act.put, List.setIfInBounds_toArray, List.set_cons_zero, List.set_cons_succ, ln46]
              refine Stays.off (by rfl) (show (undef : Value) = (bif ((((((decide (cntSum p f k = e) && (decide (cntR (joinR p f k) = e) && !endsB (joinR p f k) e)) && ((gapR k 0) == b)) && (!(endsB f se))) && (!(endsB k se))) && (co == 0)) && (fi == e)) then (.int .i64 (stI st b e fk se) : Value) else undef) from (by rw [cond_n hg0]))
          · intro g ws hws hl
            have ln46 : g 154 = .bool ((((((decide (cntSum p f k = e) && (decide (cntR (joinR p f k) = e) && !endsB (joinR p f k) e)) && ((gapR k 0) == b)) && (!(endsB f se))) && (!(endsB k se))) && (co == 0)) && (fi == e)) := linesOf_get 46 hl (by kernel_rfl)
            have ln48 : g 156 = (bif ((((((decide (cntSum p f k = e) && (decide (cntR (joinR p f k) = e) && !endsB (joinR p f k) e)) && ((gapR k 0) == b)) && (!(endsB f se))) && (!(endsB k se))) && (co == 0)) && (fi == e)) then (.int .i64 st : Value) else undef) := linesOf_get 48 hl (by kernel_rfl)
            have ln50 : g 158 = (bif ((((((decide (cntSum p f k = e) && (decide (cntR (joinR p f k) = e) && !endsB (joinR p f k) e)) && ((gapR k 0) == b)) && (!(endsB f se))) && (!(endsB k se))) && (co == 0)) && (fi == e)) then (.int .i64 (stI st b e fk se) : Value) else undef) := linesOf_get 50 hl (by kernel_rfl)
            rcases Bool.eq_false_or_eq_true (((((((decide (cntSum p f k = e) && (decide (cntR (joinR p f k) = e) && !endsB (joinR p f k) e)) && ((gapR k 0) == b)) && (!(endsB f se))) && (!(endsB k se))) && (co == 0)) && (fi == e))) with hg0 | hg0
            · skip
              rw [hg0] at ln46
              rw [cond_y hg0] at ln48
              rw [cond_y hg0] at ln50
              simp only [fillAt, List.foldl_cons, List.foldl_nil, Act.put, List.setIfInBounds_toArray, List.set_cons_zero, List.set_cons_succ, ln46, ln48, ln50]
              refine Stays.plain (.bool (st == (stI st b e fk se))) (by rfl) ?_ (show (_ : Value) = (bif ((((((decide (cntSum p f k = e) && (decide (cntR (joinR p f k) = e) && !endsB (joinR p f k) e)) && ((gapR k 0) == b)) && (!(endsB f se))) && (!(endsB k se))) && (co == 0)) && (fi == e)) then (.bool (st == (stI st b e fk se)) : Value) else undef) from (by rw [cond_y hg0]))
              first | (go_simp; done) | (go_simp; rfl) | (go_simp; with_reducible rfl)
            · skip
              rw [hg0] at ln46
              simp only [fillAt, List.foldl_cons, List.foldl_nil, Act.put, List.setIfInBounds_toArray, List.set_cons_zero, List.set_cons_succ, ln46]
              refine Stays.off (by rfl) (show (undef : Value) = (bif ((((((decide (cntSum p f k = e) && (decide (cntR (joinR p f k) = e) && !endsB (joinR p f k) e)) && ((gapR k 0) == b)) && (!(endsB f se))) && (!(endsB k se))) && (co == 0)) && (fi == e)) then (.bool (st == (stI st b e fk se)) : Value) else undef) from (by rw [cond_n hg0]))
          · intro g ws hws hl
            have ln46 : g 154 = .bool ((((((decide (cntSum p f k = e) && (decide (cntR (joinR p f k) = e) && !endsB (joinR p f k) e)) && ((gapR k 0) == b)) && (!(endsB f se))) && (!(endsB k se))) && (co == 0)) && (fi == e)) := linesOf_get 46 hl (by kernel_rfl)
            have ln51 : g 159 = (bif ((((((decide (cntSum p f k = e) && (decide (cntR (joinR p f k) = e) && !endsB (joinR p f k) e)) && ((gapR k 0) == b)) && (!(endsB f se))) && (!(endsB k se))) && (co == 0)) && (fi == e)) then (.bool (st == (stI st b e fk se)) : Value) else undef) := linesOf_get 51 hl (by kernel_rfl)
            rcases Bool.eq_false_or_eq_true (((((((decide (cntSum p f k = e) && (decide (cntR (joinR p f k) = e) && !endsB (joinR p f k) e)) && ((gapR k 0) == b)) && (!(endsB f se))) && (!(endsB k se))) && (co == 0)) && (fi == e))) with hp | hp
            · skip
              rw [hp] at ln46
              rw [cond_y hp] at ln51
              simp only [fillAt, List.foldl_cons, List.foldl_nil, Act.put, List.setIfInBounds_toArray, List.set_cons_zero, List.set_cons_succ, ln46, ln51]
              refine Stays.plain (.bool (((((((decide (cntSum p f k = e) && (decide (cntR (joinR p f k) = e) && !endsB (joinR p f k) e)) && ((gapR k 0) == b)) && (!(endsB f se))) && (!(endsB k se))) && (co == 0)) && (fi == e)) && (st == (stI st b e fk se)))) (by rfl) ?_ rfl
              first | (rw [hp]; go_simp; done) | (rw [hp]; go_simp; rfl) | (simp [hp, go_sem]; done) | (go_simp; simp [hp])
            · skip
              rw [hp] at ln46
              simp only [fillAt, List.foldl_cons, List.foldl_nil, Act.put, List.setIfInBounds_toArray, List.set_cons_zero, List.set_cons_succ, ln46, ln51]
              refine Stays.plain (.bool (((((((decide (cntSum p f k = e) && (decide (cntR (joinR p f k) = e) && !endsB (joinR p f k) e)) && ((gapR k 0) == b)) && (!(endsB f se))) && (!(endsB k se))) && (co == 0)) && (fi == e)) && (st == (stI st b e fk se)))) (by rfl) ?_ rfl
              first | (rw [hp]; go_simp; done) | (rw [hp]; go_simp; rfl) | (simp [hp, go_sem]; done) | (go_simp; simp [hp])
          · intro g ws hws hl
            have ln52 : g 160 = .bool (((((((decide (cntSum p f k = e) && (decide (cntR (joinR p f k) = e) && !endsB (joinR p f k) e)) && ((gapR k 0) == b)) && (!(endsB f se))) && (!(endsB k se))) && (co == 0)) && (fi == e)) && (st == (stI st b e fk se))) := linesOf_get 52 hl (by kernel_rfl)
            simp only [fillAt, List.foldl_cons, List.foldl_nil, Act.put, List.setIfInBounds_toArray, List.set_cons_zero, List.set_cons_succ, ln52]
            refine Stays.plain (.bool (((((((decide (cntSum p f k = e) && (decide (cntR (joinR p f k) = e) && !endsB (joinR p f k) e)) && ((gapR k 0) == b)) && (!(endsB f se))) && (!(endsB k se))) && (co == 0)) && (fi == e)) && (st == (stI st b e fk se)))) (by rfl) ?_ rfl
            first | (go_simp; done) | (go_simp; rfl) | (go_simp; with_reducible rfl)
        · intro g ws hws hl
          have ln0 : g 108 = .pointer (some ⟨w.heap.size, 5, none⟩) := (allLines_get 108 0 0 hl rfl)
          have ln1 : g 109 = .slice a.p p.length c2 := (allLines_get 109 1 0 hl rfl)
          have ln2 : g 110 = .pointer (some ⟨w.heap.size, 6, none⟩) := (allLines_get 110 2 0 hl rfl)
          have ln3 : g 111 = .slice a.f f.length c3 := (allLines_get 111 3 0 hl rfl)
          have ln4 : g 112 = .pointer (some ⟨w.heap.size, 7, none⟩) := (allLines_get 112 4 0 hl rfl)
          have ln5 : g 113 = .slice a.k k.length c4 := (allLines_get 113 5 0 hl rfl)
          have ln6 : g 114 = .pointer (some ⟨w.heap.size, 1, none⟩) := (allLines_get 114 6 0 hl rfl)
          have ln7 : g 115 = .pointer (some ⟨w.heap.size, 3, none⟩) := (allLines_get 115 7 0 hl rfl)
          have ln8 : g 116 = .int .i64 e := (allLines_get 116 8 0 hl rfl)
          have ln9 : g 117 = .bool (decide (cntSum p f k = e) && (decide (cntR (joinR p f k) = e) && !endsB (joinR p f k) e)) := (allLines_get 117 9 0 hl rfl)
          have ln10 : g 118 = .bool (decide (cntSum p f k = e) && (decide (cntR (joinR p f k) = e) && !endsB (joinR p f k) e)) := (allLines_get 118 10 0 hl rfl)
          have ln18 : g 126 = .bool ((decide (cntSum p f k = e) && (decide (cntR (joinR p f k) = e) && !endsB (joinR p f k) e)) && ((gapR k 0) == b)) := (allLines_get 126 18 0 hl rfl)
          have ln19 : g 127 = .bool ((decide (cntSum p f k = e) && (decide (cntR (joinR p f k) = e) && !endsB (joinR p f k) e)) && ((gapR k 0) == b)) := (allLines_get 127 19 0 hl rfl)
          have ln26 : g 134 = .bool (((decide (cntSum p f k = e) && (decide (cntR (joinR p f k) = e) && !endsB (joinR p f k) e)) && ((gapR k 0) == b)) && (!(endsB f se))) := (allLines_get 134 26 0 hl rfl)
          have ln27 : g 135 = .bool (((decide (cntSum p f k = e) && (decide (cntR (joinR p f k) = e) && !endsB (joinR p f k) e)) && ((gapR k 0) == b)) && (!(endsB f se))) := (allLines_get 135 27 0 hl rfl)
          have ln34 : g 142 = .bool ((((decide (cntSum p f k = e) && (decide (cntR (joinR p f k) = e) && !endsB (joinR p f k) e)) && ((gapR k 0) == b)) && (!(endsB f se))) && (!(endsB k se))) := (allLines_get 142 34 0 hl rfl)
          have ln35 : g 143 = .bool ((((decide (cntSum p f k = e) && (decide (cntR (joinR p f k) = e) && !endsB (joinR p f k) e)) && ((gapR k 0) == b)) && (!(endsB f se))) && (!(endsB k se))) := (allLines_get 143 35 0 hl rfl)
          have ln39 : g 147 = .bool (((((decide (cntSum p f k = e) && (decide (cntR (joinR p f k) = e) && !endsB (joinR p f k) e)) && ((gapR k 0) == b)) && (!(endsB f se))) && (!(endsB k se))) && (co == 0)) := (allLines_get 147 39 0 hl rfl)
          have ln40 : g 148 = .bool (((((decide (cntSum p f k = e) && (decide (cntR (joinR p f k) = e) && !endsB (joinR p f k) e)) && ((gapR k 0) == b)) && (!(endsB f se))) && (!(endsB k se))) && (co == 0)) := (allLines_get 148 40 0 hl rfl)
          have ln45 : g 153 = .bool ((((((decide (cntSum p f k = e) && (decide (cntR (joinR p f k) = e) && !endsB (joinR p f k) e)) && ((gapR k 0) == b)) && (!(endsB f se))) && (!(endsB k se))) && (co == 0)) && (fi == e)) := (allLines_get 153 45 0 hl rfl)
          have ln46 : g 154 = .bool ((((((decide (cntSum p f k = e) && (decide (cntR (joinR p f k) = e) && !endsB (joinR p f k) e)) && ((gapR k 0) == b)) && (!(endsB f se))) && (!(endsB k se))) && (co == 0)) && (fi == e)) := (allLines_get 154 46 0 hl rfl)
          have ln52 : g 160 = .bool (((((((decide (cntSum p f k = e) && (decide (cntR (joinR p f k) = e) && !endsB (joinR p f k) e)) && ((gapR k 0) == b)) && (!(endsB f se))) && (!(endsB k se))) && (co == 0)) && (fi == e)) && (st == (stI st b e fk se))) := (allLines_get 160 52 0 hl rfl)
          have ln53 : g 2 = .bool (((((((decide (cntSum p f k = e) && (decide (cntR (joinR p f k) = e) && !endsB (joinR p f k) e)) && ((gapR k 0) == b)) && (!(endsB f se))) && (!(endsB k se))) && (co == 0)) && (fi == e)) && (st == (stI st b e fk se))) := (allLines_get 2 53 0 hl rfl)
          clear hl
          simp only [fillAt, List.foldl_cons, List.foldl_nil, Act.put, List.setIfInBounds_toArray, List.set_cons_zero, List.set_cons_succ, ln0, ln1, ln2, ln3, ln4, ln5, ln6, ln7, ln8, ln9, ln10, ln18, ln19, ln26, ln27, ln34, ln35, ln39, ln40, ln45, ln46, ln52, ln53]
          have hxw : Ext w ws := xw4.drew.trans hws
          have hRv : Hid (R = (((((((decide (cntSum p f k = e) && (decide (cntR (joinR p f k) = e) && !endsB (joinR p f k) e)) && gapR k 0 == b) && !endsB f se) && !endsB k se) && co == 0) && fi == e) && st == stI st b e fk se)) := hide (hR.out.symm.trans (sndI_tail _ hHd.out hrs.out _ (by rw [if_neg fk0])))
          go_wp2
          go_ret
          exact ⟨by (rw [hRv.out]) <;> rfl, hxw⟩
end Go.Proofs.Ytjhgcbchdnoleaa

/-
  IsSender of the reference: contract. Condition: the slices can be read.
-/
import Derived.Test.YtjhgcbchdnoleaaSnWh
import Derived.Test.YtjhgcbchdnoleaaIsRing
import Derived.Test.YtjhgcbchdnoleaaIsSndI
import Derived.Test.YtjhgcbchdnoleaaTabA
namespace Go.Proofs.Ytjhgcbchdnoleaa
open Go.ChangeShapes Go.WideShapes Go.ChangeAt Go.RowKit
set_option linter.unusedSimpArgs false
set_option linter.unusedVariables false
theorem bne_dec (x y : Int) : (x != y) = !decide (x = y) := by
  by_cases h : x = y <;> simp [h]
theorem sndS_tail (s : Sn) (hd : sndHd s = true) (hn : isRst s = false) (J : List Rg) (hJ : joinR s.p s.f s.k = J) :
    sndS s = (!(((((cntR J != s.e) || (cntSum s.p s.f s.k != s.e)) || (decide (0 < s.e) && ((J.getD 0 dr).2 != s.e))) || (gapR s.k 0 != s.b)) || (s.co != 0)) && (topB s.f s.se && (topB s.k s.se && (!(decide (s.fk = 0) != decide (s.fi = -1)) && (!(!decide (s.fi = -1) && !decide (s.fi = s.e)) && decide (s.st = stS s.st s.b s.e s.fk s.se)))))) := by
  subst hJ
  unfold sndS wholeS
  rw [hd, hn]
  simp only [bne_dec, Bool.true_and, Bool.and_assoc, Bool.not_or, Bool.not_not, Bool.not_and, Bool.false_eq_true, if_false]
theorem topB_succ {l : List Rg} {m : Int} {j : Nat} (hj : j < l.length) : topB (l.take (j + 1)) m = (topB (l.take j) m && decide ((l.getD j dr).2 ≤ m)) := by
  rw [takeR_succ l hj]
  simp [topB]
theorem topB_no {l : List Rg} {m : Int} {j : Nat} (hj : j < l.length) (h : ¬ (l.getD j dr).2 ≤ m) : topB l m = false := by
  rw [Bool.eq_false_iff]
  intro ht
  refine h ((topB_iff l m).1 ht _ ?_)
  rw [List.getD, List.getElem?_eq_getElem hj]
  exact List.getElem_mem hj
theorem l4Quic_any (x : Int) (w : World) : Calls Try.prog 83 #[.int .i64 x] w fun e w' => e = .returned (.bool (inB 0 x 4611686018427387903)) ∧ w = w' := by
  go_enter Try.func83, Try.ntmps83
  go_wp2_with (go_at_call 82; refine (l1In_any _ _ _ _).mono ?_; rintro e w1 ⟨rfl, rfl⟩)
  go_ret
  exact ⟨rfl, rfl⟩
set_option maxHeartbeats 16000000 in
set_option maxRecDepth 100000 in
theorem IsSender_spec (s : Sn) (a : Ads) (c1 c2 c3 c4 : Nat) (w : World) (hx : ReadSnd w a ⟨s.xs, s.p, s.f, s.k⟩) (hl : s.xs.length ≤ 1048576) (hsum : s.p.length + s.f.length + s.k.length ≤ 1048576) (he : s.e ≤ 9223372036854775807) :
    Calls Try.prog 20 #[.agg #[.int .i64 s.st, .int .i64 s.z, .int .i64 s.b, .int .i64 s.e, .slice a.r s.xs.length c1, .slice a.p s.p.length c2, .slice a.f s.f.length c3, .slice a.k s.k.length c4, .int .i64 s.fi, .int .i64 s.fk, .int .i64 s.se, .int .i64 s.co]] w fun en w' => en = .returned (.bool (sndS s)) ∧ Ext w w' := by
  obtain ⟨st, z, b, e, xs, p, f, k, fi, fk, se, co⟩ := s
  dsimp only at *
  have hx' := hide hx
  clear hx
  obtain ⟨R, hR⟩ : ∃ R, Hid (sndS ⟨st, z, b, e, xs, p, f, k, fi, fk, se, co⟩ = R) := ⟨_, hide rfl⟩
  rw [hR.out]
  obtain ⟨ar, ap, af, ak⟩ := a
  dsimp only at *
  go_enter Try.func20, Try.ntmps20
  go_wp2_with fail
  refine (IsRing_spec z b e ar _ c1 xs _ (hx'.out.r.ext (by repeat (first | with_reducible exact Ext.refl _ | with_reducible assumption | with_reducible refine Ext.alloc ?_ _ | with_reducible refine Ext.drew ?_ | ((with_reducible refine Ext.set ?_ ?_ _); (focus (first | (simp; done) | (simp; omega) | omega)))))) rfl (by omega) he).mono ?_
  rintro en w1 ⟨rfl, hw1⟩
  have xw1 : Ext w w1 := (by repeat (first | with_reducible exact Ext.refl _ | with_reducible assumption | with_reducible refine Ext.alloc ?_ _ | with_reducible refine Ext.drew ?_ | with_reducible refine Ext.drewN ?_ _ | ((with_reducible refine Ext.set ?_ ?_ _); (focus (first | (simp; done) | (simp; omega)))) | with_reducible refine Ext.trans ?_ (by assumption)))
  have kw1_0 := hw1.more (k := w.heap.size) (by first | assumption | (simp; done) | (simp; omega) | omega)
  obtain ⟨cw1_0, fw1_0⟩ := hw1.row (k := w.heap.size) (by first | assumption | (simp; done) | (simp; omega) | omega)
  rcases Bool.eq_false_or_eq_true (isRing z b e xs) with r1 | r1
  rotate_left
  · rw [r1]
    have hRv : Hid (R = false) := hide (by rw [← hR.out]; simp [sndS, sndHd, r1])
    go_wp2
    go_ret
    exact ⟨by (rw [hRv.out]) <;> rfl, (by repeat (first | with_reducible exact Ext.refl _ | with_reducible assumption | with_reducible refine Ext.alloc ?_ _ | with_reducible refine Ext.drew ?_ | ((with_reducible refine Ext.set ?_ ?_ _); (focus (first | (simp; done) | (simp; omega) | omega))) | with_reducible refine Ext.trans ?_ hw1))⟩
  rw [r1]
  go_wp2_with fail
  refine (IsRanges_spec ap _ c2 p _ (hx'.out.p.ext (by repeat (first | with_reducible exact Ext.refl _ | with_reducible assumption | with_reducible refine Ext.alloc ?_ _ | with_reducible refine Ext.drew ?_ | ((with_reducible refine Ext.set ?_ ?_ _); (focus (first | (simp; done) | (simp; omega) | omega))) | with_reducible refine Ext.trans ?_ hw1))) rfl (by omega)).mono ?_
  rintro en w2 ⟨rfl, hw2⟩
  have xw2 : Ext w w2 := (by repeat (first | with_reducible exact Ext.refl _ | with_reducible assumption | with_reducible refine Ext.alloc ?_ _ | with_reducible refine Ext.drew ?_ | with_reducible refine Ext.drewN ?_ _ | ((with_reducible refine Ext.set ?_ ?_ _); (focus (first | (simp; done) | (simp; omega)))) | with_reducible refine Ext.trans ?_ (by assumption)))
  have kw2_0 := hw2.more (k := w.heap.size) (by first | assumption | (simp; done) | (simp; omega) | omega)
  obtain ⟨cw2_0, fw2_0⟩ := hw2.row (k := w.heap.size) (by first | assumption | (simp; done) | (simp; omega) | omega)
  rcases Bool.eq_false_or_eq_true (isRgs p) with r2 | r2
  rotate_left
  · rw [r2]
    have hRv : Hid (R = false) := hide (by rw [← hR.out]; simp [sndS, sndHd, r1, r2])
    go_wp2
    go_ret
    exact ⟨by (rw [hRv.out]) <;> rfl, (by repeat (first | with_reducible exact Ext.refl _ | with_reducible assumption | with_reducible refine Ext.alloc ?_ _ | with_reducible refine Ext.drew ?_ | ((with_reducible refine Ext.set ?_ ?_ _); (focus (first | (simp; done) | (simp; omega) | omega))) | with_reducible refine Ext.trans ?_ hw2 | with_reducible refine Ext.trans ?_ hw1))⟩
  rw [r2]
  go_wp2_with fail
  refine (IsRanges_spec af _ c3 f _ (hx'.out.f.ext (by repeat (first | with_reducible exact Ext.refl _ | with_reducible assumption | with_reducible refine Ext.alloc ?_ _ | with_reducible refine Ext.drew ?_ | ((with_reducible refine Ext.set ?_ ?_ _); (focus (first | (simp; done) | (simp; omega) | omega))) | with_reducible refine Ext.trans ?_ hw2 | with_reducible refine Ext.trans ?_ hw1))) rfl (by omega)).mono ?_
  rintro en w3 ⟨rfl, hw3⟩
  have xw3 : Ext w w3 := (by repeat (first | with_reducible exact Ext.refl _ | with_reducible assumption | with_reducible refine Ext.alloc ?_ _ | with_reducible refine Ext.drew ?_ | with_reducible refine Ext.drewN ?_ _ | ((with_reducible refine Ext.set ?_ ?_ _); (focus (first | (simp; done) | (simp; omega)))) | with_reducible refine Ext.trans ?_ (by assumption)))
  have kw3_0 := hw3.more (k := w.heap.size) (by first | assumption | (simp; done) | (simp; omega) | omega)
  obtain ⟨cw3_0, fw3_0⟩ := hw3.row (k := w.heap.size) (by first | assumption | (simp; done) | (simp; omega) | omega)
  rcases Bool.eq_false_or_eq_true (isRgs f) with r3 | r3
  rotate_left
  · rw [r3]
    have hRv : Hid (R = false) := hide (by rw [← hR.out]; simp [sndS, sndHd, r1, r2, r3])
    go_wp2
    go_ret
    exact ⟨by (rw [hRv.out]) <;> rfl, (by repeat (first | with_reducible exact Ext.refl _ | with_reducible assumption | with_reducible refine Ext.alloc ?_ _ | with_reducible refine Ext.drew ?_ | ((with_reducible refine Ext.set ?_ ?_ _); (focus (first | (simp; done) | (simp; omega) | omega))) | with_reducible refine Ext.trans ?_ hw3 | with_reducible refine Ext.trans ?_ hw2 | with_reducible refine Ext.trans ?_ hw1))⟩
  rw [r3]
  go_wp2_with fail
  refine (IsRanges_spec ak _ c4 k _ (hx'.out.k.ext (by repeat (first | with_reducible exact Ext.refl _ | with_reducible assumption | with_reducible refine Ext.alloc ?_ _ | with_reducible refine Ext.drew ?_ | ((with_reducible refine Ext.set ?_ ?_ _); (focus (first | (simp; done) | (simp; omega) | omega))) | with_reducible refine Ext.trans ?_ hw3 | with_reducible refine Ext.trans ?_ hw2 | with_reducible refine Ext.trans ?_ hw1))) rfl (by omega)).mono ?_
  rintro en w4 ⟨rfl, hw4⟩
  have xw4 : Ext w w4 := (by repeat (first | with_reducible exact Ext.refl _ | with_reducible assumption | with_reducible refine Ext.alloc ?_ _ | with_reducible refine Ext.drew ?_ | with_reducible refine Ext.drewN ?_ _ | ((with_reducible refine Ext.set ?_ ?_ _); (focus (first | (simp; done) | (simp; omega)))) | with_reducible refine Ext.trans ?_ (by assumption)))
  have kw4_0 := hw4.more (k := w.heap.size) (by first | assumption | (simp; done) | (simp; omega) | omega)
  obtain ⟨cw4_0, fw4_0⟩ := hw4.row (k := w.heap.size) (by first | assumption | (simp; done) | (simp; omega) | omega)
  rcases Bool.eq_false_or_eq_true (isRgs k) with r4 | r4
  rotate_left
  · rw [r4]
    have hRv : Hid (R = false) := hide (by rw [← hR.out]; simp [sndS, sndHd, r1, r2, r3, r4])
    go_wp2
    go_ret
    exact ⟨by (rw [hRv.out]) <;> rfl, (by repeat (first | with_reducible exact Ext.refl _ | with_reducible assumption | with_reducible refine Ext.alloc ?_ _ | with_reducible refine Ext.drew ?_ | ((with_reducible refine Ext.set ?_ ?_ _); (focus (first | (simp; done) | (simp; omega) | omega))) | with_reducible refine Ext.trans ?_ hw4 | with_reducible refine Ext.trans ?_ hw3 | with_reducible refine Ext.trans ?_ hw2 | with_reducible refine Ext.trans ?_ hw1))⟩
  rw [r4]
  go_wp2_with fail
  refine (l1In_any se 0 e _).mono ?_
  rintro en _ ⟨rfl, rfl⟩
  rcases Bool.eq_false_or_eq_true (inB 0 se e) with r5 | r5
  rotate_left
  · rw [r5]
    have hRv : Hid (R = false) := hide (by rw [← hR.out]; simp [sndS, sndHd, r1, r2, r3, r4, r5])
    go_wp2
    go_ret
    exact ⟨by (rw [hRv.out]) <;> rfl, (by repeat (first | with_reducible exact Ext.refl _ | with_reducible assumption | with_reducible refine Ext.alloc ?_ _ | with_reducible refine Ext.drew ?_ | ((with_reducible refine Ext.set ?_ ?_ _); (focus (first | (simp; done) | (simp; omega) | omega))) | with_reducible refine Ext.trans ?_ hw4 | with_reducible refine Ext.trans ?_ hw3 | with_reducible refine Ext.trans ?_ hw2 | with_reducible refine Ext.trans ?_ hw1))⟩
  rw [r5]
  go_wp2_with fail
  refine (l4Quic_any co _).mono ?_
  rintro en _ ⟨rfl, rfl⟩
  rcases Bool.eq_false_or_eq_true (inB 0 co 4611686018427387903) with r6 | r6
  rotate_left
  · rw [r6]
    have hRv : Hid (R = false) := hide (by rw [← hR.out]; simp [sndS, sndHd, r1, r2, r3, r4, r5, r6])
    go_wp2
    go_ret
    exact ⟨by (rw [hRv.out]) <;> rfl, (by repeat (first | with_reducible exact Ext.refl _ | with_reducible assumption | with_reducible refine Ext.alloc ?_ _ | with_reducible refine Ext.drew ?_ | ((with_reducible refine Ext.set ?_ ?_ _); (focus (first | (simp; done) | (simp; omega) | omega))) | with_reducible refine Ext.trans ?_ hw4 | with_reducible refine Ext.trans ?_ hw3 | with_reducible refine Ext.trans ?_ hw2 | with_reducible refine Ext.trans ?_ hw1))⟩
  rw [r6]
  go_wp2_with fail
  refine (l1In_any fk 0 3 _).mono ?_
  rintro en _ ⟨rfl, rfl⟩
  rcases Bool.eq_false_or_eq_true (inB 0 fk 3) with r7 | r7
  rotate_left
  · rw [r7]
    have hRv : Hid (R = false) := hide (by rw [← hR.out]; simp [sndS, sndHd, r1, r2, r3, r4, r5, r6, r7])
    go_wp2
    go_ret
    exact ⟨by (rw [hRv.out]) <;> rfl, (by repeat (first | with_reducible exact Ext.refl _ | with_reducible assumption | with_reducible refine Ext.alloc ?_ _ | with_reducible refine Ext.drew ?_ | ((with_reducible refine Ext.set ?_ ?_ _); (focus (first | (simp; done) | (simp; omega) | omega))) | with_reducible refine Ext.trans ?_ hw4 | with_reducible refine Ext.trans ?_ hw3 | with_reducible refine Ext.trans ?_ hw2 | with_reducible refine Ext.trans ?_ hw1))⟩
  rw [r7]
  have hHd : Hid (sndHd ⟨st, z, b, e, xs, p, f, k, fi, fk, se, co⟩ = true) := hide (by simp [sndHd, r1, r2, r3, r4, r5, r6, r7])
  have hrb := isRing_bd r1
  have hseb := inB_true r5
  have hcob := inB_true r6
  have hfkb := inB_true r7
  by_cases s4 : st = 4
  · have s4e : (st == 4) = true := by simp [s4]
    have hrs : isRst ⟨st, z, b, e, xs, p, f, k, fi, fk, se, co⟩ = true := by simp [isRst, s4]
    by_cases d4 : b = e
    · have d4e : (b == e) = true := by simp [d4]
      by_cases d1 : p.length = 0
      · have d1e : ((p.length : Int) == 0) = true := by simp [d1]
        by_cases d2 : f.length = 0
        · have d2e : ((f.length : Int) == 0) = true := by simp [d2]
          by_cases d3 : k.length = 0
          · have d3e : ((k.length : Int) == 0) = true := by simp [d3]
            by_cases d5 : fi = se
            · have d5e : (fi == se) = true := by simp [d5]
              by_cases d7 : fk = 0
              · have d7e : (fk == 0) = true := by simp [d7]
                by_cases d6 : se = e
                · have d6e : (se == e) = true := by simp [d6]
                  have hRv : Hid (R = true) := hide (by rw [← hR.out]; unfold sndS; rw [hHd.out, hrs]; simp [sndRst, *])
                  go_wp2
                  go_ret
                  exact ⟨by (rw [hRv.out]) <;> rfl, (by repeat (first | with_reducible exact Ext.refl _ | with_reducible assumption | with_reducible refine Ext.alloc ?_ _ | with_reducible refine Ext.drew ?_ | ((with_reducible refine Ext.set ?_ ?_ _); (focus (first | (simp; done) | (simp; omega) | omega))) | with_reducible refine Ext.trans ?_ hw4 | with_reducible refine Ext.trans ?_ hw3 | with_reducible refine Ext.trans ?_ hw2 | with_reducible refine Ext.trans ?_ hw1))⟩
                · have d6e : (se == e) = false := by simp [d6]
                  have hRv : Hid (R = false) := hide (by rw [← hR.out]; unfold sndS; rw [hHd.out, hrs]; simp [sndRst, *])
                  go_wp2
                  go_ret
                  exact ⟨by (rw [hRv.out]) <;> rfl, (by repeat (first | with_reducible exact Ext.refl _ | with_reducible assumption | with_reducible refine Ext.alloc ?_ _ | with_reducible refine Ext.drew ?_ | ((with_reducible refine Ext.set ?_ ?_ _); (focus (first | (simp; done) | (simp; omega) | omega))) | with_reducible refine Ext.trans ?_ hw4 | with_reducible refine Ext.trans ?_ hw3 | with_reducible refine Ext.trans ?_ hw2 | with_reducible refine Ext.trans ?_ hw1))⟩
              · have d7e : (fk == 0) = false := by simp [d7]
                have hRv : Hid (R = false) := hide (by rw [← hR.out]; unfold sndS; rw [hHd.out, hrs]; simp [sndRst, *])
                go_wp2
                go_ret
                exact ⟨by (rw [hRv.out]) <;> rfl, (by repeat (first | with_reducible exact Ext.refl _ | with_reducible assumption | with_reducible refine Ext.alloc ?_ _ | with_reducible refine Ext.drew ?_ | ((with_reducible refine Ext.set ?_ ?_ _); (focus (first | (simp; done) | (simp; omega) | omega))) | with_reducible refine Ext.trans ?_ hw4 | with_reducible refine Ext.trans ?_ hw3 | with_reducible refine Ext.trans ?_ hw2 | with_reducible refine Ext.trans ?_ hw1))⟩
            · have d5e : (fi == se) = false := by simp [d5]
              have hRv : Hid (R = false) := hide (by rw [← hR.out]; unfold sndS; rw [hHd.out, hrs]; simp [sndRst, *])
              go_wp2
              go_ret
              exact ⟨by (rw [hRv.out]) <;> rfl, (by repeat (first | with_reducible exact Ext.refl _ | with_reducible assumption | with_reducible refine Ext.alloc ?_ _ | with_reducible refine Ext.drew ?_ | ((with_reducible refine Ext.set ?_ ?_ _); (focus (first | (simp; done) | (simp; omega) | omega))) | with_reducible refine Ext.trans ?_ hw4 | with_reducible refine Ext.trans ?_ hw3 | with_reducible refine Ext.trans ?_ hw2 | with_reducible refine Ext.trans ?_ hw1))⟩
          · have d3e : ((k.length : Int) == 0) = false := by simp [d3]
            have hRv : Hid (R = false) := hide (by rw [← hR.out]; unfold sndS; rw [hHd.out, hrs]; simp [sndRst, *])
            go_wp2
            go_ret
            exact ⟨by (rw [hRv.out]) <;> rfl, (by repeat (first | with_reducible exact Ext.refl _ | with_reducible assumption | with_reducible refine Ext.alloc ?_ _ | with_reducible refine Ext.drew ?_ | ((with_reducible refine Ext.set ?_ ?_ _); (focus (first | (simp; done) | (simp; omega) | omega))) | with_reducible refine Ext.trans ?_ hw4 | with_reducible refine Ext.trans ?_ hw3 | with_reducible refine Ext.trans ?_ hw2 | with_reducible refine Ext.trans ?_ hw1))⟩
        · have d2e : ((f.length : Int) == 0) = false := by simp [d2]
          have hRv : Hid (R = false) := hide (by rw [← hR.out]; unfold sndS; rw [hHd.out, hrs]; simp [sndRst, *])
          go_wp2
          go_ret
          exact ⟨by (rw [hRv.out]) <;> rfl, (by repeat (first | with_reducible exact Ext.refl _ | with_reducible assumption | with_reducible refine Ext.alloc ?_ _ | with_reducible refine Ext.drew ?_ | ((with_reducible refine Ext.set ?_ ?_ _); (focus (first | (simp; done) | (simp; omega) | omega))) | with_reducible refine Ext.trans ?_ hw4 | with_reducible refine Ext.trans ?_ hw3 | with_reducible refine Ext.trans ?_ hw2 | with_reducible refine Ext.trans ?_ hw1))⟩
      · have d1e : ((p.length : Int) == 0) = false := by simp [d1]
        have hRv : Hid (R = false) := hide (by rw [← hR.out]; unfold sndS; rw [hHd.out, hrs]; simp [sndRst, *])
        go_wp2
        go_ret
        exact ⟨by (rw [hRv.out]) <;> rfl, (by repeat (first | with_reducible exact Ext.refl _ | with_reducible assumption | with_reducible refine Ext.alloc ?_ _ | with_reducible refine Ext.drew ?_ | ((with_reducible refine Ext.set ?_ ?_ _); (focus (first | (simp; done) | (simp; omega) | omega))) | with_reducible refine Ext.trans ?_ hw4 | with_reducible refine Ext.trans ?_ hw3 | with_reducible refine Ext.trans ?_ hw2 | with_reducible refine Ext.trans ?_ hw1))⟩
    · have d4e : (b == e) = false := by simp [d4]
      have hRv : Hid (R = false) := hide (by rw [← hR.out]; unfold sndS; rw [hHd.out, hrs]; simp [sndRst, *])
      go_wp2
      go_ret
      exact ⟨by (rw [hRv.out]) <;> rfl, (by repeat (first | with_reducible exact Ext.refl _ | with_reducible assumption | with_reducible refine Ext.alloc ?_ _ | with_reducible refine Ext.drew ?_ | ((with_reducible refine Ext.set ?_ ?_ _); (focus (first | (simp; done) | (simp; omega) | omega))) | with_reducible refine Ext.trans ?_ hw4 | with_reducible refine Ext.trans ?_ hw3 | with_reducible refine Ext.trans ?_ hw2 | with_reducible refine Ext.trans ?_ hw1))⟩
  · have s4e : (st == 4) = false := by simp [s4]
    by_cases s5 : st = 5
    · have s5e : (st == 5) = true := by simp [s5]
      have hrs : isRst ⟨st, z, b, e, xs, p, f, k, fi, fk, se, co⟩ = true := by simp [isRst, s5]
      by_cases d4 : b = e
      · have d4e : (b == e) = true := by simp [d4]
        by_cases d1 : p.length = 0
        · have d1e : ((p.length : Int) == 0) = true := by simp [d1]
          by_cases d2 : f.length = 0
          · have d2e : ((f.length : Int) == 0) = true := by simp [d2]
            by_cases d3 : k.length = 0
            · have d3e : ((k.length : Int) == 0) = true := by simp [d3]
              by_cases d5 : fi = se
              · have d5e : (fi == se) = true := by simp [d5]
                by_cases d7 : fk = 0
                · have d7e : (fk == 0) = true := by simp [d7]
                  by_cases d6 : se = e
                  · have d6e : (se == e) = true := by simp [d6]
                    have hRv : Hid (R = true) := hide (by rw [← hR.out]; unfold sndS; rw [hHd.out, hrs]; simp [sndRst, *])
                    go_wp2
                    go_ret
                    exact ⟨by (rw [hRv.out]) <;> rfl, (by repeat (first | with_reducible exact Ext.refl _ | with_reducible assumption | with_reducible refine Ext.alloc ?_ _ | with_reducible refine Ext.drew ?_ | ((with_reducible refine Ext.set ?_ ?_ _); (focus (first | (simp; done) | (simp; omega) | omega))) | with_reducible refine Ext.trans ?_ hw4 | with_reducible refine Ext.trans ?_ hw3 | with_reducible refine Ext.trans ?_ hw2 | with_reducible refine Ext.trans ?_ hw1))⟩
                  · have d6e : (se == e) = false := by simp [d6]
                    have hRv : Hid (R = false) := hide (by rw [← hR.out]; unfold sndS; rw [hHd.out, hrs]; simp [sndRst, *])
                    go_wp2
                    go_ret
                    exact ⟨by (rw [hRv.out]) <;> rfl, (by repeat (first | with_reducible exact Ext.refl _ | with_reducible assumption | with_reducible refine Ext.alloc ?_ _ | with_reducible refine Ext.drew ?_ | ((with_reducible refine Ext.set ?_ ?_ _); (focus (first | (simp; done) | (simp; omega) | omega))) | with_reducible refine Ext.trans ?_ hw4 | with_reducible refine Ext.trans ?_ hw3 | with_reducible refine Ext.trans ?_ hw2 | with_reducible refine Ext.trans ?_ hw1))⟩
                · have d7e : (fk == 0) = false := by simp [d7]
                  have hRv : Hid (R = false) := hide (by rw [← hR.out]; unfold sndS; rw [hHd.out, hrs]; simp [sndRst, *])
                  go_wp2
                  go_ret
                  exact ⟨by (rw [hRv.out]) <;> rfl, (by repeat (first | with_reducible exact Ext.refl _ | with_reducible assumption | with_reducible refine Ext.alloc ?_ _ | with_reducible refine Ext.drew ?_ | ((with_reducible refine Ext.set ?_ ?_ _); (focus (first | (simp; done) | (simp; omega) | omega))) | with_reducible refine Ext.trans ?_ hw4 | with_reducible refine Ext.trans ?_ hw3 | with_reducible refine Ext.trans ?_ hw2 | with_reducible refine Ext.trans ?_ hw1))⟩
              · have d5e : (fi == se) = false := by simp [d5]
                have hRv : Hid (R = false) := hide (by rw [← hR.out]; unfold sndS; rw [hHd.out, hrs]; simp [sndRst, *])
                go_wp2
                go_ret
                exact ⟨by (rw [hRv.out]) <;> rfl, (by repeat (first | with_reducible exact Ext.refl _ | with_reducible assumption | with_reducible refine Ext.alloc ?_ _ | with_reducible refine Ext.drew ?_ | ((with_reducible refine Ext.set ?_ ?_ _); (focus (first | (simp; done) | (simp; omega) | omega))) | with_reducible refine Ext.trans ?_ hw4 | with_reducible refine Ext.trans ?_ hw3 | with_reducible refine Ext.trans ?_ hw2 | with_reducible refine Ext.trans ?_ hw1))⟩
            · have d3e : ((k.length : Int) == 0) = false := by simp [d3]
              have hRv : Hid (R = false) := hide (by rw [← hR.out]; unfold sndS; rw [hHd.out, hrs]; simp [sndRst, *])
              go_wp2
              go_ret
              exact ⟨by (rw [hRv.out]) <;> rfl, (by repeat (first | with_reducible exact Ext.refl _ | with_reducible assumption | with_reducible refine Ext.alloc ?_ _ | with_reducible refine Ext.drew ?_ | ((with_reducible refine Ext.set ?_ ?_ _); (focus (first | (simp; done) | (simp; omega) | omega))) | with_reducible refine Ext.trans ?_ hw4 | with_reducible refine Ext.trans ?_ hw3 | with_reducible refine Ext.trans ?_ hw2 | with_reducible refine Ext.trans ?_ hw1))⟩
          · have d2e : ((f.length : Int) == 0) = false := by simp [d2]
            have hRv : Hid (R = false) := hide (by rw [← hR.out]; unfold sndS; rw [hHd.out, hrs]; simp [sndRst, *])
            go_wp2
            go_ret
            exact ⟨by (rw [hRv.out]) <;> rfl, (by repeat (first | with_reducible exact Ext.refl _ | with_reducible assumption | with_reducible refine Ext.alloc ?_ _ | with_reducible refine Ext.drew ?_ | ((with_reducible refine Ext.set ?_ ?_ _); (focus (first | (simp; done) | (simp; omega) | omega))) | with_reducible refine Ext.trans ?_ hw4 | with_reducible refine Ext.trans ?_ hw3 | with_reducible refine Ext.trans ?_ hw2 | with_reducible refine Ext.trans ?_ hw1))⟩
        · have d1e : ((p.length : Int) == 0) = false := by simp [d1]
          have hRv : Hid (R = false) := hide (by rw [← hR.out]; unfold sndS; rw [hHd.out, hrs]; simp [sndRst, *])
          go_wp2
          go_ret
          exact ⟨by (rw [hRv.out]) <;> rfl, (by repeat (first | with_reducible exact Ext.refl _ | with_reducible assumption | with_reducible refine Ext.alloc ?_ _ | with_reducible refine Ext.drew ?_ | ((with_reducible refine Ext.set ?_ ?_ _); (focus (first | (simp; done) | (simp; omega) | omega))) | with_reducible refine Ext.trans ?_ hw4 | with_reducible refine Ext.trans ?_ hw3 | with_reducible refine Ext.trans ?_ hw2 | with_reducible refine Ext.trans ?_ hw1))⟩
      · have d4e : (b == e) = false := by simp [d4]
        have hRv : Hid (R = false) := hide (by rw [← hR.out]; unfold sndS; rw [hHd.out, hrs]; simp [sndRst, *])
        go_wp2
        go_ret
        exact ⟨by (rw [hRv.out]) <;> rfl, (by repeat (first | with_reducible exact Ext.refl _ | with_reducible assumption | with_reducible refine Ext.alloc ?_ _ | with_reducible refine Ext.drew ?_ | ((with_reducible refine Ext.set ?_ ?_ _); (focus (first | (simp; done) | (simp; omega) | omega))) | with_reducible refine Ext.trans ?_ hw4 | with_reducible refine Ext.trans ?_ hw3 | with_reducible refine Ext.trans ?_ hw2 | with_reducible refine Ext.trans ?_ hw1))⟩
    · have s5e : (st == 5) = false := by simp [s5]
      have hrs : Hid (isRst ⟨st, z, b, e, xs, p, f, k, fi, fk, se, co⟩ = false) := hide (by simp [isRst, s4, s5])
      obtain ⟨J, hJ⟩ : ∃ J, Hid (joinR p f k = J) := ⟨_, hide rfl⟩
      have hT := hide (sndS_tail ⟨st, z, b, e, xs, p, f, k, fi, fk, se, co⟩ hHd.out hrs.out J hJ.out)
      rw [hR.out] at hT
      dsimp only at hT
      have hB0 := hide (BoxV.ext (BoxV.ext (BoxV.ext (BoxV.ext (BoxV.new w [.int .i64 st, .int .i64 z, .int .i64 b, .int .i64 e, .slice ar xs.length c1, .slice ap p.length c2, .slice af f.length c3, .slice ak k.length c4, .int .i64 fi, .int .i64 fk, .int .i64 se, .int .i64 co] 32) hw1) hw2) hw3) hw4)
      clear cw1_0 fw1_0 cw2_0 fw2_0 cw3_0 fw3_0 cw4_0 fw4_0 hw1 hw2 hw3 hw4
      have hB_w4 := hide (hB0.out)
      have bw4_0 := hB_w4.out.c 0 _ rfl
      have bw4_1 := hB_w4.out.c 1 _ rfl
      have bw4_2 := hB_w4.out.c 2 _ rfl
      have bw4_3 := hB_w4.out.c 3 _ rfl
      have bw4_4 := hB_w4.out.c 4 _ rfl
      have bw4_5 := hB_w4.out.c 5 _ rfl
      have bw4_6 := hB_w4.out.c 6 _ rfl
      have bw4_7 := hB_w4.out.c 7 _ rfl
      have bw4_8 := hB_w4.out.c 8 _ rfl
      have bw4_9 := hB_w4.out.c 9 _ rfl
      have bw4_10 := hB_w4.out.c 10 _ rfl
      have bw4_11 := hB_w4.out.c 11 _ rfl
      have bw4_F := hB_w4.out.fr
      have kb_w4 : w.heap.size < w4.heap.size := by have := xw4.size; omega
      go_wp2_with fail
      go_loopw [3, 4] (fun t i wr => ∃ (j : Nat) (L : List Rg) (ao1 : Option Addr) (ca1 : Nat), i = .int .i64 j ∧ j ≤ f.length ∧ Hid ((f.take j).foldl addR p = L) ∧ t = .slice ao1 L.length ca1 ∧ Hid (ReadR wr ao1 L) ∧ Ext w4 wr) (fun _ i _ => f.length - (intOf i).toNat)
      case atStart => exact ⟨0, p, _, _, rfl, Nat.zero_le _, hide rfl, rfl, hide (hx'.out.p.ext xw4), Ext.refl _⟩
      case round =>
        clear bw4_0 bw4_1 bw4_2 bw4_3 bw4_4 bw4_5 bw4_6 bw4_7 bw4_8 bw4_9 bw4_10 bw4_11 bw4_F
        obtain ⟨j, L, ao1, ca1, rfl, hj, hL, rfl, hrd, hg⟩ := hrel
        have xr : Ext w wr := xw4.trans hg
        have hB_wr := hide (hB_w4.out.ext hg)
        have bwr_0 := hB_wr.out.c 0 _ rfl
        have bwr_1 := hB_wr.out.c 1 _ rfl
        have bwr_2 := hB_wr.out.c 2 _ rfl
        have bwr_3 := hB_wr.out.c 3 _ rfl
        have bwr_4 := hB_wr.out.c 4 _ rfl
        have bwr_5 := hB_wr.out.c 5 _ rfl
        have bwr_6 := hB_wr.out.c 6 _ rfl
        have bwr_7 := hB_wr.out.c 7 _ rfl
        have bwr_8 := hB_wr.out.c 8 _ rfl
        have bwr_9 := hB_wr.out.c 9 _ rfl
        have bwr_10 := hB_wr.out.c 10 _ rfl
        have bwr_11 := hB_wr.out.c 11 _ rfl
        have bwr_F := hB_wr.out.fr
        have kb_wr : w.heap.size < wr.heap.size := by have := hg.size; omega
        have hlenL := fold_len (f.take j) p
        rw [hL.out] at hlenL
        have hlj : (f.take j).length ≤ f.length := by simp; omega
        have hLb : L.length ≤ 1048576 := by omega
        by_cases hlt : j < f.length
        · skip
          have hxq : ReadR w af f := hx'.out.f
          rcases hxq with hnil | ⟨bx, off, rfl, hx⟩
          · rw [hnil] at hlt; simp at hlt
          obtain ⟨cx, cx2⟩ := hx j hlt
          have la : bx < w.heap.size := World.block_lt_of_cell? w _ cx
          have hr := (xr.row la).1
          have dx := (hr _).trans cx
          have dx2 := (hr _).trans cx2
          have i1 : (0 : Int) ≤ (j : Int) := by omega
          have i2 : (j : Int) < (f.length : Int) := by omega
          have lw : bx < wr.heap.size := by omega
          have hst := hide (join_take_succ (p := p) hlt)
          rw [hL.out] at hst
          obtain ⟨⟨x1, x2⟩, hx0⟩ : ∃ x : Rg, Hid (f.getD j dr = x) := ⟨_, hide rfl⟩
          rw [hx0.out] at dx dx2 hst
          dsimp only at dx dx2
          clear hx cx cx2 hr hx0
          generalize hm : L.length = m at *
          replace hm := hide hm
          go_wp2_with fail
          refine (AddRange_spec x1 x2 ao1 m ca1 L _ hrd.out hm.out (by omega)).mono ?_
          rintro en w7 ⟨ao7, cap7, rfl, ho7, hb7⟩
          have hr7 := hide ho7.read
          go_wp2
          go_roundw
          case rel => exact ⟨j + 1, _, _, _, by go_num, by omega, hst, rfl, hr7, hg.trans hb7⟩
          case measure => simp [intOf]; omega
        · obtain rfl : j = f.length := by omega
          have hLf := hide (show f.foldl addR p = L by rw [← hL.out, List.take_length])
          clear hL hlj hlt hj
          obtain ⟨L1, hL1⟩ : ∃ L1, L1 = L := ⟨_, rfl⟩
          rw [← hL1] at hLf hrd hlenL ⊢
          clear hL1
          have hl1 : L1.length ≤ p.length + f.length := by simpa using hlenL
          clear hlenL hLb
          go_wp2_with fail
          go_loopw [3, 5] (fun t i wq => ∃ (j : Nat) (L : List Rg) (ao1 : Option Addr) (ca1 : Nat), i = .int .i64 j ∧ j ≤ k.length ∧ Hid ((k.take j).foldl addR L1 = L) ∧ t = .slice ao1 L.length ca1 ∧ Hid (ReadR wq ao1 L) ∧ Ext wr wq) (fun _ i _ => k.length - (intOf i).toNat)
          case atStart => exact ⟨0, L1, _, _, rfl, Nat.zero_le _, hide rfl, rfl, hrd, Ext.refl _⟩
          case round =>
            obtain ⟨wq, rfl⟩ : ∃ x, x = wr := ⟨_, rfl⟩
            clear bwr_0 bwr_1 bwr_2 bwr_3 bwr_4 bwr_5 bwr_6 bwr_7 bwr_8 bwr_9 bwr_10 bwr_11 bwr_F
            obtain ⟨j, L, ao1, ca1, rfl, hj, hL, rfl, hrd, hg⟩ := hrel
            have xr : Ext w wq := xr.trans hg
            have hB_wq := hide (hB_wr.out.ext hg)
            have bwq_0 := hB_wq.out.c 0 _ rfl
            have bwq_1 := hB_wq.out.c 1 _ rfl
            have bwq_2 := hB_wq.out.c 2 _ rfl
            have bwq_3 := hB_wq.out.c 3 _ rfl
            have bwq_4 := hB_wq.out.c 4 _ rfl
            have bwq_5 := hB_wq.out.c 5 _ rfl
            have bwq_6 := hB_wq.out.c 6 _ rfl
            have bwq_7 := hB_wq.out.c 7 _ rfl
            have bwq_8 := hB_wq.out.c 8 _ rfl
            have bwq_9 := hB_wq.out.c 9 _ rfl
            have bwq_10 := hB_wq.out.c 10 _ rfl
            have bwq_11 := hB_wq.out.c 11 _ rfl
            have bwq_F := hB_wq.out.fr
            have kb_wq : w.heap.size < wq.heap.size := by have := hg.size; omega
            have hlenL := fold_len (k.take j) L1
            rw [hL.out] at hlenL
            have hlj : (k.take j).length ≤ k.length := by simp; omega
            have hLb : L.length ≤ 1048576 := by omega
            by_cases hlt : j < k.length
            · skip
              have hxq : ReadR w ak k := hx'.out.k
              rcases hxq with hnil | ⟨bx, off, rfl, hx⟩
              · rw [hnil] at hlt; simp at hlt
              obtain ⟨cx, cx2⟩ := hx j hlt
              have la : bx < w.heap.size := World.block_lt_of_cell? w _ cx
              have hr := (xr.row la).1
              have dx := (hr _).trans cx
              have dx2 := (hr _).trans cx2
              have i1 : (0 : Int) ≤ (j : Int) := by omega
              have i2 : (j : Int) < (k.length : Int) := by omega
              have lw : bx < wq.heap.size := by omega
              have hst := hide (join_take_succ (p := L1) hlt)
              rw [hL.out] at hst
              obtain ⟨⟨x1, x2⟩, hx0⟩ : ∃ x : Rg, Hid (k.getD j dr = x) := ⟨_, hide rfl⟩
              rw [hx0.out] at dx dx2 hst
              dsimp only at dx dx2
              clear hx cx cx2 hr hx0
              generalize hm : L.length = m at *
              replace hm := hide hm
              go_wp2_with fail
              refine (AddRange_spec x1 x2 ao1 m ca1 L _ hrd.out hm.out (by omega)).mono ?_
              rintro en w7 ⟨ao7, cap7, rfl, ho7, hb7⟩
              have hr7 := hide ho7.read
              go_wp2
              go_roundw
              case rel => exact ⟨j + 1, _, _, _, by go_num, by omega, hst, rfl, hr7, hg.trans hb7⟩
              case measure => simp [intOf]; omega
            · obtain rfl : j = k.length := by omega
              have hLk := hide (show k.foldl addR L1 = L by rw [← hL.out, List.take_length])
              clear hL hlj hlt hj
              have hLJ : Hid (L = J) := hide (by rw [← hJ.out, ← hLk.out, ← hLf.out]; simp [joinR, List.foldl_append])
              obtain rfl : L = J := hLJ.out
              clear hLk hLf hJ hLJ
              go_wp2_with fail
              refine wp_region_linesA [Line.is (.pointer (some ⟨w.heap.size, 5, none⟩)), Line.is (.slice ap p.length c2), Line.is (.int .i64 (cntR p)), Line.is (.pointer (some ⟨w.heap.size, 6, none⟩)), Line.is (.slice af f.length c3), Line.is (.int .i64 (cntR f)), Line.is (.int .i64 (IntKind.i64.wrap ((cntR p) + (cntR f)))), Line.is (.pointer (some ⟨w.heap.size, 7, none⟩)), Line.is (.slice ak k.length c4), Line.is (.int .i64 (cntR k)), Line.is (.int .i64 (IntKind.i64.wrap ((IntKind.i64.wrap ((cntR p) + (cntR f))) + (cntR k)))), Line.is (.int .i64 (IntKind.i64.wrap ((IntKind.i64.wrap ((cntR p) + (cntR f))) + (cntR k))))] [135, 136, 137, 138, 139, 140, 141, 142, 143, 144, 145, 6] ?_ ?_ (by kernel_rfl) (by kernel_rfl) (by kernel_rfl) (by kernel_rfl) (by kernel_rfl) ?_ ?_
              rotate_left
              · intro g
                simp only [fillAt, List.foldl_cons, List.foldl_nil, Act.put, List.setIfInBounds_toArray, List.set_cons_zero, List.set_cons_succ]
                exact rfl
              · refine Each.cons ?_ (Each.cons ?_ (Each.cons ?_ (Each.cons ?_ (Each.cons ?_ (Each.cons ?_ (Each.cons ?_ (Each.cons ?_ (Each.cons ?_ (Each.cons ?_ (Each.cons ?_ (Each.cons ?_ (Each.nil))))))))))))
                · intro g ws hws hl
                  (try simp only [fillAt, List.foldl_cons, List.foldl_nil, Act.put, List.setIfInBounds_toArray, List.set_cons_zero, List.set_cons_succ])
                  refine Stays.plain (.pointer (some ⟨w.heap.size, 5, none⟩)) (by rfl) ?_ rfl
                  first | (go_simp; done) | (go_simp; rfl) | (go_simp; with_reducible rfl)
                · intro g ws hws hl
                  have ln0 : g 135 = .pointer (some ⟨w.heap.size, 5, none⟩) := linesOf_get 0 hl (by kernel_rfl)
                  simp only [fillAt, List.foldl_cons, List.foldl_nil, Act.put, List.setIfInBounds_toArray, List.set_cons_zero, List.set_cons_succ, ln0]
                  obtain ⟨q0, p0⟩ := hws.row (k := w.heap.size) (by first | assumption | (simp; done) | (simp; omega) | omega)
                  refine Stays.plain (.slice ap p.length c2) (by rfl) ?_ rfl
                  first | (go_simp; done) | (go_simp; rfl) | (go_simp; with_reducible rfl)
                · intro g ws hws hl
                  have ln1 : g 136 = .slice ap p.length c2 := linesOf_get 1 hl (by kernel_rfl)
                  simp only [fillAt, List.foldl_cons, List.foldl_nil, Act.put, List.setIfInBounds_toArray, List.set_cons_zero, List.set_cons_succ, ln1]
                  refine Stays.call 84 ?_ (by rfl) ?_ ?_
                  rotate_left
                  · go_simp
                    try with_reducible rfl
                  · refine (CountNumbers_spec ap _ c2 p ws (hx'.out.p.ext (xr.drew.trans hws)) rfl (by omega)).mono ?_
                    rintro e w' ⟨rfl, h2⟩
                    exact ⟨_, rfl, h2, rfl⟩
                · intro g ws hws hl
                  (try simp only [fillAt, List.foldl_cons, List.foldl_nil, Act.put, List.setIfInBounds_toArray, List.set_cons_zero, List.set_cons_succ])
                  refine Stays.plain (.pointer (some ⟨w.heap.size, 6, none⟩)) (by rfl) ?_ rfl
                  first | (go_simp; done) | (go_simp; rfl) | (go_simp; with_reducible rfl)
                · intro g ws hws hl
                  have ln3 : g 138 = .pointer (some ⟨w.heap.size, 6, none⟩) := linesOf_get 3 hl (by kernel_rfl)
                  simp only [fillAt, List.foldl_cons, List.foldl_nil, Act.put, List.setIfInBounds_toArray, List.set_cons_zero, List.set_cons_succ, ln3]
                  obtain ⟨q0, p0⟩ := hws.row (k := w.heap.size) (by first | assumption | (simp; done) | (simp; omega) | omega)
                  refine Stays.plain (.slice af f.length c3) (by rfl) ?_ rfl
                  first | (go_simp; done) | (go_simp; rfl) | (go_simp; with_reducible rfl)
                · intro g ws hws hl
                  have ln4 : g 139 = .slice af f.length c3 := linesOf_get 4 hl (by kernel_rfl)
                  simp only [fillAt, List.foldl_cons, List.foldl_nil, Act.put, List.setIfInBounds_toArray, List.set_cons_zero, List.set_cons_succ, ln4]
                  refine Stays.call 84 ?_ (by rfl) ?_ ?_
                  rotate_left
                  · go_simp
                    try with_reducible rfl
                  · refine (CountNumbers_spec af _ c3 f ws (hx'.out.f.ext (xr.drew.trans hws)) rfl (by omega)).mono ?_
                    rintro e w' ⟨rfl, h2⟩
                    exact ⟨_, rfl, h2, rfl⟩
                · intro g ws hws hl
                  have ln2 : g 137 = .int .i64 (cntR p) := linesOf_get 2 hl (by kernel_rfl)
                  have ln5 : g 140 = .int .i64 (cntR f) := linesOf_get 5 hl (by kernel_rfl)
                  simp only [fillAt, List.foldl_cons, List.foldl_nil, Act.put, List.setIfInBounds_toArray, List.set_cons_zero, List.set_cons_succ, ln2, ln5]
                  refine Stays.plain (.int .i64 (IntKind.i64.wrap ((cntR p) + (cntR f)))) (by rfl) ?_ rfl
                  first | (go_simp; done) | (go_simp; rfl) | (go_simp; with_reducible rfl)
                · intro g ws hws hl
                  (try simp only [fillAt, List.foldl_cons, List.foldl_nil, Act.put, List.setIfInBounds_toArray, List.set_cons_zero, List.set_cons_succ])
                  refine Stays.plain (.pointer (some ⟨w.heap.size, 7, none⟩)) (by rfl) ?_ rfl
                  first | (go_simp; done) | (go_simp; rfl) | (go_simp; with_reducible rfl)
                · intro g ws hws hl
                  have ln7 : g 142 = .pointer (some ⟨w.heap.size, 7, none⟩) := linesOf_get 7 hl (by kernel_rfl)
                  simp only [fillAt, List.foldl_cons, List.foldl_nil, Act.put, List.setIfInBounds_toArray, List.set_cons_zero, List.set_cons_succ, ln7]
                  obtain ⟨q0, p0⟩ := hws.row (k := w.heap.size) (by first | assumption | (simp; done) | (simp; omega) | omega)
                  refine Stays.plain (.slice ak k.length c4) (by rfl) ?_ rfl
                  first | (go_simp; done) | (go_simp; rfl) | (go_simp; with_reducible rfl)
                · intro g ws hws hl
                  have ln8 : g 143 = .slice ak k.length c4 := linesOf_get 8 hl (by kernel_rfl)
                  simp only [fillAt, List.foldl_cons, List.foldl_nil, Act.put, List.setIfInBounds_toArray, List.set_cons_zero, List.set_cons_succ, ln8]
                  refine Stays.call 84 ?_ (by rfl) ?_ ?_
                  rotate_left
                  · go_simp
                    try with_reducible rfl
                  · refine (CountNumbers_spec ak _ c4 k ws (hx'.out.k.ext (xr.drew.trans hws)) rfl (by omega)).mono ?_
                    rintro e w' ⟨rfl, h2⟩
                    exact ⟨_, rfl, h2, rfl⟩
                · intro g ws hws hl
                  have ln6 : g 141 = .int .i64 (IntKind.i64.wrap ((cntR p) + (cntR f))) := linesOf_get 6 hl (by kernel_rfl)
                  have ln9 : g 144 = .int .i64 (cntR k) := linesOf_get 9 hl (by kernel_rfl)
                  simp only [fillAt, List.foldl_cons, List.foldl_nil, Act.put, List.setIfInBounds_toArray, List.set_cons_zero, List.set_cons_succ, ln6, ln9]
                  refine Stays.plain (.int .i64 (IntKind.i64.wrap ((IntKind.i64.wrap ((cntR p) + (cntR f))) + (cntR k)))) (by rfl) ?_ rfl
                  first | (go_simp; done) | (go_simp; rfl) | (go_simp; with_reducible rfl)
                · intro g ws hws hl
                  have ln10 : g 145 = .int .i64 (IntKind.i64.wrap ((IntKind.i64.wrap ((cntR p) + (cntR f))) + (cntR k))) := linesOf_get 10 hl (by kernel_rfl)
                  simp only [fillAt, List.foldl_cons, List.foldl_nil, Act.put, List.setIfInBounds_toArray, List.set_cons_zero, List.set_cons_succ, ln10]
                  refine Stays.plain (.int .i64 (IntKind.i64.wrap ((IntKind.i64.wrap ((cntR p) + (cntR f))) + (cntR k)))) (by rfl) ?_ rfl
                  first | (go_simp; done) | (go_simp; rfl) | (go_simp; with_reducible rfl)
              · intro g w5 hw5 hl
                have ln0 : g 135 = .pointer (some ⟨w.heap.size, 5, none⟩) := (allLines_get 135 0 0 hl rfl)
                have ln1 : g 136 = .slice ap p.length c2 := (allLines_get 136 1 0 hl rfl)
                have ln2 : g 137 = .int .i64 (cntR p) := (allLines_get 137 2 0 hl rfl)
                have ln3 : g 138 = .pointer (some ⟨w.heap.size, 6, none⟩) := (allLines_get 138 3 0 hl rfl)
                have ln4 : g 139 = .slice af f.length c3 := (allLines_get 139 4 0 hl rfl)
                have ln5 : g 140 = .int .i64 (cntR f) := (allLines_get 140 5 0 hl rfl)
                have ln6 : g 141 = .int .i64 (IntKind.i64.wrap ((cntR p) + (cntR f))) := (allLines_get 141 6 0 hl rfl)
                have ln7 : g 142 = .pointer (some ⟨w.heap.size, 7, none⟩) := (allLines_get 142 7 0 hl rfl)
                have ln8 : g 143 = .slice ak k.length c4 := (allLines_get 143 8 0 hl rfl)
                have ln9 : g 144 = .int .i64 (cntR k) := (allLines_get 144 9 0 hl rfl)
                have ln10 : g 145 = .int .i64 (IntKind.i64.wrap ((IntKind.i64.wrap ((cntR p) + (cntR f))) + (cntR k))) := (allLines_get 145 10 0 hl rfl)
                have ln11 : g 6 = .int .i64 (IntKind.i64.wrap ((IntKind.i64.wrap ((cntR p) + (cntR f))) + (cntR k))) := (allLines_get 6 11 0 hl rfl)
                clear hl
                simp only [fillAt, List.foldl_cons, List.foldl_nil, Act.put, List.setIfInBounds_toArray, List.set_cons_zero, List.set_cons_succ, ln0, ln1, ln2, ln3, ln4, ln5, ln6, ln7, ln8, ln9, ln10, ln11]
                generalize hq : IntKind.i64.wrap (IntKind.i64.wrap (cntR p + cntR f) + cntR k) = q
                replace hq := hide hq
                have hwq5 : Ext wq w5 := (Ext.refl _).drew.trans hw5
                have x5 : Ext w w5 := xr.trans hwq5
                have hr5 := hide (hrd.out.ext hwq5)
                clear bwq_0 bwq_1 bwq_2 bwq_3 bwq_4 bwq_5 bwq_6 bwq_7 bwq_8 bwq_9 bwq_10 bwq_11 bwq_F
                have hB_w5 := hide (hB_wq.out.ext hwq5)
                have bw5_0 := hB_w5.out.c 0 _ rfl
                have bw5_1 := hB_w5.out.c 1 _ rfl
                have bw5_2 := hB_w5.out.c 2 _ rfl
                have bw5_3 := hB_w5.out.c 3 _ rfl
                have bw5_4 := hB_w5.out.c 4 _ rfl
                have bw5_5 := hB_w5.out.c 5 _ rfl
                have bw5_6 := hB_w5.out.c 6 _ rfl
                have bw5_7 := hB_w5.out.c 7 _ rfl
                have bw5_8 := hB_w5.out.c 8 _ rfl
                have bw5_9 := hB_w5.out.c 9 _ rfl
                have bw5_10 := hB_w5.out.c 10 _ rfl
                have bw5_11 := hB_w5.out.c 11 _ rfl
                have bw5_F := hB_w5.out.fr
                have kb_w5 : w.heap.size < w5.heap.size := by have := hwq5.size; omega
                have hqs : Hid (cntSum p f k = q) := hide hq.out
                rw [hqs.out] at hT
                clear hq hw5
                by_cases hL0 : L = []
                · subst hL0
                  have cnt0 := fun (ao1 : Option Addr) (ca1 : Nat) (ws : World) => CountNumbers_spec ao1 0 ca1 [] ws (Or.inl rfl) rfl (by decide)
                  go_wp2_with fail
                  refine wp_region_linesA [Line.is (.slice ao1 ([] : List Rg).length ca1), Line.is (.int .i64 0), Line.is (.pointer (some ⟨w.heap.size, 1, none⟩)), Line.is (.pointer (some ⟨w.heap.size, 3, none⟩)), Line.is (.int .i64 e), Line.is (.bool (0 != e)), Line.is (.bool (0 != e)), Line.is ((bif (0 != e) then undef else (.int .i64 q : Value))), Line.is ((bif (0 != e) then undef else (.pointer (some ⟨w.heap.size, 1, none⟩) : Value))), Line.is ((bif (0 != e) then undef else (.pointer (some ⟨w.heap.size, 3, none⟩) : Value))), Line.is ((bif (0 != e) then undef else (.int .i64 e : Value))), Line.is ((bif (0 != e) then undef else (.bool (q != e) : Value))), Line.is (.bool ((0 != e) || (q != e))), Line.is (.bool ((0 != e) || (q != e))), Line.is ((bif ((0 != e) || (q != e)) then undef else (.pointer (some ⟨w.heap.size, 1, none⟩) : Value))), Line.is ((bif ((0 != e) || (q != e)) then undef else (.pointer (some ⟨w.heap.size, 3, none⟩) : Value))), Line.is ((bif ((0 != e) || (q != e)) then undef else (.int .i64 e : Value))), Line.is ((bif ((0 != e) || (q != e)) then undef else (.bool (decide (0 < e)) : Value))), Line.is ((bif ((0 != e) || (q != e)) then undef else (.bool (decide (0 < e)) : Value))), Line.is ((bif ((0 != e) || (q != e)) then undef else (bif (decide (0 < e)) then (.slice ao1 ([] : List Rg).length ca1 : Value) else undef))), Line.is ((bif ((0 != e) || (q != e)) then undef else (bif (decide (0 < e)) then (.int .i64 0 : Value) else undef))), Line.is ((bif ((0 != e) || (q != e)) then undef else (bif (decide (0 < e)) then (.int .i64 0 : Value) else undef))), Line.is ((bif ((0 != e) || (q != e)) then undef else (bif (decide (0 < e)) then (.int .i64 0 : Value) else undef))), Line.is ((bif ((0 != e) || (q != e)) then undef else (bif (decide (0 < e)) then (.pointer (some ⟨w.heap.size, 1, none⟩) : Value) else undef))), Line.is ((bif ((0 != e) || (q != e)) then undef else (bif (decide (0 < e)) then (.pointer (some ⟨w.heap.size, 3, none⟩) : Value) else undef))), Line.is ((bif ((0 != e) || (q != e)) then undef else (bif (decide (0 < e)) then (.int .i64 e : Value) else undef))), Line.is ((bif ((0 != e) || (q != e)) then undef else (bif (decide (0 < e)) then (.bool (0 != e) : Value) else undef))), Line.is ((bif ((0 != e) || (q != e)) then undef else (.bool ((decide (0 < e)) && (0 != e)) : Value))), Line.is (.bool (((0 != e) || (q != e)) || ((decide (0 < e)) && (0 != e)))), Line.is (.bool (((0 != e) || (q != e)) || ((decide (0 < e)) && (0 != e)))), Line.is ((bif (((0 != e) || (q != e)) || ((decide (0 < e)) && (0 != e))) then undef else (.pointer (some ⟨w.heap.size, 7, none⟩) : Value))), Line.is ((bif (((0 != e) || (q != e)) || ((decide (0 < e)) && (0 != e))) then undef else (.slice ak k.length c4 : Value))), Line.is ((bif (((0 != e) || (q != e)) || ((decide (0 < e)) && (0 != e))) then undef else (.int .i64 (gapR k 0) : Value))), Line.is ((bif (((0 != e) || (q != e)) || ((decide (0 < e)) && (0 != e))) then undef else (.pointer (some ⟨w.heap.size, 1, none⟩) : Value))), Line.is ((bif (((0 != e) || (q != e)) || ((decide (0 < e)) && (0 != e))) then undef else (.pointer (some ⟨w.heap.size, 2, none⟩) : Value))), Line.is ((bif (((0 != e) || (q != e)) || ((decide (0 < e)) && (0 != e))) then undef else (.int .i64 b : Value))), Line.is ((bif (((0 != e) || (q != e)) || ((decide (0 < e)) && (0 != e))) then undef else (.bool ((gapR k 0) != b) : Value))), Line.is (.bool ((((0 != e) || (q != e)) || ((decide (0 < e)) && (0 != e))) || ((gapR k 0) != b))), Line.is (.bool ((((0 != e) || (q != e)) || ((decide (0 < e)) && (0 != e))) || ((gapR k 0) != b))), Line.is ((bif ((((0 != e) || (q != e)) || ((decide (0 < e)) && (0 != e))) || ((gapR k 0) != b)) then undef else (.pointer (some ⟨w.heap.size, 11, none⟩) : Value))), Line.is ((bif ((((0 != e) || (q != e)) || ((decide (0 < e)) && (0 != e))) || ((gapR k 0) != b)) then undef else (.int .i64 co : Value))), Line.is ((bif ((((0 != e) || (q != e)) || ((decide (0 < e)) && (0 != e))) || ((gapR k 0) != b)) then undef else (.bool (co != 0) : Value))), Line.is (.bool (((((0 != e) || (q != e)) || ((decide (0 < e)) && (0 != e))) || ((gapR k 0) != b)) || (co != 0)))] [146, 147, 148, 149, 150, 151, 152, 153, 154, 155, 156, 157, 158, 159, 160, 161, 162, 163, 164, 165, 166, 167, 168, 169, 170, 171, 172, 173, 174, 175, 176, 177, 178, 179, 180, 181, 182, 183, 184, 185, 186, 187, 188] ?_ ?_ (by kernel_rfl) (by kernel_rfl) (by kernel_rfl) (by kernel_rfl) (by kernel_rfl) ?_ ?_
                  rotate_left
                  · intro g
                    simp only [fillAt, List.foldl_cons, List.foldl_nil, Act.put, List.setIfInBounds_toArray, List.set_cons_zero, List.set_cons_succ]
                    exact rfl
                  · refine Each.cons ?_ (Each.cons ?_ (Each.cons ?_ (Each.cons ?_ (Each.cons ?_ (Each.cons ?_ (Each.cons ?_ (Each.cons ?_ (Each.cons ?_ (Each.cons ?_ (Each.cons ?_ (Each.cons ?_ (Each.cons ?_ (Each.cons ?_ (Each.cons ?_ (Each.cons ?_ (Each.cons ?_ (Each.cons ?_ (Each.cons ?_ (Each.cons ?_ (Each.cons ?_ (Each.cons ?_ (Each.cons ?_ (Each.cons ?_ (Each.cons ?_ (Each.cons ?_ (Each.cons ?_ (Each.cons ?_ (Each.cons ?_ (Each.cons ?_ (Each.cons ?_ (Each.cons ?_ (Each.cons ?_ (Each.cons ?_ (Each.cons ?_ (Each.cons ?_ (Each.cons ?_ (Each.cons ?_ (Each.cons ?_ (Each.cons ?_ (Each.cons ?_ (Each.cons ?_ (Each.cons ?_ (Each.nil)))))))))))))))))))))))))))))))))))))))))))
                    · intro g ws hws hl
                      (try simp only [fillAt, List.foldl_cons, List.foldl_nil, Act.put, List.setIfInBounds_toArray, List.set_cons_zero, List.set_cons_succ])
                      refine Stays.plain (.slice ao1 ([] : List Rg).length ca1) (by rfl) ?_ rfl
                      first | (go_simp; done) | (go_simp; rfl) | (go_simp; with_reducible rfl)
                    · intro g ws hws hl
                      have ln0 : g 146 = .slice ao1 ([] : List Rg).length ca1 := linesOf_get 0 hl (by kernel_rfl)
                      simp only [fillAt, List.foldl_cons, List.foldl_nil, Act.put, List.setIfInBounds_toArray, List.set_cons_zero, List.set_cons_succ, ln0]
                      refine Stays.call 84 ?_ (by rfl) ?_ ?_
                      rotate_left
                      · go_simp
                        try with_reducible rfl
                      · refine (cnt0 ao1 ca1 ws).mono ?_
                        rintro e w' ⟨rfl, h2⟩
                        exact ⟨_, rfl, h2, rfl⟩
                    · intro g ws hws hl
                      (try simp only [fillAt, List.foldl_cons, List.foldl_nil, Act.put, List.setIfInBounds_toArray, List.set_cons_zero, List.set_cons_succ])
                      refine Stays.plain (.pointer (some ⟨w.heap.size, 1, none⟩)) (by rfl) ?_ rfl
                      first | (go_simp; done) | (go_simp; rfl) | (go_simp; with_reducible rfl)
                    · intro g ws hws hl
                      have ln2 : g 148 = .pointer (some ⟨w.heap.size, 1, none⟩) := linesOf_get 2 hl (by kernel_rfl)
                      simp only [fillAt, List.foldl_cons, List.foldl_nil, Act.put, List.setIfInBounds_toArray, List.set_cons_zero, List.set_cons_succ, ln2]
                      refine Stays.plain (.pointer (some ⟨w.heap.size, 3, none⟩)) (by rfl) ?_ rfl
                      first | (go_simp; done) | (go_simp; rfl) | (go_simp; with_reducible rfl)
                    · intro g ws hws hl
                      have ln3 : g 149 = .pointer (some ⟨w.heap.size, 3, none⟩) := linesOf_get 3 hl (by kernel_rfl)
                      simp only [fillAt, List.foldl_cons, List.foldl_nil, Act.put, List.setIfInBounds_toArray, List.set_cons_zero, List.set_cons_succ, ln3]
                      obtain ⟨q0, p0⟩ := hws.row (k := w.heap.size) (by first | assumption | (simp; done) | (simp; omega) | omega)
                      refine Stays.plain (.int .i64 e) (by rfl) ?_ rfl
                      first | (go_simp; done) | (go_simp; rfl) | (go_simp; with_reducible rfl)
                    · intro g ws hws hl
                      have ln1 : g 147 = .int .i64 0 := linesOf_get 1 hl (by kernel_rfl)
                      have ln4 : g 150 = .int .i64 e := linesOf_get 4 hl (by kernel_rfl)
                      simp only [fillAt, List.foldl_cons, List.foldl_nil, Act.put, List.setIfInBounds_toArray, List.set_cons_zero, List.set_cons_succ, ln1, ln4]
                      refine Stays.plain (.bool (0 != e)) (by rfl) ?_ rfl
                      first | (go_simp; done) | (go_simp; rfl) | (go_simp; with_reducible rfl)
                    · intro g ws hws hl
                      have ln5 : g 151 = .bool (0 != e) := linesOf_get 5 hl (by kernel_rfl)
                      simp only [fillAt, List.foldl_cons, List.foldl_nil, Act.put, List.setIfInBounds_toArray, List.set_cons_zero, List.set_cons_succ, ln5]
                      refine Stays.plain (.bool (0 != e)) (by rfl) ?_ rfl
                      first | (go_simp; done) | (go_simp; rfl) | (go_simp; with_reducible rfl)
                    · intro g ws hws hl
                      have ln6 : g 152 = .bool (0 != e) := linesOf_get 6 hl (by kernel_rfl)
                      rcases Bool.eq_false_or_eq_true ((0 != e)) with hg0 | hg0
                      · skip
                        rw [hg0] at ln6
                        simp only [fillAt, List.foldl_cons, List.foldl_nil, Act.put, List.setIfInBounds_toArray, List.set_cons_zero, List.set_cons_succ, ln6]
                        refine Stays.off (by rfl) (show (undef : Value) = (bif (0 != e) then undef else (.int .i64 q : Value)) from (by rw [cond_y hg0]))
                      · skip
                        rw [hg0] at ln6
                        simp only [fillAt, List.foldl_cons, List.foldl_nil, Act.put, List.setIfInBounds_toArray, List.set_cons_zero, List.set_cons_succ, ln6]
                        refine Stays.plain (.int .i64 q) (by rfl) ?_ (show (_ : Value) = (bif (0 != e) then undef else (.int .i64 q : Value)) from (by rw [cond_n hg0]))
                        first | (go_simp; done) | (go_simp; rfl) | (go_simp; with_reducible rfl)
                    · intro g ws hws hl
                      have ln6 : g 152 = .bool (0 != e) := linesOf_get 6 hl (by kernel_rfl)
                      rcases Bool.eq_false_or_eq_true ((0 != e)) with hg0 | hg0
                      · skip
                        rw [hg0] at ln6
                        simp only [fillAt, List.foldl_cons, List.foldl_nil, Act.put, List.setIfInBounds_toArray, List.set_cons_zero, List.set_cons_succ, ln6]
                        refine Stays.off (by rfl) (show (undef : Value) = (bif (0 != e) then undef else (.pointer (some ⟨w.heap.size, 1, none⟩) : Value)) from (by rw [cond_y hg0]))
                      · skip
                        rw [hg0] at ln6
                        simp only [fillAt, List.foldl_cons, List.foldl_nil, Act.put, List.setIfInBounds_toArray, List.set_cons_zero, List.set_cons_succ, ln6]
                        refine Stays.plain (.pointer (some ⟨w.heap.size, 1, none⟩)) (by rfl) ?_ (show (_ : Value) = (bif (0 != e) then undef else (.pointer (some ⟨w.heap.size, 1, none⟩) : Value)) from (by rw [cond_n hg0]))
                        first | (go_simp; done) | (go_simp; rfl) | (go_simp; with_reducible rfl)
                    · intro g ws hws hl
                      have ln6 : g 152 = .bool (0 != e) := linesOf_get 6 hl (by kernel_rfl)
                      have ln8 : g 154 = (bif (0 != e) then undef else (.pointer (some ⟨w.heap.size, 1, none⟩) : Value)) := linesOf_get 8 hl (by kernel_rfl)
                      rcases Bool.eq_false_or_eq_true ((0 != e)) with hg0 | hg0
                      · skip
                        rw [hg0] at ln6
                        simp only [fillAt, List.foldl_cons, List.foldl_nil, Act.put, List.setIfInBounds_toArray, List.set_cons_zero, List.set_cons_succ, ln6]
                        refine Stays.off (by rfl) (show (undef : Value) = (bif (0 != e) then undef else (.pointer (some ⟨w.heap.size, 3, none⟩) : Value)) from (by rw [cond_y hg0]))
                      · skip
                        rw [hg0] at ln6
                        rw [cond_n hg0] at ln8
                        simp only [fillAt, List.foldl_cons, List.foldl_nil, Act.put, List.setIfInBounds_toArray, List.set_cons_zero, List.set_cons_succ, ln6, ln8]
                        refine Stays.plain (.pointer (some ⟨w.heap.size, 3, none⟩)) (by rfl) ?_ (show (_ : Value) = (bif (0 != e) then undef else (.pointer (some ⟨w.heap.size, 3, none⟩) : Value)) from (by rw [cond_n hg0]))
                        first | (go_simp; done) | (go_simp; rfl) | (go_simp; with_reducible rfl)
                    · intro g ws hws hl
                      have ln6 : g 152 = .bool (0 != e) := linesOf_get 6 hl (by kernel_rfl)
                      have ln9 : g 155 = (bif (0 != e) then undef else (.pointer (some ⟨w.heap.size, 3, none⟩) : Value)) := linesOf_get 9 hl (by kernel_rfl)
                      rcases Bool.eq_false_or_eq_true ((0 != e)) with hg0 | hg0
                      · skip
                        rw [hg0] at ln6
                        simp only [fillAt, List.foldl_cons, List.foldl_nil, Act.put, List.setIfInBounds_toArray, List.set_cons_zero, List.set_cons_succ, ln6]
                        refine Stays.off (by rfl) (show (undef : Value) = (bif (0 != e) then undef else (.int .i64 e : Value)) from (by rw [cond_y hg0]))
                      · skip
                        rw [hg0] at ln6
                        rw [cond_n hg0] at ln9
                        simp only [fillAt, List.foldl_cons, List.foldl_nil, Act.put, List.setIfInBounds_toArray, List.set_cons_zero, List.set_cons_succ, ln6, ln9]
                        obtain ⟨q0, p0⟩ := hws.row (k := w.heap.size) (by first | assumption | (simp; done) | (simp; omega) | omega)
                        refine Stays.plain (.int .i64 e) (by rfl) ?_ (show (_ : Value) = (bif (0 != e) then undef else (.int .i64 e : Value)) from (by rw [cond_n hg0]))
                        first | (go_simp; done) | (go_simp; rfl) | (go_simp; with_reducible rfl)
                    · intro g ws hws hl
                      have ln6 : g 152 = .bool (0 != e) := linesOf_get 6 hl (by kernel_rfl)
                      have ln7 : g 153 = (bif (0 != e) then undef else (.int .i64 q : Value)) := linesOf_get 7 hl (by kernel_rfl)
                      have ln10 : g 156 = (bif (0 != e) then undef else (.int .i64 e : Value)) := linesOf_get 10 hl (by kernel_rfl)
                      rcases Bool.eq_false_or_eq_true ((0 != e)) with hg0 | hg0
                      · skip
                        rw [hg0] at ln6
                        simp only [fillAt, List.foldl_cons, List.foldl_nil, Act.put, List.setIfInBounds_toArray, List.set_cons_zero, List.set_cons_succ, ln6]
                        refine Stays.off (by rfl) (show (undef : Value) = (bif (0 != e) then undef else (.bool (q != e) : Value)) from (by rw [cond_y hg0]))
                      · skip
                        rw [hg0] at ln6
                        rw [cond_n hg0] at ln7
                        rw [cond_n hg0] at ln10
                        simp only [fillAt, List.foldl_cons, List.foldl_nil, Act.put, List.setIfInBounds_toArray, List.set_cons_zero, List.set_cons_succ, ln6, ln7, ln10]
                        refine Stays.plain (.bool (q != e)) (by rfl) ?_ (show (_ : Value) = (bif (0 != e) then undef else (.bool (q != e) : Value)) from (by rw [cond_n hg0]))
                        first | (go_simp; done) | (go_simp; rfl) | (go_simp; with_reducible rfl)
                    · intro g ws hws hl
                      have ln6 : g 152 = .bool (0 != e) := linesOf_get 6 hl (by kernel_rfl)
                      have ln11 : g 157 = (bif (0 != e) then undef else (.bool (q != e) : Value)) := linesOf_get 11 hl (by kernel_rfl)
                      rcases Bool.eq_false_or_eq_true ((0 != e)) with hp | hp
                      · skip
                        rw [hp] at ln6
                        simp only [fillAt, List.foldl_cons, List.foldl_nil, Act.put, List.setIfInBounds_toArray, List.set_cons_zero, List.set_cons_succ, ln6, ln11]
                        refine Stays.plain (.bool ((0 != e) || (q != e))) (by rfl) ?_ rfl
                        first | (rw [hp]; go_simp; done) | (rw [hp]; go_simp; rfl) | (simp [hp, go_sem]; done) | (go_simp; simp [hp])
                      · skip
                        rw [hp] at ln6
                        rw [cond_n hp] at ln11
                        simp only [fillAt, List.foldl_cons, List.foldl_nil, Act.put, List.setIfInBounds_toArray, List.set_cons_zero, List.set_cons_succ, ln6, ln11]
                        refine Stays.plain (.bool ((0 != e) || (q != e))) (by rfl) ?_ rfl
                        first | (rw [hp]; go_simp; done) | (rw [hp]; go_simp; rfl) | (simp [hp, go_sem]; done) | (go_simp; simp [hp])
                    · intro g ws hws hl
                      have ln12 : g 158 = .bool ((0 != e) || (q != e)) := linesOf_get 12 hl (by kernel_rfl)
                      simp only [fillAt, List.foldl_cons, List.foldl_nil, Act.put, List.setIfInBounds_toArray, List.set_cons_zero, List.set_cons_succ, ln12]
                      refine Stays.plain (.bool ((0 != e) || (q != e))) (by rfl) ?_ rfl
                      first | (go_simp; done) | (go_simp; rfl) | (go_simp; with_reducible rfl)
                    · intro g ws hws hl
                      have ln13 : g 159 = .bool ((0 != e) || (q != e)) := linesOf_get 13 hl (by kernel_rfl)
                      rcases Bool.eq_false_or_eq_true (((0 != e) || (q != e))) with hg0 | hg0
                      · skip
                        rw [hg0] at ln13
                        simp only [fillAt, List.foldl_cons, List.foldl_nil, Act.put, List.setIfInBounds_toArray, List.set_cons_zero, List.set_cons_succ, ln13]
                        refine Stays.off (by rfl) (show (undef : Value) = (bif ((0 != e) || (q != e)) then undef else (.pointer (some ⟨w.heap.size, 1, none⟩) : Value)) from (by rw [cond_y hg0]))
                      · skip
                        rw [hg0] at ln13
                        simp only [fillAt, List.foldl_cons, List.foldl_nil, Act.put, List.setIfInBounds_toArray, List.set_cons_zero, List.set_cons_succ, ln13]
                        refine Stays.plain (.pointer (some ⟨w.heap.size, 1, none⟩)) (by rfl) ?_ (show (_ : Value) = (bif ((0 != e) || (q != e)) then undef else (.pointer (some ⟨w.heap.size, 1, none⟩) : Value)) from (by rw [cond_n hg0]))
                        first | (go_simp; done) | (go_simp; rfl) | (go_simp; with_reducible rfl)
                    · intro g ws hws hl
                      have ln13 : g 159 = .bool ((0 != e) || (q != e)) := linesOf_get 13 hl (by kernel_rfl)
                      have ln14 : g 160 = (bif ((0 != e) || (q != e)) then undef else (.pointer (some ⟨w.heap.size, 1, none⟩) : Value)) := linesOf_get 14 hl (by kernel_rfl)
                      rcases Bool.eq_false_or_eq_true (((0 != e) || (q != e))) with hg0 | hg0
                      · skip
                        rw [hg0] at ln13
                        simp only [fillAt, List.foldl_cons, List.foldl_nil, Act.put, List.setIfInBounds_toArray, List.set_cons_zero, List.set_cons_succ, ln13]
                        refine Stays.off (by rfl) (show (undef : Value) = (bif ((0 != e) || (q != e)) then undef else (.pointer (some ⟨w.heap.size, 3, none⟩) : Value)) from (by rw [cond_y hg0]))
                      · skip
                        rw [hg0] at ln13
                        rw [cond_n hg0] at ln14
                        simp only [fillAt, List.foldl_cons, List.foldl_nil, Act.put, List.setIfInBounds_toArray, List.set_cons_zero, List.set_cons_succ, ln13, ln14]
                        refine Stays.plain (.pointer (some ⟨w.heap.size, 3, none⟩)) (by rfl) ?_ (show (_ : Value) = (bif ((0 != e) || (q != e)) then undef else (.pointer (some ⟨w.heap.size, 3, none⟩) : Value)) from (by rw [cond_n hg0]))
                        first | (go_simp; done) | (go_simp; rfl) | (go_simp; with_reducible rfl)
                    · intro g ws hws hl
                      have ln13 : g 159 = .bool ((0 != e) || (q != e)) := linesOf_get 13 hl (by kernel_rfl)
                      have ln15 : g 161 = (bif ((0 != e) || (q != e)) then undef else (.pointer (some ⟨w.heap.size, 3, none⟩) : Value)) := linesOf_get 15 hl (by kernel_rfl)
                      rcases Bool.eq_false_or_eq_true (((0 != e) || (q != e))) with hg0 | hg0
                      · skip
                        rw [hg0] at ln13
                        simp only [fillAt, List.foldl_cons, List.foldl_nil, Act.put, List.setIfInBounds_toArray, List.set_cons_zero, List.set_cons_succ, ln13]
                        refine Stays.off (by rfl) (show (undef : Value) = (bif ((0 != e) || (q != e)) then undef else (.int .i64 e : Value)) from (by rw [cond_y hg0]))
                      · skip
                        rw [hg0] at ln13
                        rw [cond_n hg0] at ln15
                        simp only [fillAt, List.foldl_cons, List.foldl_nil, Act.put, List.setIfInBounds_toArray, List.set_cons_zero, List.set_cons_succ, ln13, ln15]
                        obtain ⟨q0, p0⟩ := hws.row (k := w.heap.size) (by first | assumption | (simp; done) | (simp; omega) | omega)
                        refine Stays.plain (.int .i64 e) (by rfl) ?_ (show (_ : Value) = (bif ((0 != e) || (q != e)) then undef else (.int .i64 e : Value)) from (by rw [cond_n hg0]))
                        first | (go_simp; done) | (go_simp; rfl) | (go_simp; with_reducible rfl)
                    · intro g ws hws hl
                      have ln13 : g 159 = .bool ((0 != e) || (q != e)) := linesOf_get 13 hl (by kernel_rfl)
                      have ln16 : g 162 = (bif ((0 != e) || (q != e)) then undef else (.int .i64 e : Value)) := linesOf_get 16 hl (by kernel_rfl)
                      rcases Bool.eq_false_or_eq_true (((0 != e) || (q != e))) with hg0 | hg0
                      · skip
                        rw [hg0] at ln13
                        simp only [fillAt, List.foldl_cons, List.foldl_nil, Act.put, List.setIfInBounds_toArray, List.set_cons_zero, List.set_cons_succ, ln13]
                        refine Stays.off (by rfl) (show (undef : Value) = (bif ((0 != e) || (q != e)) then undef else (.bool (decide (0 < e)) : Value)) from (by rw [cond_y hg0]))
                      · skip
                        rw [hg0] at ln13
                        rw [cond_n hg0] at ln16
                        simp only [fillAt, List.foldl_cons, List.foldl_nil, Act.put, List.setIfInBounds_toArray, List.set_cons_zero, List.set_cons_succ, ln13, ln16]
                        refine Stays.plain (.bool (decide (0 < e))) (by rfl) ?_ (show (_ : Value) = (bif ((0 != e) || (q != e)) then undef else (.bool (decide (0 < e)) : Value)) from (by rw [cond_n hg0]))
                        first | (go_simp; done) | (go_simp; rfl) | (go_simp; with_reducible rfl)
                    · intro g ws hws hl
                      have ln13 : g 159 = .bool ((0 != e) || (q != e)) := linesOf_get 13 hl (by kernel_rfl)
                      have ln17 : g 163 = (bif ((0 != e) || (q != e)) then undef else (.bool (decide (0 < e)) : Value)) := linesOf_get 17 hl (by kernel_rfl)
                      rcases Bool.eq_false_or_eq_true (((0 != e) || (q != e))) with hg0 | hg0
                      · skip
                        rw [hg0] at ln13
                        simp only [fillAt, List.foldl_cons, List.foldl_nil, Act.put, List.setIfInBounds_toArray, List.set_cons_zero, List.set_cons_succ, ln13]
                        refine Stays.off (by rfl) (show (undef : Value) = (bif ((0 != e) || (q != e)) then undef else (.bool (decide (0 < e)) : Value)) from (by rw [cond_y hg0]))
                      · skip
                        rw [hg0] at ln13
                        rw [cond_n hg0] at ln17
                        simp only [fillAt, List.foldl_cons, List.foldl_nil, Act.put, List.setIfInBounds_toArray, List.set_cons_zero, List.set_cons_succ, ln13, ln17]
                        refine Stays.plain (.bool (decide (0 < e))) (by rfl) ?_ (show (_ : Value) = (bif ((0 != e) || (q != e)) then undef else (.bool (decide (0 < e)) : Value)) from (by rw [cond_n hg0]))
                        first | (go_simp; done) | (go_simp; rfl) | (go_simp; with_reducible rfl)
                    · intro g ws hws hl
                      have ln18 : g 164 = (bif ((0 != e) || (q != e)) then undef else (.bool (decide (0 < e)) : Value)) := linesOf_get 18 hl (by kernel_rfl)
                      rcases Bool.eq_false_or_eq_true (((0 != e) || (q != e))) with hg0 | hg0
                      · skip
                        rw [cond_y hg0] at ln18
                        simp only [fillAt, List.foldl_cons, List.foldl_nil, Act.put, List.setIfInBounds_toArray, List.set_cons_zero, List.set_cons_succ, ln18]
                        refine Stays.off (by rfl) (show (undef : Value) = (bif ((0 != e) || (q != e)) then undef else (bif (decide (0 < e)) then (.slice ao1 ([] : List Rg).length ca1 : Value) else undef)) from (by rw [cond_y hg0]))
                      · skip
                        rcases Bool.eq_false_or_eq_true ((decide (0 < e))) with hg1 | hg1
                        · skip
                          rw [cond_n hg0] at ln18
                          rw [hg1] at ln18
                          simp only [fillAt, List.foldl_cons, List.foldl_nil, Act.put, List.setIfInBounds_toArray, List.set_cons_zero, List.set_cons_succ, ln18]
                          refine Stays.plain (.slice ao1 ([] : List Rg).length ca1) (by rfl) ?_ (show (_ : Value) = (bif ((0 != e) || (q != e)) then undef else (bif (decide (0 < e)) then (.slice ao1 ([] : List Rg).length ca1 : Value) else undef)) from (by rw [cond_n hg0, cond_y hg1]))
                          first | (go_simp; done) | (go_simp; rfl) | (go_simp; with_reducible rfl)
                        · skip
                          rw [cond_n hg0] at ln18
                          rw [hg1] at ln18
                          simp only [fillAt, List.foldl_cons, List.foldl_nil, Act.put, List.setIfInBounds_toArray, List.set_cons_zero, List.set_cons_succ, ln18]
                          refine Stays.off (by rfl) (show (undef : Value) = (bif ((0 != e) || (q != e)) then undef else (bif (decide (0 < e)) then (.slice ao1 ([] : List Rg).length ca1 : Value) else undef)) from (by rw [cond_n hg0, cond_n hg1]))
                    · intro g ws hws hl
                      have ln18 : g 164 = (bif ((0 != e) || (q != e)) then undef else (.bool (decide (0 < e)) : Value)) := linesOf_get 18 hl (by kernel_rfl)
                      have ln19 : g 165 = (bif ((0 != e) || (q != e)) then undef else (bif (decide (0 < e)) then (.slice ao1 ([] : List Rg).length ca1 : Value) else undef)) := linesOf_get 19 hl (by kernel_rfl)
                      rcases Bool.eq_false_or_eq_true (((0 != e) || (q != e))) with hg0 | hg0
                      · skip
                        rw [cond_y hg0] at ln18
                        simp only [fillAt, List.foldl_cons, List.foldl_nil, Act.put, List.setIfInBounds_toArray, List.set_cons_zero, List.set_cons_succ, ln18]
                        refine Stays.off (by rfl) (show (undef : Value) = (bif ((0 != e) || (q != e)) then undef else (bif (decide (0 < e)) then (.int .i64 0 : Value) else undef)) from (by rw [cond_y hg0]))
                      · skip
                        rcases Bool.eq_false_or_eq_true ((decide (0 < e))) with hg1 | hg1
                        · skip
                          rw [cond_n hg0] at ln18
                          rw [hg1] at ln18
                          rw [cond_n hg0] at ln19
                          rw [cond_y hg1] at ln19
                          simp only [fillAt, List.foldl_cons, List.foldl_nil, Act.put, List.setIfInBounds_toArray, List.set_cons_zero, List.set_cons_succ, ln18, ln19]
                          refine Stays.plain (.int .i64 0) (by rfl) ?_ (show (_ : Value) = (bif ((0 != e) || (q != e)) then undef else (bif (decide (0 < e)) then (.int .i64 0 : Value) else undef)) from (by rw [cond_n hg0, cond_y hg1]))
                          exfalso
                          have k1 := of_decide_eq_true hg1
                          rw [Bool.or_eq_false_iff] at hg0
                          have k0 : (0 : Int) = e := by have := hg0.1; simpa using this
                          omega
                        · skip
                          rw [cond_n hg0] at ln18
                          rw [hg1] at ln18
                          simp only [fillAt, List.foldl_cons, List.foldl_nil, Act.put, List.setIfInBounds_toArray, List.set_cons_zero, List.set_cons_succ, ln18]
                          refine Stays.off (by rfl) (show (undef : Value) = (bif ((0 != e) || (q != e)) then undef else (bif (decide (0 < e)) then (.int .i64 0 : Value) else undef)) from (by rw [cond_n hg0, cond_n hg1]))
                    · intro g ws hws hl
                      have ln18 : g 164 = (bif ((0 != e) || (q != e)) then undef else (.bool (decide (0 < e)) : Value)) := linesOf_get 18 hl (by kernel_rfl)
                      have ln20 : g 166 = (bif ((0 != e) || (q != e)) then undef else (bif (decide (0 < e)) then (.int .i64 0 : Value) else undef)) := linesOf_get 20 hl (by kernel_rfl)
                      rcases Bool.eq_false_or_eq_true (((0 != e) || (q != e))) with hg0 | hg0
                      · skip
                        rw [cond_y hg0] at ln18
                        simp only [fillAt, List.foldl_cons, List.foldl_nil, Act.put, List.setIfInBounds_toArray, List.set_cons_zero, List.set_cons_succ, ln18]
                        refine Stays.off (by rfl) (show (undef : Value) = (bif ((0 != e) || (q != e)) then undef else (bif (decide (0 < e)) then (.int .i64 0 : Value) else undef)) from (by rw [cond_y hg0]))
                      · skip
                        rcases Bool.eq_false_or_eq_true ((decide (0 < e))) with hg1 | hg1
                        · skip
                          rw [cond_n hg0] at ln18
                          rw [hg1] at ln18
                          rw [cond_n hg0] at ln20
                          rw [cond_y hg1] at ln20
                          simp only [fillAt, List.foldl_cons, List.foldl_nil, Act.put, List.setIfInBounds_toArray, List.set_cons_zero, List.set_cons_succ, ln18, ln20]
                          refine Stays.plain (.int .i64 0) (by rfl) ?_ (show (_ : Value) = (bif ((0 != e) || (q != e)) then undef else (bif (decide (0 < e)) then (.int .i64 0 : Value) else undef)) from (by rw [cond_n hg0, cond_y hg1]))
                          exfalso
                          have k1 := of_decide_eq_true hg1
                          rw [Bool.or_eq_false_iff] at hg0
                          have k0 : (0 : Int) = e := by have := hg0.1; simpa using this
                          omega
                        · skip
                          rw [cond_n hg0] at ln18
                          rw [hg1] at ln18
                          simp only [fillAt, List.foldl_cons, List.foldl_nil, Act.put, List.setIfInBounds_toArray, List.set_cons_zero, List.set_cons_succ, ln18]
                          refine Stays.off (by rfl) (show (undef : Value) = (bif ((0 != e) || (q != e)) then undef else (bif (decide (0 < e)) then (.int .i64 0 : Value) else undef)) from (by rw [cond_n hg0, cond_n hg1]))
                    · intro g ws hws hl
                      have ln18 : g 164 = (bif ((0 != e) || (q != e)) then undef else (.bool (decide (0 < e)) : Value)) := linesOf_get 18 hl (by kernel_rfl)
                      have ln21 : g 167 = (bif ((0 != e) || (q != e)) then undef else (bif (decide (0 < e)) then (.int .i64 0 : Value) else undef)) := linesOf_get 21 hl (by kernel_rfl)
                      rcases Bool.eq_false_or_eq_true (((0 != e) || (q != e))) with hg0 | hg0
                      · skip
                        rw [cond_y hg0] at ln18
                        simp only [fillAt, List.foldl_cons, List.foldl_nil, Act.put, List.setIfInBounds_toArray, List.set_cons_zero, List.set_cons_succ, ln18]
                        refine Stays.off (by rfl) (show (undef : Value) = (bif ((0 != e) || (q != e)) then undef else (bif (decide (0 < e)) then (.int .i64 0 : Value) else undef)) from (by rw [cond_y hg0]))
                      · skip
                        rcases Bool.eq_false_or_eq_true ((decide (0 < e))) with hg1 | hg1
                        · skip
                          rw [cond_n hg0] at ln18
                          rw [hg1] at ln18
                          rw [cond_n hg0] at ln21
                          rw [cond_y hg1] at ln21
                          simp only [fillAt, List.foldl_cons, List.foldl_nil, Act.put, List.setIfInBounds_toArray, List.set_cons_zero, List.set_cons_succ, ln18, ln21]
                          refine Stays.plain (.int .i64 0) (by rfl) ?_ (show (_ : Value) = (bif ((0 != e) || (q != e)) then undef else (bif (decide (0 < e)) then (.int .i64 0 : Value) else undef)) from (by rw [cond_n hg0, cond_y hg1]))
                          exfalso
                          have k1 := of_decide_eq_true hg1
                          rw [Bool.or_eq_false_iff] at hg0
                          have k0 : (0 : Int) = e := by have := hg0.1; simpa using this
                          omega
                        · skip
                          rw [cond_n hg0] at ln18
                          rw [hg1] at ln18
                          simp only [fillAt, List.foldl_cons, List.foldl_nil, Act.put, List.setIfInBounds_toArray, List.set_cons_zero, List.set_cons_succ, ln18]
                          refine Stays.off (by rfl) (show (undef : Value) = (bif ((0 != e) || (q != e)) then undef else (bif (decide (0 < e)) then (.int .i64 0 : Value) else undef)) from (by rw [cond_n hg0, cond_n hg1]))
                    · intro g ws hws hl
                      have ln18 : g 164 = (bif ((0 != e) || (q != e)) then undef else (.bool (decide (0 < e)) : Value)) := linesOf_get 18 hl (by kernel_rfl)
                      rcases Bool.eq_false_or_eq_true (((0 != e) || (q != e))) with hg0 | hg0
                      · skip
                        rw [cond_y hg0] at ln18
                        simp only [fillAt, List.foldl_cons, List.foldl_nil, Act.put, List.setIfInBounds_toArray, List.set_cons_zero, List.set_cons_succ, ln18]
                        refine Stays.off (by rfl) (show (undef : Value) = (bif ((0 != e) || (q != e)) then undef else (bif (decide (0 < e)) then (.pointer (some ⟨w.heap.size, 1, none⟩) : Value) else undef)) from (by rw [cond_y hg0]))
                      · skip
                        rcases Bool.eq_false_or_eq_true ((decide (0 < e))) with hg1 | hg1
                        · skip
                          rw [cond_n hg0] at ln18
                          rw [hg1] at ln18
                          simp only [fillAt, List.foldl_cons, List.foldl_nil, Act.put, List.setIfInBounds_toArray, List.set_cons_zero, List.set_cons_succ, ln18]
                          refine Stays.plain (.pointer (some ⟨w.heap.size, 1, none⟩)) (by rfl) ?_ (show (_ : Value) = (bif ((0 != e) || (q != e)) then undef else (bif (decide (0 < e)) then (.pointer (some ⟨w.heap.size, 1, none⟩) : Value) else undef)) from (by rw [cond_n hg0, cond_y hg1]))
                          first | (go_simp; done) | (go_simp; rfl) | (go_simp; with_reducible rfl)
                        · skip
                          rw [cond_n hg0] at ln18
                          rw [hg1] at ln18
                          simp only [fillAt, List.foldl_cons, List.foldl_nil, Act.put, List.setIfInBounds_toArray, List.set_cons_zero, List.set_cons_succ, ln18]
                          refine Stays.off (by rfl) (show (undef : Value) = (bif ((0 != e) || (q != e)) then undef else (bif (decide (0 < e)) then (.pointer (some ⟨w.heap.size, 1, none⟩) : Value) else undef)) from (by rw [cond_n hg0, cond_n hg1]))
                    · intro g ws hws hl
                      have ln18 : g 164 = (bif ((0 != e) || (q != e)) then undef else (.bool (decide (0 < e)) : Value)) := linesOf_get 18 hl (by kernel_rfl)
                      have ln23 : g 169 = (bif ((0 != e) || (q != e)) then undef else (bif (decide (0 < e)) then (.pointer (some ⟨w.heap.size, 1, none⟩) : Value) else undef)) := linesOf_get 23 hl (by kernel_rfl)
                      rcases Bool.eq_false_or_eq_true (((0 != e) || (q != e))) with hg0 | hg0
                      · skip
                        rw [cond_y hg0] at ln18
                        simp only [fillAt, List.foldl_cons, List.foldl_nil, Act.put, List.setIfInBounds_toArray, List.set_cons_zero, List.set_cons_succ, ln18]
                        refine Stays.off (by rfl) (show (undef : Value) = (bif ((0 != e) || (q != e)) then undef else (bif (decide (0 < e)) then (.pointer (some ⟨w.heap.size, 3, none⟩) : Value) else undef)) from (by rw [cond_y hg0]))
                      · skip
                        rcases Bool.eq_false_or_eq_true ((decide (0 < e))) with hg1 | hg1
                        · skip
                          rw [cond_n hg0] at ln18
                          rw [hg1] at ln18
                          rw [cond_n hg0] at ln23
                          rw [cond_y hg1] at ln23
                          simp only [fillAt, List.foldl_cons, List.foldl_nil, Act.put, List.setIfInBounds_toArray, List.set_cons_zero, List.set_cons_succ, ln18, ln23]
                          refine Stays.plain (.pointer (some ⟨w.heap.size, 3, none⟩)) (by rfl) ?_ (show (_ : Value) = (bif ((0 != e) || (q != e)) then undef else (bif (decide (0 < e)) then (.pointer (some ⟨w.heap.size, 3, none⟩) : Value) else undef)) from (by rw [cond_n hg0, cond_y hg1]))
                          first | (go_simp; done) | (go_simp; rfl) | (go_simp; with_reducible rfl)
                        · skip
                          rw [cond_n hg0] at ln18
                          rw [hg1] at ln18
                          simp only [fillAt, List.foldl_cons, List.foldl_nil, Act.put, List.setIfInBounds_toArray, List.set_cons_zero, List.set_cons_succ, ln18]
                          refine Stays.off (by rfl) (show (undef : Value) = (bif ((0 != e) || (q != e)) then undef else (bif (decide (0 < e)) then (.pointer (some ⟨w.heap.size, 3, none⟩) : Value) else undef)) from (by rw [cond_n hg0, cond_n hg1]))
                    · intro g ws hws hl
                      have ln18 : g 164 = (bif ((0 != e) || (q != e)) then undef else (.bool (decide (0 < e)) : Value)) := linesOf_get 18 hl (by kernel_rfl)
                      have ln24 : g 170 = (bif ((0 != e) || (q != e)) then undef else (bif (decide (0 < e)) then (.pointer (some ⟨w.heap.size, 3, none⟩) : Value) else undef)) := linesOf_get 24 hl (by kernel_rfl)
                      rcases Bool.eq_false_or_eq_true (((0 != e) || (q != e))) with hg0 | hg0
                      · skip
                        rw [cond_y hg0] at ln18
                        simp only [fillAt, List.foldl_cons, List.foldl_nil, Act.put, List.setIfInBounds_toArray, List.set_cons_zero, List.set_cons_succ, ln18]
                        refine Stays.off (by rfl) (show (undef : Value) = (bif ((0 != e) || (q != e)) then undef else (bif (decide (0 < e)) then (.int .i64 e : Value) else undef)) from (by rw [cond_y hg0]))
                      · skip
                        rcases Bool.eq_false_or_eq_true ((decide (0 < e))) with hg1 | hg1
                        · skip
                          rw [cond_n hg0] at ln18
                          rw [hg1] at ln18
                          rw [cond_n hg0] at ln24
                          rw [cond_y hg1] at ln24
                          simp only [fillAt, List.foldl_cons, List.foldl_nil, Act.put, List.setIfInBounds_toArray, List.set_cons_zero, List.set_cons_succ, ln18, ln24]
                          obtain ⟨q0, p0⟩ := hws.row (k := w.heap.size) (by first | assumption | (simp; done) | (simp; omega) | omega)
                          refine Stays.plain (.int .i64 e) (by rfl) ?_ (show (_ : Value) = (bif ((0 != e) || (q != e)) then undef else (bif (decide (0 < e)) then (.int .i64 e : Value) else undef)) from (by rw [cond_n hg0, cond_y hg1]))
                          first | (go_simp; done) | (go_simp; rfl) | (go_simp; with_reducible rfl)
                        · skip
                          rw [cond_n hg0] at ln18
                          rw [hg1] at ln18
                          simp only [fillAt, List.foldl_cons, List.foldl_nil, Act.put, List.setIfInBounds_toArray, List.set_cons_zero, List.set_cons_succ, ln18]
                          refine Stays.off (by rfl) (show (undef : Value) = (bif ((0 != e) || (q != e)) then undef else (bif (decide (0 < e)) then (.int .i64 e : Value) else undef)) from (by rw [cond_n hg0, cond_n hg1]))
                    · intro g ws hws hl
                      have ln18 : g 164 = (bif ((0 != e) || (q != e)) then undef else (.bool (decide (0 < e)) : Value)) := linesOf_get 18 hl (by kernel_rfl)
                      have ln22 : g 168 = (bif ((0 != e) || (q != e)) then undef else (bif (decide (0 < e)) then (.int .i64 0 : Value) else undef)) := linesOf_get 22 hl (by kernel_rfl)
                      have ln25 : g 171 = (bif ((0 != e) || (q != e)) then undef else (bif (decide (0 < e)) then (.int .i64 e : Value) else undef)) := linesOf_get 25 hl (by kernel_rfl)
                      rcases Bool.eq_false_or_eq_true (((0 != e) || (q != e))) with hg0 | hg0
                      · skip
                        rw [cond_y hg0] at ln18
                        simp only [fillAt, List.foldl_cons, List.foldl_nil, Act.put, List.setIfInBounds_toArray, List.set_cons_zero, List.set_cons_succ, ln18]
                        refine Stays.off (by rfl) (show (undef : Value) = (bif ((0 != e) || (q != e)) then undef else (bif (decide (0 < e)) then (.bool (0 != e) : Value) else undef)) from (by rw [cond_y hg0]))
                      · skip
                        rcases Bool.eq_false_or_eq_true ((decide (0 < e))) with hg1 | hg1
                        · skip
                          rw [cond_n hg0] at ln18
                          rw [hg1] at ln18
                          rw [cond_n hg0] at ln22
                          rw [cond_y hg1] at ln22
                          rw [cond_n hg0] at ln25
                          rw [cond_y hg1] at ln25
                          simp only [fillAt, List.foldl_cons, List.foldl_nil, Act.put, List.setIfInBounds_toArray, List.set_cons_zero, List.set_cons_succ, ln18, ln22, ln25]
                          refine Stays.plain (.bool (0 != e)) (by rfl) ?_ (show (_ : Value) = (bif ((0 != e) || (q != e)) then undef else (bif (decide (0 < e)) then (.bool (0 != e) : Value) else undef)) from (by rw [cond_n hg0, cond_y hg1]))
                          first | (go_simp; done) | (go_simp; rfl) | (go_simp; with_reducible rfl)
                        · skip
                          rw [cond_n hg0] at ln18
                          rw [hg1] at ln18
                          simp only [fillAt, List.foldl_cons, List.foldl_nil, Act.put, List.setIfInBounds_toArray, List.set_cons_zero, List.set_cons_succ, ln18]
                          refine Stays.off (by rfl) (show (undef : Value) = (bif ((0 != e) || (q != e)) then undef else (bif (decide (0 < e)) then (.bool (0 != e) : Value) else undef)) from (by rw [cond_n hg0, cond_n hg1]))
                    · intro g ws hws hl
                      have ln13 : g 159 = .bool ((0 != e) || (q != e)) := linesOf_get 13 hl (by kernel_rfl)
                      have ln18 : g 164 = (bif ((0 != e) || (q != e)) then undef else (.bool (decide (0 < e)) : Value)) := linesOf_get 18 hl (by kernel_rfl)
                      have ln26 : g 172 = (bif ((0 != e) || (q != e)) then undef else (bif (decide (0 < e)) then (.bool (0 != e) : Value) else undef)) := linesOf_get 26 hl (by kernel_rfl)
                      rcases Bool.eq_false_or_eq_true (((0 != e) || (q != e))) with hg0 | hg0
                      · skip
                        rw [hg0] at ln13
                        simp only [fillAt, List.foldl_cons, List.foldl_nil, Act.put, List.setIfInBounds_toArray, List.set_cons_zero, List.set_cons_succ, ln13]
                        refine Stays.off (by rfl) (show (undef : Value) = (bif ((0 != e) || (q != e)) then undef else (.bool ((decide (0 < e)) && (0 != e)) : Value)) from (by rw [cond_y hg0]))
                      · skip
                        rcases Bool.eq_false_or_eq_true ((decide (0 < e))) with hp | hp
                        · skip
                          rw [hg0] at ln13
                          rw [cond_n hg0] at ln18
                          rw [hp] at ln18
                          rw [cond_n hg0] at ln26
                          rw [cond_y hp] at ln26
                          simp only [fillAt, List.foldl_cons, List.foldl_nil, Act.put, List.setIfInBounds_toArray, List.set_cons_zero, List.set_cons_succ, ln13, ln18, ln26]
                          refine Stays.plain (.bool ((decide (0 < e)) && (0 != e))) (by rfl) ?_ (show (_ : Value) = (bif ((0 != e) || (q != e)) then undef else (.bool ((decide (0 < e)) && (0 != e)) : Value)) from (by rw [cond_n hg0]))
                          first | (rw [hp]; go_simp; done) | (rw [hp]; go_simp; rfl) | (simp [hp, go_sem]; done) | (go_simp; simp [hp])
                        · skip
                          rw [hg0] at ln13
                          rw [cond_n hg0] at ln18
                          rw [hp] at ln18
                          rw [cond_n hg0] at ln26
                          simp only [fillAt, List.foldl_cons, List.foldl_nil, Act.put, List.setIfInBounds_toArray, List.set_cons_zero, List.set_cons_succ, ln13, ln18, ln26]
                          refine Stays.plain (.bool ((decide (0 < e)) && (0 != e))) (by rfl) ?_ (show (_ : Value) = (bif ((0 != e) || (q != e)) then undef else (.bool ((decide (0 < e)) && (0 != e)) : Value)) from (by rw [cond_n hg0]))
                          first | (rw [hp]; go_simp; done) | (rw [hp]; go_simp; rfl) | (simp [hp, go_sem]; done) | (go_simp; simp [hp])
                    · intro g ws hws hl
                      have ln13 : g 159 = .bool ((0 != e) || (q != e)) := linesOf_get 13 hl (by kernel_rfl)
                      have ln27 : g 173 = (bif ((0 != e) || (q != e)) then undef else (.bool ((decide (0 < e)) && (0 != e)) : Value)) := linesOf_get 27 hl (by kernel_rfl)
                      rcases Bool.eq_false_or_eq_true (((0 != e) || (q != e))) with hp | hp
                      · skip
                        rw [hp] at ln13
                        simp only [fillAt, List.foldl_cons, List.foldl_nil, Act.put, List.setIfInBounds_toArray, List.set_cons_zero, List.set_cons_succ, ln13, ln27]
                        refine Stays.plain (.bool (((0 != e) || (q != e)) || ((decide (0 < e)) && (0 != e)))) (by rfl) ?_ rfl
                        first | (rw [hp]; go_simp; done) | (rw [hp]; go_simp; rfl) | (simp [hp, go_sem]; done) | (go_simp; simp [hp])
                      · skip
                        rw [hp] at ln13
                        rw [cond_n hp] at ln27
                        simp only [fillAt, List.foldl_cons, List.foldl_nil, Act.put, List.setIfInBounds_toArray, List.set_cons_zero, List.set_cons_succ, ln13, ln27]
                        refine Stays.plain (.bool (((0 != e) || (q != e)) || ((decide (0 < e)) && (0 != e)))) (by rfl) ?_ rfl
                        first | (rw [hp]; go_simp; done) | (rw [hp]; go_simp; rfl) | (simp [hp, go_sem]; done) | (go_simp; simp [hp])
                    · intro g ws hws hl
                      have ln28 : g 174 = .bool (((0 != e) || (q != e)) || ((decide (0 < e)) && (0 != e))) := linesOf_get 28 hl (by kernel_rfl)
                      simp only [fillAt, List.foldl_cons, List.foldl_nil, Act.put, List.setIfInBounds_toArray, List.set_cons_zero, List.set_cons_succ, ln28]
                      refine Stays.plain (.bool (((0 != e) || (q != e)) || ((decide (0 < e)) && (0 != e)))) (by rfl) ?_ rfl
                      first | (go_simp; done) | (go_simp; rfl) | (go_simp; with_reducible rfl)
                    · intro g ws hws hl
                      have ln29 : g 175 = .bool (((0 != e) || (q != e)) || ((decide (0 < e)) && (0 != e))) := linesOf_get 29 hl (by kernel_rfl)
                      rcases Bool.eq_false_or_eq_true ((((0 != e) || (q != e)) || ((decide (0 < e)) && (0 != e)))) with hg0 | hg0
                      · skip
                        rw [hg0] at ln29
                        simp only [fillAt, List.foldl_cons, List.foldl_nil, Act.put, List.setIfInBounds_toArray, List.set_cons_zero, List.set_cons_succ, ln29]
                        refine Stays.off (by rfl) (show (undef : Value) = (bif (((0 != e) || (q != e)) || ((decide (0 < e)) && (0 != e))) then undef else (.pointer (some ⟨w.heap.size, 7, none⟩) : Value)) from (by rw [cond_y hg0]))
                      · skip
                        rw [hg0] at ln29
                        simp only [fillAt, List.foldl_cons, List.foldl_nil, Act.put, List.setIfInBounds_toArray, List.set_cons_zero, List.set_cons_succ, ln29]
                        refine Stays.plain (.pointer (some ⟨w.heap.size, 7, none⟩)) (by rfl) ?_ (show (_ : Value) = (bif (((0 != e) || (q != e)) || ((decide (0 < e)) && (0 != e))) then undef else (.pointer (some ⟨w.heap.size, 7, none⟩) : Value)) from (by rw [cond_n hg0]))
                        first | (go_simp; done) | (go_simp; rfl) | (go_simp; with_reducible rfl)
                    · intro g ws hws hl
                      have ln29 : g 175 = .bool (((0 != e) || (q != e)) || ((decide (0 < e)) && (0 != e))) := linesOf_get 29 hl (by kernel_rfl)
                      have ln30 : g 176 = (bif (((0 != e) || (q != e)) || ((decide (0 < e)) && (0 != e))) then undef else (.pointer (some ⟨w.heap.size, 7, none⟩) : Value)) := linesOf_get 30 hl (by kernel_rfl)
                      rcases Bool.eq_false_or_eq_true ((((0 != e) || (q != e)) || ((decide (0 < e)) && (0 != e)))) with hg0 | hg0
                      · skip
                        rw [hg0] at ln29
                        simp only [fillAt, List.foldl_cons, List.foldl_nil, Act.put, List.setIfInBounds_toArray, List.set_cons_zero, List.set_cons_succ, ln29]
                        refine Stays.off (by rfl) (show (undef : Value) = (bif (((0 != e) || (q != e)) || ((decide (0 < e)) && (0 != e))) then undef else (.slice ak k.length c4 : Value)) from (by rw [cond_y hg0]))
                      · skip
                        rw [hg0] at ln29
                        rw [cond_n hg0] at ln30
                        simp only [fillAt, List.foldl_cons, List.foldl_nil, Act.put, List.setIfInBounds_toArray, List.set_cons_zero, List.set_cons_succ, ln29, ln30]
                        obtain ⟨q0, p0⟩ := hws.row (k := w.heap.size) (by first | assumption | (simp; done) | (simp; omega) | omega)
                        refine Stays.plain (.slice ak k.length c4) (by rfl) ?_ (show (_ : Value) = (bif (((0 != e) || (q != e)) || ((decide (0 < e)) && (0 != e))) then undef else (.slice ak k.length c4 : Value)) from (by rw [cond_n hg0]))
                        first | (go_simp; done) | (go_simp; rfl) | (go_simp; with_reducible rfl)
                    · intro g ws hws hl
                      have ln29 : g 175 = .bool (((0 != e) || (q != e)) || ((decide (0 < e)) && (0 != e))) := linesOf_get 29 hl (by kernel_rfl)
                      have ln31 : g 177 = (bif (((0 != e) || (q != e)) || ((decide (0 < e)) && (0 != e))) then undef else (.slice ak k.length c4 : Value)) := linesOf_get 31 hl (by kernel_rfl)
                      rcases Bool.eq_false_or_eq_true ((((0 != e) || (q != e)) || ((decide (0 < e)) && (0 != e)))) with hg0 | hg0
                      · skip
                        rw [hg0] at ln29
                        simp only [fillAt, List.foldl_cons, List.foldl_nil, Act.put, List.setIfInBounds_toArray, List.set_cons_zero, List.set_cons_succ, ln29]
                        refine Stays.off (by rfl) (show (undef : Value) = (bif (((0 != e) || (q != e)) || ((decide (0 < e)) && (0 != e))) then undef else (.int .i64 (gapR k 0) : Value)) from (by rw [cond_y hg0]))
                      · skip
                        rw [hg0] at ln29
                        rw [cond_n hg0] at ln31
                        simp only [fillAt, List.foldl_cons, List.foldl_nil, Act.put, List.setIfInBounds_toArray, List.set_cons_zero, List.set_cons_succ, ln29, ln31]
                        refine Stays.call 85 ?_ (by rfl) ?_ ?_
                        rotate_left
                        · go_simp
                          try with_reducible rfl
                        · refine (FirstGap_spec 0 ak _ c4 k ws (hx'.out.k.ext (x5.drew.trans hws)) rfl (by omega)).mono ?_
                          rintro e w' ⟨rfl, h2⟩
                          exact ⟨_, rfl, h2, (show (_ : Value) = (bif (((0 != e) || (q != e)) || ((decide (0 < e)) && (0 != e))) then undef else (.int .i64 (gapR k 0) : Value)) from (by rw [cond_n hg0]))⟩
                    · intro g ws hws hl
                      have ln29 : g 175 = .bool (((0 != e) || (q != e)) || ((decide (0 < e)) && (0 != e))) := linesOf_get 29 hl (by kernel_rfl)
                      rcases Bool.eq_false_or_eq_true ((((0 != e) || (q != e)) || ((decide (0 < e)) && (0 != e)))) with hg0 | hg0
                      · skip
                        rw [hg0] at ln29
                        simp only [fillAt, List.foldl_cons, List.foldl_nil, Act.put, List.setIfInBounds_toArray, List.set_cons_zero, List.set_cons_succ, ln29]
                        refine Stays.off (by rfl) (show (undef : Value) = (bif (((0 != e) || (q != e)) || ((decide (0 < e)) && (0 != e))) then undef else (.pointer (some ⟨w.heap.size, 1, none⟩) : Value)) from (by rw [cond_y hg0]))
                      · skip
                        rw [hg0] at ln29
                        simp only [fillAt, List.foldl_cons, List.foldl_nil, Act.put, List.setIfInBounds_toArray, List.set_cons_zero, List.set_cons_succ, ln29]
                        refine Stays.plain (.pointer (some ⟨w.heap.size, 1, none⟩)) (by rfl) ?_ (show (_ : Value) = (bif (((0 != e) || (q != e)) || ((decide (0 < e)) && (0 != e))) then undef else (.pointer (some ⟨w.heap.size, 1, none⟩) : Value)) from (by rw [cond_n hg0]))
                        first | (go_simp; done) | (go_simp; rfl) | (go_simp; with_reducible rfl)
                    · intro g ws hws hl
                      have ln29 : g 175 = .bool (((0 != e) || (q != e)) || ((decide (0 < e)) && (0 != e))) := linesOf_get 29 hl (by kernel_rfl)
                      have ln33 : g 179 = (bif (((0 != e) || (q != e)) || ((decide (0 < e)) && (0 != e))) then undef else (.pointer (some ⟨w.heap.size, 1, none⟩) : Value)) := linesOf_get 33 hl (by kernel_rfl)
                      rcases Bool.eq_false_or_eq_true ((((0 != e) || (q != e)) || ((decide (0 < e)) && (0 != e)))) with hg0 | hg0
                      · skip
                        rw [hg0] at ln29
                        simp only [fillAt, List.foldl_cons, List.foldl_nil, Act.put, List.setIfInBounds_toArray, List.set_cons_zero, List.set_cons_succ, ln29]
                        refine Stays.off (by rfl) (show (undef : Value) = (bif (((0 != e) || (q != e)) || ((decide (0 < e)) && (0 != e))) then undef else (.pointer (some ⟨w.heap.size, 2, none⟩) : Value)) from (by rw [cond_y hg0]))
                      · skip
                        rw [hg0] at ln29
                        rw [cond_n hg0] at ln33
                        simp only [fillAt, List.foldl_cons, List.foldl_nil, Act.put, List.setIfInBounds_toArray, List.set_cons_zero, List.set_cons_succ, ln29, ln33]
                        refine Stays.plain (.pointer (some ⟨w.heap.size, 2, none⟩)) (by rfl) ?_ (show (_ : Value) = (bif (((0 != e) || (q != e)) || ((decide (0 < e)) && (0 != e))) then undef else (.pointer (some ⟨w.heap.size, 2, none⟩) : Value)) from (by rw [cond_n hg0]))
                        first | (go_simp; done) | (go_simp; rfl) | (go_simp; with_reducible rfl)
                    · intro g ws hws hl
                      have ln29 : g 175 = .bool (((0 != e) || (q != e)) || ((decide (0 < e)) && (0 != e))) := linesOf_get 29 hl (by kernel_rfl)
                      have ln34 : g 180 = (bif (((0 != e) || (q != e)) || ((decide (0 < e)) && (0 != e))) then undef else (.pointer (some ⟨w.heap.size, 2, none⟩) : Value)) := linesOf_get 34 hl (by kernel_rfl)
                      rcases Bool.eq_false_or_eq_true ((((0 != e) || (q != e)) || ((decide (0 < e)) && (0 != e)))) with hg0 | hg0
                      · skip
                        rw [hg0] at ln29
                        simp only [fillAt, List.foldl_cons, List.foldl_nil, Act.put, List.setIfInBounds_toArray, List.set_cons_zero, List.set_cons_succ, ln29]
                        refine Stays.off (by rfl) (show (undef : Value) = (bif (((0 != e) || (q != e)) || ((decide (0 < e)) && (0 != e))) then undef else (.int .i64 b : Value)) from (by rw [cond_y hg0]))
                      · skip
                        rw [hg0] at ln29
                        rw [cond_n hg0] at ln34
                        simp only [fillAt, List.foldl_cons, List.foldl_nil, Act.put, List.setIfInBounds_toArray, List.set_cons_zero, List.set_cons_succ, ln29, ln34]
                        obtain ⟨q0, p0⟩ := hws.row (k := w.heap.size) (by first | assumption | (simp; done) | (simp; omega) | omega)
                        refine Stays.plain (.int .i64 b) (by rfl) ?_ (show (_ : Value) = (bif (((0 != e) || (q != e)) || ((decide (0 < e)) && (0 != e))) then undef else (.int .i64 b : Value)) from (by rw [cond_n hg0]))
                        first | (go_simp; done) | (go_simp; rfl) | (go_simp; with_reducible rfl)
                    · intro g ws hws hl
                      have ln29 : g 175 = .bool (((0 != e) || (q != e)) || ((decide (0 < e)) && (0 != e))) := linesOf_get 29 hl (by kernel_rfl)
                      have ln32 : g 178 = (bif (((0 != e) || (q != e)) || ((decide (0 < e)) && (0 != e))) then undef else (.int .i64 (gapR k 0) : Value)) := linesOf_get 32 hl (by kernel_rfl)
                      have ln35 : g 181 = (bif (((0 != e) || (q != e)) || ((decide (0 < e)) && (0 != e))) then undef else (.int .i64 b : Value)) := linesOf_get 35 hl (by kernel_rfl)
                      rcases Bool.eq_false_or_eq_true ((((0 != e) || (q != e)) || ((decide (0 < e)) && (0 != e)))) with hg0 | hg0
                      · skip
                        rw [hg0] at ln29
                        simp only [fillAt, List.foldl_cons, List.foldl_nil, Act.put, List.setIfInBounds_toArray, List.set_cons_zero, List.set_cons_succ, ln29]
                        refine Stays.off (by rfl) (show (undef : Value) = (bif (((0 != e) || (q != e)) || ((decide (0 < e)) && (0 != e))) then undef else (.bool ((gapR k 0) != b) : Value)) from (by rw [cond_y hg0]))
                      · skip
                        rw [hg0] at ln29
                        rw [cond_n hg0] at ln32
                        rw [cond_n hg0] at ln35
                        simp only [fillAt, List.foldl_cons, List.foldl_nil, Act.put, List.setIfInBounds_toArray, List.set_cons_zero, List.set_cons_succ, ln29, ln32, ln35]
                        refine Stays.plain (.bool ((gapR k 0) != b)) (by rfl) ?_ (show (_ : Value) = (bif (((0 != e) || (q != e)) || ((decide (0 < e)) && (0 != e))) then undef else (.bool ((gapR k 0) != b) : Value)) from (by rw [cond_n hg0]))
                        first | (go_simp; done) | (go_simp; rfl) | (go_simp; with_reducible rfl)
                    · intro g ws hws hl
                      have ln29 : g 175 = .bool (((0 != e) || (q != e)) || ((decide (0 < e)) && (0 != e))) := linesOf_get 29 hl (by kernel_rfl)
                      have ln36 : g 182 = (bif (((0 != e) || (q != e)) || ((decide (0 < e)) && (0 != e))) then undef else (.bool ((gapR k 0) != b) : Value)) := linesOf_get 36 hl (by kernel_rfl)
                      rcases Bool.eq_false_or_eq_true ((((0 != e) || (q != e)) || ((decide (0 < e)) && (0 != e)))) with hp | hp
                      · skip
                        rw [hp] at ln29
                        simp only [fillAt, List.foldl_cons, List.foldl_nil, Act.put, List.setIfInBounds_toArray, List.set_cons_zero, List.set_cons_succ, ln29, ln36]
                        refine Stays.plain (.bool ((((0 != e) || (q != e)) || ((decide (0 < e)) && (0 != e))) || ((gapR k 0) != b))) (by rfl) ?_ rfl
                        first | (rw [hp]; go_simp; done) | (rw [hp]; go_simp; rfl) | (simp [hp, go_sem]; done) | (go_simp; simp [hp])
                      · skip
                        rw [hp] at ln29
                        rw [cond_n hp] at ln36
                        simp only [fillAt, List.foldl_cons, List.foldl_nil, Act.put, List.setIfInBounds_toArray, List.set_cons_zero, List.set_cons_succ, ln29, ln36]
                        refine Stays.plain (.bool ((((0 != e) || (q != e)) || ((decide (0 < e)) && (0 != e))) || ((gapR k 0) != b))) (by rfl) ?_ rfl
                        first | (rw [hp]; go_simp; done) | (rw [hp]; go_simp; rfl) | (simp [hp, go_sem]; done) | (go_simp; simp [hp])
                    · intro g ws hws hl
                      have ln37 : g 183 = .bool ((((0 != e) || (q != e)) || ((decide (0 < e)) && (0 != e))) || ((gapR k 0) != b)) := linesOf_get 37 hl (by kernel_rfl)
                      simp only [fillAt, List.foldl_cons, List.foldl_nil, Act.put, List.setIfInBounds_toArray, List.set_cons_zero, List.set_cons_succ, ln37]
                      refine Stays.plain (.bool ((((0 != e) || (q != e)) || ((decide (0 < e)) && (0 != e))) || ((gapR k 0) != b))) (by rfl) ?_ rfl
                      first | (go_simp; done) | (go_simp; rfl) | (go_simp; with_reducible rfl)
                    · intro g ws hws hl
                      have ln38 : g 184 = .bool ((((0 != e) || (q != e)) || ((decide (0 < e)) && (0 != e))) || ((gapR k 0) != b)) := linesOf_get 38 hl (by kernel_rfl)
                      rcases Bool.eq_false_or_eq_true (((((0 != e) || (q != e)) || ((decide (0 < e)) && (0 != e))) || ((gapR k 0) != b))) with hg0 | hg0
                      · skip
                        rw [hg0] at ln38
                        simp only [fillAt, List.foldl_cons, List.foldl_nil, Act.put, List.setIfInBounds_toArray, List.set_cons_zero, List.set_cons_succ, ln38]
                        refine Stays.off (by rfl) (show (undef : Value) = (bif ((((0 != e) || (q != e)) || ((decide (0 < e)) && (0 != e))) || ((gapR k 0) != b)) then undef else (.pointer (some ⟨w.heap.size, 11, none⟩) : Value)) from (by rw [cond_y hg0]))
                      · skip
                        rw [hg0] at ln38
                        simp only [fillAt, List.foldl_cons, List.foldl_nil, Act.put, List.setIfInBounds_toArray, List.set_cons_zero, List.set_cons_succ, ln38]
                        refine Stays.plain (.pointer (some ⟨w.heap.size, 11, none⟩)) (by rfl) ?_ (show (_ : Value) = (bif ((((0 != e) || (q != e)) || ((decide (0 < e)) && (0 != e))) || ((gapR k 0) != b)) then undef else (.pointer (some ⟨w.heap.size, 11, none⟩) : Value)) from (by rw [cond_n hg0]))
                        first | (go_simp; done) | (go_simp; rfl) | (go_simp; with_reducible rfl)
                    · intro g ws hws hl
                      have ln38 : g 184 = .bool ((((0 != e) || (q != e)) || ((decide (0 < e)) && (0 != e))) || ((gapR k 0) != b)) := linesOf_get 38 hl (by kernel_rfl)
                      have ln39 : g 185 = (bif ((((0 != e) || (q != e)) || ((decide (0 < e)) && (0 != e))) || ((gapR k 0) != b)) then undef else (.pointer (some ⟨w.heap.size, 11, none⟩) : Value)) := linesOf_get 39 hl (by kernel_rfl)
                      rcases Bool.eq_false_or_eq_true (((((0 != e) || (q != e)) || ((decide (0 < e)) && (0 != e))) || ((gapR k 0) != b))) with hg0 | hg0
                      · skip
                        rw [hg0] at ln38
                        simp only [fillAt, List.foldl_cons, List.foldl_nil, Act.put, List.setIfInBounds_toArray, List.set_cons_zero, List.set_cons_succ, ln38]
                        refine Stays.off (by rfl) (show (undef : Value) = (bif ((((0 != e) || (q != e)) || ((decide (0 < e)) && (0 != e))) || ((gapR k 0) != b)) then undef else (.int .i64 co : Value)) from (by rw [cond_y hg0]))
                      · skip
                        rw [hg0] at ln38
                        rw [cond_n hg0] at ln39
                        simp only [fillAt, List.foldl_cons, List.foldl_nil, Act.put, List.setIfInBounds_toArray, List.set_cons_zero, List.set_cons_succ, ln38, ln39]
                        obtain ⟨q0, p0⟩ := hws.row (k := w.heap.size) (by first | assumption | (simp; done) | (simp; omega) | omega)
                        refine Stays.plain (.int .i64 co) (by rfl) ?_ (show (_ : Value) = (bif ((((0 != e) || (q != e)) || ((decide (0 < e)) && (0 != e))) || ((gapR k 0) != b)) then undef else (.int .i64 co : Value)) from (by rw [cond_n hg0]))
                        first | (go_simp; done) | (go_simp; rfl) | (go_simp; with_reducible rfl)
                    · intro g ws hws hl
                      have ln38 : g 184 = .bool ((((0 != e) || (q != e)) || ((decide (0 < e)) && (0 != e))) || ((gapR k 0) != b)) := linesOf_get 38 hl (by kernel_rfl)
                      have ln40 : g 186 = (bif ((((0 != e) || (q != e)) || ((decide (0 < e)) && (0 != e))) || ((gapR k 0) != b)) then undef else (.int .i64 co : Value)) := linesOf_get 40 hl (by kernel_rfl)
                      rcases Bool.eq_false_or_eq_true (((((0 != e) || (q != e)) || ((decide (0 < e)) && (0 != e))) || ((gapR k 0) != b))) with hg0 | hg0
                      · skip
                        rw [hg0] at ln38
                        simp only [fillAt, List.foldl_cons, List.foldl_nil, Act.put, List.setIfInBounds_toArray, List.set_cons_zero, List.set_cons_succ, ln38]
                        refine Stays.off (by rfl) (show (undef : Value) = (bif ((((0 != e) || (q != e)) || ((decide (0 < e)) && (0 != e))) || ((gapR k 0) != b)) then undef else (.bool (co != 0) : Value)) from (by rw [cond_y hg0]))
                      · skip
                        rw [hg0] at ln38
                        rw [cond_n hg0] at ln40
                        simp only [fillAt, List.foldl_cons, List.foldl_nil, Act.put, List.setIfInBounds_toArray, List.set_cons_zero, List.set_cons_succ, ln38, ln40]
                        refine Stays.plain (.bool (co != 0)) (by rfl) ?_ (show (_ : Value) = (bif ((((0 != e) || (q != e)) || ((decide (0 < e)) && (0 != e))) || ((gapR k 0) != b)) then undef else (.bool (co != 0) : Value)) from (by rw [cond_n hg0]))
                        first | (go_simp; done) | (go_simp; rfl) | (go_simp; with_reducible rfl)
                    · intro g ws hws hl
                      have ln38 : g 184 = .bool ((((0 != e) || (q != e)) || ((decide (0 < e)) && (0 != e))) || ((gapR k 0) != b)) := linesOf_get 38 hl (by kernel_rfl)
                      have ln41 : g 187 = (bif ((((0 != e) || (q != e)) || ((decide (0 < e)) && (0 != e))) || ((gapR k 0) != b)) then undef else (.bool (co != 0) : Value)) := linesOf_get 41 hl (by kernel_rfl)
                      rcases Bool.eq_false_or_eq_true (((((0 != e) || (q != e)) || ((decide (0 < e)) && (0 != e))) || ((gapR k 0) != b))) with hp | hp
                      · skip
                        rw [hp] at ln38
                        simp only [fillAt, List.foldl_cons, List.foldl_nil, Act.put, List.setIfInBounds_toArray, List.set_cons_zero, List.set_cons_succ, ln38, ln41]
                        refine Stays.plain (.bool (((((0 != e) || (q != e)) || ((decide (0 < e)) && (0 != e))) || ((gapR k 0) != b)) || (co != 0))) (by rfl) ?_ rfl
                        first | (rw [hp]; go_simp; done) | (rw [hp]; go_simp; rfl) | (simp [hp, go_sem]; done) | (go_simp; simp [hp])
                      · skip
                        rw [hp] at ln38
                        rw [cond_n hp] at ln41
                        simp only [fillAt, List.foldl_cons, List.foldl_nil, Act.put, List.setIfInBounds_toArray, List.set_cons_zero, List.set_cons_succ, ln38, ln41]
                        refine Stays.plain (.bool (((((0 != e) || (q != e)) || ((decide (0 < e)) && (0 != e))) || ((gapR k 0) != b)) || (co != 0))) (by rfl) ?_ rfl
                        first | (rw [hp]; go_simp; done) | (rw [hp]; go_simp; rfl) | (simp [hp, go_sem]; done) | (go_simp; simp [hp])
                  · intro g w6 hw6 hl
                    have ln0 : g 146 = .slice ao1 ([] : List Rg).length ca1 := (allLines_get 146 0 0 hl rfl)
                    have ln1 : g 147 = .int .i64 0 := (allLines_get 147 1 0 hl rfl)
                    have ln2 : g 148 = .pointer (some ⟨w.heap.size, 1, none⟩) := (allLines_get 148 2 0 hl rfl)
                    have ln3 : g 149 = .pointer (some ⟨w.heap.size, 3, none⟩) := (allLines_get 149 3 0 hl rfl)
                    have ln4 : g 150 = .int .i64 e := (allLines_get 150 4 0 hl rfl)
                    have ln5 : g 151 = .bool (0 != e) := (allLines_get 151 5 0 hl rfl)
                    have ln6 : g 152 = .bool (0 != e) := (allLines_get 152 6 0 hl rfl)
                    have ln12 : g 158 = .bool ((0 != e) || (q != e)) := (allLines_get 158 12 0 hl rfl)
                    have ln13 : g 159 = .bool ((0 != e) || (q != e)) := (allLines_get 159 13 0 hl rfl)
                    have ln28 : g 174 = .bool (((0 != e) || (q != e)) || ((decide (0 < e)) && (0 != e))) := (allLines_get 174 28 0 hl rfl)
                    have ln29 : g 175 = .bool (((0 != e) || (q != e)) || ((decide (0 < e)) && (0 != e))) := (allLines_get 175 29 0 hl rfl)
                    have ln37 : g 183 = .bool ((((0 != e) || (q != e)) || ((decide (0 < e)) && (0 != e))) || ((gapR k 0) != b)) := (allLines_get 183 37 0 hl rfl)
                    have ln38 : g 184 = .bool ((((0 != e) || (q != e)) || ((decide (0 < e)) && (0 != e))) || ((gapR k 0) != b)) := (allLines_get 184 38 0 hl rfl)
                    have ln42 : g 188 = .bool (((((0 != e) || (q != e)) || ((decide (0 < e)) && (0 != e))) || ((gapR k 0) != b)) || (co != 0)) := (allLines_get 188 42 0 hl rfl)
                    clear hl
                    simp only [fillAt, List.foldl_cons, List.foldl_nil, Act.put, List.setIfInBounds_toArray, List.set_cons_zero, List.set_cons_succ, ln0, ln1, ln2, ln3, ln4, ln5, ln6, ln12, ln13, ln28, ln29, ln37, ln38, ln42]
                    have h56 : Ext w5 w6 := (Ext.refl _).drew.trans hw6
                    have x6 : Ext w w6 := x5.trans h56
                    clear hw6
                    clear bw5_0 bw5_1 bw5_2 bw5_3 bw5_4 bw5_5 bw5_6 bw5_7 bw5_8 bw5_9 bw5_10 bw5_11 bw5_F
                    have hB_w6 := hide (hB_w5.out.ext h56)
                    have bw6_0 := hB_w6.out.c 0 _ rfl
                    have bw6_1 := hB_w6.out.c 1 _ rfl
                    have bw6_2 := hB_w6.out.c 2 _ rfl
                    have bw6_3 := hB_w6.out.c 3 _ rfl
                    have bw6_4 := hB_w6.out.c 4 _ rfl
                    have bw6_5 := hB_w6.out.c 5 _ rfl
                    have bw6_6 := hB_w6.out.c 6 _ rfl
                    have bw6_7 := hB_w6.out.c 7 _ rfl
                    have bw6_8 := hB_w6.out.c 8 _ rfl
                    have bw6_9 := hB_w6.out.c 9 _ rfl
                    have bw6_10 := hB_w6.out.c 10 _ rfl
                    have bw6_11 := hB_w6.out.c 11 _ rfl
                    have bw6_F := hB_w6.out.fr
                    have kb_w6 : w.heap.size < w6.heap.size := by have := h56.size; omega
                    generalize hc1 : (((((0 != e) || (q != e)) || ((decide (0 < e)) && (0 != e))) || ((gapR k 0) != b)) || (co != 0)) = cc
                    replace hc1 := hide hc1
                    rw [show ((((((cntR ([] : List Rg) != e) || (q != e)) || (decide (0 < e) && ((([] : List Rg).getD 0 dr).2 != e))) || (gapR k 0 != b)) || (co != 0))) = cc from (by rw [← hc1.out]; rfl)] at hT
                    cases cc
                    rotate_left
                    · have hRv : Hid (R = false) := hide (by rw [hT.out]; rfl)
                      go_wp2
                      go_ret
                      exact ⟨by (rw [hRv.out]) <;> rfl, x6⟩
                    rw [Bool.not_false, Bool.true_and] at hT
                    replace hT : R = _ := hT
                    go_wp2_with fail
                    go_loopw [7] (fun i wu => ∃ (j : Nat), i = .int .i64 j ∧ j ≤ f.length ∧ Hid (topB (f.take j) se = true) ∧ Ext w6 wu) (fun i _ => f.length - (intOf i).toNat)
                    case atStart => exact ⟨0, rfl, Nat.zero_le _, hide rfl, Ext.refl _⟩
                    case round =>
                      obtain ⟨wu, rfl⟩ : ∃ x, x = wr := ⟨_, rfl⟩
                      clear bw6_0 bw6_1 bw6_2 bw6_3 bw6_4 bw6_5 bw6_6 bw6_7 bw6_8 bw6_9 bw6_10 bw6_11 bw6_F
                      obtain ⟨j, rfl, hj, hB, hg⟩ := hrel
                      have xrwu : Ext w wu := x6.trans hg
                      have hB_wu := hide (hB_w6.out.ext hg)
                      have bwu_0 := hB_wu.out.c 0 _ rfl
                      have bwu_1 := hB_wu.out.c 1 _ rfl
                      have bwu_2 := hB_wu.out.c 2 _ rfl
                      have bwu_3 := hB_wu.out.c 3 _ rfl
                      have bwu_4 := hB_wu.out.c 4 _ rfl
                      have bwu_5 := hB_wu.out.c 5 _ rfl
                      have bwu_6 := hB_wu.out.c 6 _ rfl
                      have bwu_7 := hB_wu.out.c 7 _ rfl
                      have bwu_8 := hB_wu.out.c 8 _ rfl
                      have bwu_9 := hB_wu.out.c 9 _ rfl
                      have bwu_10 := hB_wu.out.c 10 _ rfl
                      have bwu_11 := hB_wu.out.c 11 _ rfl
                      have bwu_F := hB_wu.out.fr
                      have kb_wu : w.heap.size < wu.heap.size := by have := hg.size; omega
                      by_cases hlt : j < f.length
                      · skip
                        have hxq : ReadR w af f := hx'.out.f
                        rcases hxq with hnil | ⟨bx, off, rfl, hx⟩
                        · rw [hnil] at hlt; simp at hlt
                        obtain ⟨cx, cx2⟩ := hx j hlt
                        have la : bx < w.heap.size := World.block_lt_of_cell? w _ cx
                        have hr := (xrwu.row la).1
                        have dx := (hr _).trans cx
                        have dx2 := (hr _).trans cx2
                        have i1 : (0 : Int) ≤ (j : Int) := by omega
                        have i2 : (j : Int) < (f.length : Int) := by omega
                        have lw : bx < wu.heap.size := by omega
                        have hst := hide (topB_succ (m := se) hlt)
                        have hno := fun h => hide (topB_no (m := se) hlt h)
                        rw [hB.out] at hst
                        obtain ⟨⟨x1, x2⟩, hx0⟩ : ∃ x : Rg, Hid (f.getD j dr = x) := ⟨_, hide rfl⟩
                        rw [hx0.out] at dx dx2 hst hno
                        dsimp only at dx dx2 hst hno
                        clear hx cx cx2 hr hx0 hB
                        by_cases t1 : x2 ≤ se
                        · have t1e : decide (se < x2) = false := decide_eq_false (by omega)
                          have hst2 := hide (hst.out.trans (by rw [decide_eq_true t1]))
                          clear hst hno
                          go_wp2_with fail
                          refine wp_region_seq (Ext _) (by kernel_rfl) (by kernel_rfl) ((Ext.refl _).drew) ?_
                          iterate 9 (((first | (refine wpSeqS_plain (v := ?_) rfl (by rfl) ?_ ?_; rotate_left; (focus (intro ws hws; obtain ⟨q0, p0⟩ := hws.row (k := w.heap.size) (by first | assumption | (simp; done) | (simp; omega) | omega); obtain ⟨q1, p1⟩ := hws.row (k := bx) (by first | assumption | (simp; done) | (simp; omega) | omega); go_simp; (try with_reducible rfl); done))) | fail)); (try simp only [Act.put, List.getElem_toArray, List.getElem_cons_zero, List.getElem_cons_succ, List.setIfInBounds_toArray, List.set_cons_zero, List.set_cons_succ]))
                          refine wpSeqS_done (by kernel_rfl) (fun ws hws => ?_)
                          go_wp2
                          go_roundw
                          case rel => exact ⟨j + 1, by go_num, by omega, hst2, hg.trans hws⟩
                          case measure => simp [intOf]; omega
                        · have t1e : decide (se < x2) = true := decide_eq_true (by omega)
                          have hfb := hno t1
                          have hRv : Hid (R = false) := hide (by rw [hT, hfb.out]; rfl)
                          clear hst hno hfb
                          replace hT := hide hT
                          go_wp2_with fail
                          refine wp_region_seq (Ext _) (by kernel_rfl) (by kernel_rfl) ((Ext.refl _).drew) ?_
                          iterate 9 (((first | (refine wpSeqS_plain (v := ?_) rfl (by rfl) ?_ ?_; rotate_left; (focus (intro ws hws; obtain ⟨q0, p0⟩ := hws.row (k := w.heap.size) (by first | assumption | (simp; done) | (simp; omega) | omega); obtain ⟨q1, p1⟩ := hws.row (k := bx) (by first | assumption | (simp; done) | (simp; omega) | omega); go_simp; (try with_reducible rfl); done))) | fail)); (try simp only [Act.put, List.getElem_toArray, List.getElem_cons_zero, List.getElem_cons_succ, List.setIfInBounds_toArray, List.set_cons_zero, List.set_cons_succ]))
                          refine wpSeqS_done (by kernel_rfl) (fun ws hws => ?_)
                          go_wp2
                          go_ret
                          exact ⟨by (rw [hRv.out]) <;> rfl, xrwu.trans hws⟩
                      · obtain rfl : j = f.length := by omega
                        rw [List.take_length] at hB
                        rw [hB.out, Bool.true_and] at hT
                        clear hB hlt hj
                        go_wp2_with fail
                        go_loopw [8] (fun i wv => ∃ (j : Nat), i = .int .i64 j ∧ j ≤ k.length ∧ Hid (topB (k.take j) se = true) ∧ Ext wu wv) (fun i _ => k.length - (intOf i).toNat)
                        case atStart => exact ⟨0, rfl, Nat.zero_le _, hide rfl, Ext.refl _⟩
                        case round =>
                          obtain ⟨wv, rfl⟩ : ∃ x, x = wr := ⟨_, rfl⟩
                          clear bwu_0 bwu_1 bwu_2 bwu_3 bwu_4 bwu_5 bwu_6 bwu_7 bwu_8 bwu_9 bwu_10 bwu_11 bwu_F
                          obtain ⟨j, rfl, hj, hB, hg⟩ := hrel
                          have xrwv : Ext w wv := xrwu.trans hg
                          have hB_wv := hide (hB_wu.out.ext hg)
                          have bwv_0 := hB_wv.out.c 0 _ rfl
                          have bwv_1 := hB_wv.out.c 1 _ rfl
                          have bwv_2 := hB_wv.out.c 2 _ rfl
                          have bwv_3 := hB_wv.out.c 3 _ rfl
                          have bwv_4 := hB_wv.out.c 4 _ rfl
                          have bwv_5 := hB_wv.out.c 5 _ rfl
                          have bwv_6 := hB_wv.out.c 6 _ rfl
                          have bwv_7 := hB_wv.out.c 7 _ rfl
                          have bwv_8 := hB_wv.out.c 8 _ rfl
                          have bwv_9 := hB_wv.out.c 9 _ rfl
                          have bwv_10 := hB_wv.out.c 10 _ rfl
                          have bwv_11 := hB_wv.out.c 11 _ rfl
                          have bwv_F := hB_wv.out.fr
                          have kb_wv : w.heap.size < wv.heap.size := by have := hg.size; omega
                          by_cases hlt : j < k.length
                          · skip
                            have hxq : ReadR w ak k := hx'.out.k
                            rcases hxq with hnil | ⟨bx, off, rfl, hx⟩
                            · rw [hnil] at hlt; simp at hlt
                            obtain ⟨cx, cx2⟩ := hx j hlt
                            have la : bx < w.heap.size := World.block_lt_of_cell? w _ cx
                            have hr := (xrwv.row la).1
                            have dx := (hr _).trans cx
                            have dx2 := (hr _).trans cx2
                            have i1 : (0 : Int) ≤ (j : Int) := by omega
                            have i2 : (j : Int) < (k.length : Int) := by omega
                            have lw : bx < wv.heap.size := by omega
                            have hst := hide (topB_succ (m := se) hlt)
                            have hno := fun h => hide (topB_no (m := se) hlt h)
                            rw [hB.out] at hst
                            obtain ⟨⟨x1, x2⟩, hx0⟩ : ∃ x : Rg, Hid (k.getD j dr = x) := ⟨_, hide rfl⟩
                            rw [hx0.out] at dx dx2 hst hno
                            dsimp only at dx dx2 hst hno
                            clear hx cx cx2 hr hx0 hB
                            by_cases t1 : x2 ≤ se
                            · have t1e : decide (se < x2) = false := decide_eq_false (by omega)
                              have hst2 := hide (hst.out.trans (by rw [decide_eq_true t1]))
                              clear hst hno
                              go_wp2_with fail
                              refine wp_region_seq (Ext _) (by kernel_rfl) (by kernel_rfl) ((Ext.refl _).drew) ?_
                              iterate 9 (((first | (refine wpSeqS_plain (v := ?_) rfl (by rfl) ?_ ?_; rotate_left; (focus (intro ws hws; obtain ⟨q0, p0⟩ := hws.row (k := w.heap.size) (by first | assumption | (simp; done) | (simp; omega) | omega); obtain ⟨q1, p1⟩ := hws.row (k := bx) (by first | assumption | (simp; done) | (simp; omega) | omega); go_simp; (try with_reducible rfl); done))) | fail)); (try simp only [Act.put, List.getElem_toArray, List.getElem_cons_zero, List.getElem_cons_succ, List.setIfInBounds_toArray, List.set_cons_zero, List.set_cons_succ]))
                              refine wpSeqS_done (by kernel_rfl) (fun ws hws => ?_)
                              go_wp2
                              go_roundw
                              case rel => exact ⟨j + 1, by go_num, by omega, hst2, hg.trans hws⟩
                              case measure => simp [intOf]; omega
                            · have t1e : decide (se < x2) = true := decide_eq_true (by omega)
                              have hfb := hno t1
                              have hRv : Hid (R = false) := hide (by rw [hT, hfb.out]; rfl)
                              clear hst hno hfb
                              replace hT := hide hT
                              go_wp2_with fail
                              refine wp_region_seq (Ext _) (by kernel_rfl) (by kernel_rfl) ((Ext.refl _).drew) ?_
                              iterate 9 (((first | (refine wpSeqS_plain (v := ?_) rfl (by rfl) ?_ ?_; rotate_left; (focus (intro ws hws; obtain ⟨q0, p0⟩ := hws.row (k := w.heap.size) (by first | assumption | (simp; done) | (simp; omega) | omega); obtain ⟨q1, p1⟩ := hws.row (k := bx) (by first | assumption | (simp; done) | (simp; omega) | omega); go_simp; (try with_reducible rfl); done))) | fail)); (try simp only [Act.put, List.getElem_toArray, List.getElem_cons_zero, List.getElem_cons_succ, List.setIfInBounds_toArray, List.set_cons_zero, List.set_cons_succ]))
                              refine wpSeqS_done (by kernel_rfl) (fun ws hws => ?_)
                              go_wp2
                              go_ret
                              exact ⟨by (rw [hRv.out]) <;> rfl, xrwv.trans hws⟩
                          · obtain rfl : j = k.length := by omega
                            rw [List.take_length] at hB
                            rw [hB.out, Bool.true_and] at hT
                            clear hB hlt hj
                            by_cases u1 : fk = 0
                            · have u1e : (fk == 0) = true := by simp [u1]
                              by_cases u2 : fi = -1
                              · have u2e : (fi == -1) = true := by simp [u2]
                                have u2n : (fi != -1) = false := by simp [u2]
                                have hRv : Hid (R = (st == stS st b e fk se)) := hide (by rw [hT, beq_dec]; simp [u1, u2])
                                replace hT := hide hT
                                replace u1 := hide u1
                                replace u2 := hide u2
                                go_wp2_with fail
                                refine wp_region_linesA [Line.is (.pointer (some ⟨w.heap.size, 0, none⟩)), Line.is (.int .i64 st), Line.is (.agg #[.int .i64 st, .int .i64 z, .int .i64 b, .int .i64 e, .slice ar xs.length c1, .slice ap p.length c2, .slice af f.length c3, .slice ak k.length c4, .int .i64 fi, .int .i64 fk, .int .i64 se, .int .i64 co]), Line.is (.int .i64 (stS st b e fk se)), Line.is (.bool (st == (stS st b e fk se))), Line.is (.bool (st == (stS st b e fk se)))] [241, 242, 243, 244, 245, 2] ?_ ?_ (by kernel_rfl) (by kernel_rfl) (by kernel_rfl) (by kernel_rfl) (by kernel_rfl) ?_ ?_
                                rotate_left
                                · intro g
                                  simp only [fillAt, List.foldl_cons, List.foldl_nil, Act.put, List.setIfInBounds_toArray, List.set_cons_zero, List.set_cons_succ]
                                  exact rfl
                                · refine Each.cons ?_ (Each.cons ?_ (Each.cons ?_ (Each.cons ?_ (Each.cons ?_ (Each.cons ?_ (Each.nil))))))
                                  · intro g ws hws hl
                                    (try simp only [fillAt, List.foldl_cons, List.foldl_nil, Act.put, List.setIfInBounds_toArray, List.set_cons_zero, List.set_cons_succ])
                                    refine Stays.plain (.pointer (some ⟨w.heap.size, 0, none⟩)) (by rfl) ?_ rfl
                                    first | (go_simp; done) | (go_simp; rfl) | (go_simp; with_reducible rfl)
                                  · intro g ws hws hl
                                    have ln0 : g 241 = .pointer (some ⟨w.heap.size, 0, none⟩) := linesOf_get 0 hl (by kernel_rfl)
                                    simp only [fillAt, List.foldl_cons, List.foldl_nil, Act.put, List.setIfInBounds_toArray, List.set_cons_zero, List.set_cons_succ, ln0]
                                    obtain ⟨q0, p0⟩ := hws.row (k := w.heap.size) (by first | assumption | (simp; done) | (simp; omega) | omega)
                                    refine Stays.plain (.int .i64 st) (by rfl) ?_ rfl
                                    first | (go_simp; done) | (go_simp; rfl) | (go_simp; with_reducible rfl)
                                  · intro g ws hws hl
                                    (try simp only [fillAt, List.foldl_cons, List.foldl_nil, Act.put, List.setIfInBounds_toArray, List.set_cons_zero, List.set_cons_succ])
                                    obtain ⟨q0, p0⟩ := hws.row (k := w.heap.size) (by first | assumption | (simp; done) | (simp; omega) | omega)
                                    refine Stays.plain (.agg #[.int .i64 st, .int .i64 z, .int .i64 b, .int .i64 e, .slice ar xs.length c1, .slice ap p.length c2, .slice af f.length c3, .slice ak k.length c4, .int .i64 fi, .int .i64 fk, .int .i64 se, .int .i64 co]) (by rfl) ?_ rfl
                                    first | (go_simp; done) | (go_simp; rfl) | (go_simp; with_reducible rfl)
                                  · intro g ws hws hl
                                    have ln2 : g 243 = .agg #[.int .i64 st, .int .i64 z, .int .i64 b, .int .i64 e, .slice ar xs.length c1, .slice ap p.length c2, .slice af f.length c3, .slice ak k.length c4, .int .i64 fi, .int .i64 fk, .int .i64 se, .int .i64 co] := linesOf_get 2 hl (by kernel_rfl)
                                    simp only [fillAt, List.foldl_cons, List.foldl_nil, Act.put, List.setIfInBounds_toArray, List.set_cons_zero, List.set_cons_succ, ln2]
                                    refine Stays.call 86 ?_ (by rfl) ?_ ?_
                                    rotate_left
                                    · go_simp
                                      try with_reducible rfl
                                    · refine (state_spec ⟨st, z, b, e, xs, p, f, k, fi, fk, se, co⟩ ⟨ar, ap, af, ak⟩ c1 c2 c3 c4 ws).mono ?_
                                      rintro e w' ⟨rfl, h2⟩
                                      exact ⟨_, rfl, h2, rfl⟩
                                  · intro g ws hws hl
                                    have ln1 : g 242 = .int .i64 st := linesOf_get 1 hl (by kernel_rfl)
                                    have ln3 : g 244 = .int .i64 (stS st b e fk se) := linesOf_get 3 hl (by kernel_rfl)
                                    simp only [fillAt, List.foldl_cons, List.foldl_nil, Act.put, List.setIfInBounds_toArray, List.set_cons_zero, List.set_cons_succ, ln1, ln3]
                                    refine Stays.plain (.bool (st == (stS st b e fk se))) (by rfl) ?_ rfl
                                    first | (go_simp; done) | (go_simp; rfl) | (go_simp; with_reducible rfl)
                                  · intro g ws hws hl
                                    have ln4 : g 245 = .bool (st == (stS st b e fk se)) := linesOf_get 4 hl (by kernel_rfl)
                                    simp only [fillAt, List.foldl_cons, List.foldl_nil, Act.put, List.setIfInBounds_toArray, List.set_cons_zero, List.set_cons_succ, ln4]
                                    refine Stays.plain (.bool (st == (stS st b e fk se))) (by rfl) ?_ rfl
                                    first | (go_simp; done) | (go_simp; rfl) | (go_simp; with_reducible rfl)
                                · intro g w9 hw9 hl
                                  have ln0 : g 241 = .pointer (some ⟨w.heap.size, 0, none⟩) := (allLines_get 241 0 0 hl rfl)
                                  have ln1 : g 242 = .int .i64 st := (allLines_get 242 1 0 hl rfl)
                                  have ln2 : g 243 = .agg #[.int .i64 st, .int .i64 z, .int .i64 b, .int .i64 e, .slice ar xs.length c1, .slice ap p.length c2, .slice af f.length c3, .slice ak k.length c4, .int .i64 fi, .int .i64 fk, .int .i64 se, .int .i64 co] := (allLines_get 243 2 0 hl rfl)
                                  have ln3 : g 244 = .int .i64 (stS st b e fk se) := (allLines_get 244 3 0 hl rfl)
                                  have ln4 : g 245 = .bool (st == (stS st b e fk se)) := (allLines_get 245 4 0 hl rfl)
                                  have ln5 : g 2 = .bool (st == (stS st b e fk se)) := (allLines_get 2 5 0 hl rfl)
                                  clear hl
                                  simp only [fillAt, List.foldl_cons, List.foldl_nil, Act.put, List.setIfInBounds_toArray, List.set_cons_zero, List.set_cons_succ, ln0, ln1, ln2, ln3, ln4, ln5]
                                  go_wp2
                                  go_ret
                                  exact ⟨by (rw [hRv.out]) <;> rfl, xrwv.trans ((Ext.refl _).drew.trans hw9)⟩
                              · have u2e : (fi == -1) = false := by simp [u2]
                                have u2n : (fi != -1) = true := by simp [u2]
                                have hRv : Hid (R = false) := hide (by rw [hT]; simp [u1, u2])
                                replace hT := hide hT
                                replace u1 := hide u1
                                replace u2 := hide u2
                                go_wp2
                                go_ret
                                exact ⟨by (rw [hRv.out]) <;> rfl, xrwv⟩
                            · have u1e : (fk == 0) = false := by simp [u1]
                              by_cases u2 : fi = -1
                              · have u2e : (fi == -1) = true := by simp [u2]
                                have u2n : (fi != -1) = false := by simp [u2]
                                have hRv : Hid (R = false) := hide (by rw [hT]; simp [u1, u2])
                                replace hT := hide hT
                                replace u1 := hide u1
                                replace u2 := hide u2
                                go_wp2
                                go_ret
                                exact ⟨by (rw [hRv.out]) <;> rfl, xrwv⟩
                              · have u2e : (fi == -1) = false := by simp [u2]
                                have u2n : (fi != -1) = true := by simp [u2]
                                by_cases u3 : fi = e
                                · have u3n : (fi != e) = false := by simp [u3]
                                  have hem : ¬ e = -1 := by omega
                                  have hRv : Hid (R = (st == stS st b e fk se)) := hide (by rw [hT, beq_dec]; simp [u1, u2, u3, hem])
                                  replace hT := hide hT
                                  replace u1 := hide u1
                                  replace u2 := hide u2
                                  replace u3 := hide u3
                                  replace hem := hide hem
                                  go_wp2_with fail
                                  refine wp_region_linesA [Line.is (.pointer (some ⟨w.heap.size, 0, none⟩)), Line.is (.int .i64 st), Line.is (.agg #[.int .i64 st, .int .i64 z, .int .i64 b, .int .i64 e, .slice ar xs.length c1, .slice ap p.length c2, .slice af f.length c3, .slice ak k.length c4, .int .i64 fi, .int .i64 fk, .int .i64 se, .int .i64 co]), Line.is (.int .i64 (stS st b e fk se)), Line.is (.bool (st == (stS st b e fk se))), Line.is (.bool (st == (stS st b e fk se)))] [241, 242, 243, 244, 245, 2] ?_ ?_ (by kernel_rfl) (by kernel_rfl) (by kernel_rfl) (by kernel_rfl) (by kernel_rfl) ?_ ?_
                                  rotate_left
                                  · intro g
                                    simp only [fillAt, List.foldl_cons, List.foldl_nil, Act.put, List.setIfInBounds_toArray, List.set_cons_zero, List.set_cons_succ]
                                    exact rfl
                                  · refine Each.cons ?_ (Each.cons ?_ (Each.cons ?_ (Each.cons ?_ (Each.cons ?_ (Each.cons ?_ (Each.nil))))))
                                    · intro g ws hws hl
                                      (try simp only [fillAt, List.foldl_cons, List.foldl_nil, Act.put, List.setIfInBounds_toArray, List.set_cons_zero, List.set_cons_succ])
                                      refine Stays.plain (.pointer (some ⟨w.heap.size, 0, none⟩)) (by rfl) ?_ rfl
                                      first | (go_simp; done) | (go_simp; rfl) | (go_simp; with_reducible rfl)
                                    · intro g ws hws hl
                                      have ln0 : g 241 = .pointer (some ⟨w.heap.size, 0, none⟩) := linesOf_get 0 hl (by kernel_rfl)
                                      simp only [fillAt, List.foldl_cons, List.foldl_nil, Act.put, List.setIfInBounds_toArray, List.set_cons_zero, List.set_cons_succ, ln0]
                                      obtain ⟨q0, p0⟩ := hws.row (k := w.heap.size) (by first | assumption | (simp; done) | (simp; omega) | omega)
                                      refine Stays.plain (.int .i64 st) (by rfl) ?_ rfl
                                      first | (go_simp; done) | (go_simp; rfl) | (go_simp; with_reducible rfl)
                                    · intro g ws hws hl
                                      (try simp only [fillAt, List.foldl_cons, List.foldl_nil, Act.put, List.setIfInBounds_toArray, List.set_cons_zero, List.set_cons_succ])
                                      obtain ⟨q0, p0⟩ := hws.row (k := w.heap.size) (by first | assumption | (simp; done) | (simp; omega) | omega)
                                      refine Stays.plain (.agg #[.int .i64 st, .int .i64 z, .int .i64 b, .int .i64 e, .slice ar xs.length c1, .slice ap p.length c2, .slice af f.length c3, .slice ak k.length c4, .int .i64 fi, .int .i64 fk, .int .i64 se, .int .i64 co]) (by rfl) ?_ rfl
                                      first | (go_simp; done) | (go_simp; rfl) | (go_simp; with_reducible rfl)
                                    · intro g ws hws hl
                                      have ln2 : g 243 = .agg #[.int .i64 st, .int .i64 z, .int .i64 b, .int .i64 e, .slice ar xs.length c1, .slice ap p.length c2, .slice af f.length c3, .slice ak k.length c4, .int .i64 fi, .int .i64 fk, .int .i64 se, .int .i64 co] := linesOf_get 2 hl (by kernel_rfl)
                                      simp only [fillAt, List.foldl_cons, List.foldl_nil, Act.put, List.setIfInBounds_toArray, List.set_cons_zero, List.set_cons_succ, ln2]
                                      refine Stays.call 86 ?_ (by rfl) ?_ ?_
                                      rotate_left
                                      · go_simp
                                        try with_reducible rfl
                                      · refine (state_spec ⟨st, z, b, e, xs, p, f, k, fi, fk, se, co⟩ ⟨ar, ap, af, ak⟩ c1 c2 c3 c4 ws).mono ?_
                                        rintro e w' ⟨rfl, h2⟩
                                        exact ⟨_, rfl, h2, rfl⟩
                                    · intro g ws hws hl
                                      have ln1 : g 242 = .int .i64 st := linesOf_get 1 hl (by kernel_rfl)
                                      have ln3 : g 244 = .int .i64 (stS st b e fk se) := linesOf_get 3 hl (by kernel_rfl)
                                      simp only [fillAt, List.foldl_cons, List.foldl_nil, Act.put, List.setIfInBounds_toArray, List.set_cons_zero, List.set_cons_succ, ln1, ln3]
                                      refine Stays.plain (.bool (st == (stS st b e fk se))) (by rfl) ?_ rfl
                                      first | (go_simp; done) | (go_simp; rfl) | (go_simp; with_reducible rfl)
                                    · intro g ws hws hl
                                      have ln4 : g 245 = .bool (st == (stS st b e fk se)) := linesOf_get 4 hl (by kernel_rfl)
                                      simp only [fillAt, List.foldl_cons, List.foldl_nil, Act.put, List.setIfInBounds_toArray, List.set_cons_zero, List.set_cons_succ, ln4]
                                      refine Stays.plain (.bool (st == (stS st b e fk se))) (by rfl) ?_ rfl
                                      first | (go_simp; done) | (go_simp; rfl) | (go_simp; with_reducible rfl)
                                  · intro g w9 hw9 hl
                                    have ln0 : g 241 = .pointer (some ⟨w.heap.size, 0, none⟩) := (allLines_get 241 0 0 hl rfl)
                                    have ln1 : g 242 = .int .i64 st := (allLines_get 242 1 0 hl rfl)
                                    have ln2 : g 243 = .agg #[.int .i64 st, .int .i64 z, .int .i64 b, .int .i64 e, .slice ar xs.length c1, .slice ap p.length c2, .slice af f.length c3, .slice ak k.length c4, .int .i64 fi, .int .i64 fk, .int .i64 se, .int .i64 co] := (allLines_get 243 2 0 hl rfl)
                                    have ln3 : g 244 = .int .i64 (stS st b e fk se) := (allLines_get 244 3 0 hl rfl)
                                    have ln4 : g 245 = .bool (st == (stS st b e fk se)) := (allLines_get 245 4 0 hl rfl)
                                    have ln5 : g 2 = .bool (st == (stS st b e fk se)) := (allLines_get 2 5 0 hl rfl)
                                    clear hl
                                    simp only [fillAt, List.foldl_cons, List.foldl_nil, Act.put, List.setIfInBounds_toArray, List.set_cons_zero, List.set_cons_succ, ln0, ln1, ln2, ln3, ln4, ln5]
                                    go_wp2
                                    go_ret
                                    exact ⟨by (rw [hRv.out]) <;> rfl, xrwv.trans ((Ext.refl _).drew.trans hw9)⟩
                                · have u3n : (fi != e) = true := by simp [u3]
                                  have hem : ¬ e = -1 := by omega
                                  have hRv : Hid (R = false) := hide (by rw [hT]; simp [u1, u2, u3])
                                  clear hem
                                  replace hT := hide hT
                                  replace u1 := hide u1
                                  replace u2 := hide u2
                                  replace u3 := hide u3
                                  go_wp2
                                  go_ret
                                  exact ⟨by (rw [hRv.out]) <;> rfl, xrwv⟩
                · skip
                  have hLp : 0 < L.length := by rcases L with _ | ⟨x, xs'⟩; exact absurd rfl hL0; simp
                  rcases hr5.out with hh | ⟨bl, ol, rfl, hxl⟩
                  · exact absurd hh hL0
                  obtain ⟨cl, cl2⟩ := hxl 0 hLp
                  obtain ⟨⟨x1, x2⟩, hx0⟩ : ∃ x : Rg, Hid (L.getD 0 dr = x) := ⟨_, hide rfl⟩
                  rw [hx0.out] at cl cl2 hT
                  dsimp only at cl cl2 hT
                  have hLi : (0 : Int) < (L.length : Int) := by omega
                  have kbl : bl < w5.heap.size := World.block_lt_of_cell? w5 _ cl
                  clear hxl
                  go_wp2_with fail
                  refine wp_region_linesA [Line.is (.slice (some ⟨bl, ol, none⟩) L.length ca1), Line.is (.int .i64 (cntR L)), Line.is (.pointer (some ⟨w.heap.size, 1, none⟩)), Line.is (.pointer (some ⟨w.heap.size, 3, none⟩)), Line.is (.int .i64 e), Line.is (.bool ((cntR L) != e)), Line.is (.bool ((cntR L) != e)), Line.is ((bif ((cntR L) != e) then undef else (.int .i64 q : Value))), Line.is ((bif ((cntR L) != e) then undef else (.pointer (some ⟨w.heap.size, 1, none⟩) : Value))), Line.is ((bif ((cntR L) != e) then undef else (.pointer (some ⟨w.heap.size, 3, none⟩) : Value))), Line.is ((bif ((cntR L) != e) then undef else (.int .i64 e : Value))), Line.is ((bif ((cntR L) != e) then undef else (.bool (q != e) : Value))), Line.is (.bool (((cntR L) != e) || (q != e))), Line.is (.bool (((cntR L) != e) || (q != e))), Line.is ((bif (((cntR L) != e) || (q != e)) then undef else (.pointer (some ⟨w.heap.size, 1, none⟩) : Value))), Line.is ((bif (((cntR L) != e) || (q != e)) then undef else (.pointer (some ⟨w.heap.size, 3, none⟩) : Value))), Line.is ((bif (((cntR L) != e) || (q != e)) then undef else (.int .i64 e : Value))), Line.is ((bif (((cntR L) != e) || (q != e)) then undef else (.bool (decide (0 < e)) : Value))), Line.is ((bif (((cntR L) != e) || (q != e)) then undef else (.bool (decide (0 < e)) : Value))), Line.is ((bif (((cntR L) != e) || (q != e)) then undef else (bif (decide (0 < e)) then (.slice (some ⟨bl, ol, none⟩) L.length ca1 : Value) else undef))), Line.is ((bif (((cntR L) != e) || (q != e)) then undef else (bif (decide (0 < e)) then (.pointer (some ⟨bl, ol, none⟩) : Value) else undef))), Line.is ((bif (((cntR L) != e) || (q != e)) then undef else (bif (decide (0 < e)) then (.pointer (some ⟨bl, ol + 1, none⟩) : Value) else undef))), Line.is ((bif (((cntR L) != e) || (q != e)) then undef else (bif (decide (0 < e)) then (.int .i64 x2 : Value) else undef))), Line.is ((bif (((cntR L) != e) || (q != e)) then undef else (bif (decide (0 < e)) then (.pointer (some ⟨w.heap.size, 1, none⟩) : Value) else undef))), Line.is ((bif (((cntR L) != e) || (q != e)) then undef else (bif (decide (0 < e)) then (.pointer (some ⟨w.heap.size, 3, none⟩) : Value) else undef))), Line.is ((bif (((cntR L) != e) || (q != e)) then undef else (bif (decide (0 < e)) then (.int .i64 e : Value) else undef))), Line.is ((bif (((cntR L) != e) || (q != e)) then undef else (bif (decide (0 < e)) then (.bool (x2 != e) : Value) else undef))), Line.is ((bif (((cntR L) != e) || (q != e)) then undef else (.bool ((decide (0 < e)) && (x2 != e)) : Value))), Line.is (.bool ((((cntR L) != e) || (q != e)) || ((decide (0 < e)) && (x2 != e)))), Line.is (.bool ((((cntR L) != e) || (q != e)) || ((decide (0 < e)) && (x2 != e)))), Line.is ((bif ((((cntR L) != e) || (q != e)) || ((decide (0 < e)) && (x2 != e))) then undef else (.pointer (some ⟨w.heap.size, 7, none⟩) : Value))), Line.is ((bif ((((cntR L) != e) || (q != e)) || ((decide (0 < e)) && (x2 != e))) then undef else (.slice ak k.length c4 : Value))), Line.is ((bif ((((cntR L) != e) || (q != e)) || ((decide (0 < e)) && (x2 != e))) then undef else (.int .i64 (gapR k 0) : Value))), Line.is ((bif ((((cntR L) != e) || (q != e)) || ((decide (0 < e)) && (x2 != e))) then undef else (.pointer (some ⟨w.heap.size, 1, none⟩) : Value))), Line.is ((bif ((((cntR L) != e) || (q != e)) || ((decide (0 < e)) && (x2 != e))) then undef else (.pointer (some ⟨w.heap.size, 2, none⟩) : Value))), Line.is ((bif ((((cntR L) != e) || (q != e)) || ((decide (0 < e)) && (x2 != e))) then undef else (.int .i64 b : Value))), Line.is ((bif ((((cntR L) != e) || (q != e)) || ((decide (0 < e)) && (x2 != e))) then undef else (.bool ((gapR k 0) != b) : Value))), Line.is (.bool (((((cntR L) != e) || (q != e)) || ((decide (0 < e)) && (x2 != e))) || ((gapR k 0) != b))), Line.is (.bool (((((cntR L) != e) || (q != e)) || ((decide (0 < e)) && (x2 != e))) || ((gapR k 0) != b))), Line.is ((bif (((((cntR L) != e) || (q != e)) || ((decide (0 < e)) && (x2 != e))) || ((gapR k 0) != b)) then undef else (.pointer (some ⟨w.heap.size, 11, none⟩) : Value))), Line.is ((bif (((((cntR L) != e) || (q != e)) || ((decide (0 < e)) && (x2 != e))) || ((gapR k 0) != b)) then undef else (.int .i64 co : Value))), Line.is ((bif (((((cntR L) != e) || (q != e)) || ((decide (0 < e)) && (x2 != e))) || ((gapR k 0) != b)) then undef else (.bool (co != 0) : Value))), Line.is (.bool ((((((cntR L) != e) || (q != e)) || ((decide (0 < e)) && (x2 != e))) || ((gapR k 0) != b)) || (co != 0)))] [146, 147, 148, 149, 150, 151, 152, 153, 154, 155, 156, 157, 158, 159, 160, 161, 162, 163, 164, 165, 166, 167, 168, 169, 170, 171, 172, 173, 174, 175, 176, 177, 178, 179, 180, 181, 182, 183, 184, 185, 186, 187, 188] ?_ ?_ (by kernel_rfl) (by kernel_rfl) (by kernel_rfl) (by kernel_rfl) (by kernel_rfl) ?_ ?_
                  rotate_left
                  · intro g
                    simp only [fillAt, List.foldl_cons, List.foldl_nil, Act.put, List.setIfInBounds_toArray, List.set_cons_zero, List.set_cons_succ]
                    exact rfl
                  · refine Each.cons ?_ (Each.cons ?_ (Each.cons ?_ (Each.cons ?_ (Each.cons ?_ (Each.cons ?_ (Each.cons ?_ (Each.cons ?_ (Each.cons ?_ (Each.cons ?_ (Each.cons ?_ (Each.cons ?_ (Each.cons ?_ (Each.cons ?_ (Each.cons ?_ (Each.cons ?_ (Each.cons ?_ (Each.cons ?_ (Each.cons ?_ (Each.cons ?_ (Each.cons ?_ (Each.cons ?_ (Each.cons ?_ (Each.cons ?_ (Each.cons ?_ (Each.cons ?_ (Each.cons ?_ (Each.cons ?_ (Each.cons ?_ (Each.cons ?_ (Each.cons ?_ (Each.cons ?_ (Each.cons ?_ (Each.cons ?_ (Each.cons ?_ (Each.cons ?_ (Each.cons ?_ (Each.cons ?_ (Each.cons ?_ (Each.cons ?_ (Each.cons ?_ (Each.cons ?_ (Each.cons ?_ (Each.nil)))))))))))))))))))))))))))))))))))))))))))
                    · intro g ws hws hl
                      (try simp only [fillAt, List.foldl_cons, List.foldl_nil, Act.put, List.setIfInBounds_toArray, List.set_cons_zero, List.set_cons_succ])
                      refine Stays.plain (.slice (some ⟨bl, ol, none⟩) L.length ca1) (by rfl) ?_ rfl
                      first | (go_simp; done) | (go_simp; rfl) | (go_simp; with_reducible rfl)
                    · intro g ws hws hl
                      have ln0 : g 146 = .slice (some ⟨bl, ol, none⟩) L.length ca1 := linesOf_get 0 hl (by kernel_rfl)
                      simp only [fillAt, List.foldl_cons, List.foldl_nil, Act.put, List.setIfInBounds_toArray, List.set_cons_zero, List.set_cons_succ, ln0]
                      refine Stays.call 84 ?_ (by rfl) ?_ ?_
                      rotate_left
                      · go_simp
                        try with_reducible rfl
                      · refine (CountNumbers_spec _ _ ca1 L ws (hr5.out.ext ((Ext.refl _).drew.trans hws)) rfl (by omega)).mono ?_
                        rintro e w' ⟨rfl, h2⟩
                        exact ⟨_, rfl, h2, rfl⟩
                    · intro g ws hws hl
                      (try simp only [fillAt, List.foldl_cons, List.foldl_nil, Act.put, List.setIfInBounds_toArray, List.set_cons_zero, List.set_cons_succ])
                      refine Stays.plain (.pointer (some ⟨w.heap.size, 1, none⟩)) (by rfl) ?_ rfl
                      first | (go_simp; done) | (go_simp; rfl) | (go_simp; with_reducible rfl)
                    · intro g ws hws hl
                      have ln2 : g 148 = .pointer (some ⟨w.heap.size, 1, none⟩) := linesOf_get 2 hl (by kernel_rfl)
                      simp only [fillAt, List.foldl_cons, List.foldl_nil, Act.put, List.setIfInBounds_toArray, List.set_cons_zero, List.set_cons_succ, ln2]
                      refine Stays.plain (.pointer (some ⟨w.heap.size, 3, none⟩)) (by rfl) ?_ rfl
                      first | (go_simp; done) | (go_simp; rfl) | (go_simp; with_reducible rfl)
                    · intro g ws hws hl
                      have ln3 : g 149 = .pointer (some ⟨w.heap.size, 3, none⟩) := linesOf_get 3 hl (by kernel_rfl)
                      simp only [fillAt, List.foldl_cons, List.foldl_nil, Act.put, List.setIfInBounds_toArray, List.set_cons_zero, List.set_cons_succ, ln3]
                      obtain ⟨q0, p0⟩ := hws.row (k := w.heap.size) (by first | assumption | (simp; done) | (simp; omega) | omega)
                      refine Stays.plain (.int .i64 e) (by rfl) ?_ rfl
                      first | (go_simp; done) | (go_simp; rfl) | (go_simp; with_reducible rfl)
                    · intro g ws hws hl
                      have ln1 : g 147 = .int .i64 (cntR L) := linesOf_get 1 hl (by kernel_rfl)
                      have ln4 : g 150 = .int .i64 e := linesOf_get 4 hl (by kernel_rfl)
                      simp only [fillAt, List.foldl_cons, List.foldl_nil, Act.put, List.setIfInBounds_toArray, List.set_cons_zero, List.set_cons_succ, ln1, ln4]
                      refine Stays.plain (.bool ((cntR L) != e)) (by rfl) ?_ rfl
                      first | (go_simp; done) | (go_simp; rfl) | (go_simp; with_reducible rfl)
                    · intro g ws hws hl
                      have ln5 : g 151 = .bool ((cntR L) != e) := linesOf_get 5 hl (by kernel_rfl)
                      simp only [fillAt, List.foldl_cons, List.foldl_nil, Act.put, List.setIfInBounds_toArray, List.set_cons_zero, List.set_cons_succ, ln5]
                      refine Stays.plain (.bool ((cntR L) != e)) (by rfl) ?_ rfl
                      first | (go_simp; done) | (go_simp; rfl) | (go_simp; with_reducible rfl)
                    · intro g ws hws hl
                      have ln6 : g 152 = .bool ((cntR L) != e) := linesOf_get 6 hl (by kernel_rfl)
                      rcases Bool.eq_false_or_eq_true (((cntR L) != e)) with hg0 | hg0
                      · skip
                        rw [hg0] at ln6
                        simp only [fillAt, List.foldl_cons, List.foldl_nil, Act.put, List.setIfInBounds_toArray, List.set_cons_zero, List.set_cons_succ, ln6]
                        refine Stays.off (by rfl) (show (undef : Value) = (bif ((cntR L) != e) then undef else (.int .i64 q : Value)) from (by rw [cond_y hg0]))
                      · skip
                        rw [hg0] at ln6
                        simp only [fillAt, List.foldl_cons, List.foldl_nil, Act.put, List.setIfInBounds_toArray, List.set_cons_zero, List.set_cons_succ, ln6]
                        refine Stays.plain (.int .i64 q) (by rfl) ?_ (show (_ : Value) = (bif ((cntR L) != e) then undef else (.int .i64 q : Value)) from (by rw [cond_n hg0]))
                        first | (go_simp; done) | (go_simp; rfl) | (go_simp; with_reducible rfl)
                    · intro g ws hws hl
                      have ln6 : g 152 = .bool ((cntR L) != e) := linesOf_get 6 hl (by kernel_rfl)
                      rcases Bool.eq_false_or_eq_true (((cntR L) != e)) with hg0 | hg0
                      · skip
                        rw [hg0] at ln6
                        simp only [fillAt, List.foldl_cons, List.foldl_nil, Act.put, List.setIfInBounds_toArray, List.set_cons_zero, List.set_cons_succ, ln6]
                        refine Stays.off (by rfl) (show (undef : Value) = (bif ((cntR L) != e) then undef else (.pointer (some ⟨w.heap.size, 1, none⟩) : Value)) from (by rw [cond_y hg0]))
                      · skip
                        rw [hg0] at ln6
                        simp only [fillAt, List.foldl_cons, List.foldl_nil, Act.put, List.setIfInBounds_toArray, List.set_cons_zero, List.set_cons_succ, ln6]
                        refine Stays.plain (.pointer (some ⟨w.heap.size, 1, none⟩)) (by rfl) ?_ (show (_ : Value) = (bif ((cntR L) != e) then undef else (.pointer (some ⟨w.heap.size, 1, none⟩) : Value)) from (by rw [cond_n hg0]))
                        first | (go_simp; done) | (go_simp; rfl) | (go_simp; with_reducible rfl)
                    · intro g ws hws hl
                      have ln6 : g 152 = .bool ((cntR L) != e) := linesOf_get 6 hl (by kernel_rfl)
                      have ln8 : g 154 = (bif ((cntR L) != e) then undef else (.pointer (some ⟨w.heap.size, 1, none⟩) : Value)) := linesOf_get 8 hl (by kernel_rfl)
                      rcases Bool.eq_false_or_eq_true (((cntR L) != e)) with hg0 | hg0
                      · skip
                        rw [hg0] at ln6
                        simp only [fillAt, List.foldl_cons, List.foldl_nil, Act.put, List.setIfInBounds_toArray, List.set_cons_zero, List.set_cons_succ, ln6]
                        refine Stays.off (by rfl) (show (undef : Value) = (bif ((cntR L) != e) then undef else (.pointer (some ⟨w.heap.size, 3, none⟩) : Value)) from (by rw [cond_y hg0]))
                      · skip
                        rw [hg0] at ln6
                        rw [cond_n hg0] at ln8
                        simp only [fillAt, List.foldl_cons, List.foldl_nil, Act.put, List.setIfInBounds_toArray, List.set_cons_zero, List.set_cons_succ, ln6, ln8]
                        refine Stays.plain (.pointer (some ⟨w.heap.size, 3, none⟩)) (by rfl) ?_ (show (_ : Value) = (bif ((cntR L) != e) then undef else (.pointer (some ⟨w.heap.size, 3, none⟩) : Value)) from (by rw [cond_n hg0]))
                        first | (go_simp; done) | (go_simp; rfl) | (go_simp; with_reducible rfl)
                    · intro g ws hws hl
                      have ln6 : g 152 = .bool ((cntR L) != e) := linesOf_get 6 hl (by kernel_rfl)
                      have ln9 : g 155 = (bif ((cntR L) != e) then undef else (.pointer (some ⟨w.heap.size, 3, none⟩) : Value)) := linesOf_get 9 hl (by kernel_rfl)
                      rcases Bool.eq_false_or_eq_true (((cntR L) != e)) with hg0 | hg0
                      · skip
                        rw [hg0] at ln6
                        simp only [fillAt, List.foldl_cons, List.foldl_nil, Act.put, List.setIfInBounds_toArray, List.set_cons_zero, List.set_cons_succ, ln6]
                        refine Stays.off (by rfl) (show (undef : Value) = (bif ((cntR L) != e) then undef else (.int .i64 e : Value)) from (by rw [cond_y hg0]))
                      · skip
                        rw [hg0] at ln6
                        rw [cond_n hg0] at ln9
                        simp only [fillAt, List.foldl_cons, List.foldl_nil, Act.put, List.setIfInBounds_toArray, List.set_cons_zero, List.set_cons_succ, ln6, ln9]
                        obtain ⟨q0, p0⟩ := hws.row (k := w.heap.size) (by first | assumption | (simp; done) | (simp; omega) | omega)
                        refine Stays.plain (.int .i64 e) (by rfl) ?_ (show (_ : Value) = (bif ((cntR L) != e) then undef else (.int .i64 e : Value)) from (by rw [cond_n hg0]))
                        first | (go_simp; done) | (go_simp; rfl) | (go_simp; with_reducible rfl)
                    · intro g ws hws hl
                      have ln6 : g 152 = .bool ((cntR L) != e) := linesOf_get 6 hl (by kernel_rfl)
                      have ln7 : g 153 = (bif ((cntR L) != e) then undef else (.int .i64 q : Value)) := linesOf_get 7 hl (by kernel_rfl)
                      have ln10 : g 156 = (bif ((cntR L) != e) then undef else (.int .i64 e : Value)) := linesOf_get 10 hl (by kernel_rfl)
                      rcases Bool.eq_false_or_eq_true (((cntR L) != e)) with hg0 | hg0
                      · skip
                        rw [hg0] at ln6
                        simp only [fillAt, List.foldl_cons, List.foldl_nil, Act.put, List.setIfInBounds_toArray, List.set_cons_zero, List.set_cons_succ, ln6]
                        refine Stays.off (by rfl) (show (undef : Value) = (bif ((cntR L) != e) then undef else (.bool (q != e) : Value)) from (by rw [cond_y hg0]))
                      · skip
                        rw [hg0] at ln6
                        rw [cond_n hg0] at ln7
                        rw [cond_n hg0] at ln10
                        simp only [fillAt, List.foldl_cons, List.foldl_nil, Act.put, List.setIfInBounds_toArray, List.set_cons_zero, List.set_cons_succ, ln6, ln7, ln10]
                        refine Stays.plain (.bool (q != e)) (by rfl) ?_ (show (_ : Value) = (bif ((cntR L) != e) then undef else (.bool (q != e) : Value)) from (by rw [cond_n hg0]))
                        first | (go_simp; done) | (go_simp; rfl) | (go_simp; with_reducible rfl)
                    · intro g ws hws hl
                      have ln6 : g 152 = .bool ((cntR L) != e) := linesOf_get 6 hl (by kernel_rfl)
                      have ln11 : g 157 = (bif ((cntR L) != e) then undef else (.bool (q != e) : Value)) := linesOf_get 11 hl (by kernel_rfl)
                      rcases Bool.eq_false_or_eq_true (((cntR L) != e)) with hp | hp
                      · skip
                        rw [hp] at ln6
                        simp only [fillAt, List.foldl_cons, List.foldl_nil, Act.put, List.setIfInBounds_toArray, List.set_cons_zero, List.set_cons_succ, ln6, ln11]
                        refine Stays.plain (.bool (((cntR L) != e) || (q != e))) (by rfl) ?_ rfl
                        first | (rw [hp]; go_simp; done) | (rw [hp]; go_simp; rfl) | (simp [hp, go_sem]; done) | (go_simp; simp [hp])
                      · skip
                        rw [hp] at ln6
                        rw [cond_n hp] at ln11
                        simp only [fillAt, List.foldl_cons, List.foldl_nil, Act.put, List.setIfInBounds_toArray, List.set_cons_zero, List.set_cons_succ, ln6, ln11]
                        refine Stays.plain (.bool (((cntR L) != e) || (q != e))) (by rfl) ?_ rfl
                        first | (rw [hp]; go_simp; done) | (rw [hp]; go_simp; rfl) | (simp [hp, go_sem]; done) | (go_simp; simp [hp])
                    · intro g ws hws hl
                      have ln12 : g 158 = .bool (((cntR L) != e) || (q != e)) := linesOf_get 12 hl (by kernel_rfl)
                      simp only [fillAt, List.foldl_cons, List.foldl_nil, Act.put, List.setIfInBounds_toArray, List.set_cons_zero, List.set_cons_succ, ln12]
                      refine Stays.plain (.bool (((cntR L) != e) || (q != e))) (by rfl) ?_ rfl
                      first | (go_simp; done) | (go_simp; rfl) | (go_simp; with_reducible rfl)
                    · intro g ws hws hl
                      have ln13 : g 159 = .bool (((cntR L) != e) || (q != e)) := linesOf_get 13 hl (by kernel_rfl)
                      rcases Bool.eq_false_or_eq_true ((((cntR L) != e) || (q != e))) with hg0 | hg0
                      · skip
                        rw [hg0] at ln13
                        simp only [fillAt, List.foldl_cons, List.foldl_nil, Act.put, List.setIfInBounds_toArray, List.set_cons_zero, List.set_cons_succ, ln13]
                        refine Stays.off (by rfl) (show (undef : Value) = (bif (((cntR L) != e) || (q != e)) then undef else (.pointer (some ⟨w.heap.size, 1, none⟩) : Value)) from (by rw [cond_y hg0]))
                      · skip
                        rw [hg0] at ln13
                        simp only [fillAt, List.foldl_cons, List.foldl_nil, Act.put, List.setIfInBounds_toArray, List.set_cons_zero, List.set_cons_succ, ln13]
                        refine Stays.plain (.pointer (some ⟨w.heap.size, 1, none⟩)) (by rfl) ?_ (show (_ : Value) = (bif (((cntR L) != e) || (q != e)) then undef else (.pointer (some ⟨w.heap.size, 1, none⟩) : Value)) from (by rw [cond_n hg0]))
                        first | (go_simp; done) | (go_simp; rfl) | (go_simp; with_reducible rfl)
                    · intro g ws hws hl
                      have ln13 : g 159 = .bool (((cntR L) != e) || (q != e)) := linesOf_get 13 hl (by kernel_rfl)
                      have ln14 : g 160 = (bif (((cntR L) != e) || (q != e)) then undef else (.pointer (some ⟨w.heap.size, 1, none⟩) : Value)) := linesOf_get 14 hl (by kernel_rfl)
                      rcases Bool.eq_false_or_eq_true ((((cntR L) != e) || (q != e))) with hg0 | hg0
                      · skip
                        rw [hg0] at ln13
                        simp only [fillAt, List.foldl_cons, List.foldl_nil, Act.put, List.setIfInBounds_toArray, List.set_cons_zero, List.set_cons_succ, ln13]
                        refine Stays.off (by rfl) (show (undef : Value) = (bif (((cntR L) != e) || (q != e)) then undef else (.pointer (some ⟨w.heap.size, 3, none⟩) : Value)) from (by rw [cond_y hg0]))
                      · skip
                        rw [hg0] at ln13
                        rw [cond_n hg0] at ln14
                        simp only [fillAt, List.foldl_cons, List.foldl_nil, Act.put, List.setIfInBounds_toArray, List.set_cons_zero, List.set_cons_succ, ln13, ln14]
                        refine Stays.plain (.pointer (some ⟨w.heap.size, 3, none⟩)) (by rfl) ?_ (show (_ : Value) = (bif (((cntR L) != e) || (q != e)) then undef else (.pointer (some ⟨w.heap.size, 3, none⟩) : Value)) from (by rw [cond_n hg0]))
                        first | (go_simp; done) | (go_simp; rfl) | (go_simp; with_reducible rfl)
                    · intro g ws hws hl
                      have ln13 : g 159 = .bool (((cntR L) != e) || (q != e)) := linesOf_get 13 hl (by kernel_rfl)
                      have ln15 : g 161 = (bif (((cntR L) != e) || (q != e)) then undef else (.pointer (some ⟨w.heap.size, 3, none⟩) : Value)) := linesOf_get 15 hl (by kernel_rfl)
                      rcases Bool.eq_false_or_eq_true ((((cntR L) != e) || (q != e))) with hg0 | hg0
                      · skip
                        rw [hg0] at ln13
                        simp only [fillAt, List.foldl_cons, List.foldl_nil, Act.put, List.setIfInBounds_toArray, List.set_cons_zero, List.set_cons_succ, ln13]
                        refine Stays.off (by rfl) (show (undef : Value) = (bif (((cntR L) != e) || (q != e)) then undef else (.int .i64 e : Value)) from (by rw [cond_y hg0]))
                      · skip
                        rw [hg0] at ln13
                        rw [cond_n hg0] at ln15
                        simp only [fillAt, List.foldl_cons, List.foldl_nil, Act.put, List.setIfInBounds_toArray, List.set_cons_zero, List.set_cons_succ, ln13, ln15]
                        obtain ⟨q0, p0⟩ := hws.row (k := w.heap.size) (by first | assumption | (simp; done) | (simp; omega) | omega)
                        refine Stays.plain (.int .i64 e) (by rfl) ?_ (show (_ : Value) = (bif (((cntR L) != e) || (q != e)) then undef else (.int .i64 e : Value)) from (by rw [cond_n hg0]))
                        first | (go_simp; done) | (go_simp; rfl) | (go_simp; with_reducible rfl)
                    · intro g ws hws hl
                      have ln13 : g 159 = .bool (((cntR L) != e) || (q != e)) := linesOf_get 13 hl (by kernel_rfl)
                      have ln16 : g 162 = (bif (((cntR L) != e) || (q != e)) then undef else (.int .i64 e : Value)) := linesOf_get 16 hl (by kernel_rfl)
                      rcases Bool.eq_false_or_eq_true ((((cntR L) != e) || (q != e))) with hg0 | hg0
                      · skip
                        rw [hg0] at ln13
                        simp only [fillAt, List.foldl_cons, List.foldl_nil, Act.put, List.setIfInBounds_toArray, List.set_cons_zero, List.set_cons_succ, ln13]
                        refine Stays.off (by rfl) (show (undef : Value) = (bif (((cntR L) != e) || (q != e)) then undef else (.bool (decide (0 < e)) : Value)) from (by rw [cond_y hg0]))
                      · skip
                        rw [hg0] at ln13
                        rw [cond_n hg0] at ln16
                        simp only [fillAt, List.foldl_cons, List.foldl_nil, Act.put, List.setIfInBounds_toArray, List.set_cons_zero, List.set_cons_succ, ln13, ln16]
                        refine Stays.plain (.bool (decide (0 < e))) (by rfl) ?_ (show (_ : Value) = (bif (((cntR L) != e) || (q != e)) then undef else (.bool (decide (0 < e)) : Value)) from (by rw [cond_n hg0]))
                        first | (go_simp; done) | (go_simp; rfl) | (go_simp; with_reducible rfl)
                    · intro g ws hws hl
                      have ln13 : g 159 = .bool (((cntR L) != e) || (q != e)) := linesOf_get 13 hl (by kernel_rfl)
                      have ln17 : g 163 = (bif (((cntR L) != e) || (q != e)) then undef else (.bool (decide (0 < e)) : Value)) := linesOf_get 17 hl (by kernel_rfl)
                      rcases Bool.eq_false_or_eq_true ((((cntR L) != e) || (q != e))) with hg0 | hg0
                      · skip
                        rw [hg0] at ln13
                        simp only [fillAt, List.foldl_cons, List.foldl_nil, Act.put, List.setIfInBounds_toArray, List.set_cons_zero, List.set_cons_succ, ln13]
                        refine Stays.off (by rfl) (show (undef : Value) = (bif (((cntR L) != e) || (q != e)) then undef else (.bool (decide (0 < e)) : Value)) from (by rw [cond_y hg0]))
                      · skip
                        rw [hg0] at ln13
                        rw [cond_n hg0] at ln17
                        simp only [fillAt, List.foldl_cons, List.foldl_nil, Act.put, List.setIfInBounds_toArray, List.set_cons_zero, List.set_cons_succ, ln13, ln17]
                        refine Stays.plain (.bool (decide (0 < e))) (by rfl) ?_ (show (_ : Value) = (bif (((cntR L) != e) || (q != e)) then undef else (.bool (decide (0 < e)) : Value)) from (by rw [cond_n hg0]))
                        first | (go_simp; done) | (go_simp; rfl) | (go_simp; with_reducible rfl)
                    · intro g ws hws hl
                      have ln18 : g 164 = (bif (((cntR L) != e) || (q != e)) then undef else (.bool (decide (0 < e)) : Value)) := linesOf_get 18 hl (by kernel_rfl)
                      rcases Bool.eq_false_or_eq_true ((((cntR L) != e) || (q != e))) with hg0 | hg0
                      · skip
                        rw [cond_y hg0] at ln18
                        simp only [fillAt, List.foldl_cons, List.foldl_nil, Act.put, List.setIfInBounds_toArray, List.set_cons_zero, List.set_cons_succ, ln18]
                        refine Stays.off (by rfl) (show (undef : Value) = (bif (((cntR L) != e) || (q != e)) then undef else (bif (decide (0 < e)) then (.slice (some ⟨bl, ol, none⟩) L.length ca1 : Value) else undef)) from (by rw [cond_y hg0]))
                      · skip
                        rcases Bool.eq_false_or_eq_true ((decide (0 < e))) with hg1 | hg1
                        · skip
                          rw [cond_n hg0] at ln18
                          rw [hg1] at ln18
                          simp only [fillAt, List.foldl_cons, List.foldl_nil, Act.put, List.setIfInBounds_toArray, List.set_cons_zero, List.set_cons_succ, ln18]
                          refine Stays.plain (.slice (some ⟨bl, ol, none⟩) L.length ca1) (by rfl) ?_ (show (_ : Value) = (bif (((cntR L) != e) || (q != e)) then undef else (bif (decide (0 < e)) then (.slice (some ⟨bl, ol, none⟩) L.length ca1 : Value) else undef)) from (by rw [cond_n hg0, cond_y hg1]))
                          first | (go_simp; done) | (go_simp; rfl) | (go_simp; with_reducible rfl)
                        · skip
                          rw [cond_n hg0] at ln18
                          rw [hg1] at ln18
                          simp only [fillAt, List.foldl_cons, List.foldl_nil, Act.put, List.setIfInBounds_toArray, List.set_cons_zero, List.set_cons_succ, ln18]
                          refine Stays.off (by rfl) (show (undef : Value) = (bif (((cntR L) != e) || (q != e)) then undef else (bif (decide (0 < e)) then (.slice (some ⟨bl, ol, none⟩) L.length ca1 : Value) else undef)) from (by rw [cond_n hg0, cond_n hg1]))
                    · intro g ws hws hl
                      have ln18 : g 164 = (bif (((cntR L) != e) || (q != e)) then undef else (.bool (decide (0 < e)) : Value)) := linesOf_get 18 hl (by kernel_rfl)
                      have ln19 : g 165 = (bif (((cntR L) != e) || (q != e)) then undef else (bif (decide (0 < e)) then (.slice (some ⟨bl, ol, none⟩) L.length ca1 : Value) else undef)) := linesOf_get 19 hl (by kernel_rfl)
                      rcases Bool.eq_false_or_eq_true ((((cntR L) != e) || (q != e))) with hg0 | hg0
                      · skip
                        rw [cond_y hg0] at ln18
                        simp only [fillAt, List.foldl_cons, List.foldl_nil, Act.put, List.setIfInBounds_toArray, List.set_cons_zero, List.set_cons_succ, ln18]
                        refine Stays.off (by rfl) (show (undef : Value) = (bif (((cntR L) != e) || (q != e)) then undef else (bif (decide (0 < e)) then (.pointer (some ⟨bl, ol, none⟩) : Value) else undef)) from (by rw [cond_y hg0]))
                      · skip
                        rcases Bool.eq_false_or_eq_true ((decide (0 < e))) with hg1 | hg1
                        · skip
                          rw [cond_n hg0] at ln18
                          rw [hg1] at ln18
                          rw [cond_n hg0] at ln19
                          rw [cond_y hg1] at ln19
                          simp only [fillAt, List.foldl_cons, List.foldl_nil, Act.put, List.setIfInBounds_toArray, List.set_cons_zero, List.set_cons_succ, ln18, ln19]
                          refine Stays.plain (.pointer (some ⟨bl, ol, none⟩)) (by rfl) ?_ (show (_ : Value) = (bif (((cntR L) != e) || (q != e)) then undef else (bif (decide (0 < e)) then (.pointer (some ⟨bl, ol, none⟩) : Value) else undef)) from (by rw [cond_n hg0, cond_y hg1]))
                          first | (go_simp; done) | (go_simp; rfl)
                        · skip
                          rw [cond_n hg0] at ln18
                          rw [hg1] at ln18
                          simp only [fillAt, List.foldl_cons, List.foldl_nil, Act.put, List.setIfInBounds_toArray, List.set_cons_zero, List.set_cons_succ, ln18]
                          refine Stays.off (by rfl) (show (undef : Value) = (bif (((cntR L) != e) || (q != e)) then undef else (bif (decide (0 < e)) then (.pointer (some ⟨bl, ol, none⟩) : Value) else undef)) from (by rw [cond_n hg0, cond_n hg1]))
                    · intro g ws hws hl
                      have ln18 : g 164 = (bif (((cntR L) != e) || (q != e)) then undef else (.bool (decide (0 < e)) : Value)) := linesOf_get 18 hl (by kernel_rfl)
                      have ln20 : g 166 = (bif (((cntR L) != e) || (q != e)) then undef else (bif (decide (0 < e)) then (.pointer (some ⟨bl, ol, none⟩) : Value) else undef)) := linesOf_get 20 hl (by kernel_rfl)
                      rcases Bool.eq_false_or_eq_true ((((cntR L) != e) || (q != e))) with hg0 | hg0
                      · skip
                        rw [cond_y hg0] at ln18
                        simp only [fillAt, List.foldl_cons, List.foldl_nil, Act.put, List.setIfInBounds_toArray, List.set_cons_zero, List.set_cons_succ, ln18]
                        refine Stays.off (by rfl) (show (undef : Value) = (bif (((cntR L) != e) || (q != e)) then undef else (bif (decide (0 < e)) then (.pointer (some ⟨bl, ol + 1, none⟩) : Value) else undef)) from (by rw [cond_y hg0]))
                      · skip
                        rcases Bool.eq_false_or_eq_true ((decide (0 < e))) with hg1 | hg1
                        · skip
                          rw [cond_n hg0] at ln18
                          rw [hg1] at ln18
                          rw [cond_n hg0] at ln20
                          rw [cond_y hg1] at ln20
                          simp only [fillAt, List.foldl_cons, List.foldl_nil, Act.put, List.setIfInBounds_toArray, List.set_cons_zero, List.set_cons_succ, ln18, ln20]
                          refine Stays.plain (.pointer (some ⟨bl, ol + 1, none⟩)) (by rfl) ?_ (show (_ : Value) = (bif (((cntR L) != e) || (q != e)) then undef else (bif (decide (0 < e)) then (.pointer (some ⟨bl, ol + 1, none⟩) : Value) else undef)) from (by rw [cond_n hg0, cond_y hg1]))
                          first | (go_simp; done) | (go_simp; rfl)
                        · skip
                          rw [cond_n hg0] at ln18
                          rw [hg1] at ln18
                          simp only [fillAt, List.foldl_cons, List.foldl_nil, Act.put, List.setIfInBounds_toArray, List.set_cons_zero, List.set_cons_succ, ln18]
                          refine Stays.off (by rfl) (show (undef : Value) = (bif (((cntR L) != e) || (q != e)) then undef else (bif (decide (0 < e)) then (.pointer (some ⟨bl, ol + 1, none⟩) : Value) else undef)) from (by rw [cond_n hg0, cond_n hg1]))
                    · intro g ws hws hl
                      have ln18 : g 164 = (bif (((cntR L) != e) || (q != e)) then undef else (.bool (decide (0 < e)) : Value)) := linesOf_get 18 hl (by kernel_rfl)
                      have ln21 : g 167 = (bif (((cntR L) != e) || (q != e)) then undef else (bif (decide (0 < e)) then (.pointer (some ⟨bl, ol + 1, none⟩) : Value) else undef)) := linesOf_get 21 hl (by kernel_rfl)
                      rcases Bool.eq_false_or_eq_true ((((cntR L) != e) || (q != e))) with hg0 | hg0
                      · skip
                        rw [cond_y hg0] at ln18
                        simp only [fillAt, List.foldl_cons, List.foldl_nil, Act.put, List.setIfInBounds_toArray, List.set_cons_zero, List.set_cons_succ, ln18]
                        refine Stays.off (by rfl) (show (undef : Value) = (bif (((cntR L) != e) || (q != e)) then undef else (bif (decide (0 < e)) then (.int .i64 x2 : Value) else undef)) from (by rw [cond_y hg0]))
                      · skip
                        rcases Bool.eq_false_or_eq_true ((decide (0 < e))) with hg1 | hg1
                        · skip
                          rw [cond_n hg0] at ln18
                          rw [hg1] at ln18
                          rw [cond_n hg0] at ln21
                          rw [cond_y hg1] at ln21
                          simp only [fillAt, List.foldl_cons, List.foldl_nil, Act.put, List.setIfInBounds_toArray, List.set_cons_zero, List.set_cons_succ, ln18, ln21]
                          refine Stays.plain (.int .i64 x2) (by rfl) ?_ (show (_ : Value) = (bif (((cntR L) != e) || (q != e)) then undef else (bif (decide (0 < e)) then (.int .i64 x2 : Value) else undef)) from (by rw [cond_n hg0, cond_y hg1]))
                          obtain ⟨q0, p0⟩ := hws.row (k := bl) (by first | assumption | (simp; done) | (simp; omega) | omega)
                          first | (go_simp; done) | (go_simp; rfl)
                        · skip
                          rw [cond_n hg0] at ln18
                          rw [hg1] at ln18
                          simp only [fillAt, List.foldl_cons, List.foldl_nil, Act.put, List.setIfInBounds_toArray, List.set_cons_zero, List.set_cons_succ, ln18]
                          refine Stays.off (by rfl) (show (undef : Value) = (bif (((cntR L) != e) || (q != e)) then undef else (bif (decide (0 < e)) then (.int .i64 x2 : Value) else undef)) from (by rw [cond_n hg0, cond_n hg1]))
                    · intro g ws hws hl
                      have ln18 : g 164 = (bif (((cntR L) != e) || (q != e)) then undef else (.bool (decide (0 < e)) : Value)) := linesOf_get 18 hl (by kernel_rfl)
                      rcases Bool.eq_false_or_eq_true ((((cntR L) != e) || (q != e))) with hg0 | hg0
                      · skip
                        rw [cond_y hg0] at ln18
                        simp only [fillAt, List.foldl_cons, List.foldl_nil, Act.put, List.setIfInBounds_toArray, List.set_cons_zero, List.set_cons_succ, ln18]
                        refine Stays.off (by rfl) (show (undef : Value) = (bif (((cntR L) != e) || (q != e)) then undef else (bif (decide (0 < e)) then (.pointer (some ⟨w.heap.size, 1, none⟩) : Value) else undef)) from (by rw [cond_y hg0]))
                      · skip
                        rcases Bool.eq_false_or_eq_true ((decide (0 < e))) with hg1 | hg1
                        · skip
                          rw [cond_n hg0] at ln18
                          rw [hg1] at ln18
                          simp only [fillAt, List.foldl_cons, List.foldl_nil, Act.put, List.setIfInBounds_toArray, List.set_cons_zero, List.set_cons_succ, ln18]
                          refine Stays.plain (.pointer (some ⟨w.heap.size, 1, none⟩)) (by rfl) ?_ (show (_ : Value) = (bif (((cntR L) != e) || (q != e)) then undef else (bif (decide (0 < e)) then (.pointer (some ⟨w.heap.size, 1, none⟩) : Value) else undef)) from (by rw [cond_n hg0, cond_y hg1]))
                          first | (go_simp; done) | (go_simp; rfl) | (go_simp; with_reducible rfl)
                        · skip
                          rw [cond_n hg0] at ln18
                          rw [hg1] at ln18
                          simp only [fillAt, List.foldl_cons, List.foldl_nil, Act.put, List.setIfInBounds_toArray, List.set_cons_zero, List.set_cons_succ, ln18]
                          refine Stays.off (by rfl) (show (undef : Value) = (bif (((cntR L) != e) || (q != e)) then undef else (bif (decide (0 < e)) then (.pointer (some ⟨w.heap.size, 1, none⟩) : Value) else undef)) from (by rw [cond_n hg0, cond_n hg1]))
                    · intro g ws hws hl
                      have ln18 : g 164 = (bif (((cntR L) != e) || (q != e)) then undef else (.bool (decide (0 < e)) : Value)) := linesOf_get 18 hl (by kernel_rfl)
                      have ln23 : g 169 = (bif (((cntR L) != e) || (q != e)) then undef else (bif (decide (0 < e)) then (.pointer (some ⟨w.heap.size, 1, none⟩) : Value) else undef)) := linesOf_get 23 hl (by kernel_rfl)
                      rcases Bool.eq_false_or_eq_true ((((cntR L) != e) || (q != e))) with hg0 | hg0
                      · skip
                        rw [cond_y hg0] at ln18
                        simp only [fillAt, List.foldl_cons, List.foldl_nil, Act.put, List.setIfInBounds_toArray, List.set_cons_zero, List.set_cons_succ, ln18]
                        refine Stays.off (by rfl) (show (undef : Value) = (bif (((cntR L) != e) || (q != e)) then undef else (bif (decide (0 < e)) then (.pointer (some ⟨w.heap.size, 3, none⟩) : Value) else undef)) from (by rw [cond_y hg0]))
                      · skip
                        rcases Bool.eq_false_or_eq_true ((decide (0 < e))) with hg1 | hg1
                        · skip
                          rw [cond_n hg0] at ln18
                          rw [hg1] at ln18
                          rw [cond_n hg0] at ln23
                          rw [cond_y hg1] at ln23
                          simp only [fillAt, List.foldl_cons, List.foldl_nil, Act.put, List.setIfInBounds_toArray, List.set_cons_zero, List.set_cons_succ, ln18, ln23]
                          refine Stays.plain (.pointer (some ⟨w.heap.size, 3, none⟩)) (by rfl) ?_ (show (_ : Value) = (bif (((cntR L) != e) || (q != e)) then undef else (bif (decide (0 < e)) then (.pointer (some ⟨w.heap.size, 3, none⟩) : Value) else undef)) from (by rw [cond_n hg0, cond_y hg1]))
                          first | (go_simp; done) | (go_simp; rfl) | (go_simp; with_reducible rfl)
                        · skip
                          rw [cond_n hg0] at ln18
                          rw [hg1] at ln18
                          simp only [fillAt, List.foldl_cons, List.foldl_nil, Act.put, List.setIfInBounds_toArray, List.set_cons_zero, List.set_cons_succ, ln18]
                          refine Stays.off (by rfl) (show (undef : Value) = (bif (((cntR L) != e) || (q != e)) then undef else (bif (decide (0 < e)) then (.pointer (some ⟨w.heap.size, 3, none⟩) : Value) else undef)) from (by rw [cond_n hg0, cond_n hg1]))
                    · intro g ws hws hl
                      have ln18 : g 164 = (bif (((cntR L) != e) || (q != e)) then undef else (.bool (decide (0 < e)) : Value)) := linesOf_get 18 hl (by kernel_rfl)
                      have ln24 : g 170 = (bif (((cntR L) != e) || (q != e)) then undef else (bif (decide (0 < e)) then (.pointer (some ⟨w.heap.size, 3, none⟩) : Value) else undef)) := linesOf_get 24 hl (by kernel_rfl)
                      rcases Bool.eq_false_or_eq_true ((((cntR L) != e) || (q != e))) with hg0 | hg0
                      · skip
                        rw [cond_y hg0] at ln18
                        simp only [fillAt, List.foldl_cons, List.foldl_nil, Act.put, List.setIfInBounds_toArray, List.set_cons_zero, List.set_cons_succ, ln18]
                        refine Stays.off (by rfl) (show (undef : Value) = (bif (((cntR L) != e) || (q != e)) then undef else (bif (decide (0 < e)) then (.int .i64 e : Value) else undef)) from (by rw [cond_y hg0]))
                      · skip
                        rcases Bool.eq_false_or_eq_true ((decide (0 < e))) with hg1 | hg1
                        · skip
                          rw [cond_n hg0] at ln18
                          rw [hg1] at ln18
                          rw [cond_n hg0] at ln24
                          rw [cond_y hg1] at ln24
                          simp only [fillAt, List.foldl_cons, List.foldl_nil, Act.put, List.setIfInBounds_toArray, List.set_cons_zero, List.set_cons_succ, ln18, ln24]
                          obtain ⟨q0, p0⟩ := hws.row (k := w.heap.size) (by first | assumption | (simp; done) | (simp; omega) | omega)
                          refine Stays.plain (.int .i64 e) (by rfl) ?_ (show (_ : Value) = (bif (((cntR L) != e) || (q != e)) then undef else (bif (decide (0 < e)) then (.int .i64 e : Value) else undef)) from (by rw [cond_n hg0, cond_y hg1]))
                          first | (go_simp; done) | (go_simp; rfl) | (go_simp; with_reducible rfl)
                        · skip
                          rw [cond_n hg0] at ln18
                          rw [hg1] at ln18
                          simp only [fillAt, List.foldl_cons, List.foldl_nil, Act.put, List.setIfInBounds_toArray, List.set_cons_zero, List.set_cons_succ, ln18]
                          refine Stays.off (by rfl) (show (undef : Value) = (bif (((cntR L) != e) || (q != e)) then undef else (bif (decide (0 < e)) then (.int .i64 e : Value) else undef)) from (by rw [cond_n hg0, cond_n hg1]))
                    · intro g ws hws hl
                      have ln18 : g 164 = (bif (((cntR L) != e) || (q != e)) then undef else (.bool (decide (0 < e)) : Value)) := linesOf_get 18 hl (by kernel_rfl)
                      have ln22 : g 168 = (bif (((cntR L) != e) || (q != e)) then undef else (bif (decide (0 < e)) then (.int .i64 x2 : Value) else undef)) := linesOf_get 22 hl (by kernel_rfl)
                      have ln25 : g 171 = (bif (((cntR L) != e) || (q != e)) then undef else (bif (decide (0 < e)) then (.int .i64 e : Value) else undef)) := linesOf_get 25 hl (by kernel_rfl)
                      rcases Bool.eq_false_or_eq_true ((((cntR L) != e) || (q != e))) with hg0 | hg0
                      · skip
                        rw [cond_y hg0] at ln18
                        simp only [fillAt, List.foldl_cons, List.foldl_nil, Act.put, List.setIfInBounds_toArray, List.set_cons_zero, List.set_cons_succ, ln18]
                        refine Stays.off (by rfl) (show (undef : Value) = (bif (((cntR L) != e) || (q != e)) then undef else (bif (decide (0 < e)) then (.bool (x2 != e) : Value) else undef)) from (by rw [cond_y hg0]))
                      · skip
                        rcases Bool.eq_false_or_eq_true ((decide (0 < e))) with hg1 | hg1
                        · skip
                          rw [cond_n hg0] at ln18
                          rw [hg1] at ln18
                          rw [cond_n hg0] at ln22
                          rw [cond_y hg1] at ln22
                          rw [cond_n hg0] at ln25
                          rw [cond_y hg1] at ln25
                          simp only [fillAt, List.foldl_cons, List.foldl_nil, Act.put, List.setIfInBounds_toArray, List.set_cons_zero, List.set_cons_succ, ln18, ln22, ln25]
                          refine Stays.plain (.bool (x2 != e)) (by rfl) ?_ (show (_ : Value) = (bif (((cntR L) != e) || (q != e)) then undef else (bif (decide (0 < e)) then (.bool (x2 != e) : Value) else undef)) from (by rw [cond_n hg0, cond_y hg1]))
                          first | (go_simp; done) | (go_simp; rfl) | (go_simp; with_reducible rfl)
                        · skip
                          rw [cond_n hg0] at ln18
                          rw [hg1] at ln18
                          simp only [fillAt, List.foldl_cons, List.foldl_nil, Act.put, List.setIfInBounds_toArray, List.set_cons_zero, List.set_cons_succ, ln18]
                          refine Stays.off (by rfl) (show (undef : Value) = (bif (((cntR L) != e) || (q != e)) then undef else (bif (decide (0 < e)) then (.bool (x2 != e) : Value) else undef)) from (by rw [cond_n hg0, cond_n hg1]))
                    · intro g ws hws hl
                      have ln13 : g 159 = .bool (((cntR L) != e) || (q != e)) := linesOf_get 13 hl (by kernel_rfl)
                      have ln18 : g 164 = (bif (((cntR L) != e) || (q != e)) then undef else (.bool (decide (0 < e)) : Value)) := linesOf_get 18 hl (by kernel_rfl)
                      have ln26 : g 172 = (bif (((cntR L) != e) || (q != e)) then undef else (bif (decide (0 < e)) then (.bool (x2 != e) : Value) else undef)) := linesOf_get 26 hl (by kernel_rfl)
                      rcases Bool.eq_false_or_eq_true ((((cntR L) != e) || (q != e))) with hg0 | hg0
                      · skip
                        rw [hg0] at ln13
                        simp only [fillAt, List.foldl_cons, List.foldl_nil, Act.put, List.setIfInBounds_toArray, List.set_cons_zero, List.set_cons_succ, ln13]
                        refine Stays.off (by rfl) (show (undef : Value) = (bif (((cntR L) != e) || (q != e)) then undef else (.bool ((decide (0 < e)) && (x2 != e)) : Value)) from (by rw [cond_y hg0]))
                      · skip
                        rcases Bool.eq_false_or_eq_true ((decide (0 < e))) with hp | hp
                        · skip
                          rw [hg0] at ln13
                          rw [cond_n hg0] at ln18
                          rw [hp] at ln18
                          rw [cond_n hg0] at ln26
                          rw [cond_y hp] at ln26
                          simp only [fillAt, List.foldl_cons, List.foldl_nil, Act.put, List.setIfInBounds_toArray, List.set_cons_zero, List.set_cons_succ, ln13, ln18, ln26]
                          refine Stays.plain (.bool ((decide (0 < e)) && (x2 != e))) (by rfl) ?_ (show (_ : Value) = (bif (((cntR L) != e) || (q != e)) then undef else (.bool ((decide (0 < e)) && (x2 != e)) : Value)) from (by rw [cond_n hg0]))
                          first | (rw [hp]; go_simp; done) | (rw [hp]; go_simp; rfl) | (simp [hp, go_sem]; done) | (go_simp; simp [hp])
                        · skip
                          rw [hg0] at ln13
                          rw [cond_n hg0] at ln18
                          rw [hp] at ln18
                          rw [cond_n hg0] at ln26
                          simp only [fillAt, List.foldl_cons, List.foldl_nil, Act.put, List.setIfInBounds_toArray, List.set_cons_zero, List.set_cons_succ, ln13, ln18, ln26]
                          refine Stays.plain (.bool ((decide (0 < e)) && (x2 != e))) (by rfl) ?_ (show (_ : Value) = (bif (((cntR L) != e) || (q != e)) then undef else (.bool ((decide (0 < e)) && (x2 != e)) : Value)) from (by rw [cond_n hg0]))
                          first | (rw [hp]; go_simp; done) | (rw [hp]; go_simp; rfl) | (simp [hp, go_sem]; done) | (go_simp; simp [hp])
                    · intro g ws hws hl
                      have ln13 : g 159 = .bool (((cntR L) != e) || (q != e)) := linesOf_get 13 hl (by kernel_rfl)
                      have ln27 : g 173 = (bif (((cntR L) != e) || (q != e)) then undef else (.bool ((decide (0 < e)) && (x2 != e)) : Value)) := linesOf_get 27 hl (by kernel_rfl)
                      rcases Bool.eq_false_or_eq_true ((((cntR L) != e) || (q != e))) with hp | hp
                      · skip
                        rw [hp] at ln13
                        simp only [fillAt, List.foldl_cons, List.foldl_nil, Act.put, List.setIfInBounds_toArray, List.set_cons_zero, List.set_cons_succ, ln13, ln27]
                        refine Stays.plain (.bool ((((cntR L) != e) || (q != e)) || ((decide (0 < e)) && (x2 != e)))) (by rfl) ?_ rfl
                        first | (rw [hp]; go_simp; done) | (rw [hp]; go_simp; rfl) | (simp [hp, go_sem]; done) | (go_simp; simp [hp])
                      · skip
                        rw [hp] at ln13
                        rw [cond_n hp] at ln27
                        simp only [fillAt, List.foldl_cons, List.foldl_nil, Act.put, List.setIfInBounds_toArray, List.set_cons_zero, List.set_cons_succ, ln13, ln27]
                        refine Stays.plain (.bool ((((cntR L) != e) || (q != e)) || ((decide (0 < e)) && (x2 != e)))) (by rfl) ?_ rfl
                        first | (rw [hp]; go_simp; done) | (rw [hp]; go_simp; rfl) | (simp [hp, go_sem]; done) | (go_simp; simp [hp])
                    · intro g ws hws hl
                      have ln28 : g 174 = .bool ((((cntR L) != e) || (q != e)) || ((decide (0 < e)) && (x2 != e))) := linesOf_get 28 hl (by kernel_rfl)
                      simp only [fillAt, List.foldl_cons, List.foldl_nil, Act.put, List.setIfInBounds_toArray, List.set_cons_zero, List.set_cons_succ, ln28]
                      refine Stays.plain (.bool ((((cntR L) != e) || (q != e)) || ((decide (0 < e)) && (x2 != e)))) (by rfl) ?_ rfl
                      first | (go_simp; done) | (go_simp; rfl) | (go_simp; with_reducible rfl)
                    · intro g ws hws hl
                      have ln29 : g 175 = .bool ((((cntR L) != e) || (q != e)) || ((decide (0 < e)) && (x2 != e))) := linesOf_get 29 hl (by kernel_rfl)
                      rcases Bool.eq_false_or_eq_true (((((cntR L) != e) || (q != e)) || ((decide (0 < e)) && (x2 != e)))) with hg0 | hg0
                      · skip
                        rw [hg0] at ln29
                        simp only [fillAt, List.foldl_cons, List.foldl_nil, Act.put, List.setIfInBounds_toArray, List.set_cons_zero, List.set_cons_succ, ln29]
                        refine Stays.off (by rfl) (show (undef : Value) = (bif ((((cntR L) != e) || (q != e)) || ((decide (0 < e)) && (x2 != e))) then undef else (.pointer (some ⟨w.heap.size, 7, none⟩) : Value)) from (by rw [cond_y hg0]))
                      · skip
                        rw [hg0] at ln29
                        simp only [fillAt, List.foldl_cons, List.foldl_nil, Act.put, List.setIfInBounds_toArray, List.set_cons_zero, List.set_cons_succ, ln29]
                        refine Stays.plain (.pointer (some ⟨w.heap.size, 7, none⟩)) (by rfl) ?_ (show (_ : Value) = (bif ((((cntR L) != e) || (q != e)) || ((decide (0 < e)) && (x2 != e))) then undef else (.pointer (some ⟨w.heap.size, 7, none⟩) : Value)) from (by rw [cond_n hg0]))
                        first | (go_simp; done) | (go_simp; rfl) | (go_simp; with_reducible rfl)
                    · intro g ws hws hl
                      have ln29 : g 175 = .bool ((((cntR L) != e) || (q != e)) || ((decide (0 < e)) && (x2 != e))) := linesOf_get 29 hl (by kernel_rfl)
                      have ln30 : g 176 = (bif ((((cntR L) != e) || (q != e)) || ((decide (0 < e)) && (x2 != e))) then undef else (.pointer (some ⟨w.heap.size, 7, none⟩) : Value)) := linesOf_get 30 hl (by kernel_rfl)
                      rcases Bool.eq_false_or_eq_true (((((cntR L) != e) || (q != e)) || ((decide (0 < e)) && (x2 != e)))) with hg0 | hg0
                      · skip
                        rw [hg0] at ln29
                        simp only [fillAt, List.foldl_cons, List.foldl_nil, Act.put, List.setIfInBounds_toArray, List.set_cons_zero, List.set_cons_succ, ln29]
                        refine Stays.off (by rfl) (show (undef : Value) = (bif ((((cntR L) != e) || (q != e)) || ((decide (0 < e)) && (x2 != e))) then undef else (.slice ak k.length c4 : Value)) from (by rw [cond_y hg0]))
                      · skip
                        rw [hg0] at ln29
                        rw [cond_n hg0] at ln30
                        simp only [fillAt, List.foldl_cons, List.foldl_nil, Act.put, List.setIfInBounds_toArray, List.set_cons_zero, List.set_cons_succ, ln29, ln30]
                        obtain ⟨q0, p0⟩ := hws.row (k := w.heap.size) (by first | assumption | (simp; done) | (simp; omega) | omega)
                        refine Stays.plain (.slice ak k.length c4) (by rfl) ?_ (show (_ : Value) = (bif ((((cntR L) != e) || (q != e)) || ((decide (0 < e)) && (x2 != e))) then undef else (.slice ak k.length c4 : Value)) from (by rw [cond_n hg0]))
                        first | (go_simp; done) | (go_simp; rfl) | (go_simp; with_reducible rfl)
                    · intro g ws hws hl
                      have ln29 : g 175 = .bool ((((cntR L) != e) || (q != e)) || ((decide (0 < e)) && (x2 != e))) := linesOf_get 29 hl (by kernel_rfl)
                      have ln31 : g 177 = (bif ((((cntR L) != e) || (q != e)) || ((decide (0 < e)) && (x2 != e))) then undef else (.slice ak k.length c4 : Value)) := linesOf_get 31 hl (by kernel_rfl)
                      rcases Bool.eq_false_or_eq_true (((((cntR L) != e) || (q != e)) || ((decide (0 < e)) && (x2 != e)))) with hg0 | hg0
                      · skip
                        rw [hg0] at ln29
                        simp only [fillAt, List.foldl_cons, List.foldl_nil, Act.put, List.setIfInBounds_toArray, List.set_cons_zero, List.set_cons_succ, ln29]
                        refine Stays.off (by rfl) (show (undef : Value) = (bif ((((cntR L) != e) || (q != e)) || ((decide (0 < e)) && (x2 != e))) then undef else (.int .i64 (gapR k 0) : Value)) from (by rw [cond_y hg0]))
                      · skip
                        rw [hg0] at ln29
                        rw [cond_n hg0] at ln31
                        simp only [fillAt, List.foldl_cons, List.foldl_nil, Act.put, List.setIfInBounds_toArray, List.set_cons_zero, List.set_cons_succ, ln29, ln31]
                        refine Stays.call 85 ?_ (by rfl) ?_ ?_
                        rotate_left
                        · go_simp
                          try with_reducible rfl
                        · refine (FirstGap_spec 0 ak _ c4 k ws (hx'.out.k.ext (x5.drew.trans hws)) rfl (by omega)).mono ?_
                          rintro e w' ⟨rfl, h2⟩
                          exact ⟨_, rfl, h2, (show (_ : Value) = (bif ((((cntR L) != e) || (q != e)) || ((decide (0 < e)) && (x2 != e))) then undef else (.int .i64 (gapR k 0) : Value)) from (by rw [cond_n hg0]))⟩
                    · intro g ws hws hl
                      have ln29 : g 175 = .bool ((((cntR L) != e) || (q != e)) || ((decide (0 < e)) && (x2 != e))) := linesOf_get 29 hl (by kernel_rfl)
                      rcases Bool.eq_false_or_eq_true (((((cntR L) != e) || (q != e)) || ((decide (0 < e)) && (x2 != e)))) with hg0 | hg0
                      · skip
                        rw [hg0] at ln29
                        simp only [fillAt, List.foldl_cons, List.foldl_nil, Act.put, List.setIfInBounds_toArray, List.set_cons_zero, List.set_cons_succ, ln29]
                        refine Stays.off (by rfl) (show (undef : Value) = (bif ((((cntR L) != e) || (q != e)) || ((decide (0 < e)) && (x2 != e))) then undef else (.pointer (some ⟨w.heap.size, 1, none⟩) : Value)) from (by rw [cond_y hg0]))
                      · skip
                        rw [hg0] at ln29
                        simp only [fillAt, List.foldl_cons, List.foldl_nil, Act.put, List.setIfInBounds_toArray, List.set_cons_zero, List.set_cons_succ, ln29]
                        refine Stays.plain (.pointer (some ⟨w.heap.size, 1, none⟩)) (by rfl) ?_ (show (_ : Value) = (bif ((((cntR L) != e) || (q != e)) || ((decide (0 < e)) && (x2 != e))) then undef else (.pointer (some ⟨w.heap.size, 1, none⟩) : Value)) from (by rw [cond_n hg0]))
                        first | (go_simp; done) | (go_simp; rfl) | (go_simp; with_reducible rfl)
                    · intro g ws hws hl
                      have ln29 : g 175 = .bool ((((cntR L) != e) || (q != e)) || ((decide (0 < e)) && (x2 != e))) := linesOf_get 29 hl (by kernel_rfl)
                      have ln33 : g 179 = (bif ((((cntR L) != e) || (q != e)) || ((decide (0 < e)) && (x2 != e))) then undef else (.pointer (some ⟨w.heap.size, 1, none⟩) : Value)) := linesOf_get 33 hl (by kernel_rfl)
                      rcases Bool.eq_false_or_eq_true (((((cntR L) != e) || (q != e)) || ((decide (0 < e)) && (x2 != e)))) with hg0 | hg0
                      · skip
                        rw [hg0] at ln29
                        simp only [fillAt, List.foldl_cons, List.foldl_nil, Act.put, List.setIfInBounds_toArray, List.set_cons_zero, List.set_cons_succ, ln29]
                        refine Stays.off (by rfl) (show (undef : Value) = (bif ((((cntR L) != e) || (q != e)) || ((decide (0 < e)) && (x2 != e))) then undef else (.pointer (some ⟨w.heap.size, 2, none⟩) : Value)) from (by rw [cond_y hg0]))
                      · skip
                        rw [hg0] at ln29
                        rw [cond_n hg0] at ln33
                        simp only [fillAt, List.foldl_cons, List.foldl_nil, Act.put, List.setIfInBounds_toArray, List.set_cons_zero, List.set_cons_succ, ln29, ln33]
                        refine Stays.plain (.pointer (some ⟨w.heap.size, 2, none⟩)) (by rfl) ?_ (show (_ : Value) = (bif ((((cntR L) != e) || (q != e)) || ((decide (0 < e)) && (x2 != e))) then undef else (.pointer (some ⟨w.heap.size, 2, none⟩) : Value)) from (by rw [cond_n hg0]))
                        first | (go_simp; done) | (go_simp; rfl) | (go_simp; with_reducible rfl)
                    · intro g ws hws hl
                      have ln29 : g 175 = .bool ((((cntR L) != e) || (q != e)) || ((decide (0 < e)) && (x2 != e))) := linesOf_get 29 hl (by kernel_rfl)
                      have ln34 : g 180 = (bif ((((cntR L) != e) || (q != e)) || ((decide (0 < e)) && (x2 != e))) then undef else (.pointer (some ⟨w.heap.size, 2, none⟩) : Value)) := linesOf_get 34 hl (by kernel_rfl)
                      rcases Bool.eq_false_or_eq_true (((((cntR L) != e) || (q != e)) || ((decide (0 < e)) && (x2 != e)))) with hg0 | hg0
                      · skip
                        rw [hg0] at ln29
                        simp only [fillAt, List.foldl_cons, List.foldl_nil, Act.put, List.setIfInBounds_toArray, List.set_cons_zero, List.set_cons_succ, ln29]
                        refine Stays.off (by rfl) (show (undef : Value) = (bif ((((cntR L) != e) || (q != e)) || ((decide (0 < e)) && (x2 != e))) then undef else (.int .i64 b : Value)) from (by rw [cond_y hg0]))
                      · skip
                        rw [hg0] at ln29
                        rw [cond_n hg0] at ln34
                        simp only [fillAt, List.foldl_cons, List.foldl_nil, Act.put, List.setIfInBounds_toArray, List.set_cons_zero, List.set_cons_succ, ln29, ln34]
                        obtain ⟨q0, p0⟩ := hws.row (k := w.heap.size) (by first | assumption | (simp; done) | (simp; omega) | omega)
                        refine Stays.plain (.int .i64 b) (by rfl) ?_ (show (_ : Value) = (bif ((((cntR L) != e) || (q != e)) || ((decide (0 < e)) && (x2 != e))) then undef else (.int .i64 b : Value)) from (by rw [cond_n hg0]))
                        first | (go_simp; done) | (go_simp; rfl) | (go_simp; with_reducible rfl)
                    · intro g ws hws hl
                      have ln29 : g 175 = .bool ((((cntR L) != e) || (q != e)) || ((decide (0 < e)) && (x2 != e))) := linesOf_get 29 hl (by kernel_rfl)
                      have ln32 : g 178 = (bif ((((cntR L) != e) || (q != e)) || ((decide (0 < e)) && (x2 != e))) then undef else (.int .i64 (gapR k 0) : Value)) := linesOf_get 32 hl (by kernel_rfl)
                      have ln35 : g 181 = (bif ((((cntR L) != e) || (q != e)) || ((decide (0 < e)) && (x2 != e))) then undef else (.int .i64 b : Value)) := linesOf_get 35 hl (by kernel_rfl)
                      rcases Bool.eq_false_or_eq_true (((((cntR L) != e) || (q != e)) || ((decide (0 < e)) && (x2 != e)))) with hg0 | hg0
                      · skip
                        rw [hg0] at ln29
                        simp only [fillAt, List.foldl_cons, List.foldl_nil, Act.put, List.setIfInBounds_toArray, List.set_cons_zero, List.set_cons_succ, ln29]
                        refine Stays.off (by rfl) (show (undef : Value) = (bif ((((cntR L) != e) || (q != e)) || ((decide (0 < e)) && (x2 != e))) then undef else (.bool ((gapR k 0) != b) : Value)) from (by rw [cond_y hg0]))
                      · skip
                        rw [hg0] at ln29
                        rw [cond_n hg0] at ln32
                        rw [cond_n hg0] at ln35
                        simp only [fillAt, List.foldl_cons, List.foldl_nil, Act.put, List.setIfInBounds_toArray, List.set_cons_zero, List.set_cons_succ, ln29, ln32, ln35]
                        refine Stays.plain (.bool ((gapR k 0) != b)) (by rfl) ?_ (show (_ : Value) = (bif ((((cntR L) != e) || (q != e)) || ((decide (0 < e)) && (x2 != e))) then undef else (.bool ((gapR k 0) != b) : Value)) from (by rw [cond_n hg0]))
                        first | (go_simp; done) | (go_simp; rfl) | (go_simp; with_reducible rfl)
                    · intro g ws hws hl
                      have ln29 : g 175 = .bool ((((cntR L) != e) || (q != e)) || ((decide (0 < e)) && (x2 != e))) := linesOf_get 29 hl (by kernel_rfl)
                      have ln36 : g 182 = (bif ((((cntR L) != e) || (q != e)) || ((decide (0 < e)) && (x2 != e))) then undef else (.bool ((gapR k 0) != b) : Value)) := linesOf_get 36 hl (by kernel_rfl)
                      rcases Bool.eq_false_or_eq_true (((((cntR L) != e) || (q != e)) || ((decide (0 < e)) && (x2 != e)))) with hp | hp
                      · skip
                        rw [hp] at ln29
                        simp only [fillAt, List.foldl_cons, List.foldl_nil, Act.put, List.setIfInBounds_toArray, List.set_cons_zero, List.set_cons_succ, ln29, ln36]
                        refine Stays.plain (.bool (((((cntR L) != e) || (q != e)) || ((decide (0 < e)) && (x2 != e))) || ((gapR k 0) != b))) (by rfl) ?_ rfl
                        first | (rw [hp]; go_simp; done) | (rw [hp]; go_simp; rfl) | (simp [hp, go_sem]; done) | (go_simp; simp [hp])
                      · skip
                        rw [hp] at ln29
                        rw [cond_n hp] at ln36
                        simp only [fillAt, List.foldl_cons, List.foldl_nil, Act.put, List.setIfInBounds_toArray, List.set_cons_zero, List.set_cons_succ, ln29, ln36]
                        refine Stays.plain (.bool (((((cntR L) != e) || (q != e)) || ((decide (0 < e)) && (x2 != e))) || ((gapR k 0) != b))) (by rfl) ?_ rfl
                        first | (rw [hp]; go_simp; done) | (rw [hp]; go_simp; rfl) | (simp [hp, go_sem]; done) | (go_simp; simp [hp])
                    · intro g ws hws hl
                      have ln37 : g 183 = .bool (((((cntR L) != e) || (q != e)) || ((decide (0 < e)) && (x2 != e))) || ((gapR k 0) != b)) := linesOf_get 37 hl (by kernel_rfl)
                      simp only [fillAt, List.foldl_cons, List.foldl_nil, Act.put, List.setIfInBounds_toArray, List.set_cons_zero, List.set_cons_succ, ln37]
                      refine Stays.plain (.bool (((((cntR L) != e) || (q != e)) || ((decide (0 < e)) && (x2 != e))) || ((gapR k 0) != b))) (by rfl) ?_ rfl
                      first | (go_simp; done) | (go_simp; rfl) | (go_simp; with_reducible rfl)
                    · intro g ws hws hl
                      have ln38 : g 184 = .bool (((((cntR L) != e) || (q != e)) || ((decide (0 < e)) && (x2 != e))) || ((gapR k 0) != b)) := linesOf_get 38 hl (by kernel_rfl)
                      rcases Bool.eq_false_or_eq_true ((((((cntR L) != e) || (q != e)) || ((decide (0 < e)) && (x2 != e))) || ((gapR k 0) != b))) with hg0 | hg0
                      · skip
                        rw [hg0] at ln38
                        simp only [fillAt, List.foldl_cons, List.foldl_nil, Act.put, List.setIfInBounds_toArray, List.set_cons_zero, List.set_cons_succ, ln38]
                        refine Stays.off (by rfl) (show (undef : Value) = (bif (((((cntR L) != e) || (q != e)) || ((decide (0 < e)) && (x2 != e))) || ((gapR k 0) != b)) then undef else (.pointer (some ⟨w.heap.size, 11, none⟩) : Value)) from (by rw [cond_y hg0]))
                      · skip
                        rw [hg0] at ln38
                        simp only [fillAt, List.foldl_cons, List.foldl_nil, Act.put, List.setIfInBounds_toArray, List.set_cons_zero, List.set_cons_succ, ln38]
                        refine Stays.plain (.pointer (some ⟨w.heap.size, 11, none⟩)) (by rfl) ?_ (show (_ : Value) = (bif (((((cntR L) != e) || (q != e)) || ((decide (0 < e)) && (x2 != e))) || ((gapR k 0) != b)) then undef else (.pointer (some ⟨w.heap.size, 11, none⟩) : Value)) from (by rw [cond_n hg0]))
                        first | (go_simp; done) | (go_simp; rfl) | (go_simp; with_reducible rfl)
                    · intro g ws hws hl
                      have ln38 : g 184 = .bool (((((cntR L) != e) || (q != e)) || ((decide (0 < e)) && (x2 != e))) || ((gapR k 0) != b)) := linesOf_get 38 hl (by kernel_rfl)
                      have ln39 : g 185 = (bif (((((cntR L) != e) || (q != e)) || ((decide (0 < e)) && (x2 != e))) || ((gapR k 0) != b)) then undef else (.pointer (some ⟨w.heap.size, 11, none⟩) : Value)) := linesOf_get 39 hl (by kernel_rfl)
                      rcases Bool.eq_false_or_eq_true ((((((cntR L) != e) || (q != e)) || ((decide (0 < e)) && (x2 != e))) || ((gapR k 0) != b))) with hg0 | hg0
                      · skip
                        rw [hg0] at ln38
                        simp only [fillAt, List.foldl_cons, List.foldl_nil, Act.put, List.setIfInBounds_toArray, List.set_cons_zero, List.set_cons_succ, ln38]
                        refine Stays.off (by rfl) (show (undef : Value) = (bif (((((cntR L) != e) || (q != e)) || ((decide (0 < e)) && (x2 != e))) || ((gapR k 0) != b)) then undef else (.int .i64 co : Value)) from (by rw [cond_y hg0]))
                      · skip
                        rw [hg0] at ln38
                        rw [cond_n hg0] at ln39
                        simp only [fillAt, List.foldl_cons, List.foldl_nil, Act.put, List.setIfInBounds_toArray, List.set_cons_zero, List.set_cons_succ, ln38, ln39]
                        obtain ⟨q0, p0⟩ := hws.row (k := w.heap.size) (by first | assumption | (simp; done) | (simp; omega) | omega)
                        refine Stays.plain (.int .i64 co) (by rfl) ?_ (show (_ : Value) = (bif (((((cntR L) != e) || (q != e)) || ((decide (0 < e)) && (x2 != e))) || ((gapR k 0) != b)) then undef else (.int .i64 co : Value)) from (by rw [cond_n hg0]))
                        first | (go_simp; done) | (go_simp; rfl) | (go_simp; with_reducible rfl)
                    · intro g ws hws hl
                      have ln38 : g 184 = .bool (((((cntR L) != e) || (q != e)) || ((decide (0 < e)) && (x2 != e))) || ((gapR k 0) != b)) := linesOf_get 38 hl (by kernel_rfl)
                      have ln40 : g 186 = (bif (((((cntR L) != e) || (q != e)) || ((decide (0 < e)) && (x2 != e))) || ((gapR k 0) != b)) then undef else (.int .i64 co : Value)) := linesOf_get 40 hl (by kernel_rfl)
                      rcases Bool.eq_false_or_eq_true ((((((cntR L) != e) || (q != e)) || ((decide (0 < e)) && (x2 != e))) || ((gapR k 0) != b))) with hg0 | hg0
                      · skip
                        rw [hg0] at ln38
                        simp only [fillAt, List.foldl_cons, List.foldl_nil, Act.put, List.setIfInBounds_toArray, List.set_cons_zero, List.set_cons_succ, ln38]
                        refine Stays.off (by rfl) (show (undef : Value) = (bif (((((cntR L) != e) || (q != e)) || ((decide (0 < e)) && (x2 != e))) || ((gapR k 0) != b)) then undef else (.bool (co != 0) : Value)) from (by rw [cond_y hg0]))
                      · skip
                        rw [hg0] at ln38
                        rw [cond_n hg0] at ln40
                        simp only [fillAt, List.foldl_cons, List.foldl_nil, Act.put, List.setIfInBounds_toArray, List.set_cons_zero, List.set_cons_succ, ln38, ln40]
                        refine Stays.plain (.bool (co != 0)) (by rfl) ?_ (show (_ : Value) = (bif (((((cntR L) != e) || (q != e)) || ((decide (0 < e)) && (x2 != e))) || ((gapR k 0) != b)) then undef else (.bool (co != 0) : Value)) from (by rw [cond_n hg0]))
                        first | (go_simp; done) | (go_simp; rfl) | (go_simp; with_reducible rfl)
                    · intro g ws hws hl
                      have ln38 : g 184 = .bool (((((cntR L) != e) || (q != e)) || ((decide (0 < e)) && (x2 != e))) || ((gapR k 0) != b)) := linesOf_get 38 hl (by kernel_rfl)
                      have ln41 : g 187 = (bif (((((cntR L) != e) || (q != e)) || ((decide (0 < e)) && (x2 != e))) || ((gapR k 0) != b)) then undef else (.bool (co != 0) : Value)) := linesOf_get 41 hl (by kernel_rfl)
                      rcases Bool.eq_false_or_eq_true ((((((cntR L) != e) || (q != e)) || ((decide (0 < e)) && (x2 != e))) || ((gapR k 0) != b))) with hp | hp
                      · skip
                        rw [hp] at ln38
                        simp only [fillAt, List.foldl_cons, List.foldl_nil, Act.put, List.setIfInBounds_toArray, List.set_cons_zero, List.set_cons_succ, ln38, ln41]
                        refine Stays.plain (.bool ((((((cntR L) != e) || (q != e)) || ((decide (0 < e)) && (x2 != e))) || ((gapR k 0) != b)) || (co != 0))) (by rfl) ?_ rfl
                        first | (rw [hp]; go_simp; done) | (rw [hp]; go_simp; rfl) | (simp [hp, go_sem]; done) | (go_simp; simp [hp])
                      · skip
                        rw [hp] at ln38
                        rw [cond_n hp] at ln41
                        simp only [fillAt, List.foldl_cons, List.foldl_nil, Act.put, List.setIfInBounds_toArray, List.set_cons_zero, List.set_cons_succ, ln38, ln41]
                        refine Stays.plain (.bool ((((((cntR L) != e) || (q != e)) || ((decide (0 < e)) && (x2 != e))) || ((gapR k 0) != b)) || (co != 0))) (by rfl) ?_ rfl
                        first | (rw [hp]; go_simp; done) | (rw [hp]; go_simp; rfl) | (simp [hp, go_sem]; done) | (go_simp; simp [hp])
                  · intro g w6 hw6 hl
                    have ln0 : g 146 = .slice (some ⟨bl, ol, none⟩) L.length ca1 := (allLines_get 146 0 0 hl rfl)
                    have ln1 : g 147 = .int .i64 (cntR L) := (allLines_get 147 1 0 hl rfl)
                    have ln2 : g 148 = .pointer (some ⟨w.heap.size, 1, none⟩) := (allLines_get 148 2 0 hl rfl)
                    have ln3 : g 149 = .pointer (some ⟨w.heap.size, 3, none⟩) := (allLines_get 149 3 0 hl rfl)
                    have ln4 : g 150 = .int .i64 e := (allLines_get 150 4 0 hl rfl)
                    have ln5 : g 151 = .bool ((cntR L) != e) := (allLines_get 151 5 0 hl rfl)
                    have ln6 : g 152 = .bool ((cntR L) != e) := (allLines_get 152 6 0 hl rfl)
                    have ln12 : g 158 = .bool (((cntR L) != e) || (q != e)) := (allLines_get 158 12 0 hl rfl)
                    have ln13 : g 159 = .bool (((cntR L) != e) || (q != e)) := (allLines_get 159 13 0 hl rfl)
                    have ln28 : g 174 = .bool ((((cntR L) != e) || (q != e)) || ((decide (0 < e)) && (x2 != e))) := (allLines_get 174 28 0 hl rfl)
                    have ln29 : g 175 = .bool ((((cntR L) != e) || (q != e)) || ((decide (0 < e)) && (x2 != e))) := (allLines_get 175 29 0 hl rfl)
                    have ln37 : g 183 = .bool (((((cntR L) != e) || (q != e)) || ((decide (0 < e)) && (x2 != e))) || ((gapR k 0) != b)) := (allLines_get 183 37 0 hl rfl)
                    have ln38 : g 184 = .bool (((((cntR L) != e) || (q != e)) || ((decide (0 < e)) && (x2 != e))) || ((gapR k 0) != b)) := (allLines_get 184 38 0 hl rfl)
                    have ln42 : g 188 = .bool ((((((cntR L) != e) || (q != e)) || ((decide (0 < e)) && (x2 != e))) || ((gapR k 0) != b)) || (co != 0)) := (allLines_get 188 42 0 hl rfl)
                    clear hl
                    simp only [fillAt, List.foldl_cons, List.foldl_nil, Act.put, List.setIfInBounds_toArray, List.set_cons_zero, List.set_cons_succ, ln0, ln1, ln2, ln3, ln4, ln5, ln6, ln12, ln13, ln28, ln29, ln37, ln38, ln42]
                    have h56 : Ext w5 w6 := (Ext.refl _).drew.trans hw6
                    have x6 : Ext w w6 := x5.trans h56
                    clear hw6
                    clear bw5_0 bw5_1 bw5_2 bw5_3 bw5_4 bw5_5 bw5_6 bw5_7 bw5_8 bw5_9 bw5_10 bw5_11 bw5_F
                    have hB_w6 := hide (hB_w5.out.ext h56)
                    have bw6_0 := hB_w6.out.c 0 _ rfl
                    have bw6_1 := hB_w6.out.c 1 _ rfl
                    have bw6_2 := hB_w6.out.c 2 _ rfl
                    have bw6_3 := hB_w6.out.c 3 _ rfl
                    have bw6_4 := hB_w6.out.c 4 _ rfl
                    have bw6_5 := hB_w6.out.c 5 _ rfl
                    have bw6_6 := hB_w6.out.c 6 _ rfl
                    have bw6_7 := hB_w6.out.c 7 _ rfl
                    have bw6_8 := hB_w6.out.c 8 _ rfl
                    have bw6_9 := hB_w6.out.c 9 _ rfl
                    have bw6_10 := hB_w6.out.c 10 _ rfl
                    have bw6_11 := hB_w6.out.c 11 _ rfl
                    have bw6_F := hB_w6.out.fr
                    have kb_w6 : w.heap.size < w6.heap.size := by have := h56.size; omega
                    generalize hc1 : ((((((cntR L) != e) || (q != e)) || ((decide (0 < e)) && (x2 != e))) || ((gapR k 0) != b)) || (co != 0)) = cc
                    replace hc1 := hide hc1
                    rw [show ((((((cntR L != e) || (q != e)) || (decide (0 < e) && (x2 != e))) || (gapR k 0 != b)) || (co != 0))) = cc from hc1.out] at hT
                    cases cc
                    rotate_left
                    · have hRv : Hid (R = false) := hide (by rw [hT.out]; rfl)
                      go_wp2
                      go_ret
                      exact ⟨by (rw [hRv.out]) <;> rfl, x6⟩
                    rw [Bool.not_false, Bool.true_and] at hT
                    replace hT : R = _ := hT
                    go_wp2_with fail
                    go_loopw [7] (fun i wu => ∃ (j : Nat), i = .int .i64 j ∧ j ≤ f.length ∧ Hid (topB (f.take j) se = true) ∧ Ext w6 wu) (fun i _ => f.length - (intOf i).toNat)
                    case atStart => exact ⟨0, rfl, Nat.zero_le _, hide rfl, Ext.refl _⟩
                    case round =>
                      obtain ⟨wu, rfl⟩ : ∃ x, x = wr := ⟨_, rfl⟩
                      clear bw6_0 bw6_1 bw6_2 bw6_3 bw6_4 bw6_5 bw6_6 bw6_7 bw6_8 bw6_9 bw6_10 bw6_11 bw6_F
                      obtain ⟨j, rfl, hj, hB, hg⟩ := hrel
                      have xrwu : Ext w wu := x6.trans hg
                      have hB_wu := hide (hB_w6.out.ext hg)
                      have bwu_0 := hB_wu.out.c 0 _ rfl
                      have bwu_1 := hB_wu.out.c 1 _ rfl
                      have bwu_2 := hB_wu.out.c 2 _ rfl
                      have bwu_3 := hB_wu.out.c 3 _ rfl
                      have bwu_4 := hB_wu.out.c 4 _ rfl
                      have bwu_5 := hB_wu.out.c 5 _ rfl
                      have bwu_6 := hB_wu.out.c 6 _ rfl
                      have bwu_7 := hB_wu.out.c 7 _ rfl
                      have bwu_8 := hB_wu.out.c 8 _ rfl
                      have bwu_9 := hB_wu.out.c 9 _ rfl
                      have bwu_10 := hB_wu.out.c 10 _ rfl
                      have bwu_11 := hB_wu.out.c 11 _ rfl
                      have bwu_F := hB_wu.out.fr
                      have kb_wu : w.heap.size < wu.heap.size := by have := hg.size; omega
                      by_cases hlt : j < f.length
                      · skip
                        have hxq : ReadR w af f := hx'.out.f
                        rcases hxq with hnil | ⟨bx, off, rfl, hx⟩
                        · rw [hnil] at hlt; simp at hlt
                        obtain ⟨cx, cx2⟩ := hx j hlt
                        have la : bx < w.heap.size := World.block_lt_of_cell? w _ cx
                        have hr := (xrwu.row la).1
                        have dx := (hr _).trans cx
                        have dx2 := (hr _).trans cx2
                        have i1 : (0 : Int) ≤ (j : Int) := by omega
                        have i2 : (j : Int) < (f.length : Int) := by omega
                        have lw : bx < wu.heap.size := by omega
                        have hst := hide (topB_succ (m := se) hlt)
                        have hno := fun h => hide (topB_no (m := se) hlt h)
                        rw [hB.out] at hst
                        obtain ⟨⟨x1, x2⟩, hx0⟩ : ∃ x : Rg, Hid (f.getD j dr = x) := ⟨_, hide rfl⟩
                        rw [hx0.out] at dx dx2 hst hno
                        dsimp only at dx dx2 hst hno
                        clear hx cx cx2 hr hx0 hB
                        by_cases t1 : x2 ≤ se
                        · have t1e : decide (se < x2) = false := decide_eq_false (by omega)
                          have hst2 := hide (hst.out.trans (by rw [decide_eq_true t1]))
                          clear hst hno
                          go_wp2_with fail
                          refine wp_region_seq (Ext _) (by kernel_rfl) (by kernel_rfl) ((Ext.refl _).drew) ?_
                          iterate 9 (((first | (refine wpSeqS_plain (v := ?_) rfl (by rfl) ?_ ?_; rotate_left; (focus (intro ws hws; obtain ⟨q0, p0⟩ := hws.row (k := w.heap.size) (by first | assumption | (simp; done) | (simp; omega) | omega); obtain ⟨q1, p1⟩ := hws.row (k := bx) (by first | assumption | (simp; done) | (simp; omega) | omega); go_simp; (try with_reducible rfl); done))) | fail)); (try simp only [Act.put, List.getElem_toArray, List.getElem_cons_zero, List.getElem_cons_succ, List.setIfInBounds_toArray, List.set_cons_zero, List.set_cons_succ]))
                          refine wpSeqS_done (by kernel_rfl) (fun ws hws => ?_)
                          go_wp2
                          go_roundw
                          case rel => exact ⟨j + 1, by go_num, by omega, hst2, hg.trans hws⟩
                          case measure => simp [intOf]; omega
                        · have t1e : decide (se < x2) = true := decide_eq_true (by omega)
                          have hfb := hno t1
                          have hRv : Hid (R = false) := hide (by rw [hT, hfb.out]; rfl)
                          clear hst hno hfb
                          replace hT := hide hT
                          go_wp2_with fail
                          refine wp_region_seq (Ext _) (by kernel_rfl) (by kernel_rfl) ((Ext.refl _).drew) ?_
                          iterate 9 (((first | (refine wpSeqS_plain (v := ?_) rfl (by rfl) ?_ ?_; rotate_left; (focus (intro ws hws; obtain ⟨q0, p0⟩ := hws.row (k := w.heap.size) (by first | assumption | (simp; done) | (simp; omega) | omega); obtain ⟨q1, p1⟩ := hws.row (k := bx) (by first | assumption | (simp; done) | (simp; omega) | omega); go_simp; (try with_reducible rfl); done))) | fail)); (try simp only [Act.put, List.getElem_toArray, List.getElem_cons_zero, List.getElem_cons_succ, List.setIfInBounds_toArray, List.set_cons_zero, List.set_cons_succ]))
                          refine wpSeqS_done (by kernel_rfl) (fun ws hws => ?_)
                          go_wp2
                          go_ret
                          exact ⟨by (rw [hRv.out]) <;> rfl, xrwu.trans hws⟩
                      · obtain rfl : j = f.length := by omega
                        rw [List.take_length] at hB
                        rw [hB.out, Bool.true_and] at hT
                        clear hB hlt hj
                        go_wp2_with fail
                        go_loopw [8] (fun i wv => ∃ (j : Nat), i = .int .i64 j ∧ j ≤ k.length ∧ Hid (topB (k.take j) se = true) ∧ Ext wu wv) (fun i _ => k.length - (intOf i).toNat)
                        case atStart => exact ⟨0, rfl, Nat.zero_le _, hide rfl, Ext.refl _⟩
                        case round =>
                          obtain ⟨wv, rfl⟩ : ∃ x, x = wr := ⟨_, rfl⟩
                          clear bwu_0 bwu_1 bwu_2 bwu_3 bwu_4 bwu_5 bwu_6 bwu_7 bwu_8 bwu_9 bwu_10 bwu_11 bwu_F
                          obtain ⟨j, rfl, hj, hB, hg⟩ := hrel
                          have xrwv : Ext w wv := xrwu.trans hg
                          have hB_wv := hide (hB_wu.out.ext hg)
                          have bwv_0 := hB_wv.out.c 0 _ rfl
                          have bwv_1 := hB_wv.out.c 1 _ rfl
                          have bwv_2 := hB_wv.out.c 2 _ rfl
                          have bwv_3 := hB_wv.out.c 3 _ rfl
                          have bwv_4 := hB_wv.out.c 4 _ rfl
                          have bwv_5 := hB_wv.out.c 5 _ rfl
                          have bwv_6 := hB_wv.out.c 6 _ rfl
                          have bwv_7 := hB_wv.out.c 7 _ rfl
                          have bwv_8 := hB_wv.out.c 8 _ rfl
                          have bwv_9 := hB_wv.out.c 9 _ rfl
                          have bwv_10 := hB_wv.out.c 10 _ rfl
                          have bwv_11 := hB_wv.out.c 11 _ rfl
                          have bwv_F := hB_wv.out.fr
                          have kb_wv : w.heap.size < wv.heap.size := by have := hg.size; omega
                          by_cases hlt : j < k.length
                          · skip
                            have hxq : ReadR w ak k := hx'.out.k
                            rcases hxq with hnil | ⟨bx, off, rfl, hx⟩
                            · rw [hnil] at hlt; simp at hlt
                            obtain ⟨cx, cx2⟩ := hx j hlt
                            have la : bx < w.heap.size := World.block_lt_of_cell? w _ cx
                            have hr := (xrwv.row la).1
                            have dx := (hr _).trans cx
                            have dx2 := (hr _).trans cx2
                            have i1 : (0 : Int) ≤ (j : Int) := by omega
                            have i2 : (j : Int) < (k.length : Int) := by omega
                            have lw : bx < wv.heap.size := by omega
                            have hst := hide (topB_succ (m := se) hlt)
                            have hno := fun h => hide (topB_no (m := se) hlt h)
                            rw [hB.out] at hst
                            obtain ⟨⟨x1, x2⟩, hx0⟩ : ∃ x : Rg, Hid (k.getD j dr = x) := ⟨_, hide rfl⟩
                            rw [hx0.out] at dx dx2 hst hno
                            dsimp only at dx dx2 hst hno
                            clear hx cx cx2 hr hx0 hB
                            by_cases t1 : x2 ≤ se
                            · have t1e : decide (se < x2) = false := decide_eq_false (by omega)
                              have hst2 := hide (hst.out.trans (by rw [decide_eq_true t1]))
                              clear hst hno
                              go_wp2_with fail
                              refine wp_region_seq (Ext _) (by kernel_rfl) (by kernel_rfl) ((Ext.refl _).drew) ?_
                              iterate 9 (((first | (refine wpSeqS_plain (v := ?_) rfl (by rfl) ?_ ?_; rotate_left; (focus (intro ws hws; obtain ⟨q0, p0⟩ := hws.row (k := w.heap.size) (by first | assumption | (simp; done) | (simp; omega) | omega); obtain ⟨q1, p1⟩ := hws.row (k := bx) (by first | assumption | (simp; done) | (simp; omega) | omega); go_simp; (try with_reducible rfl); done))) | fail)); (try simp only [Act.put, List.getElem_toArray, List.getElem_cons_zero, List.getElem_cons_succ, List.setIfInBounds_toArray, List.set_cons_zero, List.set_cons_succ]))
                              refine wpSeqS_done (by kernel_rfl) (fun ws hws => ?_)
                              go_wp2
                              go_roundw
                              case rel => exact ⟨j + 1, by go_num, by omega, hst2, hg.trans hws⟩
                              case measure => simp [intOf]; omega
                            · have t1e : decide (se < x2) = true := decide_eq_true (by omega)
                              have hfb := hno t1
                              have hRv : Hid (R = false) := hide (by rw [hT, hfb.out]; rfl)
                              clear hst hno hfb
                              replace hT := hide hT
                              go_wp2_with fail
                              refine wp_region_seq (Ext _) (by kernel_rfl) (by kernel_rfl) ((Ext.refl _).drew) ?_
                              iterate 9 (((first | (refine wpSeqS_plain (v := ?_) rfl (by rfl) ?_ ?_; rotate_left; (focus (intro ws hws; obtain ⟨q0, p0⟩ := hws.row (k := w.heap.size) (by first | assumption | (simp; done) | (simp; omega) | omega); obtain ⟨q1, p1⟩ := hws.row (k := bx) (by first | assumption | (simp; done) | (simp; omega) | omega); go_simp; (try with_reducible rfl); done))) | fail)); (try simp only [Act.put, List.getElem_toArray, List.getElem_cons_zero, List.getElem_cons_succ, List.setIfInBounds_toArray, List.set_cons_zero, List.set_cons_succ]))
                              refine wpSeqS_done (by kernel_rfl) (fun ws hws => ?_)
                              go_wp2
                              go_ret
                              exact ⟨by (rw [hRv.out]) <;> rfl, xrwv.trans hws⟩
                          · obtain rfl : j = k.length := by omega
                            rw [List.take_length] at hB
                            rw [hB.out, Bool.true_and] at hT
                            clear hB hlt hj
                            by_cases u1 : fk = 0
                            · have u1e : (fk == 0) = true := by simp [u1]
                              by_cases u2 : fi = -1
                              · have u2e : (fi == -1) = true := by simp [u2]
                                have u2n : (fi != -1) = false := by simp [u2]
                                have hRv : Hid (R = (st == stS st b e fk se)) := hide (by rw [hT, beq_dec]; simp [u1, u2])
                                replace hT := hide hT
                                replace u1 := hide u1
                                replace u2 := hide u2
                                go_wp2_with fail
                                refine wp_region_linesA [Line.is (.pointer (some ⟨w.heap.size, 0, none⟩)), Line.is (.int .i64 st), Line.is (.agg #[.int .i64 st, .int .i64 z, .int .i64 b, .int .i64 e, .slice ar xs.length c1, .slice ap p.length c2, .slice af f.length c3, .slice ak k.length c4, .int .i64 fi, .int .i64 fk, .int .i64 se, .int .i64 co]), Line.is (.int .i64 (stS st b e fk se)), Line.is (.bool (st == (stS st b e fk se))), Line.is (.bool (st == (stS st b e fk se)))] [241, 242, 243, 244, 245, 2] ?_ ?_ (by kernel_rfl) (by kernel_rfl) (by kernel_rfl) (by kernel_rfl) (by kernel_rfl) ?_ ?_
                                rotate_left
                                · intro g
                                  simp only [fillAt, List.foldl_cons, List.foldl_nil, Act.put, List.setIfInBounds_toArray, List.set_cons_zero, List.set_cons_succ]
                                  exact rfl
                                · refine Each.cons ?_ (Each.cons ?_ (Each.cons ?_ (Each.cons ?_ (Each.cons ?_ (Each.cons ?_ (Each.nil))))))
                                  · intro g ws hws hl
                                    (try simp only [fillAt, List.foldl_cons, List.foldl_nil, Act.put, List.setIfInBounds_toArray, List.set_cons_zero, List.set_cons_succ])
                                    refine Stays.plain (.pointer (some ⟨w.heap.size, 0, none⟩)) (by rfl) ?_ rfl
                                    first | (go_simp; done) | (go_simp; rfl) | (go_simp; with_reducible rfl)
                                  · intro g ws hws hl
                                    have ln0 : g 241 = .pointer (some ⟨w.heap.size, 0, none⟩) := linesOf_get 0 hl (by kernel_rfl)
                                    simp only [fillAt, List.foldl_cons, List.foldl_nil, Act.put, List.setIfInBounds_toArray, List.set_cons_zero, List.set_cons_succ, ln0]
                                    obtain ⟨q0, p0⟩ := hws.row (k := w.heap.size) (by first | assumption | (simp; done) | (simp; omega) | omega)
                                    refine Stays.plain (.int .i64 st) (by rfl) ?_ rfl
                                    first | (go_simp; done) | (go_simp; rfl) | (go_simp; with_reducible rfl)
                                  · intro g ws hws hl
                                    (try simp only [fillAt, List.foldl_cons, List.foldl_nil, Act.put, List.setIfInBounds_toArray, List.set_cons_zero, List.set_cons_succ])
                                    obtain ⟨q0, p0⟩ := hws.row (k := w.heap.size) (by first | assumption | (simp; done) | (simp; omega) | omega)
                                    refine Stays.plain (.agg #[.int .i64 st, .int .i64 z, .int .i64 b, .int .i64 e, .slice ar xs.length c1, .slice ap p.length c2, .slice af f.length c3, .slice ak k.length c4, .int .i64 fi, .int .i64 fk, .int .i64 se, .int .i64 co]) (by rfl) ?_ rfl
                                    first | (go_simp; done) | (go_simp; rfl) | (go_simp; with_reducible rfl)
                                  · intro g ws hws hl
                                    have ln2 : g 243 = .agg #[.int .i64 st, .int .i64 z, .int .i64 b, .int .i64 e, .slice ar xs.length c1, .slice ap p.length c2, .slice af f.length c3, .slice ak k.length c4, .int .i64 fi, .int .i64 fk, .int .i64 se, .int .i64 co] := linesOf_get 2 hl (by kernel_rfl)
                                    simp only [fillAt, List.foldl_cons, List.foldl_nil, Act.put, List.setIfInBounds_toArray, List.set_cons_zero, List.set_cons_succ, ln2]
                                    refine Stays.call 86 ?_ (by rfl) ?_ ?_
                                    rotate_left
                                    · go_simp
                                      try with_reducible rfl
                                    · refine (state_spec ⟨st, z, b, e, xs, p, f, k, fi, fk, se, co⟩ ⟨ar, ap, af, ak⟩ c1 c2 c3 c4 ws).mono ?_
                                      rintro e w' ⟨rfl, h2⟩
                                      exact ⟨_, rfl, h2, rfl⟩
                                  · intro g ws hws hl
                                    have ln1 : g 242 = .int .i64 st := linesOf_get 1 hl (by kernel_rfl)
                                    have ln3 : g 244 = .int .i64 (stS st b e fk se) := linesOf_get 3 hl (by kernel_rfl)
                                    simp only [fillAt, List.foldl_cons, List.foldl_nil, Act.put, List.setIfInBounds_toArray, List.set_cons_zero, List.set_cons_succ, ln1, ln3]
                                    refine Stays.plain (.bool (st == (stS st b e fk se))) (by rfl) ?_ rfl
                                    first | (go_simp; done) | (go_simp; rfl) | (go_simp; with_reducible rfl)
                                  · intro g ws hws hl
                                    have ln4 : g 245 = .bool (st == (stS st b e fk se)) := linesOf_get 4 hl (by kernel_rfl)
                                    simp only [fillAt, List.foldl_cons, List.foldl_nil, Act.put, List.setIfInBounds_toArray, List.set_cons_zero, List.set_cons_succ, ln4]
                                    refine Stays.plain (.bool (st == (stS st b e fk se))) (by rfl) ?_ rfl
                                    first | (go_simp; done) | (go_simp; rfl) | (go_simp; with_reducible rfl)
                                · intro g w9 hw9 hl
                                  have ln0 : g 241 = .pointer (some ⟨w.heap.size, 0, none⟩) := (allLines_get 241 0 0 hl rfl)
                                  have ln1 : g 242 = .int .i64 st := (allLines_get 242 1 0 hl rfl)
                                  have ln2 : g 243 = .agg #[.int .i64 st, .int .i64 z, .int .i64 b, .int .i64 e, .slice ar xs.length c1, .slice ap p.length c2, .slice af f.length c3, .slice ak k.length c4, .int .i64 fi, .int .i64 fk, .int .i64 se, .int .i64 co] := (allLines_get 243 2 0 hl rfl)
                                  have ln3 : g 244 = .int .i64 (stS st b e fk se) := (allLines_get 244 3 0 hl rfl)
                                  have ln4 : g 245 = .bool (st == (stS st b e fk se)) := (allLines_get 245 4 0 hl rfl)
                                  have ln5 : g 2 = .bool (st == (stS st b e fk se)) := (allLines_get 2 5 0 hl rfl)
                                  clear hl
                                  simp only [fillAt, List.foldl_cons, List.foldl_nil, Act.put, List.setIfInBounds_toArray, List.set_cons_zero, List.set_cons_succ, ln0, ln1, ln2, ln3, ln4, ln5]
                                  go_wp2
                                  go_ret
                                  exact ⟨by (rw [hRv.out]) <;> rfl, xrwv.trans ((Ext.refl _).drew.trans hw9)⟩
                              · have u2e : (fi == -1) = false := by simp [u2]
                                have u2n : (fi != -1) = true := by simp [u2]
                                have hRv : Hid (R = false) := hide (by rw [hT]; simp [u1, u2])
                                replace hT := hide hT
                                replace u1 := hide u1
                                replace u2 := hide u2
                                go_wp2
                                go_ret
                                exact ⟨by (rw [hRv.out]) <;> rfl, xrwv⟩
                            · have u1e : (fk == 0) = false := by simp [u1]
                              by_cases u2 : fi = -1
                              · have u2e : (fi == -1) = true := by simp [u2]
                                have u2n : (fi != -1) = false := by simp [u2]
                                have hRv : Hid (R = false) := hide (by rw [hT]; simp [u1, u2])
                                replace hT := hide hT
                                replace u1 := hide u1
                                replace u2 := hide u2
                                go_wp2
                                go_ret
                                exact ⟨by (rw [hRv.out]) <;> rfl, xrwv⟩
                              · have u2e : (fi == -1) = false := by simp [u2]
                                have u2n : (fi != -1) = true := by simp [u2]
                                by_cases u3 : fi = e
                                · have u3n : (fi != e) = false := by simp [u3]
                                  have hem : ¬ e = -1 := by omega
                                  have hRv : Hid (R = (st == stS st b e fk se)) := hide (by rw [hT, beq_dec]; simp [u1, u2, u3, hem])
                                  replace hT := hide hT
                                  replace u1 := hide u1
                                  replace u2 := hide u2
                                  replace u3 := hide u3
                                  replace hem := hide hem
                                  go_wp2_with fail
                                  refine wp_region_linesA [Line.is (.pointer (some ⟨w.heap.size, 0, none⟩)), Line.is (.int .i64 st), Line.is (.agg #[.int .i64 st, .int .i64 z, .int .i64 b, .int .i64 e, .slice ar xs.length c1, .slice ap p.length c2, .slice af f.length c3, .slice ak k.length c4, .int .i64 fi, .int .i64 fk, .int .i64 se, .int .i64 co]), Line.is (.int .i64 (stS st b e fk se)), Line.is (.bool (st == (stS st b e fk se))), Line.is (.bool (st == (stS st b e fk se)))] [241, 242, 243, 244, 245, 2] ?_ ?_ (by kernel_rfl) (by kernel_rfl) (by kernel_rfl) (by kernel_rfl) (by kernel_rfl) ?_ ?_
                                  rotate_left
                                  · intro g
                                    simp only [fillAt, List.foldl_cons, List.foldl_nil, Act.put, List.setIfInBounds_toArray, List.set_cons_zero, List.set_cons_succ]
                                    exact rfl
                                  · refine Each.cons ?_ (Each.cons ?_ (Each.cons ?_ (Each.cons ?_ (Each.cons ?_ (Each.cons ?_ (Each.nil))))))
                                    · intro g ws hws hl
                                      (try simp only [fillAt, List.foldl_cons, List.foldl_nil, Act.put, List.setIfInBounds_toArray, List.set_cons_zero, List.set_cons_succ])
                                      refine Stays.plain (.pointer (some ⟨w.heap.size, 0, none⟩)) (by rfl) ?_ rfl
                                      first | (go_simp; done) | (go_simp; rfl) | (go_simp; with_reducible rfl)
                                    · intro g ws hws hl
                                      have ln0 : g 241 = .pointer (some ⟨w.heap.size, 0, none⟩) := linesOf_get 0 hl (by kernel_rfl)
                                      simp only [fillAt, List.foldl_cons, List.foldl_nil, Act.put, List.setIfInBounds_toArray, List.set_cons_zero, List.set_cons_succ, ln0]
                                      obtain ⟨q0, p0⟩ := hws.row (k := w.heap.size) (by first | assumption | (simp; done) | (simp; omega) | omega)
                                      refine Stays.plain (.int .i64 st) (by rfl) ?_ rfl
                                      first | (go_simp; done) | (go_simp; rfl) | (go_simp; with_reducible rfl)
                                    · intro g ws hws hl
                                      (try simp only [fillAt, List.foldl_cons, List.foldl_nil, Act.put, List.setIfInBounds_toArray, List.set_cons_zero, List.set_cons_succ])
                                      obtain ⟨q0, p0⟩ := hws.row (k := w.heap.size) (by first | assumption | (simp; done) | (simp; omega) | omega)
                                      refine Stays.plain (.agg #[.int .i64 st, .int .i64 z, .int .i64 b, .int .i64 e, .slice ar xs.length c1, .slice ap p.length c2, .slice af f.length c3, .slice ak k.length c4, .int .i64 fi, .int .i64 fk, .int .i64 se, .int .i64 co]) (by rfl) ?_ rfl
                                      first | (go_simp; done) | (go_simp; rfl) | (go_simp; with_reducible rfl)
                                    · intro g ws hws hl
                                      have ln2 : g 243 = .agg #[.int .i64 st, .int .i64 z, .int .i64 b, .int .i64 e, .slice ar xs.length c1, .slice ap p.length c2, .slice af f.length c3, .slice ak k.length c4, .int .i64 fi, .int .i64 fk, .int .i64 se, .int .i64 co] := linesOf_get 2 hl (by kernel_rfl)
                                      simp only [fillAt, List.foldl_cons, List.foldl_nil, Act.put, List.setIfInBounds_toArray, List.set_cons_zero, List.set_cons_succ, ln2]
                                      refine Stays.call 86 ?_ (by rfl) ?_ ?_
                                      rotate_left
                                      · go_simp
                                        try with_reducible rfl
                                      · refine (state_spec ⟨st, z, b, e, xs, p, f, k, fi, fk, se, co⟩ ⟨ar, ap, af, ak⟩ c1 c2 c3 c4 ws).mono ?_
                                        rintro e w' ⟨rfl, h2⟩
                                        exact ⟨_, rfl, h2, rfl⟩
                                    · intro g ws hws hl
                                      have ln1 : g 242 = .int .i64 st := linesOf_get 1 hl (by kernel_rfl)
                                      have ln3 : g 244 = .int .i64 (stS st b e fk se) := linesOf_get 3 hl (by kernel_rfl)
                                      simp only [fillAt, List.foldl_cons, List.foldl_nil, Act.put, List.setIfInBounds_toArray, List.set_cons_zero, List.set_cons_succ, ln1, ln3]
                                      refine Stays.plain (.bool (st == (stS st b e fk se))) (by rfl) ?_ rfl
                                      first | (go_simp; done) | (go_simp; rfl) | (go_simp; with_reducible rfl)
                                    · intro g ws hws hl
                                      have ln4 : g 245 = .bool (st == (stS st b e fk se)) := linesOf_get 4 hl (by kernel_rfl)
                                      simp only [fillAt, List.foldl_cons, List.foldl_nil, Act.put, List.setIfInBounds_toArray, List.set_cons_zero, List.set_cons_succ, ln4]
                                      refine Stays.plain (.bool (st == (stS st b e fk se))) (by rfl) ?_ rfl
                                      first | (go_simp; done) | (go_simp; rfl) | (go_simp; with_reducible rfl)
                                  · intro g w9 hw9 hl
                                    have ln0 : g 241 = .pointer (some ⟨w.heap.size, 0, none⟩) := (allLines_get 241 0 0 hl rfl)
                                    have ln1 : g 242 = .int .i64 st := (allLines_get 242 1 0 hl rfl)
                                    have ln2 : g 243 = .agg #[.int .i64 st, .int .i64 z, .int .i64 b, .int .i64 e, .slice ar xs.length c1, .slice ap p.length c2, .slice af f.length c3, .slice ak k.length c4, .int .i64 fi, .int .i64 fk, .int .i64 se, .int .i64 co] := (allLines_get 243 2 0 hl rfl)
                                    have ln3 : g 244 = .int .i64 (stS st b e fk se) := (allLines_get 244 3 0 hl rfl)
                                    have ln4 : g 245 = .bool (st == (stS st b e fk se)) := (allLines_get 245 4 0 hl rfl)
                                    have ln5 : g 2 = .bool (st == (stS st b e fk se)) := (allLines_get 2 5 0 hl rfl)
                                    clear hl
                                    simp only [fillAt, List.foldl_cons, List.foldl_nil, Act.put, List.setIfInBounds_toArray, List.set_cons_zero, List.set_cons_succ, ln0, ln1, ln2, ln3, ln4, ln5]
                                    go_wp2
                                    go_ret
                                    exact ⟨by (rw [hRv.out]) <;> rfl, xrwv.trans ((Ext.refl _).drew.trans hw9)⟩
                                · have u3n : (fi != e) = true := by simp [u3]
                                  have hem : ¬ e = -1 := by omega
                                  have hRv : Hid (R = false) := hide (by rw [hT]; simp [u1, u2, u3])
                                  clear hem
                                  replace hT := hide hT
                                  replace u1 := hide u1
                                  replace u2 := hide u2
                                  replace u3 := hide u3
                                  go_wp2
                                  go_ret
                                  exact ⟨by (rw [hRv.out]) <;> rfl, xrwv⟩
end Go.Proofs.Ytjhgcbchdnoleaa

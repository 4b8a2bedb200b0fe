/-
  The law FnExactEqualSenders holds of every argument. No condition.
-/
import Derived.Test.YtmlpgnlpmdpjkaaSndEq
import Derived.Test.YtmlpgnlpmdpjkaaSndIn
import Derived.Test.YtmlpgnlpmdpjkaaTable
namespace Go.Proofs.Ytmlpgnlpmdpjkaa
open Go.ChangeShapes Go.WideShapes Go.ChangeAt Go.RowKit
set_option linter.unusedSimpArgs false
set_option linter.unusedVariables false
/-- The line of a table that says: a sender of these parts. -/
def sndL (st z b e fi fk se co : Int) (xs : List Int) (ps fs ks : List Rg) : Line :=
  ⟨fun v w => ∃ (a1 a2 a3 a4 : Option Addr) (ca1 ca2 ca3 ca4 : Nat), v = .agg #[.int .i64 st, .int .i64 z, .int .i64 b, .int .i64 e, .slice a1 xs.length ca1, .slice a2 ps.length ca2, .slice a3 fs.length ca3, .slice a4 ks.length ca4, .int .i64 fi, .int .i64 fk, .int .i64 se, .int .i64 co] ∧ ReadSnd w ⟨a1, a2, a3, a4⟩ ⟨xs, ps, fs, ks⟩,
   fun _ _ _ hg ⟨a1, a2, a3, a4, ca1, ca2, ca3, ca4, h1, h2⟩ => ⟨a1, a2, a3, a4, ca1, ca2, ca3, ca4, h1, h2.ext hg⟩⟩
theorem sndL_mk {st z b e fi fk se co : Int} {xs : List Int} {ps fs ks : List Rg} {a1 a2 a3 a4 : Option Addr} {ca1 ca2 ca3 ca4 : Nat} {w : World} (h : ReadSnd w ⟨a1, a2, a3, a4⟩ ⟨xs, ps, fs, ks⟩) : (sndL st z b e fi fk se co xs ps fs ks).p (.agg #[.int .i64 st, .int .i64 z, .int .i64 b, .int .i64 e, .slice a1 xs.length ca1, .slice a2 ps.length ca2, .slice a3 fs.length ca3, .slice a4 ks.length ca4, .int .i64 fi, .int .i64 fk, .int .i64 se, .int .i64 co]) w := ⟨a1, a2, a3, a4, ca1, ca2, ca3, ca4, rfl, h⟩
theorem sndL_get {st z b e fi fk se co : Int} {xs : List Int} {ps fs ks : List Rg} {v : Value} {w : World} (h : (sndL st z b e fi fk se co xs ps fs ks).p v w) : ∃ (a1 a2 a3 a4 : Option Addr) (ca1 ca2 ca3 ca4 : Nat), v = .agg #[.int .i64 st, .int .i64 z, .int .i64 b, .int .i64 e, .slice a1 xs.length ca1, .slice a2 ps.length ca2, .slice a3 fs.length ca3, .slice a4 ks.length ca4, .int .i64 fi, .int .i64 fk, .int .i64 se, .int .i64 co] ∧ ReadSnd w ⟨a1, a2, a3, a4⟩ ⟨xs, ps, fs, ks⟩ := h
set_option maxHeartbeats 4000000 in
set_option maxRecDepth 100000 in
theorem equalSenders_yes (st z b e fi fk se co st2 z2 b2 e2 fi2 fk2 se2 co2 : Int) (a1 a2 a3 a4 : Option Addr) (ca1 ca2 ca3 ca4 : Nat) (v1 v2 v3 v4 : Option Addr) (cv1 cv2 cv3 cv4 : Nat) (xs : List Int) (ps fs ks : List Rg) (ys : List Int) (qs gs js : List Rg) (w : World) (hx : ReadSnd w ⟨a1, a2, a3, a4⟩ ⟨xs, ps, fs, ks⟩) (hy : ReadSnd w ⟨v1, v2, v3, v4⟩ ⟨ys, qs, gs, js⟩) (h1 : ((xs.length : Int) + (ps.length : Int) + (fs.length : Int) + (ks.length : Int)) + ((ys.length : Int) + (qs.length : Int) + (gs.length : Int) + (js.length : Int)) ≤ 1048576) :
    Calls Try.prog 4 #[.agg #[.int .i64 st, .int .i64 z, .int .i64 b, .int .i64 e, .slice a1 xs.length ca1, .slice a2 ps.length ca2, .slice a3 fs.length ca3, .slice a4 ks.length ca4, .int .i64 fi, .int .i64 fk, .int .i64 se, .int .i64 co], .agg #[.int .i64 st2, .int .i64 z2, .int .i64 b2, .int .i64 e2, .slice v1 ys.length cv1, .slice v2 qs.length cv2, .slice v3 gs.length cv3, .slice v4 js.length cv4, .int .i64 fi2, .int .i64 fk2, .int .i64 se2, .int .i64 co2]] w fun en w' => en = .returned (.bool true) ∧ Ext w w' := by
  have hx' := hide hx
  have hy' := hide hy
  clear hx hy
  have s3 : decide ((1048576 : Int) - ((xs.length : Int) + (ps.length : Int) + (fs.length : Int) + (ks.length : Int)) < 0) = false := decide_eq_false (by omega)
  have s4 : decide ((1048576 : Int) - ((xs.length : Int) + (ps.length : Int) + (fs.length : Int) + (ks.length : Int)) - ((ys.length : Int) + (qs.length : Int) + (gs.length : Int) + (js.length : Int)) < 0) = false := decide_eq_false (by omega)
  go_enter Try.func4, Try.ntmps4
  go_wp2_with fail
  refine (szSender_yes st z b e fi fk se co a1 a2 a3 a4 ca1 ca2 ca3 ca4 xs ps fs ks 1048576 _ (by omega) (by omega) (by omega)).mono ?_
  rintro en w1 ⟨rfl, hw1⟩
  have xw1 : Ext w w1 := (by repeat (first | with_reducible exact Ext.refl _ | with_reducible assumption | with_reducible refine Ext.alloc ?_ _ | with_reducible refine Ext.drew ?_ | with_reducible refine Ext.drewN ?_ _ | ((with_reducible refine Ext.set ?_ ?_ _); (focus (first | (simp; done) | (simp; omega)))) | with_reducible refine Ext.trans ?_ (by assumption)))
  have kw1_0 := hw1.more (k := w.heap.size) (by first | assumption | (simp; done) | (simp; omega) | omega)
  obtain ⟨cw1_0, fw1_0⟩ := hw1.row (k := w.heap.size) (by first | assumption | (simp; done) | (simp; omega) | omega)
  have kw1_1 := hw1.more (k := w.heap.size + 1) (by first | assumption | (simp; done) | (simp; omega) | omega)
  obtain ⟨cw1_1, fw1_1⟩ := hw1.row (k := w.heap.size + 1) (by first | assumption | (simp; done) | (simp; omega) | omega)
  go_wp2_with fail
  refine (szSender_yes st2 z2 b2 e2 fi2 fk2 se2 co2 v1 v2 v3 v4 cv1 cv2 cv3 cv4 ys qs gs js (1048576 - ((xs.length : Int) + (ps.length : Int) + (fs.length : Int) + (ks.length : Int))) _ (by omega) (by omega) (by omega)).mono ?_
  rintro en w2 ⟨rfl, hw2⟩
  have xw2 : Ext w w2 := (by repeat (first | with_reducible exact Ext.refl _ | with_reducible assumption | with_reducible refine Ext.alloc ?_ _ | with_reducible refine Ext.drew ?_ | with_reducible refine Ext.drewN ?_ _ | ((with_reducible refine Ext.set ?_ ?_ _); (focus (first | (simp; done) | (simp; omega)))) | with_reducible refine Ext.trans ?_ (by assumption)))
  have kw2_0 := hw2.more (k := w.heap.size) (by first | assumption | (simp; done) | (simp; omega) | omega)
  obtain ⟨cw2_0, fw2_0⟩ := hw2.row (k := w.heap.size) (by first | assumption | (simp; done) | (simp; omega) | omega)
  have kw2_1 := hw2.more (k := w.heap.size + 1) (by first | assumption | (simp; done) | (simp; omega) | omega)
  obtain ⟨cw2_1, fw2_1⟩ := hw2.row (k := w.heap.size + 1) (by first | assumption | (simp; done) | (simp; omega) | omega)
  go_wp2_with fail
  refine wp_region_lines [Line.is (.agg #[.int .i64 st, .int .i64 z, .int .i64 b, .int .i64 e, .slice a1 xs.length ca1, .slice a2 ps.length ca2, .slice a3 fs.length ca3, .slice a4 ks.length ca4, .int .i64 fi, .int .i64 fk, .int .i64 se, .int .i64 co]), sndL st z b e fi fk se co xs ps fs ks, Line.is (.agg #[.int .i64 st2, .int .i64 z2, .int .i64 b2, .int .i64 e2, .slice v1 ys.length cv1, .slice v2 qs.length cv2, .slice v3 gs.length cv3, .slice v4 js.length cv4, .int .i64 fi2, .int .i64 fk2, .int .i64 se2, .int .i64 co2]), sndL st2 z2 b2 e2 fi2 fk2 se2 co2 ys qs gs js, Line.is (.bool (sndEq st z b e fi fk se co st2 z2 b2 e2 fi2 fk2 se2 co2 ⟨xs, ps, fs, ks⟩ ⟨ys, qs, gs, js⟩)), Line.is (.bool (sndEq st z b e fi fk se co st2 z2 b2 e2 fi2 fk2 se2 co2 ⟨xs, ps, fs, ks⟩ ⟨ys, qs, gs, js⟩))] [20, 21, 22, 23, 24, 6] (by kernel_rfl) (by kernel_rfl) (by kernel_rfl) (by kernel_rfl) (by kernel_rfl) ?_ ?_
  · refine Each.cons ?_ (Each.cons ?_ (Each.cons ?_ (Each.cons ?_ (Each.cons ?_ (Each.cons ?_ (Each.nil))))))
    · intro g ws hws hl
      have hxs : Ext w ws := xw2.drew.trans hws
      simp only [fillAt, List.foldl_cons, List.foldl_nil, Act.put, List.setIfInBounds_toArray, List.set_cons_zero, List.set_cons_succ]
      obtain ⟨q0, p0⟩ := hws.row (k := w.heap.size) (by first | assumption | (simp; done) | (simp; omega) | omega)
      obtain ⟨q1, p1⟩ := hws.row (k := w.heap.size + 1) (by first | assumption | (simp; done) | (simp; omega) | omega)
      refine Stays.plain ?_ (by rfl) ?_ ?_
      rotate_left
      · go_simp
        try with_reducible rfl
      · exact rfl
    · intro g ws hws hl
      have hxs : Ext w ws := xw2.drew.trans hws
      have ln0 : g 20 = _ := (show (Line.is (.agg #[.int .i64 st, .int .i64 z, .int .i64 b, .int .i64 e, .slice a1 xs.length ca1, .slice a2 ps.length ca2, .slice a3 fs.length ca3, .slice a4 ks.length ca4, .int .i64 fi, .int .i64 fk, .int .i64 se, .int .i64 co])).p (g 20) ws from linesOf_get 0 hl (by kernel_rfl))
      simp only [fillAt, List.foldl_cons, List.foldl_nil, Act.put, List.setIfInBounds_toArray, List.set_cons_zero, List.set_cons_succ, ln0]
      refine Stays.call 16 ?_ (by rfl) ?_ ?_
      rotate_left
      · go_simp
        try with_reducible rfl
      · refine (toSender_any st z b e fi fk se co a1 a2 a3 a4 ca1 ca2 ca3 ca4 xs ps fs ks _ ?_ ⟨by omega, by omega, by omega, by omega⟩).mono ?_
        · exact hx'.out.ext hxs
        · rintro en w3 ⟨d1, d2, d3, d4, cd1, cd2, cd3, cd4, rfl, ho3, hb3⟩
          exact ⟨_, rfl, hb3, sndL_mk ho3.read⟩
    · intro g ws hws hl
      have hxs : Ext w ws := xw2.drew.trans hws
      simp only [fillAt, List.foldl_cons, List.foldl_nil, Act.put, List.setIfInBounds_toArray, List.set_cons_zero, List.set_cons_succ]
      obtain ⟨q0, p0⟩ := hws.row (k := w.heap.size) (by first | assumption | (simp; done) | (simp; omega) | omega)
      obtain ⟨q1, p1⟩ := hws.row (k := w.heap.size + 1) (by first | assumption | (simp; done) | (simp; omega) | omega)
      refine Stays.plain ?_ (by rfl) ?_ ?_
      rotate_left
      · go_simp
        try with_reducible rfl
      · exact rfl
    · intro g ws hws hl
      have hxs : Ext w ws := xw2.drew.trans hws
      have ln2 : g 22 = _ := (show (Line.is (.agg #[.int .i64 st2, .int .i64 z2, .int .i64 b2, .int .i64 e2, .slice v1 ys.length cv1, .slice v2 qs.length cv2, .slice v3 gs.length cv3, .slice v4 js.length cv4, .int .i64 fi2, .int .i64 fk2, .int .i64 se2, .int .i64 co2])).p (g 22) ws from linesOf_get 2 hl (by kernel_rfl))
      simp only [fillAt, List.foldl_cons, List.foldl_nil, Act.put, List.setIfInBounds_toArray, List.set_cons_zero, List.set_cons_succ, ln2]
      refine Stays.call 16 ?_ (by rfl) ?_ ?_
      rotate_left
      · go_simp
        try with_reducible rfl
      · refine (toSender_any st2 z2 b2 e2 fi2 fk2 se2 co2 v1 v2 v3 v4 cv1 cv2 cv3 cv4 ys qs gs js _ ?_ ⟨by omega, by omega, by omega, by omega⟩).mono ?_
        · exact hy'.out.ext hxs
        · rintro en w3 ⟨d1, d2, d3, d4, cd1, cd2, cd3, cd4, rfl, ho3, hb3⟩
          exact ⟨_, rfl, hb3, sndL_mk ho3.read⟩
    · intro g ws hws hl
      have hxs : Ext w ws := xw2.drew.trans hws
      obtain ⟨A1, A2, A3, A4, cA1, cA2, cA3, cA4, ln1, hA⟩ := sndL_get (show (sndL st z b e fi fk se co xs ps fs ks).p (g 21) ws from linesOf_get 1 hl (by kernel_rfl))
      obtain ⟨B1, B2, B3, B4, cB1, cB2, cB3, cB4, ln3, hB⟩ := sndL_get (show (sndL st2 z2 b2 e2 fi2 fk2 se2 co2 ys qs gs js).p (g 23) ws from linesOf_get 3 hl (by kernel_rfl))
      simp only [fillAt, List.foldl_cons, List.foldl_nil, Act.put, List.setIfInBounds_toArray, List.set_cons_zero, List.set_cons_succ, ln1, ln3]
      refine Stays.call 15 ?_ (by rfl) ?_ ?_
      rotate_left
      · go_simp
        try with_reducible rfl
      · refine (EqualSenders_spec st z b e fi fk se co st2 z2 b2 e2 fi2 fk2 se2 co2 A1 A2 A3 A4 cA1 cA2 cA3 cA4 B1 B2 B3 B4 cB1 cB2 cB3 cB4 xs ps fs ks ys qs gs js _ hA hB ⟨by omega, by omega, by omega, by omega⟩).mono ?_
        rintro en w5 ⟨rfl, hb5⟩
        exact ⟨_, rfl, hb5, rfl⟩
    · intro g ws hws hl
      have hxs : Ext w ws := xw2.drew.trans hws
      have ln4 : g 24 = _ := (show (Line.is (.bool (sndEq st z b e fi fk se co st2 z2 b2 e2 fi2 fk2 se2 co2 ⟨xs, ps, fs, ks⟩ ⟨ys, qs, gs, js⟩))).p (g 24) ws from linesOf_get 4 hl (by kernel_rfl))
      simp only [fillAt, List.foldl_cons, List.foldl_nil, Act.put, List.setIfInBounds_toArray, List.set_cons_zero, List.set_cons_succ, ln4]
      refine Stays.plain ?_ (by rfl) ?_ ?_
      rotate_left
      · go_simp
        try with_reducible rfl
      · exact rfl
  · intro g w3 hw3 hl
    have xw3 : Ext w w3 := xw2.drew.trans hw3
    have ln0 : g 20 = _ := (show (Line.is (.agg #[.int .i64 st, .int .i64 z, .int .i64 b, .int .i64 e, .slice a1 xs.length ca1, .slice a2 ps.length ca2, .slice a3 fs.length ca3, .slice a4 ks.length ca4, .int .i64 fi, .int .i64 fk, .int .i64 se, .int .i64 co])).p (g 20) w3 from (allLines_get 20 0 0 hl rfl))
    obtain ⟨A1, A2, A3, A4, cA1, cA2, cA3, cA4, ln1, hA⟩ := sndL_get (show (sndL st z b e fi fk se co xs ps fs ks).p (g 21) w3 from (allLines_get 21 1 0 hl rfl))
    have ln2 : g 22 = _ := (show (Line.is (.agg #[.int .i64 st2, .int .i64 z2, .int .i64 b2, .int .i64 e2, .slice v1 ys.length cv1, .slice v2 qs.length cv2, .slice v3 gs.length cv3, .slice v4 js.length cv4, .int .i64 fi2, .int .i64 fk2, .int .i64 se2, .int .i64 co2])).p (g 22) w3 from (allLines_get 22 2 0 hl rfl))
    obtain ⟨B1, B2, B3, B4, cB1, cB2, cB3, cB4, ln3, hB⟩ := sndL_get (show (sndL st2 z2 b2 e2 fi2 fk2 se2 co2 ys qs gs js).p (g 23) w3 from (allLines_get 23 3 0 hl rfl))
    have ln4 : g 24 = _ := (show (Line.is (.bool (sndEq st z b e fi fk se co st2 z2 b2 e2 fi2 fk2 se2 co2 ⟨xs, ps, fs, ks⟩ ⟨ys, qs, gs, js⟩))).p (g 24) w3 from (allLines_get 24 4 0 hl rfl))
    have ln5 : g 6 = _ := (show (Line.is (.bool (sndEq st z b e fi fk se co st2 z2 b2 e2 fi2 fk2 se2 co2 ⟨xs, ps, fs, ks⟩ ⟨ys, qs, gs, js⟩))).p (g 6) w3 from (allLines_get 6 5 0 hl rfl))
    clear hl
    simp only [fillAt, List.foldl_cons, List.foldl_nil, Act.put, List.setIfInBounds_toArray, List.set_cons_zero, List.set_cons_succ, ln0, ln1, ln2, ln3, ln4, ln5]
    have kw3_0 := hw3.more (k := w.heap.size) (by first | assumption | (simp; done) | (simp; omega) | omega)
    obtain ⟨cw3_0, fw3_0⟩ := hw3.row (k := w.heap.size) (by first | assumption | (simp; done) | (simp; omega) | omega)
    have kw3_1 := hw3.more (k := w.heap.size + 1) (by first | assumption | (simp; done) | (simp; omega) | omega)
    obtain ⟨cw3_1, fw3_1⟩ := hw3.row (k := w.heap.size + 1) (by first | assumption | (simp; done) | (simp; omega) | omega)
    go_wp2_with fail
    refine (toSender_any st z b e fi fk se co a1 a2 a3 a4 ca1 ca2 ca3 ca4 xs ps fs ks _ ?_ ⟨by omega, by omega, by omega, by omega⟩).mono ?_
    · exact hx'.out.ext xw3
    rintro en w4 ⟨x1, x2, x3, x4, cx1, cx2, cx3, cx4, rfl, ho4, hw4⟩
    have xw4 : Ext w w4 := (by repeat (first | with_reducible exact Ext.refl _ | with_reducible assumption | with_reducible refine Ext.alloc ?_ _ | with_reducible refine Ext.drew ?_ | with_reducible refine Ext.drewN ?_ _ | ((with_reducible refine Ext.set ?_ ?_ _); (focus (first | (simp; done) | (simp; omega)))) | with_reducible refine Ext.trans ?_ (by assumption)))
    have kw4_0 := hw4.more (k := w.heap.size) (by first | assumption | (simp; done) | (simp; omega) | omega)
    obtain ⟨cw4_0, fw4_0⟩ := hw4.row (k := w.heap.size) (by first | assumption | (simp; done) | (simp; omega) | omega)
    have kw4_1 := hw4.more (k := w.heap.size + 1) (by first | assumption | (simp; done) | (simp; omega) | omega)
    obtain ⟨cw4_1, fw4_1⟩ := hw4.row (k := w.heap.size + 1) (by first | assumption | (simp; done) | (simp; omega) | omega)
    have hr4 := hide ho4.read
    clear ho4
    go_wp2_with fail
    refine (toSender_any st2 z2 b2 e2 fi2 fk2 se2 co2 v1 v2 v3 v4 cv1 cv2 cv3 cv4 ys qs gs js _ ?_ ⟨by omega, by omega, by omega, by omega⟩).mono ?_
    · exact hy'.out.ext (by repeat (first | with_reducible exact Ext.refl _ | with_reducible assumption | with_reducible refine Ext.alloc ?_ _ | with_reducible refine Ext.drew ?_ | with_reducible refine Ext.drewN ?_ _ | ((with_reducible refine Ext.set ?_ ?_ _); (focus (first | (simp; done) | (simp; omega)))) | with_reducible refine Ext.trans ?_ (by assumption)))
    rintro en w5 ⟨y1, y2, y3, y4, cy1, cy2, cy3, cy4, rfl, ho5, hw5⟩
    have xw5 : Ext w w5 := (by repeat (first | with_reducible exact Ext.refl _ | with_reducible assumption | with_reducible refine Ext.alloc ?_ _ | with_reducible refine Ext.drew ?_ | with_reducible refine Ext.drewN ?_ _ | ((with_reducible refine Ext.set ?_ ?_ _); (focus (first | (simp; done) | (simp; omega)))) | with_reducible refine Ext.trans ?_ (by assumption)))
    have kw5_0 := hw5.more (k := w.heap.size) (by first | assumption | (simp; done) | (simp; omega) | omega)
    obtain ⟨cw5_0, fw5_0⟩ := hw5.row (k := w.heap.size) (by first | assumption | (simp; done) | (simp; omega) | omega)
    have kw5_1 := hw5.more (k := w.heap.size + 1) (by first | assumption | (simp; done) | (simp; omega) | omega)
    obtain ⟨cw5_1, fw5_1⟩ := hw5.row (k := w.heap.size + 1) (by first | assumption | (simp; done) | (simp; omega) | omega)
    have kw5_2 := hw5.more (k := w4.heap.size) (by first | assumption | (simp; done) | (simp; omega) | omega)
    obtain ⟨cw5_2, fw5_2⟩ := hw5.row (k := w4.heap.size) (by first | assumption | (simp; done) | (simp; omega) | omega)
    have hr5 := hide ho5.read
    clear ho5
    go_wp2_with fail
    refine (EqualSenders_impl st z b e fi fk se co st2 z2 b2 e2 fi2 fk2 se2 co2 x1 x2 x3 x4 cx1 cx2 cx3 cx4 y1 y2 y3 y4 cy1 cy2 cy3 cy4 xs ps fs ks ys qs gs js _ ?_ ?_ ⟨by omega, by omega, by omega, by omega⟩).mono ?_
    · exact hr4.out.ext (by repeat (first | with_reducible exact Ext.refl _ | with_reducible assumption | with_reducible refine Ext.alloc ?_ _ | with_reducible refine Ext.drew ?_ | ((with_reducible refine Ext.set ?_ ?_ _); (focus (first | (simp; done) | (simp; omega) | omega))) | with_reducible refine Ext.trans ?_ hw5 | with_reducible refine Ext.trans ?_ hw4 | with_reducible refine Ext.trans ?_ hw3 | with_reducible refine Ext.trans ?_ hw2 | with_reducible refine Ext.trans ?_ hw1))
    · exact hr5.out.ext (by repeat (first | with_reducible exact Ext.refl _ | with_reducible assumption | with_reducible refine Ext.alloc ?_ _ | with_reducible refine Ext.drew ?_ | ((with_reducible refine Ext.set ?_ ?_ _); (focus (first | (simp; done) | (simp; omega) | omega))) | with_reducible refine Ext.trans ?_ hw5 | with_reducible refine Ext.trans ?_ hw4 | with_reducible refine Ext.trans ?_ hw3 | with_reducible refine Ext.trans ?_ hw2 | with_reducible refine Ext.trans ?_ hw1))
    rintro en w6 ⟨rfl, hw6⟩
    have xw6 : Ext w w6 := (by repeat (first | with_reducible exact Ext.refl _ | with_reducible assumption | with_reducible refine Ext.alloc ?_ _ | with_reducible refine Ext.drew ?_ | with_reducible refine Ext.drewN ?_ _ | ((with_reducible refine Ext.set ?_ ?_ _); (focus (first | (simp; done) | (simp; omega)))) | with_reducible refine Ext.trans ?_ (by assumption)))
    have kw6_0 := hw6.more (k := w.heap.size) (by first | assumption | (simp; done) | (simp; omega) | omega)
    obtain ⟨cw6_0, fw6_0⟩ := hw6.row (k := w.heap.size) (by first | assumption | (simp; done) | (simp; omega) | omega)
    have kw6_1 := hw6.more (k := w.heap.size + 1) (by first | assumption | (simp; done) | (simp; omega) | omega)
    obtain ⟨cw6_1, fw6_1⟩ := hw6.row (k := w.heap.size + 1) (by first | assumption | (simp; done) | (simp; omega) | omega)
    have kw6_2 := hw6.more (k := w4.heap.size) (by first | assumption | (simp; done) | (simp; omega) | omega)
    obtain ⟨cw6_2, fw6_2⟩ := hw6.row (k := w4.heap.size) (by first | assumption | (simp; done) | (simp; omega) | omega)
    have kw6_3 := hw6.more (k := w5.heap.size) (by first | assumption | (simp; done) | (simp; omega) | omega)
    obtain ⟨cw6_3, fw6_3⟩ := hw6.row (k := w5.heap.size) (by first | assumption | (simp; done) | (simp; omega) | omega)
    go_wp2_with fail
    refine wp_region_lines [Line.is (.agg #[.int .i64 st, .int .i64 z, .int .i64 b, .int .i64 e, .slice x1 xs.length cx1, .slice x2 ps.length cx2, .slice x3 fs.length cx3, .slice x4 ks.length cx4, .int .i64 fi, .int .i64 fk, .int .i64 se, .int .i64 co]), Line.is (.agg #[.int .i64 st, .int .i64 z, .int .i64 b, .int .i64 e, .slice a1 xs.length ca1, .slice a2 ps.length ca2, .slice a3 fs.length ca3, .slice a4 ks.length ca4, .int .i64 fi, .int .i64 fk, .int .i64 se, .int .i64 co]), sndL st z b e fi fk se co xs ps fs ks, Line.is (.bool true), Line.is (.bool false)] [35, 36, 37, 38, 39] (by kernel_rfl) (by kernel_rfl) (by kernel_rfl) (by kernel_rfl) (by kernel_rfl) ?_ ?_
    · refine Each.cons ?_ (Each.cons ?_ (Each.cons ?_ (Each.cons ?_ (Each.cons ?_ (Each.nil)))))
      · intro g ws hws hl
        have hxs : Ext w ws := xw6.drew.trans hws
        simp only [fillAt, List.foldl_cons, List.foldl_nil, Act.put, List.setIfInBounds_toArray, List.set_cons_zero, List.set_cons_succ]
        obtain ⟨q0, p0⟩ := hws.row (k := w4.heap.size) (by first | assumption | (simp; done) | (simp; omega) | omega)
        obtain ⟨q1, p1⟩ := hws.row (k := w.heap.size) (by first | assumption | (simp; done) | (simp; omega) | omega)
        refine Stays.plain ?_ (by rfl) ?_ ?_
        rotate_left
        · go_simp
          try with_reducible rfl
        · exact rfl
      · intro g ws hws hl
        have hxs : Ext w ws := xw6.drew.trans hws
        simp only [fillAt, List.foldl_cons, List.foldl_nil, Act.put, List.setIfInBounds_toArray, List.set_cons_zero, List.set_cons_succ]
        obtain ⟨q0, p0⟩ := hws.row (k := w4.heap.size) (by first | assumption | (simp; done) | (simp; omega) | omega)
        obtain ⟨q1, p1⟩ := hws.row (k := w.heap.size) (by first | assumption | (simp; done) | (simp; omega) | omega)
        refine Stays.plain ?_ (by rfl) ?_ ?_
        rotate_left
        · go_simp
          try with_reducible rfl
        · exact rfl
      · intro g ws hws hl
        have hxs : Ext w ws := xw6.drew.trans hws
        have ln1 : g 36 = _ := (show (Line.is (.agg #[.int .i64 st, .int .i64 z, .int .i64 b, .int .i64 e, .slice a1 xs.length ca1, .slice a2 ps.length ca2, .slice a3 fs.length ca3, .slice a4 ks.length ca4, .int .i64 fi, .int .i64 fk, .int .i64 se, .int .i64 co])).p (g 36) ws from linesOf_get 1 hl (by kernel_rfl))
        simp only [fillAt, List.foldl_cons, List.foldl_nil, Act.put, List.setIfInBounds_toArray, List.set_cons_zero, List.set_cons_succ, ln1]
        refine Stays.call 16 ?_ (by rfl) ?_ ?_
        rotate_left
        · go_simp
          try with_reducible rfl
        · refine (toSender_any st z b e fi fk se co a1 a2 a3 a4 ca1 ca2 ca3 ca4 xs ps fs ks _ ?_ ⟨by omega, by omega, by omega, by omega⟩).mono ?_
          · exact hx'.out.ext hxs
          · rintro en w3 ⟨d1, d2, d3, d4, cd1, cd2, cd3, cd4, rfl, ho3, hb3⟩
            exact ⟨_, rfl, hb3, sndL_mk ho3.read⟩
      · intro g ws hws hl
        have hxs : Ext w ws := xw6.drew.trans hws
        have ln0 : g 35 = _ := (show (Line.is (.agg #[.int .i64 st, .int .i64 z, .int .i64 b, .int .i64 e, .slice x1 xs.length cx1, .slice x2 ps.length cx2, .slice x3 fs.length cx3, .slice x4 ks.length cx4, .int .i64 fi, .int .i64 fk, .int .i64 se, .int .i64 co])).p (g 35) ws from linesOf_get 0 hl (by kernel_rfl))
        obtain ⟨C1, C2, C3, C4, cC1, cC2, cC3, cC4, ln2, hC⟩ := sndL_get (show (sndL st z b e fi fk se co xs ps fs ks).p (g 37) ws from linesOf_get 2 hl (by kernel_rfl))
        simp only [fillAt, List.foldl_cons, List.foldl_nil, Act.put, List.setIfInBounds_toArray, List.set_cons_zero, List.set_cons_succ, ln0, ln2]
        refine Stays.call 11 ?_ (by rfl) ?_ ?_
        rotate_left
        · go_simp
          try with_reducible rfl
        · refine (eqSender_any st z b e fi fk se co x1 x2 x3 x4 cx1 cx2 cx3 cx4 C1 C2 C3 C4 cC1 cC2 cC3 cC4 xs ps fs ks _ (hr4.out.ext (by repeat (first | with_reducible exact Ext.refl _ | with_reducible assumption | with_reducible refine Ext.alloc ?_ _ | with_reducible refine Ext.drew ?_ | ((with_reducible refine Ext.set ?_ ?_ _); (focus (first | (simp; done) | (simp; omega) | omega))) | with_reducible refine Ext.trans ?_ hws | with_reducible refine Ext.trans ?_ hw6 | with_reducible refine Ext.trans ?_ hw5 | with_reducible refine Ext.trans ?_ hw4 | with_reducible refine Ext.trans ?_ hw3 | with_reducible refine Ext.trans ?_ hw2 | with_reducible refine Ext.trans ?_ hw1))) hC ⟨by omega, by omega, by omega, by omega⟩).mono ?_
          rintro en w9 ⟨rfl, hb9⟩
          exact ⟨_, rfl, hb9, rfl⟩
      · intro g ws hws hl
        have hxs : Ext w ws := xw6.drew.trans hws
        have ln3 : g 38 = _ := (show (Line.is (.bool true)).p (g 38) ws from linesOf_get 3 hl (by kernel_rfl))
        simp only [fillAt, List.foldl_cons, List.foldl_nil, Act.put, List.setIfInBounds_toArray, List.set_cons_zero, List.set_cons_succ, ln3]
        refine Stays.plain ?_ (by rfl) ?_ ?_
        rotate_left
        · go_simp
          try with_reducible rfl
        · exact rfl
    · intro g w7 hw7 hl
      have xw7 : Ext w w7 := xw6.drew.trans hw7
      have ln0 : g 35 = _ := (show (Line.is (.agg #[.int .i64 st, .int .i64 z, .int .i64 b, .int .i64 e, .slice x1 xs.length cx1, .slice x2 ps.length cx2, .slice x3 fs.length cx3, .slice x4 ks.length cx4, .int .i64 fi, .int .i64 fk, .int .i64 se, .int .i64 co])).p (g 35) w7 from (allLines_get 35 0 0 hl rfl))
      have ln1 : g 36 = _ := (show (Line.is (.agg #[.int .i64 st, .int .i64 z, .int .i64 b, .int .i64 e, .slice a1 xs.length ca1, .slice a2 ps.length ca2, .slice a3 fs.length ca3, .slice a4 ks.length ca4, .int .i64 fi, .int .i64 fk, .int .i64 se, .int .i64 co])).p (g 36) w7 from (allLines_get 36 1 0 hl rfl))
      obtain ⟨C1, C2, C3, C4, cC1, cC2, cC3, cC4, ln2, hC⟩ := sndL_get (show (sndL st z b e fi fk se co xs ps fs ks).p (g 37) w7 from (allLines_get 37 2 0 hl rfl))
      have ln3 : g 38 = _ := (show (Line.is (.bool true)).p (g 38) w7 from (allLines_get 38 3 0 hl rfl))
      have ln4 : g 39 = _ := (show (Line.is (.bool false)).p (g 39) w7 from (allLines_get 39 4 0 hl rfl))
      clear hl
      simp only [fillAt, List.foldl_cons, List.foldl_nil, Act.put, List.setIfInBounds_toArray, List.set_cons_zero, List.set_cons_succ, ln0, ln1, ln2, ln3, ln4]
      have kw7_0 := hw7.more (k := w.heap.size) (by first | assumption | (simp; done) | (simp; omega) | omega)
      obtain ⟨cw7_0, fw7_0⟩ := hw7.row (k := w.heap.size) (by first | assumption | (simp; done) | (simp; omega) | omega)
      have kw7_1 := hw7.more (k := w.heap.size + 1) (by first | assumption | (simp; done) | (simp; omega) | omega)
      obtain ⟨cw7_1, fw7_1⟩ := hw7.row (k := w.heap.size + 1) (by first | assumption | (simp; done) | (simp; omega) | omega)
      have kw7_2 := hw7.more (k := w4.heap.size) (by first | assumption | (simp; done) | (simp; omega) | omega)
      obtain ⟨cw7_2, fw7_2⟩ := hw7.row (k := w4.heap.size) (by first | assumption | (simp; done) | (simp; omega) | omega)
      have kw7_3 := hw7.more (k := w5.heap.size) (by first | assumption | (simp; done) | (simp; omega) | omega)
      obtain ⟨cw7_3, fw7_3⟩ := hw7.row (k := w5.heap.size) (by first | assumption | (simp; done) | (simp; omega) | omega)
      go_wp2_with fail
      refine wp_region_lines [Line.is (.agg #[.int .i64 st2, .int .i64 z2, .int .i64 b2, .int .i64 e2, .slice y1 ys.length cy1, .slice y2 qs.length cy2, .slice y3 gs.length cy3, .slice y4 js.length cy4, .int .i64 fi2, .int .i64 fk2, .int .i64 se2, .int .i64 co2]), Line.is (.agg #[.int .i64 st2, .int .i64 z2, .int .i64 b2, .int .i64 e2, .slice v1 ys.length cv1, .slice v2 qs.length cv2, .slice v3 gs.length cv3, .slice v4 js.length cv4, .int .i64 fi2, .int .i64 fk2, .int .i64 se2, .int .i64 co2]), sndL st2 z2 b2 e2 fi2 fk2 se2 co2 ys qs gs js, Line.is (.bool true), Line.is (.bool false)] [40, 41, 42, 43, 44] (by kernel_rfl) (by kernel_rfl) (by kernel_rfl) (by kernel_rfl) (by kernel_rfl) ?_ ?_
      · refine Each.cons ?_ (Each.cons ?_ (Each.cons ?_ (Each.cons ?_ (Each.cons ?_ (Each.nil)))))
        · intro g ws hws hl
          have hxs : Ext w ws := xw7.drew.trans hws
          simp only [fillAt, List.foldl_cons, List.foldl_nil, Act.put, List.setIfInBounds_toArray, List.set_cons_zero, List.set_cons_succ]
          obtain ⟨q0, p0⟩ := hws.row (k := w5.heap.size) (by first | assumption | (simp; done) | (simp; omega) | omega)
          obtain ⟨q1, p1⟩ := hws.row (k := w.heap.size + 1) (by first | assumption | (simp; done) | (simp; omega) | omega)
          refine Stays.plain ?_ (by rfl) ?_ ?_
          rotate_left
          · go_simp
            try with_reducible rfl
          · exact rfl
        · intro g ws hws hl
          have hxs : Ext w ws := xw7.drew.trans hws
          simp only [fillAt, List.foldl_cons, List.foldl_nil, Act.put, List.setIfInBounds_toArray, List.set_cons_zero, List.set_cons_succ]
          obtain ⟨q0, p0⟩ := hws.row (k := w5.heap.size) (by first | assumption | (simp; done) | (simp; omega) | omega)
          obtain ⟨q1, p1⟩ := hws.row (k := w.heap.size + 1) (by first | assumption | (simp; done) | (simp; omega) | omega)
          refine Stays.plain ?_ (by rfl) ?_ ?_
          rotate_left
          · go_simp
            try with_reducible rfl
          · exact rfl
        · intro g ws hws hl
          have hxs : Ext w ws := xw7.drew.trans hws
          have ln1 : g 41 = _ := (show (Line.is (.agg #[.int .i64 st2, .int .i64 z2, .int .i64 b2, .int .i64 e2, .slice v1 ys.length cv1, .slice v2 qs.length cv2, .slice v3 gs.length cv3, .slice v4 js.length cv4, .int .i64 fi2, .int .i64 fk2, .int .i64 se2, .int .i64 co2])).p (g 41) ws from linesOf_get 1 hl (by kernel_rfl))
          simp only [fillAt, List.foldl_cons, List.foldl_nil, Act.put, List.setIfInBounds_toArray, List.set_cons_zero, List.set_cons_succ, ln1]
          refine Stays.call 16 ?_ (by rfl) ?_ ?_
          rotate_left
          · go_simp
            try with_reducible rfl
          · refine (toSender_any st2 z2 b2 e2 fi2 fk2 se2 co2 v1 v2 v3 v4 cv1 cv2 cv3 cv4 ys qs gs js _ ?_ ⟨by omega, by omega, by omega, by omega⟩).mono ?_
            · exact hy'.out.ext hxs
            · rintro en w3 ⟨d1, d2, d3, d4, cd1, cd2, cd3, cd4, rfl, ho3, hb3⟩
              exact ⟨_, rfl, hb3, sndL_mk ho3.read⟩
        · intro g ws hws hl
          have hxs : Ext w ws := xw7.drew.trans hws
          have ln0 : g 40 = _ := (show (Line.is (.agg #[.int .i64 st2, .int .i64 z2, .int .i64 b2, .int .i64 e2, .slice y1 ys.length cy1, .slice y2 qs.length cy2, .slice y3 gs.length cy3, .slice y4 js.length cy4, .int .i64 fi2, .int .i64 fk2, .int .i64 se2, .int .i64 co2])).p (g 40) ws from linesOf_get 0 hl (by kernel_rfl))
          obtain ⟨C1, C2, C3, C4, cC1, cC2, cC3, cC4, ln2, hC⟩ := sndL_get (show (sndL st2 z2 b2 e2 fi2 fk2 se2 co2 ys qs gs js).p (g 42) ws from linesOf_get 2 hl (by kernel_rfl))
          simp only [fillAt, List.foldl_cons, List.foldl_nil, Act.put, List.setIfInBounds_toArray, List.set_cons_zero, List.set_cons_succ, ln0, ln2]
          refine Stays.call 11 ?_ (by rfl) ?_ ?_
          rotate_left
          · go_simp
            try with_reducible rfl
          · refine (eqSender_any st2 z2 b2 e2 fi2 fk2 se2 co2 y1 y2 y3 y4 cy1 cy2 cy3 cy4 C1 C2 C3 C4 cC1 cC2 cC3 cC4 ys qs gs js _ (hr5.out.ext (by repeat (first | with_reducible exact Ext.refl _ | with_reducible assumption | with_reducible refine Ext.alloc ?_ _ | with_reducible refine Ext.drew ?_ | ((with_reducible refine Ext.set ?_ ?_ _); (focus (first | (simp; done) | (simp; omega) | omega))) | with_reducible refine Ext.trans ?_ hws | with_reducible refine Ext.trans ?_ hw7 | with_reducible refine Ext.trans ?_ hw6 | with_reducible refine Ext.trans ?_ hw5 | with_reducible refine Ext.trans ?_ hw4 | with_reducible refine Ext.trans ?_ hw3 | with_reducible refine Ext.trans ?_ hw2 | with_reducible refine Ext.trans ?_ hw1))) hC ⟨by omega, by omega, by omega, by omega⟩).mono ?_
            rintro en w9 ⟨rfl, hb9⟩
            exact ⟨_, rfl, hb9, rfl⟩
        · intro g ws hws hl
          have hxs : Ext w ws := xw7.drew.trans hws
          have ln3 : g 43 = _ := (show (Line.is (.bool true)).p (g 43) ws from linesOf_get 3 hl (by kernel_rfl))
          simp only [fillAt, List.foldl_cons, List.foldl_nil, Act.put, List.setIfInBounds_toArray, List.set_cons_zero, List.set_cons_succ, ln3]
          refine Stays.plain ?_ (by rfl) ?_ ?_
          rotate_left
          · go_simp
            try with_reducible rfl
          · exact rfl
      · intro g w8 hw8 hl
        have xw8 : Ext w w8 := xw7.drew.trans hw8
        have ln0 : g 40 = _ := (show (Line.is (.agg #[.int .i64 st2, .int .i64 z2, .int .i64 b2, .int .i64 e2, .slice y1 ys.length cy1, .slice y2 qs.length cy2, .slice y3 gs.length cy3, .slice y4 js.length cy4, .int .i64 fi2, .int .i64 fk2, .int .i64 se2, .int .i64 co2])).p (g 40) w8 from (allLines_get 40 0 0 hl rfl))
        have ln1 : g 41 = _ := (show (Line.is (.agg #[.int .i64 st2, .int .i64 z2, .int .i64 b2, .int .i64 e2, .slice v1 ys.length cv1, .slice v2 qs.length cv2, .slice v3 gs.length cv3, .slice v4 js.length cv4, .int .i64 fi2, .int .i64 fk2, .int .i64 se2, .int .i64 co2])).p (g 41) w8 from (allLines_get 41 1 0 hl rfl))
        obtain ⟨C1, C2, C3, C4, cC1, cC2, cC3, cC4, ln2, hC⟩ := sndL_get (show (sndL st2 z2 b2 e2 fi2 fk2 se2 co2 ys qs gs js).p (g 42) w8 from (allLines_get 42 2 0 hl rfl))
        have ln3 : g 43 = _ := (show (Line.is (.bool true)).p (g 43) w8 from (allLines_get 43 3 0 hl rfl))
        have ln4 : g 44 = _ := (show (Line.is (.bool false)).p (g 44) w8 from (allLines_get 44 4 0 hl rfl))
        clear hl
        simp only [fillAt, List.foldl_cons, List.foldl_nil, Act.put, List.setIfInBounds_toArray, List.set_cons_zero, List.set_cons_succ, ln0, ln1, ln2, ln3, ln4]
        have kw8_0 := hw8.more (k := w.heap.size) (by first | assumption | (simp; done) | (simp; omega) | omega)
        obtain ⟨cw8_0, fw8_0⟩ := hw8.row (k := w.heap.size) (by first | assumption | (simp; done) | (simp; omega) | omega)
        have kw8_1 := hw8.more (k := w.heap.size + 1) (by first | assumption | (simp; done) | (simp; omega) | omega)
        obtain ⟨cw8_1, fw8_1⟩ := hw8.row (k := w.heap.size + 1) (by first | assumption | (simp; done) | (simp; omega) | omega)
        have kw8_2 := hw8.more (k := w4.heap.size) (by first | assumption | (simp; done) | (simp; omega) | omega)
        obtain ⟨cw8_2, fw8_2⟩ := hw8.row (k := w4.heap.size) (by first | assumption | (simp; done) | (simp; omega) | omega)
        have kw8_3 := hw8.more (k := w5.heap.size) (by first | assumption | (simp; done) | (simp; omega) | omega)
        obtain ⟨cw8_3, fw8_3⟩ := hw8.row (k := w5.heap.size) (by first | assumption | (simp; done) | (simp; omega) | omega)
        go_wp2
        go_ret
        exact ⟨rfl, (by repeat (first | with_reducible exact Ext.refl _ | with_reducible assumption | with_reducible refine Ext.alloc ?_ _ | with_reducible refine Ext.drew ?_ | with_reducible refine Ext.drewN ?_ _ | ((with_reducible refine Ext.set ?_ ?_ _); (focus (first | (simp; done) | (simp; omega)))) | with_reducible refine Ext.trans ?_ (by assumption)))⟩
set_option maxHeartbeats 1000000 in
theorem equalSenders_no1 (st z b e fi fk se co st2 z2 b2 e2 fi2 fk2 se2 co2 : Int) (a1 a2 a3 a4 : Option Addr) (ca1 ca2 ca3 ca4 : Nat) (v1 v2 v3 v4 : Option Addr) (cv1 cv2 cv3 cv4 : Nat) (xs : List Int) (ps fs ks : List Rg) (ys : List Int) (qs gs js : List Rg) (w : World) (g : (xs.length : Int) ≤ 9223372036854775807 ∧ (ps.length : Int) ≤ 9223372036854775807 ∧ (fs.length : Int) ≤ 9223372036854775807 ∧ (ks.length : Int) ≤ 9223372036854775807) (h1 : 1048576 < (xs.length : Int) + (ps.length : Int) + (fs.length : Int) + (ks.length : Int)) :
    Calls Try.prog 4 #[.agg #[.int .i64 st, .int .i64 z, .int .i64 b, .int .i64 e, .slice a1 xs.length ca1, .slice a2 ps.length ca2, .slice a3 fs.length ca3, .slice a4 ks.length ca4, .int .i64 fi, .int .i64 fk, .int .i64 se, .int .i64 co], .agg #[.int .i64 st2, .int .i64 z2, .int .i64 b2, .int .i64 e2, .slice v1 ys.length cv1, .slice v2 qs.length cv2, .slice v3 gs.length cv3, .slice v4 js.length cv4, .int .i64 fi2, .int .i64 fk2, .int .i64 se2, .int .i64 co2]] w fun en w' => en = .returned (.bool true) ∧ Ext w w' := by
  go_enter Try.func4, Try.ntmps4
  go_wp2_with fail
  refine (szSender_no st z b e fi fk se co a1 a2 a3 a4 ca1 ca2 ca3 ca4 xs ps fs ks 1048576 _ (by omega) (by omega) g.1 g.2.1 g.2.2.1 g.2.2.2 (by omega)).mono ?_
  rintro en w1 ⟨rfl, hw1⟩
  have xw1 : Ext w w1 := (by repeat (first | with_reducible exact Ext.refl _ | with_reducible assumption | with_reducible refine Ext.alloc ?_ _ | with_reducible refine Ext.drew ?_ | with_reducible refine Ext.drewN ?_ _ | ((with_reducible refine Ext.set ?_ ?_ _); (focus (first | (simp; done) | (simp; omega)))) | with_reducible refine Ext.trans ?_ (by assumption)))
  have kw1_0 := hw1.more (k := w.heap.size) (by first | assumption | (simp; done) | (simp; omega) | omega)
  obtain ⟨cw1_0, fw1_0⟩ := hw1.row (k := w.heap.size) (by first | assumption | (simp; done) | (simp; omega) | omega)
  have kw1_1 := hw1.more (k := w.heap.size + 1) (by first | assumption | (simp; done) | (simp; omega) | omega)
  obtain ⟨cw1_1, fw1_1⟩ := hw1.row (k := w.heap.size + 1) (by first | assumption | (simp; done) | (simp; omega) | omega)
  go_wp2
  go_ret
  exact ⟨rfl, (by repeat (first | with_reducible exact Ext.refl _ | with_reducible assumption | with_reducible refine Ext.alloc ?_ _ | with_reducible refine Ext.drew ?_ | with_reducible refine Ext.drewN ?_ _ | ((with_reducible refine Ext.set ?_ ?_ _); (focus (first | (simp; done) | (simp; omega)))) | with_reducible refine Ext.trans ?_ (by assumption)))⟩
set_option maxHeartbeats 1000000 in
theorem equalSenders_no2 (st z b e fi fk se co st2 z2 b2 e2 fi2 fk2 se2 co2 : Int) (a1 a2 a3 a4 : Option Addr) (ca1 ca2 ca3 ca4 : Nat) (v1 v2 v3 v4 : Option Addr) (cv1 cv2 cv3 cv4 : Nat) (xs : List Int) (ps fs ks : List Rg) (ys : List Int) (qs gs js : List Rg) (w : World) (g2 : (ys.length : Int) ≤ 9223372036854775807 ∧ (qs.length : Int) ≤ 9223372036854775807 ∧ (gs.length : Int) ≤ 9223372036854775807 ∧ (js.length : Int) ≤ 9223372036854775807) (h1 : (xs.length : Int) + (ps.length : Int) + (fs.length : Int) + (ks.length : Int) ≤ 1048576) (h2 : 1048576 < ((xs.length : Int) + (ps.length : Int) + (fs.length : Int) + (ks.length : Int)) + ((ys.length : Int) + (qs.length : Int) + (gs.length : Int) + (js.length : Int))) :
    Calls Try.prog 4 #[.agg #[.int .i64 st, .int .i64 z, .int .i64 b, .int .i64 e, .slice a1 xs.length ca1, .slice a2 ps.length ca2, .slice a3 fs.length ca3, .slice a4 ks.length ca4, .int .i64 fi, .int .i64 fk, .int .i64 se, .int .i64 co], .agg #[.int .i64 st2, .int .i64 z2, .int .i64 b2, .int .i64 e2, .slice v1 ys.length cv1, .slice v2 qs.length cv2, .slice v3 gs.length cv3, .slice v4 js.length cv4, .int .i64 fi2, .int .i64 fk2, .int .i64 se2, .int .i64 co2]] w fun en w' => en = .returned (.bool true) ∧ Ext w w' := by
  have s3 : decide ((1048576 : Int) - ((xs.length : Int) + (ps.length : Int) + (fs.length : Int) + (ks.length : Int)) < 0) = false := decide_eq_false (by omega)
  go_enter Try.func4, Try.ntmps4
  go_wp2_with fail
  refine (szSender_yes st z b e fi fk se co a1 a2 a3 a4 ca1 ca2 ca3 ca4 xs ps fs ks 1048576 _ (by omega) (by omega) (by omega)).mono ?_
  rintro en w1 ⟨rfl, hw1⟩
  have xw1 : Ext w w1 := (by repeat (first | with_reducible exact Ext.refl _ | with_reducible assumption | with_reducible refine Ext.alloc ?_ _ | with_reducible refine Ext.drew ?_ | with_reducible refine Ext.drewN ?_ _ | ((with_reducible refine Ext.set ?_ ?_ _); (focus (first | (simp; done) | (simp; omega)))) | with_reducible refine Ext.trans ?_ (by assumption)))
  have kw1_0 := hw1.more (k := w.heap.size) (by first | assumption | (simp; done) | (simp; omega) | omega)
  obtain ⟨cw1_0, fw1_0⟩ := hw1.row (k := w.heap.size) (by first | assumption | (simp; done) | (simp; omega) | omega)
  have kw1_1 := hw1.more (k := w.heap.size + 1) (by first | assumption | (simp; done) | (simp; omega) | omega)
  obtain ⟨cw1_1, fw1_1⟩ := hw1.row (k := w.heap.size + 1) (by first | assumption | (simp; done) | (simp; omega) | omega)
  go_wp2_with fail
  refine (szSender_no st2 z2 b2 e2 fi2 fk2 se2 co2 v1 v2 v3 v4 cv1 cv2 cv3 cv4 ys qs gs js (1048576 - ((xs.length : Int) + (ps.length : Int) + (fs.length : Int) + (ks.length : Int))) _ (by omega) (by omega) g2.1 g2.2.1 g2.2.2.1 g2.2.2.2 (by omega)).mono ?_
  rintro en w2 ⟨rfl, hw2⟩
  have xw2 : Ext w w2 := (by repeat (first | with_reducible exact Ext.refl _ | with_reducible assumption | with_reducible refine Ext.alloc ?_ _ | with_reducible refine Ext.drew ?_ | with_reducible refine Ext.drewN ?_ _ | ((with_reducible refine Ext.set ?_ ?_ _); (focus (first | (simp; done) | (simp; omega)))) | with_reducible refine Ext.trans ?_ (by assumption)))
  have kw2_0 := hw2.more (k := w.heap.size) (by first | assumption | (simp; done) | (simp; omega) | omega)
  obtain ⟨cw2_0, fw2_0⟩ := hw2.row (k := w.heap.size) (by first | assumption | (simp; done) | (simp; omega) | omega)
  have kw2_1 := hw2.more (k := w.heap.size + 1) (by first | assumption | (simp; done) | (simp; omega) | omega)
  obtain ⟨cw2_1, fw2_1⟩ := hw2.row (k := w.heap.size + 1) (by first | assumption | (simp; done) | (simp; omega) | omega)
  go_wp2
  go_ret
  exact ⟨rfl, (by repeat (first | with_reducible exact Ext.refl _ | with_reducible assumption | with_reducible refine Ext.alloc ?_ _ | with_reducible refine Ext.drew ?_ | with_reducible refine Ext.drewN ?_ _ | ((with_reducible refine Ext.set ?_ ?_ _); (focus (first | (simp; done) | (simp; omega)))) | with_reducible refine Ext.trans ?_ (by assumption)))⟩
theorem equalSenders_walk (st z b e fi fk se co st2 z2 b2 e2 fi2 fk2 se2 co2 : Int) (a1 a2 a3 a4 : Option Addr) (ca1 ca2 ca3 ca4 : Nat) (v1 v2 v3 v4 : Option Addr) (cv1 cv2 cv3 cv4 : Nat) (xs : List Int) (ps fs ks : List Rg) (ys : List Int) (qs gs js : List Rg) (w : World) (hx : ReadSnd w ⟨a1, a2, a3, a4⟩ ⟨xs, ps, fs, ks⟩) (hy : ReadSnd w ⟨v1, v2, v3, v4⟩ ⟨ys, qs, gs, js⟩) (g : (xs.length : Int) ≤ 9223372036854775807 ∧ (ps.length : Int) ≤ 9223372036854775807 ∧ (fs.length : Int) ≤ 9223372036854775807 ∧ (ks.length : Int) ≤ 9223372036854775807) (g2 : (ys.length : Int) ≤ 9223372036854775807 ∧ (qs.length : Int) ≤ 9223372036854775807 ∧ (gs.length : Int) ≤ 9223372036854775807 ∧ (js.length : Int) ≤ 9223372036854775807) :
    Calls Try.prog 4 #[.agg #[.int .i64 st, .int .i64 z, .int .i64 b, .int .i64 e, .slice a1 xs.length ca1, .slice a2 ps.length ca2, .slice a3 fs.length ca3, .slice a4 ks.length ca4, .int .i64 fi, .int .i64 fk, .int .i64 se, .int .i64 co], .agg #[.int .i64 st2, .int .i64 z2, .int .i64 b2, .int .i64 e2, .slice v1 ys.length cv1, .slice v2 qs.length cv2, .slice v3 gs.length cv3, .slice v4 js.length cv4, .int .i64 fi2, .int .i64 fk2, .int .i64 se2, .int .i64 co2]] w fun en w' => en = .returned (.bool true) ∧ Ext w w' := by
  by_cases h1 : 1048576 < (xs.length : Int) + (ps.length : Int) + (fs.length : Int) + (ks.length : Int)
  · exact equalSenders_no1 st z b e fi fk se co st2 z2 b2 e2 fi2 fk2 se2 co2 a1 a2 a3 a4 ca1 ca2 ca3 ca4 v1 v2 v3 v4 cv1 cv2 cv3 cv4 xs ps fs ks ys qs gs js w g h1
  · by_cases h2 : 1048576 < ((xs.length : Int) + (ps.length : Int) + (fs.length : Int) + (ks.length : Int)) + ((ys.length : Int) + (qs.length : Int) + (gs.length : Int) + (js.length : Int))
    · exact equalSenders_no2 st z b e fi fk se co st2 z2 b2 e2 fi2 fk2 se2 co2 a1 a2 a3 a4 ca1 ca2 ca3 ca4 v1 v2 v3 v4 cv1 cv2 cv3 cv4 xs ps fs ks ys qs gs js w g2 (by omega) h2
    · exact equalSenders_yes st z b e fi fk se co st2 z2 b2 e2 fi2 fk2 se2 co2 a1 a2 a3 a4 ca1 ca2 ca3 ca4 v1 v2 v3 v4 cv1 cv2 cv3 cv4 xs ps fs ks ys qs gs js w hx hy (by omega)
/-! ### the row of FnExactEqualSenders -/
theorem equalSenders_reads : ∀ t ∈ Try.f4.params.toList, Try.prog.readableRec t = true ∧ t < Try.prog.types.size := by
  rw [Try.params4]
  intro t ht
  simp only [List.mem_cons, List.not_mem_nil, or_false] at ht
  rcases ht with rfl | rfl
  all_goals exact ⟨by kernel_rfl, of_decide_eq_true (by kernel_rfl)⟩
set_option maxRecDepth 100000 in
theorem equalSenders_lifted (os : Os) (started : os.Started) (H : Type) (enc : TypeId × Value → H) :
    ReturnsInHanded {} Try.checked os 4 .any (Rows.fnExactEqualSendersSpec.pre6 enc Try.prog Try.f4 Rows.fnExactEqualSendersRow.domain false) (Rows.fnExactEqualSendersSpec.post enc Try.prog Try.f4 false true false false) := by
  refine returnsInHanded_of_change (C := Try.checked) ownKnobNone started (by kernel_rfl) Try.func4
    (ChangeSpec.witness6 (enc := enc) (C := Try.checked) false ⟨#[], #[.agg #[.int .i64 0, .int .i64 0, .int .i64 0, .int .i64 0, .slice none 0 0, .slice none 0 0, .slice none 0 0, .slice none 0 0, .int .i64 0, .int .i64 0, .int .i64 0, .int .i64 0], .agg #[.int .i64 0, .int .i64 0, .int .i64 0, .int .i64 0, .slice none 0 0, .slice none 0 0, .slice none 0 0, .slice none 0 0, .int .i64 0, .int .i64 0, .int .i64 0, .int .i64 0]], []⟩ 8 (by kernel_rfl) (by kernel_rfl) (by kernel_rfl) (by kernel_rfl)) ?_
  intro W base args ds gs before hval0 hW hcnd _
  have hval : ∀ (j : Nat) t v, Try.f4.params[j]? = some t → args[j]? = some v → Value.okWide Try.prog W .any base t v := hval0
  have hW' := hW
  obtain ⟨p, q, hA0, hV, rfl, hfz, hnd⟩ := hW
  have hA : DataW.TrodAll enc Try.prog W 0 (fun _ => true) true Try.f4.params.toList args.toList ds p := hA0
  rw [Try.params4] at hA hval
  obtain ⟨v0, vs0, d0, ds0, p0, q0, hargs, rfl, rfl, h0, r0⟩ := trodAll_cons hA
  obtain ⟨v1, vs1, d1, ds1, p1, q1, rfl, rfl, rfl, h1, r1⟩ := trodAll_cons r0
  obtain ⟨rfl, rfl, rfl⟩ := trodAll_nil r1
  obtain rfl : args = #[v0, v1] := by cases args; simp_all
  obtain ⟨st, z, b, e, fi, fk, se, co, a1, a2, a3, a4, ca1, ca2, ca3, ca4, nA1, nA2, nA3, nA4, xs, ps, fs, ks, rfl, ⟨hnA1, hnA2, hnA3, hnA4⟩, ⟨hbA1, hbA2, hbA3, hbA4⟩, hxA, hwA, hwxA, hwpA, hwfA, hwkA⟩ := open_sender Try.underlying36 (by kernel_rfl) (by kernel_rfl) Try.underlying3 (by kernel_rfl) Try.underlying33 (by kernel_rfl) (by kernel_rfl) Try.underlying22 (by kernel_rfl) Try.underlying34 (by kernel_rfl) Try.underlying111 (by kernel_rfl) (by kernel_rfl) (hval 0 36 v0 rfl rfl) h0
  subst hnA1 hnA2 hnA3 hnA4
  obtain ⟨st2, z2, b2, e2, fi2, fk2, se2, co2, v1, v2, v3, v4, cv1, cv2, cv3, cv4, nB1, nB2, nB3, nB4, ys, qs, gs, js, rfl, ⟨hnB1, hnB2, hnB3, hnB4⟩, ⟨hbB1, hbB2, hbB3, hbB4⟩, hxB, hwB, hwxB, hwpB, hwfB, hwkB⟩ := open_sender Try.underlying36 (by kernel_rfl) (by kernel_rfl) Try.underlying3 (by kernel_rfl) Try.underlying33 (by kernel_rfl) (by kernel_rfl) Try.underlying22 (by kernel_rfl) Try.underlying34 (by kernel_rfl) Try.underlying111 (by kernel_rfl) (by kernel_rfl) (hval 1 36 v1 rfl rfl) h1
  subst hnB1 hnB2 hnB3 hnB4
  refine (equalSenders_walk st z b e fi fk se co st2 z2 b2 e2 fi2 fk2 se2 co2 a1 a2 a3 a4 ca1 ca2 ca3 ca4 v1 v2 v3 v4 cv1 cv2 cv3 cv4 xs ps fs ks ys qs gs js W hxA hxB ⟨hbA1, hbA2, hbA3, hbA4⟩ ⟨hbB1, hbB2, hbB3, hbB4⟩).mono fun e W' ⟨he, hg⟩ => ?_
  subst he
  exact ⟨_, rfl, law_post laidOut equalSenders_reads rfl rfl Try.underlying4 hW' (fun gs h => by subst h; rfl) hg⟩
theorem equalSenders_over : Rows.fnExactEqualSendersRow.holds Try.pinned (OpenSpec.ofChange Rows.fnExactEqualSendersSpec) :=
  OpenClaim.holds_of_wide 4 Try.f4 rfl rfl rfl rfl rfl rfl rfl ⟨rfl, rfl, rfl, rfl, rfl⟩ rfl rfl rfl rfl rfl (by kernel_rfl) Try.func4 (by kernel_rfl)
    (of_decide_eq_true (by kernel_rfl)) (by unfold Func.isWrapper; first | (rw [if_pos (by decide +kernel)]; kernel_rfl) | (rw [if_neg (by decide +kernel)]; exact ⟨rfl, rfl⟩))
    (fun os started H enc _ => equalSenders_lifted os started H enc)
/-- The statement. -/
theorem equalSenders_holds : Rows.FnExactEqualSendersSaid := equalSenders_over
#print axioms equalSenders_holds
end Go.Proofs.Ytmlpgnlpmdpjkaa

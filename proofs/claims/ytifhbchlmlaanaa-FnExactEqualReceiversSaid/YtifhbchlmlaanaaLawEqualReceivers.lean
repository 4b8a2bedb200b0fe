/-
  The law FnExactEqualReceivers holds of every argument. No condition.
-/
import Derived.Test.YtifhbchlmlaanaaRecvEq
import Derived.Test.YtifhbchlmlaanaaRecvIn
import Derived.Test.YtifhbchlmlaanaaLawKit
import Derived.Test.YtifhbchlmlaanaaRecvLine
namespace Go.Proofs.Ytifhbchlmlaanaa
open Go.ChangeShapes Go.WideShapes Go.ChangeAt Go.RowKit
set_option linter.unusedSimpArgs false
set_option maxHeartbeats 2000000 in
theorem equalReceivers_yes (st nx fi hg co st2 nx2 fi2 hg2 co2 : Int) (ao bo : Option Addr) (n m ca cb : Nat) (xs ys : List Ck) (w : World) (hx : ReadC w ao xs) (hy : ReadC w bo ys) (hn : xs.length = n) (hm : ys.length = m) (g0 : (n : Int) ≤ 9223372036854775807) (g1 : (m : Int) ≤ 9223372036854775807) (hzx : ∀ c ∈ xs, (c.2.size : Int) ≤ 9223372036854775807) (hzy : ∀ c ∈ ys, (c.2.size : Int) ≤ 9223372036854775807) (h1 : (n : Int) + (tot xs : Int) + (m : Int) + (tot ys : Int) ≤ 1048576) :
    Calls Try.prog 4 #[.agg #[.int .i64 st, .int .i64 nx, .slice ao n ca, .int .i64 fi, .int .i64 hg, .int .i64 co], .agg #[.int .i64 st2, .int .i64 nx2, .slice bo m cb, .int .i64 fi2, .int .i64 hg2, .int .i64 co2]] w fun en w' => en = .returned (.bool true) ∧ Ext w w' := by
  have hn' := hide hn
  have hm' := hide hm
  have hx' := hide hx
  have hy' := hide hy
  have hzx' := hide hzx
  have hzy' := hide hzy
  clear hn hm hx hy hzx hzy
  have s1 : (if (1048576 : Int) < (n : Int) + (tot xs : Int) then (-1 : Int) else (1048576 : Int) - n - (tot xs : Int)) = (1048576 : Int) - n - (tot xs : Int) := if_neg (by omega)
  have s2 : (if (1048576 : Int) - n - (tot xs : Int) < (m : Int) + (tot ys : Int) then (-1 : Int) else (1048576 : Int) - n - (tot xs : Int) - m - (tot ys : Int)) = (1048576 : Int) - n - (tot xs : Int) - m - (tot ys : Int) := if_neg (by omega)
  have s3 : decide ((1048576 : Int) - n - (tot xs : Int) < 0) = false := by simp; omega
  have s4 : decide ((1048576 : Int) - n - (tot xs : Int) - m - (tot ys : Int) < 0) = false := by simp; omega
  go_enter Try.func4, Try.ntmps4
  go_wp2_with fail
  refine (szReceiver_any st nx fi hg co ao n ca xs _ _ ?_ hn'.out g0 (by omega) (by omega) hzx'.out).mono ?_
  · exact hx'.out.ext (by repeat (first | with_reducible exact Ext.refl _ | with_reducible assumption | with_reducible refine Ext.alloc ?_ _ | with_reducible refine Ext.drew ?_ | with_reducible refine Ext.drewN ?_ _ | ((with_reducible refine Ext.set ?_ ?_ _); (focus (first | (simp; done) | (simp; omega)))) | with_reducible refine Ext.trans ?_ (by assumption)))
  rintro en w1 ⟨rfl, hw1⟩
  have xw1 : Ext w w1 := (by repeat (first | with_reducible exact Ext.refl _ | with_reducible assumption | with_reducible refine Ext.alloc ?_ _ | with_reducible refine Ext.drew ?_ | with_reducible refine Ext.drewN ?_ _ | ((with_reducible refine Ext.set ?_ ?_ _); (focus (first | (simp; done) | (simp; omega)))) | with_reducible refine Ext.trans ?_ (by assumption)))
  have kw1_0 := hw1.more (k := w.heap.size) (by first | assumption | (simp; done) | (simp; omega) | omega)
  obtain ⟨cw1_0, fw1_0⟩ := hw1.row (k := w.heap.size) (by first | assumption | (simp; done) | (simp; omega) | omega)
  have kw1_1 := hw1.more (k := w.heap.size + 1) (by first | assumption | (simp; done) | (simp; omega) | omega)
  obtain ⟨cw1_1, fw1_1⟩ := hw1.row (k := w.heap.size + 1) (by first | assumption | (simp; done) | (simp; omega) | omega)
  rw [s1]
  go_wp2_with fail
  refine (szReceiver_any st2 nx2 fi2 hg2 co2 bo m cb ys _ _ ?_ hm'.out g1 (by omega) (by omega) hzy'.out).mono ?_
  · exact hy'.out.ext (by repeat (first | with_reducible exact Ext.refl _ | with_reducible assumption | with_reducible refine Ext.alloc ?_ _ | with_reducible refine Ext.drew ?_ | with_reducible refine Ext.drewN ?_ _ | ((with_reducible refine Ext.set ?_ ?_ _); (focus (first | (simp; done) | (simp; omega)))) | with_reducible refine Ext.trans ?_ (by assumption)))
  rintro en w2 ⟨rfl, hw2⟩
  have xw2 : Ext w w2 := (by repeat (first | with_reducible exact Ext.refl _ | with_reducible assumption | with_reducible refine Ext.alloc ?_ _ | with_reducible refine Ext.drew ?_ | with_reducible refine Ext.drewN ?_ _ | ((with_reducible refine Ext.set ?_ ?_ _); (focus (first | (simp; done) | (simp; omega)))) | with_reducible refine Ext.trans ?_ (by assumption)))
  have kw2_0 := hw2.more (k := w.heap.size) (by first | assumption | (simp; done) | (simp; omega) | omega)
  obtain ⟨cw2_0, fw2_0⟩ := hw2.row (k := w.heap.size) (by first | assumption | (simp; done) | (simp; omega) | omega)
  have kw2_1 := hw2.more (k := w.heap.size + 1) (by first | assumption | (simp; done) | (simp; omega) | omega)
  obtain ⟨cw2_1, fw2_1⟩ := hw2.row (k := w.heap.size + 1) (by first | assumption | (simp; done) | (simp; omega) | omega)
  rw [s2]
  go_wp2_with fail
  refine wp_region_lines [Line.is (.agg #[.int .i64 st, .int .i64 nx, .slice ao n ca, .int .i64 fi, .int .i64 hg, .int .i64 co]), recvL st nx fi hg co xs, Line.is (.agg #[.int .i64 st2, .int .i64 nx2, .slice bo m cb, .int .i64 fi2, .int .i64 hg2, .int .i64 co2]), recvL st2 nx2 fi2 hg2 co2 ys, Line.is (.bool (recvEq st nx fi hg co st2 nx2 fi2 hg2 co2 xs ys)), Line.is (.bool (recvEq st nx fi hg co st2 nx2 fi2 hg2 co2 xs ys))] [20, 21, 22, 23, 24, 6] (by kernel_rfl) (by kernel_rfl) (by kernel_rfl) (by kernel_rfl) (by kernel_rfl) ?_ ?_
  · refine Each.cons ?_ (Each.cons ?_ (Each.cons ?_ (Each.cons ?_ (Each.cons ?_ (Each.cons ?_ (Each.nil))))))
    · intro g ws hws hl
      have hxs : Ext w ws := xw2.drew.trans hws
      simp only [fillAt, List.foldl_cons, List.foldl_nil, Act.put, List.setIfInBounds_toArray, List.set_cons_zero, List.set_cons_succ]
      obtain ⟨q0, p0⟩ := hws.row (k := w.heap.size) (by first | assumption | (simp; done) | (simp; omega) | omega)
      obtain ⟨q1, p1⟩ := hws.row (k := w.heap.size + 1) (by first | assumption | (simp; done) | (simp; omega) | omega)
      refine Stays.plain ?_ (by rfl) ?_ ?_
      rotate_left
      · go_simp
        try with_reducible rfl
      · exact rfl
    · intro g ws hws hl
      have hxs : Ext w ws := xw2.drew.trans hws
      have ln0 : g 20 = _ := (show (Line.is (.agg #[.int .i64 st, .int .i64 nx, .slice ao n ca, .int .i64 fi, .int .i64 hg, .int .i64 co])).p (g 20) ws from linesOf_get 0 hl (by kernel_rfl))
      simp only [fillAt, List.foldl_cons, List.foldl_nil, Act.put, List.setIfInBounds_toArray, List.set_cons_zero, List.set_cons_succ, ln0]
      refine Stays.call 22 ?_ (by rfl) ?_ ?_
      rotate_left
      · go_simp
        try with_reducible rfl
      · refine (toReceiver_any st nx fi hg co ao n ca xs _ ?_ hn'.out (by omega)).mono ?_
        · exact hx'.out.ext hxs
        · rintro en w3 ⟨ao3, cap3, rfl, ho3, hb3⟩
          exact ⟨_, rfl, hb3, recvL_mk ho3.read⟩
    · intro g ws hws hl
      have hxs : Ext w ws := xw2.drew.trans hws
      simp only [fillAt, List.foldl_cons, List.foldl_nil, Act.put, List.setIfInBounds_toArray, List.set_cons_zero, List.set_cons_succ]
      obtain ⟨q0, p0⟩ := hws.row (k := w.heap.size) (by first | assumption | (simp; done) | (simp; omega) | omega)
      obtain ⟨q1, p1⟩ := hws.row (k := w.heap.size + 1) (by first | assumption | (simp; done) | (simp; omega) | omega)
      refine Stays.plain ?_ (by rfl) ?_ ?_
      rotate_left
      · go_simp
        try with_reducible rfl
      · exact rfl
    · intro g ws hws hl
      have hxs : Ext w ws := xw2.drew.trans hws
      have ln2 : g 22 = _ := (show (Line.is (.agg #[.int .i64 st2, .int .i64 nx2, .slice bo m cb, .int .i64 fi2, .int .i64 hg2, .int .i64 co2])).p (g 22) ws from linesOf_get 2 hl (by kernel_rfl))
      simp only [fillAt, List.foldl_cons, List.foldl_nil, Act.put, List.setIfInBounds_toArray, List.set_cons_zero, List.set_cons_succ, ln2]
      refine Stays.call 22 ?_ (by rfl) ?_ ?_
      rotate_left
      · go_simp
        try with_reducible rfl
      · refine (toReceiver_any st2 nx2 fi2 hg2 co2 bo m cb ys _ ?_ hm'.out (by omega)).mono ?_
        · exact hy'.out.ext hxs
        · rintro en w3 ⟨ao3, cap3, rfl, ho3, hb3⟩
          exact ⟨_, rfl, hb3, recvL_mk ho3.read⟩
    · intro g ws hws hl
      have hxs : Ext w ws := xw2.drew.trans hws
      obtain ⟨aoA, capA, ln1, hA⟩ := recvL_get (show (recvL st nx fi hg co xs).p (g 21) ws from linesOf_get 1 hl (by kernel_rfl))
      obtain ⟨aoB, capB, ln3, hB⟩ := recvL_get (show (recvL st2 nx2 fi2 hg2 co2 ys).p (g 23) ws from linesOf_get 3 hl (by kernel_rfl))
      simp only [fillAt, List.foldl_cons, List.foldl_nil, Act.put, List.setIfInBounds_toArray, List.set_cons_zero, List.set_cons_succ, ln1, ln3]
      refine Stays.call 21 ?_ (by rfl) ?_ ?_
      rotate_left
      · go_simp
        try with_reducible rfl
      · refine (EqualReceivers_spec st nx fi hg co st2 nx2 fi2 hg2 co2 aoA aoB xs.length ys.length capA capB xs ys _ hA hB rfl rfl (by rw [hn'.out]; omega)).mono ?_
        rintro en w5 ⟨rfl, hb5⟩
        exact ⟨_, rfl, hb5, rfl⟩
    · intro g ws hws hl
      have hxs : Ext w ws := xw2.drew.trans hws
      have ln4 : g 24 = _ := (show (Line.is (.bool (recvEq st nx fi hg co st2 nx2 fi2 hg2 co2 xs ys))).p (g 24) ws from linesOf_get 4 hl (by kernel_rfl))
      simp only [fillAt, List.foldl_cons, List.foldl_nil, Act.put, List.setIfInBounds_toArray, List.set_cons_zero, List.set_cons_succ, ln4]
      refine Stays.plain ?_ (by rfl) ?_ ?_
      rotate_left
      · go_simp
        try with_reducible rfl
      · exact rfl
  · intro g w3 hw3 hl
    have xw3 : Ext w w3 := xw2.drew.trans hw3
    have ln0 : g 20 = _ := (show (Line.is (.agg #[.int .i64 st, .int .i64 nx, .slice ao n ca, .int .i64 fi, .int .i64 hg, .int .i64 co])).p (g 20) w3 from (allLines_get 20 0 0 hl rfl))
    obtain ⟨aoA, capA, ln1, hA⟩ := recvL_get (show (recvL st nx fi hg co xs).p (g 21) w3 from (allLines_get 21 1 0 hl rfl))
    have ln2 : g 22 = _ := (show (Line.is (.agg #[.int .i64 st2, .int .i64 nx2, .slice bo m cb, .int .i64 fi2, .int .i64 hg2, .int .i64 co2])).p (g 22) w3 from (allLines_get 22 2 0 hl rfl))
    obtain ⟨aoB, capB, ln3, hB⟩ := recvL_get (show (recvL st2 nx2 fi2 hg2 co2 ys).p (g 23) w3 from (allLines_get 23 3 0 hl rfl))
    have ln4 : g 24 = _ := (show (Line.is (.bool (recvEq st nx fi hg co st2 nx2 fi2 hg2 co2 xs ys))).p (g 24) w3 from (allLines_get 24 4 0 hl rfl))
    have ln5 : g 6 = _ := (show (Line.is (.bool (recvEq st nx fi hg co st2 nx2 fi2 hg2 co2 xs ys))).p (g 6) w3 from (allLines_get 6 5 0 hl rfl))
    clear hl
    simp only [fillAt, List.foldl_cons, List.foldl_nil, Act.put, List.setIfInBounds_toArray, List.set_cons_zero, List.set_cons_succ, ln0, ln1, ln2, ln3, ln4, ln5]
    have kw3_0 := hw3.more (k := w.heap.size) (by first | assumption | (simp; done) | (simp; omega) | omega)
    obtain ⟨cw3_0, fw3_0⟩ := hw3.row (k := w.heap.size) (by first | assumption | (simp; done) | (simp; omega) | omega)
    have kw3_1 := hw3.more (k := w.heap.size + 1) (by first | assumption | (simp; done) | (simp; omega) | omega)
    obtain ⟨cw3_1, fw3_1⟩ := hw3.row (k := w.heap.size + 1) (by first | assumption | (simp; done) | (simp; omega) | omega)
    go_wp2_with fail
    refine (toReceiver_any st nx fi hg co ao n ca xs _ ?_ hn'.out (by omega)).mono ?_
    · exact hx'.out.ext xw3
    rintro en w4 ⟨ao4, cap4, rfl, ho4, hw4⟩
    have xw4 : Ext w w4 := (by repeat (first | with_reducible exact Ext.refl _ | with_reducible assumption | with_reducible refine Ext.alloc ?_ _ | with_reducible refine Ext.drew ?_ | with_reducible refine Ext.drewN ?_ _ | ((with_reducible refine Ext.set ?_ ?_ _); (focus (first | (simp; done) | (simp; omega)))) | with_reducible refine Ext.trans ?_ (by assumption)))
    have kw4_0 := hw4.more (k := w.heap.size) (by first | assumption | (simp; done) | (simp; omega) | omega)
    obtain ⟨cw4_0, fw4_0⟩ := hw4.row (k := w.heap.size) (by first | assumption | (simp; done) | (simp; omega) | omega)
    have kw4_1 := hw4.more (k := w.heap.size + 1) (by first | assumption | (simp; done) | (simp; omega) | omega)
    obtain ⟨cw4_1, fw4_1⟩ := hw4.row (k := w.heap.size + 1) (by first | assumption | (simp; done) | (simp; omega) | omega)
    have hr4 := ho4.read
    clear ho4
    go_wp2_with fail
    refine (toReceiver_any st2 nx2 fi2 hg2 co2 bo m cb ys _ ?_ hm'.out (by omega)).mono ?_
    · exact hy'.out.ext (by repeat (first | with_reducible exact Ext.refl _ | with_reducible assumption | with_reducible refine Ext.alloc ?_ _ | with_reducible refine Ext.drew ?_ | with_reducible refine Ext.drewN ?_ _ | ((with_reducible refine Ext.set ?_ ?_ _); (focus (first | (simp; done) | (simp; omega)))) | with_reducible refine Ext.trans ?_ (by assumption)))
    rintro en w5 ⟨ao5, cap5, rfl, ho5, hw5⟩
    have xw5 : Ext w w5 := (by repeat (first | with_reducible exact Ext.refl _ | with_reducible assumption | with_reducible refine Ext.alloc ?_ _ | with_reducible refine Ext.drew ?_ | with_reducible refine Ext.drewN ?_ _ | ((with_reducible refine Ext.set ?_ ?_ _); (focus (first | (simp; done) | (simp; omega)))) | with_reducible refine Ext.trans ?_ (by assumption)))
    have kw5_0 := hw5.more (k := w.heap.size) (by first | assumption | (simp; done) | (simp; omega) | omega)
    obtain ⟨cw5_0, fw5_0⟩ := hw5.row (k := w.heap.size) (by first | assumption | (simp; done) | (simp; omega) | omega)
    have kw5_1 := hw5.more (k := w.heap.size + 1) (by first | assumption | (simp; done) | (simp; omega) | omega)
    obtain ⟨cw5_1, fw5_1⟩ := hw5.row (k := w.heap.size + 1) (by first | assumption | (simp; done) | (simp; omega) | omega)
    have kw5_2 := hw5.more (k := w4.heap.size) (by first | assumption | (simp; done) | (simp; omega) | omega)
    obtain ⟨cw5_2, fw5_2⟩ := hw5.row (k := w4.heap.size) (by first | assumption | (simp; done) | (simp; omega) | omega)
    have hr5 := ho5.read
    clear ho5
    go_wp2_with fail
    refine (EqualReceivers_impl st nx fi hg co st2 nx2 fi2 hg2 co2 ao4 ao5 xs.length ys.length cap4 cap5 xs ys _ ?_ ?_ rfl rfl (by rw [hn'.out]; omega)).mono ?_
    · exact hr4.ext (by repeat (first | with_reducible exact Ext.refl _ | with_reducible assumption | with_reducible refine Ext.alloc ?_ _ | with_reducible refine Ext.drew ?_ | ((with_reducible refine Ext.set ?_ ?_ _); (focus (first | (simp; done) | (simp; omega) | omega))) | with_reducible refine Ext.trans ?_ hw5 | with_reducible refine Ext.trans ?_ hw4 | with_reducible refine Ext.trans ?_ hw3 | with_reducible refine Ext.trans ?_ hw2 | with_reducible refine Ext.trans ?_ hw1))
    · exact hr5.ext (by repeat (first | with_reducible exact Ext.refl _ | with_reducible assumption | with_reducible refine Ext.alloc ?_ _ | with_reducible refine Ext.drew ?_ | ((with_reducible refine Ext.set ?_ ?_ _); (focus (first | (simp; done) | (simp; omega) | omega))) | with_reducible refine Ext.trans ?_ hw5 | with_reducible refine Ext.trans ?_ hw4 | with_reducible refine Ext.trans ?_ hw3 | with_reducible refine Ext.trans ?_ hw2 | with_reducible refine Ext.trans ?_ hw1))
    rintro en w6 ⟨rfl, hw6⟩
    have xw6 : Ext w w6 := (by repeat (first | with_reducible exact Ext.refl _ | with_reducible assumption | with_reducible refine Ext.alloc ?_ _ | with_reducible refine Ext.drew ?_ | with_reducible refine Ext.drewN ?_ _ | ((with_reducible refine Ext.set ?_ ?_ _); (focus (first | (simp; done) | (simp; omega)))) | with_reducible refine Ext.trans ?_ (by assumption)))
    have kw6_0 := hw6.more (k := w.heap.size) (by first | assumption | (simp; done) | (simp; omega) | omega)
    obtain ⟨cw6_0, fw6_0⟩ := hw6.row (k := w.heap.size) (by first | assumption | (simp; done) | (simp; omega) | omega)
    have kw6_1 := hw6.more (k := w.heap.size + 1) (by first | assumption | (simp; done) | (simp; omega) | omega)
    obtain ⟨cw6_1, fw6_1⟩ := hw6.row (k := w.heap.size + 1) (by first | assumption | (simp; done) | (simp; omega) | omega)
    have kw6_2 := hw6.more (k := w4.heap.size) (by first | assumption | (simp; done) | (simp; omega) | omega)
    obtain ⟨cw6_2, fw6_2⟩ := hw6.row (k := w4.heap.size) (by first | assumption | (simp; done) | (simp; omega) | omega)
    have kw6_3 := hw6.more (k := w5.heap.size) (by first | assumption | (simp; done) | (simp; omega) | omega)
    obtain ⟨cw6_3, fw6_3⟩ := hw6.row (k := w5.heap.size) (by first | assumption | (simp; done) | (simp; omega) | omega)
    go_wp2_with fail
    refine wp_region_lines [Line.is (.agg #[.int .i64 st, .int .i64 nx, .slice ao4 xs.length cap4, .int .i64 fi, .int .i64 hg, .int .i64 co]), Line.is (.agg #[.int .i64 st, .int .i64 nx, .slice ao n ca, .int .i64 fi, .int .i64 hg, .int .i64 co]), recvL st nx fi hg co xs, Line.is (.bool true), Line.is (.bool false)] [35, 36, 37, 38, 39] (by kernel_rfl) (by kernel_rfl) (by kernel_rfl) (by kernel_rfl) (by kernel_rfl) ?_ ?_
    · refine Each.cons ?_ (Each.cons ?_ (Each.cons ?_ (Each.cons ?_ (Each.cons ?_ (Each.nil)))))
      · intro g ws hws hl
        have hxs : Ext w ws := xw6.drew.trans hws
        simp only [fillAt, List.foldl_cons, List.foldl_nil, Act.put, List.setIfInBounds_toArray, List.set_cons_zero, List.set_cons_succ]
        obtain ⟨q0, p0⟩ := hws.row (k := w4.heap.size) (by first | assumption | (simp; done) | (simp; omega) | omega)
        obtain ⟨q1, p1⟩ := hws.row (k := w.heap.size) (by first | assumption | (simp; done) | (simp; omega) | omega)
        refine Stays.plain ?_ (by rfl) ?_ ?_
        rotate_left
        · go_simp
          try with_reducible rfl
        · exact rfl
      · intro g ws hws hl
        have hxs : Ext w ws := xw6.drew.trans hws
        simp only [fillAt, List.foldl_cons, List.foldl_nil, Act.put, List.setIfInBounds_toArray, List.set_cons_zero, List.set_cons_succ]
        obtain ⟨q0, p0⟩ := hws.row (k := w4.heap.size) (by first | assumption | (simp; done) | (simp; omega) | omega)
        obtain ⟨q1, p1⟩ := hws.row (k := w.heap.size) (by first | assumption | (simp; done) | (simp; omega) | omega)
        refine Stays.plain ?_ (by rfl) ?_ ?_
        rotate_left
        · go_simp
          try with_reducible rfl
        · exact rfl
      · intro g ws hws hl
        have hxs : Ext w ws := xw6.drew.trans hws
        have ln1 : g 36 = _ := (show (Line.is (.agg #[.int .i64 st, .int .i64 nx, .slice ao n ca, .int .i64 fi, .int .i64 hg, .int .i64 co])).p (g 36) ws from linesOf_get 1 hl (by kernel_rfl))
        simp only [fillAt, List.foldl_cons, List.foldl_nil, Act.put, List.setIfInBounds_toArray, List.set_cons_zero, List.set_cons_succ, ln1]
        refine Stays.call 22 ?_ (by rfl) ?_ ?_
        rotate_left
        · go_simp
          try with_reducible rfl
        · refine (toReceiver_any st nx fi hg co ao n ca xs _ ?_ hn'.out (by omega)).mono ?_
          · exact hx'.out.ext hxs
          · rintro en w3 ⟨ao3, cap3, rfl, ho3, hb3⟩
            exact ⟨_, rfl, hb3, recvL_mk ho3.read⟩
      · intro g ws hws hl
        have hxs : Ext w ws := xw6.drew.trans hws
        have ln0 : g 35 = _ := (show (Line.is (.agg #[.int .i64 st, .int .i64 nx, .slice ao4 xs.length cap4, .int .i64 fi, .int .i64 hg, .int .i64 co])).p (g 35) ws from linesOf_get 0 hl (by kernel_rfl))
        obtain ⟨aoC, capC, ln2, hC⟩ := recvL_get (show (recvL st nx fi hg co xs).p (g 37) ws from linesOf_get 2 hl (by kernel_rfl))
        simp only [fillAt, List.foldl_cons, List.foldl_nil, Act.put, List.setIfInBounds_toArray, List.set_cons_zero, List.set_cons_succ, ln0, ln2]
        refine Stays.call 17 ?_ (by rfl) ?_ ?_
        rotate_left
        · go_simp
          try with_reducible rfl
        · refine (eqReceiver_any st nx fi hg co ao4 aoC xs.length xs.length _ capC xs xs _ (hr4.ext (by repeat (first | with_reducible exact Ext.refl _ | with_reducible assumption | with_reducible refine Ext.alloc ?_ _ | with_reducible refine Ext.drew ?_ | ((with_reducible refine Ext.set ?_ ?_ _); (focus (first | (simp; done) | (simp; omega) | omega))) | with_reducible refine Ext.trans ?_ hws | with_reducible refine Ext.trans ?_ hw6 | with_reducible refine Ext.trans ?_ hw5 | with_reducible refine Ext.trans ?_ hw4 | with_reducible refine Ext.trans ?_ hw3 | with_reducible refine Ext.trans ?_ hw2 | with_reducible refine Ext.trans ?_ hw1))) hC rfl rfl (by rw [hn'.out]; omega)).mono ?_
          rintro en w9 ⟨rfl, hb9⟩
          exact ⟨_, rfl, hb9, (show _ = _ by simp)⟩
      · intro g ws hws hl
        have hxs : Ext w ws := xw6.drew.trans hws
        have ln3 : g 38 = _ := (show (Line.is (.bool true)).p (g 38) ws from linesOf_get 3 hl (by kernel_rfl))
        simp only [fillAt, List.foldl_cons, List.foldl_nil, Act.put, List.setIfInBounds_toArray, List.set_cons_zero, List.set_cons_succ, ln3]
        refine Stays.plain ?_ (by rfl) ?_ ?_
        rotate_left
        · go_simp
          try with_reducible rfl
        · exact rfl
    · intro g w7 hw7 hl
      have xw7 : Ext w w7 := xw6.drew.trans hw7
      have ln0 : g 35 = _ := (show (Line.is (.agg #[.int .i64 st, .int .i64 nx, .slice ao4 xs.length cap4, .int .i64 fi, .int .i64 hg, .int .i64 co])).p (g 35) w7 from (allLines_get 35 0 0 hl rfl))
      have ln1 : g 36 = _ := (show (Line.is (.agg #[.int .i64 st, .int .i64 nx, .slice ao n ca, .int .i64 fi, .int .i64 hg, .int .i64 co])).p (g 36) w7 from (allLines_get 36 1 0 hl rfl))
      obtain ⟨aoC, capC, ln2, hC⟩ := recvL_get (show (recvL st nx fi hg co xs).p (g 37) w7 from (allLines_get 37 2 0 hl rfl))
      have ln3 : g 38 = _ := (show (Line.is (.bool true)).p (g 38) w7 from (allLines_get 38 3 0 hl rfl))
      have ln4 : g 39 = _ := (show (Line.is (.bool false)).p (g 39) w7 from (allLines_get 39 4 0 hl rfl))
      clear hl
      simp only [fillAt, List.foldl_cons, List.foldl_nil, Act.put, List.setIfInBounds_toArray, List.set_cons_zero, List.set_cons_succ, ln0, ln1, ln2, ln3, ln4]
      have kw7_0 := hw7.more (k := w.heap.size) (by first | assumption | (simp; done) | (simp; omega) | omega)
      obtain ⟨cw7_0, fw7_0⟩ := hw7.row (k := w.heap.size) (by first | assumption | (simp; done) | (simp; omega) | omega)
      have kw7_1 := hw7.more (k := w.heap.size + 1) (by first | assumption | (simp; done) | (simp; omega) | omega)
      obtain ⟨cw7_1, fw7_1⟩ := hw7.row (k := w.heap.size + 1) (by first | assumption | (simp; done) | (simp; omega) | omega)
      have kw7_2 := hw7.more (k := w4.heap.size) (by first | assumption | (simp; done) | (simp; omega) | omega)
      obtain ⟨cw7_2, fw7_2⟩ := hw7.row (k := w4.heap.size) (by first | assumption | (simp; done) | (simp; omega) | omega)
      have kw7_3 := hw7.more (k := w5.heap.size) (by first | assumption | (simp; done) | (simp; omega) | omega)
      obtain ⟨cw7_3, fw7_3⟩ := hw7.row (k := w5.heap.size) (by first | assumption | (simp; done) | (simp; omega) | omega)
      go_wp2_with fail
      refine wp_region_lines [Line.is (.agg #[.int .i64 st2, .int .i64 nx2, .slice ao5 ys.length cap5, .int .i64 fi2, .int .i64 hg2, .int .i64 co2]), Line.is (.agg #[.int .i64 st2, .int .i64 nx2, .slice bo m cb, .int .i64 fi2, .int .i64 hg2, .int .i64 co2]), recvL st2 nx2 fi2 hg2 co2 ys, Line.is (.bool true), Line.is (.bool false)] [40, 41, 42, 43, 44] (by kernel_rfl) (by kernel_rfl) (by kernel_rfl) (by kernel_rfl) (by kernel_rfl) ?_ ?_
      · refine Each.cons ?_ (Each.cons ?_ (Each.cons ?_ (Each.cons ?_ (Each.cons ?_ (Each.nil)))))
        · intro g ws hws hl
          have hxs : Ext w ws := xw7.drew.trans hws
          simp only [fillAt, List.foldl_cons, List.foldl_nil, Act.put, List.setIfInBounds_toArray, List.set_cons_zero, List.set_cons_succ]
          obtain ⟨q0, p0⟩ := hws.row (k := w5.heap.size) (by first | assumption | (simp; done) | (simp; omega) | omega)
          obtain ⟨q1, p1⟩ := hws.row (k := w.heap.size + 1) (by first | assumption | (simp; done) | (simp; omega) | omega)
          refine Stays.plain ?_ (by rfl) ?_ ?_
          rotate_left
          · go_simp
            try with_reducible rfl
          · exact rfl
        · intro g ws hws hl
          have hxs : Ext w ws := xw7.drew.trans hws
          simp only [fillAt, List.foldl_cons, List.foldl_nil, Act.put, List.setIfInBounds_toArray, List.set_cons_zero, List.set_cons_succ]
          obtain ⟨q0, p0⟩ := hws.row (k := w5.heap.size) (by first | assumption | (simp; done) | (simp; omega) | omega)
          obtain ⟨q1, p1⟩ := hws.row (k := w.heap.size + 1) (by first | assumption | (simp; done) | (simp; omega) | omega)
          refine Stays.plain ?_ (by rfl) ?_ ?_
          rotate_left
          · go_simp
            try with_reducible rfl
          · exact rfl
        · intro g ws hws hl
          have hxs : Ext w ws := xw7.drew.trans hws
          have ln1 : g 41 = _ := (show (Line.is (.agg #[.int .i64 st2, .int .i64 nx2, .slice bo m cb, .int .i64 fi2, .int .i64 hg2, .int .i64 co2])).p (g 41) ws from linesOf_get 1 hl (by kernel_rfl))
          simp only [fillAt, List.foldl_cons, List.foldl_nil, Act.put, List.setIfInBounds_toArray, List.set_cons_zero, List.set_cons_succ, ln1]
          refine Stays.call 22 ?_ (by rfl) ?_ ?_
          rotate_left
          · go_simp
            try with_reducible rfl
          · refine (toReceiver_any st2 nx2 fi2 hg2 co2 bo m cb ys _ ?_ hm'.out (by omega)).mono ?_
            · exact hy'.out.ext hxs
            · rintro en w3 ⟨ao3, cap3, rfl, ho3, hb3⟩
              exact ⟨_, rfl, hb3, recvL_mk ho3.read⟩
        · intro g ws hws hl
          have hxs : Ext w ws := xw7.drew.trans hws
          have ln0 : g 40 = _ := (show (Line.is (.agg #[.int .i64 st2, .int .i64 nx2, .slice ao5 ys.length cap5, .int .i64 fi2, .int .i64 hg2, .int .i64 co2])).p (g 40) ws from linesOf_get 0 hl (by kernel_rfl))
          obtain ⟨aoC, capC, ln2, hC⟩ := recvL_get (show (recvL st2 nx2 fi2 hg2 co2 ys).p (g 42) ws from linesOf_get 2 hl (by kernel_rfl))
          simp only [fillAt, List.foldl_cons, List.foldl_nil, Act.put, List.setIfInBounds_toArray, List.set_cons_zero, List.set_cons_succ, ln0, ln2]
          refine Stays.call 17 ?_ (by rfl) ?_ ?_
          rotate_left
          · go_simp
            try with_reducible rfl
          · refine (eqReceiver_any st2 nx2 fi2 hg2 co2 ao5 aoC ys.length ys.length _ capC ys ys _ (hr5.ext (by repeat (first | with_reducible exact Ext.refl _ | with_reducible assumption | with_reducible refine Ext.alloc ?_ _ | with_reducible refine Ext.drew ?_ | ((with_reducible refine Ext.set ?_ ?_ _); (focus (first | (simp; done) | (simp; omega) | omega))) | with_reducible refine Ext.trans ?_ hws | with_reducible refine Ext.trans ?_ hw7 | with_reducible refine Ext.trans ?_ hw6 | with_reducible refine Ext.trans ?_ hw5 | with_reducible refine Ext.trans ?_ hw4 | with_reducible refine Ext.trans ?_ hw3 | with_reducible refine Ext.trans ?_ hw2 | with_reducible refine Ext.trans ?_ hw1))) hC rfl rfl (by rw [hm'.out]; omega)).mono ?_
            rintro en w9 ⟨rfl, hb9⟩
            exact ⟨_, rfl, hb9, (show _ = _ by simp)⟩
        · intro g ws hws hl
          have hxs : Ext w ws := xw7.drew.trans hws
          have ln3 : g 43 = _ := (show (Line.is (.bool true)).p (g 43) ws from linesOf_get 3 hl (by kernel_rfl))
          simp only [fillAt, List.foldl_cons, List.foldl_nil, Act.put, List.setIfInBounds_toArray, List.set_cons_zero, List.set_cons_succ, ln3]
          refine Stays.plain ?_ (by rfl) ?_ ?_
          rotate_left
          · go_simp
            try with_reducible rfl
          · exact rfl
      · intro g w8 hw8 hl
        have xw8 : Ext w w8 := xw7.drew.trans hw8
        have ln0 : g 40 = _ := (show (Line.is (.agg #[.int .i64 st2, .int .i64 nx2, .slice ao5 ys.length cap5, .int .i64 fi2, .int .i64 hg2, .int .i64 co2])).p (g 40) w8 from (allLines_get 40 0 0 hl rfl))
        have ln1 : g 41 = _ := (show (Line.is (.agg #[.int .i64 st2, .int .i64 nx2, .slice bo m cb, .int .i64 fi2, .int .i64 hg2, .int .i64 co2])).p (g 41) w8 from (allLines_get 41 1 0 hl rfl))
        obtain ⟨aoC, capC, ln2, hC⟩ := recvL_get (show (recvL st2 nx2 fi2 hg2 co2 ys).p (g 42) w8 from (allLines_get 42 2 0 hl rfl))
        have ln3 : g 43 = _ := (show (Line.is (.bool true)).p (g 43) w8 from (allLines_get 43 3 0 hl rfl))
        have ln4 : g 44 = _ := (show (Line.is (.bool false)).p (g 44) w8 from (allLines_get 44 4 0 hl rfl))
        clear hl
        simp only [fillAt, List.foldl_cons, List.foldl_nil, Act.put, List.setIfInBounds_toArray, List.set_cons_zero, List.set_cons_succ, ln0, ln1, ln2, ln3, ln4]
        have kw8_0 := hw8.more (k := w.heap.size) (by first | assumption | (simp; done) | (simp; omega) | omega)
        obtain ⟨cw8_0, fw8_0⟩ := hw8.row (k := w.heap.size) (by first | assumption | (simp; done) | (simp; omega) | omega)
        have kw8_1 := hw8.more (k := w.heap.size + 1) (by first | assumption | (simp; done) | (simp; omega) | omega)
        obtain ⟨cw8_1, fw8_1⟩ := hw8.row (k := w.heap.size + 1) (by first | assumption | (simp; done) | (simp; omega) | omega)
        have kw8_2 := hw8.more (k := w4.heap.size) (by first | assumption | (simp; done) | (simp; omega) | omega)
        obtain ⟨cw8_2, fw8_2⟩ := hw8.row (k := w4.heap.size) (by first | assumption | (simp; done) | (simp; omega) | omega)
        have kw8_3 := hw8.more (k := w5.heap.size) (by first | assumption | (simp; done) | (simp; omega) | omega)
        obtain ⟨cw8_3, fw8_3⟩ := hw8.row (k := w5.heap.size) (by first | assumption | (simp; done) | (simp; omega) | omega)
        go_wp2
        go_ret
        exact ⟨rfl, (by repeat (first | with_reducible exact Ext.refl _ | with_reducible assumption | with_reducible refine Ext.alloc ?_ _ | with_reducible refine Ext.drew ?_ | with_reducible refine Ext.drewN ?_ _ | ((with_reducible refine Ext.set ?_ ?_ _); (focus (first | (simp; done) | (simp; omega)))) | with_reducible refine Ext.trans ?_ (by assumption)))⟩
set_option maxHeartbeats 1000000 in
theorem equalReceivers_no1 (st nx fi hg co st2 nx2 fi2 hg2 co2 : Int) (ao bo : Option Addr) (n m ca cb : Nat) (xs : List Ck) (w : World) (hx : ReadC w ao xs) (hn : xs.length = n) (g0 : (n : Int) ≤ 9223372036854775807) (hzx : ∀ c ∈ xs, (c.2.size : Int) ≤ 9223372036854775807) (h1 : 1048576 < (n : Int) + (tot xs : Int)) :
    Calls Try.prog 4 #[.agg #[.int .i64 st, .int .i64 nx, .slice ao n ca, .int .i64 fi, .int .i64 hg, .int .i64 co], .agg #[.int .i64 st2, .int .i64 nx2, .slice bo m cb, .int .i64 fi2, .int .i64 hg2, .int .i64 co2]] w fun en w' => en = .returned (.bool true) ∧ Ext w w' := by
  have hn' := hide hn
  have hx' := hide hx
  have hzx' := hide hzx
  clear hn hx hzx
  have s1 : (if (1048576 : Int) < (n : Int) + (tot xs : Int) then (-1 : Int) else (1048576 : Int) - n - (tot xs : Int)) = -1 := if_pos (by omega)
  go_enter Try.func4, Try.ntmps4
  go_wp2_with fail
  refine (szReceiver_any st nx fi hg co ao n ca xs _ _ ?_ hn'.out g0 (by omega) (by omega) hzx'.out).mono ?_
  · exact hx'.out.ext (by repeat (first | with_reducible exact Ext.refl _ | with_reducible assumption | with_reducible refine Ext.alloc ?_ _ | with_reducible refine Ext.drew ?_ | with_reducible refine Ext.drewN ?_ _ | ((with_reducible refine Ext.set ?_ ?_ _); (focus (first | (simp; done) | (simp; omega)))) | with_reducible refine Ext.trans ?_ (by assumption)))
  rintro en w1 ⟨rfl, hw1⟩
  have xw1 : Ext w w1 := (by repeat (first | with_reducible exact Ext.refl _ | with_reducible assumption | with_reducible refine Ext.alloc ?_ _ | with_reducible refine Ext.drew ?_ | with_reducible refine Ext.drewN ?_ _ | ((with_reducible refine Ext.set ?_ ?_ _); (focus (first | (simp; done) | (simp; omega)))) | with_reducible refine Ext.trans ?_ (by assumption)))
  have kw1_0 := hw1.more (k := w.heap.size) (by first | assumption | (simp; done) | (simp; omega) | omega)
  obtain ⟨cw1_0, fw1_0⟩ := hw1.row (k := w.heap.size) (by first | assumption | (simp; done) | (simp; omega) | omega)
  have kw1_1 := hw1.more (k := w.heap.size + 1) (by first | assumption | (simp; done) | (simp; omega) | omega)
  obtain ⟨cw1_1, fw1_1⟩ := hw1.row (k := w.heap.size + 1) (by first | assumption | (simp; done) | (simp; omega) | omega)
  rw [s1]
  go_wp2
  go_ret
  exact ⟨rfl, (by repeat (first | with_reducible exact Ext.refl _ | with_reducible assumption | with_reducible refine Ext.alloc ?_ _ | with_reducible refine Ext.drew ?_ | with_reducible refine Ext.drewN ?_ _ | ((with_reducible refine Ext.set ?_ ?_ _); (focus (first | (simp; done) | (simp; omega)))) | with_reducible refine Ext.trans ?_ (by assumption)))⟩
set_option maxHeartbeats 1000000 in
theorem equalReceivers_no2 (st nx fi hg co st2 nx2 fi2 hg2 co2 : Int) (ao bo : Option Addr) (n m ca cb : Nat) (xs ys : List Ck) (w : World) (hx : ReadC w ao xs) (hy : ReadC w bo ys) (hn : xs.length = n) (hm : ys.length = m) (g0 : (n : Int) ≤ 9223372036854775807) (g1 : (m : Int) ≤ 9223372036854775807) (hzx : ∀ c ∈ xs, (c.2.size : Int) ≤ 9223372036854775807) (hzy : ∀ c ∈ ys, (c.2.size : Int) ≤ 9223372036854775807) (h1 : (n : Int) + (tot xs : Int) ≤ 1048576) (h2 : 1048576 < (n : Int) + (tot xs : Int) + (m : Int) + (tot ys : Int)) :
    Calls Try.prog 4 #[.agg #[.int .i64 st, .int .i64 nx, .slice ao n ca, .int .i64 fi, .int .i64 hg, .int .i64 co], .agg #[.int .i64 st2, .int .i64 nx2, .slice bo m cb, .int .i64 fi2, .int .i64 hg2, .int .i64 co2]] w fun en w' => en = .returned (.bool true) ∧ Ext w w' := by
  have hn' := hide hn
  have hm' := hide hm
  have hx' := hide hx
  have hy' := hide hy
  have hzx' := hide hzx
  have hzy' := hide hzy
  clear hn hm hx hy hzx hzy
  have s1 : (if (1048576 : Int) < (n : Int) + (tot xs : Int) then (-1 : Int) else (1048576 : Int) - n - (tot xs : Int)) = (1048576 : Int) - n - (tot xs : Int) := if_neg (by omega)
  have s2 : (if (1048576 : Int) - n - (tot xs : Int) < (m : Int) + (tot ys : Int) then (-1 : Int) else (1048576 : Int) - n - (tot xs : Int) - m - (tot ys : Int)) = -1 := if_pos (by omega)
  have s3 : decide ((1048576 : Int) - n - (tot xs : Int) < 0) = false := by simp; omega
  go_enter Try.func4, Try.ntmps4
  go_wp2_with fail
  refine (szReceiver_any st nx fi hg co ao n ca xs _ _ ?_ hn'.out g0 (by omega) (by omega) hzx'.out).mono ?_
  · exact hx'.out.ext (by repeat (first | with_reducible exact Ext.refl _ | with_reducible assumption | with_reducible refine Ext.alloc ?_ _ | with_reducible refine Ext.drew ?_ | with_reducible refine Ext.drewN ?_ _ | ((with_reducible refine Ext.set ?_ ?_ _); (focus (first | (simp; done) | (simp; omega)))) | with_reducible refine Ext.trans ?_ (by assumption)))
  rintro en w1 ⟨rfl, hw1⟩
  have xw1 : Ext w w1 := (by repeat (first | with_reducible exact Ext.refl _ | with_reducible assumption | with_reducible refine Ext.alloc ?_ _ | with_reducible refine Ext.drew ?_ | with_reducible refine Ext.drewN ?_ _ | ((with_reducible refine Ext.set ?_ ?_ _); (focus (first | (simp; done) | (simp; omega)))) | with_reducible refine Ext.trans ?_ (by assumption)))
  have kw1_0 := hw1.more (k := w.heap.size) (by first | assumption | (simp; done) | (simp; omega) | omega)
  obtain ⟨cw1_0, fw1_0⟩ := hw1.row (k := w.heap.size) (by first | assumption | (simp; done) | (simp; omega) | omega)
  have kw1_1 := hw1.more (k := w.heap.size + 1) (by first | assumption | (simp; done) | (simp; omega) | omega)
  obtain ⟨cw1_1, fw1_1⟩ := hw1.row (k := w.heap.size + 1) (by first | assumption | (simp; done) | (simp; omega) | omega)
  rw [s1]
  go_wp2_with fail
  refine (szReceiver_any st2 nx2 fi2 hg2 co2 bo m cb ys _ _ ?_ hm'.out g1 (by omega) (by omega) hzy'.out).mono ?_
  · exact hy'.out.ext (by repeat (first | with_reducible exact Ext.refl _ | with_reducible assumption | with_reducible refine Ext.alloc ?_ _ | with_reducible refine Ext.drew ?_ | with_reducible refine Ext.drewN ?_ _ | ((with_reducible refine Ext.set ?_ ?_ _); (focus (first | (simp; done) | (simp; omega)))) | with_reducible refine Ext.trans ?_ (by assumption)))
  rintro en w2 ⟨rfl, hw2⟩
  have xw2 : Ext w w2 := (by repeat (first | with_reducible exact Ext.refl _ | with_reducible assumption | with_reducible refine Ext.alloc ?_ _ | with_reducible refine Ext.drew ?_ | with_reducible refine Ext.drewN ?_ _ | ((with_reducible refine Ext.set ?_ ?_ _); (focus (first | (simp; done) | (simp; omega)))) | with_reducible refine Ext.trans ?_ (by assumption)))
  have kw2_0 := hw2.more (k := w.heap.size) (by first | assumption | (simp; done) | (simp; omega) | omega)
  obtain ⟨cw2_0, fw2_0⟩ := hw2.row (k := w.heap.size) (by first | assumption | (simp; done) | (simp; omega) | omega)
  have kw2_1 := hw2.more (k := w.heap.size + 1) (by first | assumption | (simp; done) | (simp; omega) | omega)
  obtain ⟨cw2_1, fw2_1⟩ := hw2.row (k := w.heap.size + 1) (by first | assumption | (simp; done) | (simp; omega) | omega)
  rw [s2]
  go_wp2
  go_ret
  exact ⟨rfl, (by repeat (first | with_reducible exact Ext.refl _ | with_reducible assumption | with_reducible refine Ext.alloc ?_ _ | with_reducible refine Ext.drew ?_ | with_reducible refine Ext.drewN ?_ _ | ((with_reducible refine Ext.set ?_ ?_ _); (focus (first | (simp; done) | (simp; omega)))) | with_reducible refine Ext.trans ?_ (by assumption)))⟩
theorem equalReceivers_walk (st nx fi hg co st2 nx2 fi2 hg2 co2 : Int) (ao bo : Option Addr) (n m ca cb : Nat) (xs ys : List Ck) (w : World) (hx : ReadC w ao xs) (hy : ReadC w bo ys) (hn : xs.length = n) (hm : ys.length = m) (g0 : (n : Int) ≤ 9223372036854775807) (g1 : (m : Int) ≤ 9223372036854775807) (hzx : ∀ c ∈ xs, (c.2.size : Int) ≤ 9223372036854775807) (hzy : ∀ c ∈ ys, (c.2.size : Int) ≤ 9223372036854775807) :
    Calls Try.prog 4 #[.agg #[.int .i64 st, .int .i64 nx, .slice ao n ca, .int .i64 fi, .int .i64 hg, .int .i64 co], .agg #[.int .i64 st2, .int .i64 nx2, .slice bo m cb, .int .i64 fi2, .int .i64 hg2, .int .i64 co2]] w fun en w' => en = .returned (.bool true) ∧ Ext w w' := by
  by_cases h1 : 1048576 < (n : Int) + (tot xs : Int)
  · exact equalReceivers_no1 st nx fi hg co st2 nx2 fi2 hg2 co2 ao bo n m ca cb xs w hx hn g0 hzx h1
  · by_cases h2 : 1048576 < (n : Int) + (tot xs : Int) + (m : Int) + (tot ys : Int)
    · exact equalReceivers_no2 st nx fi hg co st2 nx2 fi2 hg2 co2 ao bo n m ca cb xs ys w hx hy hn hm g0 g1 hzx hzy (by omega) h2
    · exact equalReceivers_yes st nx fi hg co st2 nx2 fi2 hg2 co2 ao bo n m ca cb xs ys w hx hy hn hm g0 g1 hzx hzy (by omega)
/-! ### the row of FnExactEqualReceivers -/
theorem equalReceivers_reads : ∀ t ∈ Try.f4.params.toList, Try.prog.readableRec t = true ∧ t < Try.prog.types.size := by
  rw [Try.params4]
  intro t ht
  simp only [List.mem_cons, List.not_mem_nil, or_false] at ht
  rcases ht with rfl | rfl
  all_goals exact ⟨by kernel_rfl, of_decide_eq_true (by kernel_rfl)⟩
set_option maxRecDepth 100000 in
theorem equalReceivers_lifted (os : Os) (started : os.Started) (H : Type) (enc : TypeId × Value → H) :
    ReturnsInHanded {} Try.checked os 4 .any (Rows.fnExactEqualReceiversSpec.pre6 enc Try.prog Try.f4 Rows.fnExactEqualReceiversRow.domain false) (Rows.fnExactEqualReceiversSpec.post enc Try.prog Try.f4 false true false false) := by
  refine returnsInHanded_of_change (C := Try.checked) ownKnobNone started (by kernel_rfl) Try.func4
    (ChangeSpec.witness6 (enc := enc) (C := Try.checked) false ⟨#[], #[.agg #[.int .i64 0, .int .i64 0, .slice none 0 0, .int .i64 0, .int .i64 0, .int .i64 0], .agg #[.int .i64 0, .int .i64 0, .slice none 0 0, .int .i64 0, .int .i64 0, .int .i64 0]], []⟩ 8 (by kernel_rfl) (by kernel_rfl) (by kernel_rfl) (by kernel_rfl)) ?_
  intro W base args ds gs before hval0 hW hcnd _
  have hval : ∀ (j : Nat) t v, Try.f4.params[j]? = some t → args[j]? = some v → Value.okWide Try.prog W .any base t v := hval0
  have hW' := hW
  obtain ⟨p, q, hA0, hV, rfl, hfz, hnd⟩ := hW
  have hA : DataW.TrodAll enc Try.prog W 0 (fun _ => true) true Try.f4.params.toList args.toList ds p := hA0
  rw [Try.params4] at hA hval
  obtain ⟨v0, vs0, d0, ds0, p0, q0, hargs, rfl, rfl, h0, r0⟩ := trodAll_cons hA
  obtain ⟨v1, vs1, d1, ds1, p1, q1, rfl, rfl, rfl, h1, r1⟩ := trodAll_cons r0
  obtain ⟨rfl, rfl, rfl⟩ := trodAll_nil r1
  obtain rfl : args = #[v0, v1] := by cases args; simp_all
  obtain ⟨st, nx, fi, hg, co, ao, n, ca, xs, rfl, hn, hnb, hx, hwx, q1, q2, q3, q4, q5⟩ := open_receiver Try.underlying35 (by kernel_rfl) (by kernel_rfl) Try.underlying3 (by kernel_rfl) Try.underlying33 (by kernel_rfl) (by kernel_rfl) Try.underlying31 (by kernel_rfl) Try.underlying123 (by kernel_rfl) (by kernel_rfl) Try.underlying9 (by kernel_rfl) (hval 0 35 v0 rfl rfl) h0
  obtain ⟨st2, nx2, fi2, hg2, co2, bo, m, cb, ys, rfl, hm, hmb, hy, hwy, p1_, p2_, p3_, p4_, p5_⟩ := open_receiver Try.underlying35 (by kernel_rfl) (by kernel_rfl) Try.underlying3 (by kernel_rfl) Try.underlying33 (by kernel_rfl) (by kernel_rfl) Try.underlying31 (by kernel_rfl) Try.underlying123 (by kernel_rfl) (by kernel_rfl) Try.underlying9 (by kernel_rfl) (hval 1 35 v1 rfl rfl) h1
  refine (equalReceivers_walk st nx fi hg co st2 nx2 fi2 hg2 co2 ao bo n m ca cb xs ys W hx hy hn hm hnb hmb (fun c hc => (hwx c hc).1) (fun c hc => (hwy c hc).1)).mono fun e W' ⟨he, hg⟩ => ?_
  subst he
  exact ⟨_, rfl, law_post laidOut equalReceivers_reads rfl rfl Try.underlying4 hW' (fun gs h => by subst h; rfl) hg⟩
theorem equalReceivers_over : Rows.fnExactEqualReceiversRow.holds Try.pinned (OpenSpec.ofChange Rows.fnExactEqualReceiversSpec) :=
  OpenClaim.holds_of_wide 4 Try.f4 rfl rfl rfl rfl rfl rfl rfl ⟨rfl, rfl, rfl, rfl, rfl⟩ rfl rfl rfl rfl rfl (by kernel_rfl) Try.func4 (by kernel_rfl)
    (of_decide_eq_true (by kernel_rfl)) (by unfold Func.isWrapper; first | (rw [if_pos (by decide +kernel)]; kernel_rfl) | (rw [if_neg (by decide +kernel)]; exact ⟨rfl, rfl⟩))
    (fun os started H enc _ => equalReceivers_lifted os started H enc)
/-- The statement. -/
theorem equalReceivers_holds : Rows.FnExactEqualReceiversSaid := equalReceivers_over
#print axioms equalReceivers_holds
end Go.Proofs.Ytifhbchlmlaanaa

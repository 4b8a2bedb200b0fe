/-
  The law FnExactWriteRing holds of every argument. No condition.
-/
import Derived.Test.YteebkiochnhnhaaRingIn
import Derived.Test.YteebkiochnhnhaaLawKit
import Derived.Test.YteebkiochnhnhaaRingLine
import Derived.Test.YteebkiochnhnhaaRing2
import Derived.Test.YteebkiochnhnhaaWrite
namespace Go.Proofs.Yteebkiochnhnhaa
open Go.ChangeShapes Go.WideShapes Go.ChangeAt Go.RowKit
set_option linter.unusedSimpArgs false
set_option maxHeartbeats 4000000 in
theorem writeRing_yes (z b e : Int) (s : ByteArray) (ao : Option Addr) (n ca : Nat) (xs : List Int) (w : World) (hx : ReadS w ao xs) (hn : xs.length = n) (h1 : n ≤ 1048576) (b2 e2 : Int) (ys : List Int) (m : Nat) (hs : s.size ≤ 1048576) (hyl : ys.length = xs.length)
    (Hs : ∀ (ao : Option Addr) (ca : Nat) (w : World) (_ : ReadS w ao xs), Calls Try.prog 28 #[.agg #[.int .i64 z, .int .i64 b, .int .i64 e, .slice ao xs.length ca], .string s] w (RingRes z b2 e2 ys (.int .i64 (m : Int)) w))
    (Hi : ∀ (ao : Option Addr) (ca : Nat) (w : World) (_ : ReadS w ao xs), Calls Try.prog 29 #[.agg #[.int .i64 z, .int .i64 b, .int .i64 e, .slice ao xs.length ca], .string s] w (RingRes z b2 e2 ys (.int .i64 (m : Int)) w)) :
    Calls Try.prog 9 #[.agg #[.int .i64 z, .int .i64 b, .int .i64 e, .slice ao n ca], .string s] w fun en w' => en = .returned (.bool true) ∧ Ext w w' := by
  have hn' := hide hn
  have hx' := hide hx
  clear hn hx
  have s1 : (if (1048576 : Int) < (n : Int) then (-1 : Int) else 1048576 - n) = 1048576 - n := if_neg (by omega)
  have s3 : decide ((1048576 : Int) - n < 0) = false := by simp; omega
  have hyn : ys.length ≤ 1048576 := by rw [hyl, hn'.out]; exact h1
  have hxn : xs.length ≤ 1048576 := by rw [hn'.out]; exact h1
  clear hyl
  have hneg1 : decide (1 + (xs.length : Int) < 0) = false := by simp; omega
  have hneg2 : decide (1 + (ys.length : Int) < 0) = false := by simp; omega
  have s0 : decide ((1048576 : Int) < (s.size : Int)) = false := by simp; omega
  go_enter Try.func9, Try.ntmps9
  go_wp2_with fail
  refine (szRing_any _ _ _ _ _ _ _ _ (by omega) (by omega) (by omega)).mono ?_
  rintro en w1 ⟨rfl, hw1⟩
  have zw1 : w.heap.size + 1 ≤ w1.heap.size := by have := hw1.size; (try simp at this); omega
  have kw1_0 := hw1.more (k := w.heap.size) (by first | assumption | (simp; done) | (simp; omega) | omega)
  obtain ⟨cw1_0, fw1_0⟩ := hw1.row (k := w.heap.size) (by first | assumption | (simp; done) | (simp; omega) | omega)
  have xw1 : Ext w w1 := (by repeat (first | with_reducible exact Ext.refl _ | with_reducible assumption | with_reducible refine Ext.alloc ?_ _ | with_reducible refine Ext.drew ?_ | ((with_reducible refine Ext.set ?_ ?_ _); (focus (first | (simp; done) | (simp; omega) | omega))) | with_reducible refine Ext.trans ?_ hw1))
  rw [s1]
  go_wp2_with fail
  refine (toRing_any z b e ao n ca xs _ ?_ hn'.out (by omega)).mono ?_
  · exact hx'.out.ext xw1
  rintro en w2 ⟨aoT, capT, rfl, ownT, hw2⟩
  have zw2 : w1.heap.size ≤ w2.heap.size := by have := hw2.size; (try simp at this); omega
  have kw2_0 := hw2.more (k := w.heap.size) (by first | assumption | (simp; done) | (simp; omega) | omega)
  obtain ⟨cw2_0, fw2_0⟩ := hw2.row (k := w.heap.size) (by first | assumption | (simp; done) | (simp; omega) | omega)
  have xw2 : Ext w w2 := (by repeat (first | with_reducible exact Ext.refl _ | with_reducible assumption | with_reducible refine Ext.alloc ?_ _ | with_reducible refine Ext.drew ?_ | ((with_reducible refine Ext.set ?_ ?_ _); (focus (first | (simp; done) | (simp; omega) | omega))) | with_reducible exact xw1 | with_reducible refine Ext.trans ?_ hw2))
  have oT_w2 := hide (OwnS.mono (lo' := w1.heap.size) (hi' := w2.heap.size) ownT (by first | (simp; done) | (simp; omega) | omega) (Nat.le_refl _))
  clear ownT
  go_wp2_with fail
  refine (Hs _ _ _ (oT_w2.out.read.ext (by repeat (first | with_reducible exact Ext.refl _ | with_reducible assumption | with_reducible refine Ext.alloc ?_ _ | with_reducible refine Ext.drew ?_ | ((with_reducible refine Ext.set ?_ ?_ _); (focus (first | (simp; done) | (simp; omega) | omega))) | with_reducible refine Ext.trans ?_ hw2)))).mono ?_
  rintro en w3 ⟨aoW, capW, rfl, ownW, hw3⟩
  have zw3 : w2.heap.size ≤ w3.heap.size := by have := hw3.size; (try simp at this); omega
  have kw3_0 := hw3.more (k := w.heap.size) (by first | assumption | (simp; done) | (simp; omega) | omega)
  obtain ⟨cw3_0, fw3_0⟩ := hw3.row (k := w.heap.size) (by first | assumption | (simp; done) | (simp; omega) | omega)
  have oT_w3 : Hid (OwnS w1.heap.size w2.heap.size w3 aoT xs) := hide (OwnS.chg (S := fun _ => False) oT_w2.out (by repeat (first | with_reducible exact Chg.refl _ _ | with_reducible assumption | with_reducible refine Chg.alloc ?_ _ | with_reducible refine Chg.drew ?_ | ((with_reducible refine Chg.set ?_ ?_ _); (focus (first | (right; simp; done) | (right; simp; omega) | (right; omega)))) | with_reducible refine Chg.trans ?_ (Ext.chg hw3 _))) (fun _ _ _ h => h))
  have xw3 : Ext w w3 := (by repeat (first | with_reducible exact Ext.refl _ | with_reducible assumption | with_reducible refine Ext.alloc ?_ _ | with_reducible refine Ext.drew ?_ | ((with_reducible refine Ext.set ?_ ?_ _); (focus (first | (simp; done) | (simp; omega) | omega))) | with_reducible exact xw2 | with_reducible refine Ext.trans ?_ hw3))
  have oW_w3 := hide (OwnS.mono (lo' := w2.heap.size) (hi' := w3.heap.size) ownW (by first | (simp; done) | (simp; omega) | omega) (Nat.le_refl _))
  clear ownW
  go_wp2_with fail
  refine (toRing_any z b e ao n ca xs _ ?_ hn'.out (by omega)).mono ?_
  · exact hx'.out.ext (Ext.trans xw3 (by repeat (first | with_reducible exact Ext.refl _ | with_reducible assumption | with_reducible refine Ext.alloc ?_ _ | with_reducible refine Ext.drew ?_ | ((with_reducible refine Ext.set ?_ ?_ _); (focus (first | (simp; done) | (simp; omega) | omega))) | with_reducible refine Ext.trans ?_ hw3)))
  rintro en w4 ⟨aoX, capX, rfl, ownX, hw4⟩
  have zw4 : w3.heap.size + 1 ≤ w4.heap.size := by have := hw4.size; (try simp at this); omega
  have kw4_0 := hw4.more (k := w.heap.size) (by first | assumption | (simp; done) | (simp; omega) | omega)
  obtain ⟨cw4_0, fw4_0⟩ := hw4.row (k := w.heap.size) (by first | assumption | (simp; done) | (simp; omega) | omega)
  have kw4_1 := hw4.more (k := w3.heap.size) (by first | assumption | (simp; done) | (simp; omega) | omega)
  obtain ⟨cw4_1, fw4_1⟩ := hw4.row (k := w3.heap.size) (by first | assumption | (simp; done) | (simp; omega) | omega)
  have oT_w4 : Hid (OwnS w1.heap.size w2.heap.size w4 aoT xs) := hide (OwnS.chg (S := fun _ => False) oT_w3.out (by repeat (first | with_reducible exact Chg.refl _ _ | with_reducible assumption | with_reducible refine Chg.alloc ?_ _ | with_reducible refine Chg.drew ?_ | ((with_reducible refine Chg.set ?_ ?_ _); (focus (first | (right; simp; done) | (right; simp; omega) | (right; omega)))) | with_reducible refine Chg.trans ?_ (Ext.chg hw4 _))) (fun _ _ _ h => h))
  have oW_w4 : Hid (OwnS w2.heap.size w3.heap.size w4 aoW ys) := hide (OwnS.chg (S := fun _ => False) oW_w3.out (by repeat (first | with_reducible exact Chg.refl _ _ | with_reducible assumption | with_reducible refine Chg.alloc ?_ _ | with_reducible refine Chg.drew ?_ | ((with_reducible refine Chg.set ?_ ?_ _); (focus (first | (right; simp; done) | (right; simp; omega) | (right; omega)))) | with_reducible refine Chg.trans ?_ (Ext.chg hw4 _))) (fun _ _ _ h => h))
  have xw4 : Ext w w4 := (by repeat (first | with_reducible exact Ext.refl _ | with_reducible assumption | with_reducible refine Ext.alloc ?_ _ | with_reducible refine Ext.drew ?_ | ((with_reducible refine Ext.set ?_ ?_ _); (focus (first | (simp; done) | (simp; omega) | omega))) | with_reducible exact xw3 | with_reducible refine Ext.trans ?_ hw4))
  have oX_w4 := hide (OwnS.mono (lo' := w3.heap.size + 1) (hi' := w4.heap.size) ownX (by first | (simp; done) | (simp; omega) | omega) (Nat.le_refl _))
  clear ownX
  go_wp2_with fail
  refine (Hi _ _ _ (oX_w4.out.read.ext (by repeat (first | with_reducible exact Ext.refl _ | with_reducible assumption | with_reducible refine Ext.alloc ?_ _ | with_reducible refine Ext.drew ?_ | ((with_reducible refine Ext.set ?_ ?_ _); (focus (first | (simp; done) | (simp; omega) | omega))) | with_reducible refine Ext.trans ?_ hw4)))).mono ?_
  rintro en w5 ⟨aoG, capG, rfl, ownG, hw5⟩
  have zw5 : w4.heap.size + 1 ≤ w5.heap.size := by have := hw5.size; (try simp at this); omega
  have kw5_0 := hw5.more (k := w.heap.size) (by first | assumption | (simp; done) | (simp; omega) | omega)
  obtain ⟨cw5_0, fw5_0⟩ := hw5.row (k := w.heap.size) (by first | assumption | (simp; done) | (simp; omega) | omega)
  have kw5_1 := hw5.more (k := w3.heap.size) (by first | assumption | (simp; done) | (simp; omega) | omega)
  obtain ⟨cw5_1, fw5_1⟩ := hw5.row (k := w3.heap.size) (by first | assumption | (simp; done) | (simp; omega) | omega)
  have kw5_2 := hw5.more (k := w4.heap.size) (by first | assumption | (simp; done) | (simp; omega) | omega)
  obtain ⟨cw5_2, fw5_2⟩ := hw5.row (k := w4.heap.size) (by first | assumption | (simp; done) | (simp; omega) | omega)
  have oT_w5 : Hid (OwnS w1.heap.size w2.heap.size w5 aoT xs) := hide (OwnS.chg (S := fun _ => False) oT_w4.out (by repeat (first | with_reducible exact Chg.refl _ _ | with_reducible assumption | with_reducible refine Chg.alloc ?_ _ | with_reducible refine Chg.drew ?_ | ((with_reducible refine Chg.set ?_ ?_ _); (focus (first | (right; simp; done) | (right; simp; omega) | (right; omega)))) | with_reducible refine Chg.trans ?_ (Ext.chg hw5 _))) (fun _ _ _ h => h))
  have oW_w5 : Hid (OwnS w2.heap.size w3.heap.size w5 aoW ys) := hide (OwnS.chg (S := fun _ => False) oW_w4.out (by repeat (first | with_reducible exact Chg.refl _ _ | with_reducible assumption | with_reducible refine Chg.alloc ?_ _ | with_reducible refine Chg.drew ?_ | ((with_reducible refine Chg.set ?_ ?_ _); (focus (first | (right; simp; done) | (right; simp; omega) | (right; omega)))) | with_reducible refine Chg.trans ?_ (Ext.chg hw5 _))) (fun _ _ _ h => h))
  have oX_w5 : Hid (OwnS (w3.heap.size + 1) w4.heap.size w5 aoX xs) := hide (OwnS.chg (S := fun _ => False) oX_w4.out (by repeat (first | with_reducible exact Chg.refl _ _ | with_reducible assumption | with_reducible refine Chg.alloc ?_ _ | with_reducible refine Chg.drew ?_ | ((with_reducible refine Chg.set ?_ ?_ _); (focus (first | (right; simp; done) | (right; simp; omega) | (right; omega)))) | with_reducible refine Chg.trans ?_ (Ext.chg hw5 _))) (fun _ _ _ h => h))
  have xw5 : Ext w w5 := (by repeat (first | with_reducible exact Ext.refl _ | with_reducible assumption | with_reducible refine Ext.alloc ?_ _ | with_reducible refine Ext.drew ?_ | ((with_reducible refine Ext.set ?_ ?_ _); (focus (first | (simp; done) | (simp; omega) | omega))) | with_reducible exact xw4 | with_reducible refine Ext.trans ?_ hw5))
  have oG_w5 := hide (OwnS.mono (lo' := w4.heap.size + 1) (hi' := w5.heap.size) ownG (by first | (simp; done) | (simp; omega) | omega) (Nat.le_refl _))
  clear ownG
  go_wp2_with fail
  refine (eqRing_any z b2 e2 aoG aoW ys.length ys.length capG capW ys ys _ (oG_w5.out.read.ext (by repeat (first | with_reducible exact Ext.refl _ | with_reducible assumption | with_reducible refine Ext.alloc ?_ _ | with_reducible refine Ext.drew ?_ | ((with_reducible refine Ext.set ?_ ?_ _); (focus (first | (simp; done) | (simp; omega) | omega))) | with_reducible refine Ext.trans ?_ hw5))) (oW_w5.out.read.ext (by repeat (first | with_reducible exact Ext.refl _ | with_reducible assumption | with_reducible refine Ext.alloc ?_ _ | with_reducible refine Ext.drew ?_ | ((with_reducible refine Ext.set ?_ ?_ _); (focus (first | (simp; done) | (simp; omega) | omega))) | with_reducible refine Ext.trans ?_ hw5))) rfl rfl (by omega)).mono ?_
  rintro en w6 ⟨rfl, hw6⟩
  have zw6 : w5.heap.size + 1 ≤ w6.heap.size := by have := hw6.size; (try simp at this); omega
  have kw6_0 := hw6.more (k := w.heap.size) (by first | assumption | (simp; done) | (simp; omega) | omega)
  obtain ⟨cw6_0, fw6_0⟩ := hw6.row (k := w.heap.size) (by first | assumption | (simp; done) | (simp; omega) | omega)
  have kw6_1 := hw6.more (k := w3.heap.size) (by first | assumption | (simp; done) | (simp; omega) | omega)
  obtain ⟨cw6_1, fw6_1⟩ := hw6.row (k := w3.heap.size) (by first | assumption | (simp; done) | (simp; omega) | omega)
  have kw6_2 := hw6.more (k := w4.heap.size) (by first | assumption | (simp; done) | (simp; omega) | omega)
  obtain ⟨cw6_2, fw6_2⟩ := hw6.row (k := w4.heap.size) (by first | assumption | (simp; done) | (simp; omega) | omega)
  have kw6_3 := hw6.more (k := w5.heap.size) (by first | assumption | (simp; done) | (simp; omega) | omega)
  obtain ⟨cw6_3, fw6_3⟩ := hw6.row (k := w5.heap.size) (by first | assumption | (simp; done) | (simp; omega) | omega)
  have oT_w6 : Hid (OwnS w1.heap.size w2.heap.size w6 aoT xs) := hide (OwnS.chg (S := fun _ => False) oT_w5.out (by repeat (first | with_reducible exact Chg.refl _ _ | with_reducible assumption | with_reducible refine Chg.alloc ?_ _ | with_reducible refine Chg.drew ?_ | ((with_reducible refine Chg.set ?_ ?_ _); (focus (first | (right; simp; done) | (right; simp; omega) | (right; omega)))) | with_reducible refine Chg.trans ?_ (Ext.chg hw6 _))) (fun _ _ _ h => h))
  have oW_w6 : Hid (OwnS w2.heap.size w3.heap.size w6 aoW ys) := hide (OwnS.chg (S := fun _ => False) oW_w5.out (by repeat (first | with_reducible exact Chg.refl _ _ | with_reducible assumption | with_reducible refine Chg.alloc ?_ _ | with_reducible refine Chg.drew ?_ | ((with_reducible refine Chg.set ?_ ?_ _); (focus (first | (right; simp; done) | (right; simp; omega) | (right; omega)))) | with_reducible refine Chg.trans ?_ (Ext.chg hw6 _))) (fun _ _ _ h => h))
  have oX_w6 : Hid (OwnS (w3.heap.size + 1) w4.heap.size w6 aoX xs) := hide (OwnS.chg (S := fun _ => False) oX_w5.out (by repeat (first | with_reducible exact Chg.refl _ _ | with_reducible assumption | with_reducible refine Chg.alloc ?_ _ | with_reducible refine Chg.drew ?_ | ((with_reducible refine Chg.set ?_ ?_ _); (focus (first | (right; simp; done) | (right; simp; omega) | (right; omega)))) | with_reducible refine Chg.trans ?_ (Ext.chg hw6 _))) (fun _ _ _ h => h))
  have oG_w6 : Hid (OwnS (w4.heap.size + 1) w5.heap.size w6 aoG ys) := hide (OwnS.chg (S := fun _ => False) oG_w5.out (by repeat (first | with_reducible exact Chg.refl _ _ | with_reducible assumption | with_reducible refine Chg.alloc ?_ _ | with_reducible refine Chg.drew ?_ | ((with_reducible refine Chg.set ?_ ?_ _); (focus (first | (right; simp; done) | (right; simp; omega) | (right; omega)))) | with_reducible refine Chg.trans ?_ (Ext.chg hw6 _))) (fun _ _ _ h => h))
  have xw6 : Ext w w6 := (by repeat (first | with_reducible exact Ext.refl _ | with_reducible assumption | with_reducible refine Ext.alloc ?_ _ | with_reducible refine Ext.drew ?_ | ((with_reducible refine Ext.set ?_ ?_ _); (focus (first | (simp; done) | (simp; omega) | omega))) | with_reducible exact xw5 | with_reducible refine Ext.trans ?_ hw6))
  rw [decide_eq_true (rfl : ys = ys)]
  go_wp2_with fail
  refine wp_region_lines [Line.is (.agg #[.int .i64 z, .int .i64 b, .int .i64 e, .slice aoX xs.length capX]), Line.is (.agg #[.int .i64 z, .int .i64 b, .int .i64 e, .slice ao n ca]), ringL z b e xs, Line.is (.bool true), Line.is (.bool false)] [48, 49, 50, 51, 52] (by kernel_rfl) (by kernel_rfl) (by kernel_rfl) (by kernel_rfl) (by kernel_rfl) ?_ ?_
  · refine Each.cons ?_ (Each.cons ?_ (Each.cons ?_ (Each.cons ?_ (Each.cons ?_ (Each.nil)))))
    · intro g ws hws hl
      have hxs : Ext w ws := xw6.drew.trans hws
      simp only [fillAt, List.foldl_cons, List.foldl_nil, Act.put, List.setIfInBounds_toArray, List.set_cons_zero, List.set_cons_succ]
      obtain ⟨q0, p0⟩ := hws.row (k := w4.heap.size) (by first | assumption | (simp; done) | (simp; omega) | omega)
      obtain ⟨q1, p1⟩ := hws.row (k := w.heap.size) (by first | assumption | (simp; done) | (simp; omega) | omega)
      refine Stays.plain ?_ (by rfl) ?_ ?_
      rotate_left
      · go_simp
        try with_reducible rfl
      · exact rfl
    · intro g ws hws hl
      have hxs : Ext w ws := xw6.drew.trans hws
      simp only [fillAt, List.foldl_cons, List.foldl_nil, Act.put, List.setIfInBounds_toArray, List.set_cons_zero, List.set_cons_succ]
      obtain ⟨q0, p0⟩ := hws.row (k := w4.heap.size) (by first | assumption | (simp; done) | (simp; omega) | omega)
      obtain ⟨q1, p1⟩ := hws.row (k := w.heap.size) (by first | assumption | (simp; done) | (simp; omega) | omega)
      refine Stays.plain ?_ (by rfl) ?_ ?_
      rotate_left
      · go_simp
        try with_reducible rfl
      · exact rfl
    · intro g ws hws hl
      have hxs : Ext w ws := xw6.drew.trans hws
      have ln1 : g 49 = _ := (show (Line.is (.agg #[.int .i64 z, .int .i64 b, .int .i64 e, .slice ao n ca])).p (g 49) ws from linesOf_get 1 hl (by kernel_rfl))
      simp only [fillAt, List.foldl_cons, List.foldl_nil, Act.put, List.setIfInBounds_toArray, List.set_cons_zero, List.set_cons_succ, ln1]
      refine Stays.call 18 ?_ (by rfl) ?_ ?_
      rotate_left
      · go_simp
        try with_reducible rfl
      · refine (toRing_any z b e ao n ca xs _ ?_ hn'.out (by omega)).mono ?_
        · exact hx'.out.ext hxs
        · rintro en w3 ⟨ao3, cap3, rfl, ho3, hb3⟩
          exact ⟨_, rfl, hb3, ringL_mk ho3.read⟩
    · intro g ws hws hl
      have hxs : Ext w ws := xw6.drew.trans hws
      have ln0 : g 48 = _ := (show (Line.is (.agg #[.int .i64 z, .int .i64 b, .int .i64 e, .slice aoX xs.length capX])).p (g 48) ws from linesOf_get 0 hl (by kernel_rfl))
      obtain ⟨aoC, capC, ln2, hC⟩ := ringL_get (show (ringL z b e xs).p (g 50) ws from linesOf_get 2 hl (by kernel_rfl))
      simp only [fillAt, List.foldl_cons, List.foldl_nil, Act.put, List.setIfInBounds_toArray, List.set_cons_zero, List.set_cons_succ, ln0, ln2]
      refine Stays.call 13 ?_ (by rfl) ?_ ?_
      rotate_left
      · go_simp
        try with_reducible rfl
      · refine (eqRing_any z b e aoX aoC xs.length xs.length _ capC xs xs _ (oX_w6.out.read.ext (by repeat (first | with_reducible exact Ext.refl _ | with_reducible assumption | with_reducible refine Ext.alloc ?_ _ | with_reducible refine Ext.drew ?_ | ((with_reducible refine Ext.set ?_ ?_ _); (focus (first | (simp; done) | (simp; omega) | omega))) | with_reducible refine Ext.trans ?_ hws | with_reducible refine Ext.trans ?_ hw6))) hC rfl rfl (by rw [hn'.out]; omega)).mono ?_
        rintro en w9 ⟨rfl, hb9⟩
        exact ⟨_, rfl, hb9, (show _ = _ by simp)⟩
    · intro g ws hws hl
      have hxs : Ext w ws := xw6.drew.trans hws
      have ln3 : g 51 = _ := (show (Line.is (.bool true)).p (g 51) ws from linesOf_get 3 hl (by kernel_rfl))
      simp only [fillAt, List.foldl_cons, List.foldl_nil, Act.put, List.setIfInBounds_toArray, List.set_cons_zero, List.set_cons_succ, ln3]
      refine Stays.plain ?_ (by rfl) ?_ ?_
      rotate_left
      · go_simp
        try with_reducible rfl
      · exact rfl
  · intro g w7 hw7 hl
    have xw7 : Ext w w7 := xw6.drew.trans hw7
    have ln0 : g 48 = _ := (show (Line.is (.agg #[.int .i64 z, .int .i64 b, .int .i64 e, .slice aoX xs.length capX])).p (g 48) w7 from (allLines_get 48 0 0 hl rfl))
    have ln1 : g 49 = _ := (show (Line.is (.agg #[.int .i64 z, .int .i64 b, .int .i64 e, .slice ao n ca])).p (g 49) w7 from (allLines_get 49 1 0 hl rfl))
    obtain ⟨aoC, capC, ln2, hC⟩ := ringL_get (show (ringL z b e xs).p (g 50) w7 from (allLines_get 50 2 0 hl rfl))
    have ln3 : g 51 = _ := (show (Line.is (.bool true)).p (g 51) w7 from (allLines_get 51 3 0 hl rfl))
    have ln4 : g 52 = _ := (show (Line.is (.bool false)).p (g 52) w7 from (allLines_get 52 4 0 hl rfl))
    clear hl
    simp only [fillAt, List.foldl_cons, List.foldl_nil, Act.put, List.setIfInBounds_toArray, List.set_cons_zero, List.set_cons_succ, ln0, ln1, ln2, ln3, ln4]
    have zw7 : w6.heap.size ≤ w7.heap.size := by have := hw7.size; simpa using this
    have kw7_0 := hw7.more (k := w.heap.size) (by first | assumption | (simp; done) | (simp; omega) | omega)
    obtain ⟨cw7_0, fw7_0⟩ := hw7.row (k := w.heap.size) (by first | assumption | (simp; done) | (simp; omega) | omega)
    have kw7_1 := hw7.more (k := w3.heap.size) (by first | assumption | (simp; done) | (simp; omega) | omega)
    obtain ⟨cw7_1, fw7_1⟩ := hw7.row (k := w3.heap.size) (by first | assumption | (simp; done) | (simp; omega) | omega)
    have kw7_2 := hw7.more (k := w4.heap.size) (by first | assumption | (simp; done) | (simp; omega) | omega)
    obtain ⟨cw7_2, fw7_2⟩ := hw7.row (k := w4.heap.size) (by first | assumption | (simp; done) | (simp; omega) | omega)
    have kw7_3 := hw7.more (k := w5.heap.size) (by first | assumption | (simp; done) | (simp; omega) | omega)
    obtain ⟨cw7_3, fw7_3⟩ := hw7.row (k := w5.heap.size) (by first | assumption | (simp; done) | (simp; omega) | omega)
    have oT_w7 : Hid (OwnS w1.heap.size w2.heap.size w7 aoT xs) := hide (OwnS.chg (S := fun _ => False) oT_w6.out (by repeat (first | with_reducible exact Chg.refl _ _ | with_reducible assumption | with_reducible refine Chg.alloc ?_ _ | with_reducible refine Chg.drew ?_ | ((with_reducible refine Chg.set ?_ ?_ _); (focus (first | (right; simp; done) | (right; simp; omega) | (right; omega)))) | with_reducible refine Chg.trans ?_ (Ext.chg hw7 _))) (fun _ _ _ h => h))
    have oW_w7 : Hid (OwnS w2.heap.size w3.heap.size w7 aoW ys) := hide (OwnS.chg (S := fun _ => False) oW_w6.out (by repeat (first | with_reducible exact Chg.refl _ _ | with_reducible assumption | with_reducible refine Chg.alloc ?_ _ | with_reducible refine Chg.drew ?_ | ((with_reducible refine Chg.set ?_ ?_ _); (focus (first | (right; simp; done) | (right; simp; omega) | (right; omega)))) | with_reducible refine Chg.trans ?_ (Ext.chg hw7 _))) (fun _ _ _ h => h))
    have oX_w7 : Hid (OwnS (w3.heap.size + 1) w4.heap.size w7 aoX xs) := hide (OwnS.chg (S := fun _ => False) oX_w6.out (by repeat (first | with_reducible exact Chg.refl _ _ | with_reducible assumption | with_reducible refine Chg.alloc ?_ _ | with_reducible refine Chg.drew ?_ | ((with_reducible refine Chg.set ?_ ?_ _); (focus (first | (right; simp; done) | (right; simp; omega) | (right; omega)))) | with_reducible refine Chg.trans ?_ (Ext.chg hw7 _))) (fun _ _ _ h => h))
    have oG_w7 : Hid (OwnS (w4.heap.size + 1) w5.heap.size w7 aoG ys) := hide (OwnS.chg (S := fun _ => False) oG_w6.out (by repeat (first | with_reducible exact Chg.refl _ _ | with_reducible assumption | with_reducible refine Chg.alloc ?_ _ | with_reducible refine Chg.drew ?_ | ((with_reducible refine Chg.set ?_ ?_ _); (focus (first | (right; simp; done) | (right; simp; omega) | (right; omega)))) | with_reducible refine Chg.trans ?_ (Ext.chg hw7 _))) (fun _ _ _ h => h))
    go_wp2_with fail
    refine (markRing_any (w3.heap.size + 1) w4.heap.size z b e aoX xs.length capX xs 1 _ (OwnS.chg (S := fun _ => False) oX_w7.out (by repeat (first | with_reducible exact Chg.refl _ _ | with_reducible assumption | with_reducible refine Chg.alloc ?_ _ | with_reducible refine Chg.drew ?_ | ((with_reducible refine Chg.set ?_ ?_ _); (focus (first | (right; simp; done) | (right; simp; omega) | (right; omega)))))) (fun _ _ _ h => h)) rfl (by omega) (by omega) (by omega)).mono ?_
    rintro en w8 ⟨rfl, omX, hw8⟩
    have zw8 : w7.heap.size ≤ w8.heap.size := by have := hw8.size; (try simp at this); omega
    have kw8_0 := hw8.more (k := w.heap.size) (by first | assumption | (simp; done) | (simp; omega) | omega)
    obtain ⟨cw8_0, fw8_0⟩ := hw8.row (k := w.heap.size) (by first | assumption | (simp; done) | (simp; omega) | omega) (by omega)
    have kw8_1 := hw8.more (k := w3.heap.size) (by first | assumption | (simp; done) | (simp; omega) | omega)
    obtain ⟨cw8_1, fw8_1⟩ := hw8.row (k := w3.heap.size) (by first | assumption | (simp; done) | (simp; omega) | omega) (by omega)
    have kw8_2 := hw8.more (k := w4.heap.size) (by first | assumption | (simp; done) | (simp; omega) | omega)
    obtain ⟨cw8_2, fw8_2⟩ := hw8.row (k := w4.heap.size) (by first | assumption | (simp; done) | (simp; omega) | omega) (by omega)
    have kw8_3 := hw8.more (k := w5.heap.size) (by first | assumption | (simp; done) | (simp; omega) | omega)
    obtain ⟨cw8_3, fw8_3⟩ := hw8.row (k := w5.heap.size) (by first | assumption | (simp; done) | (simp; omega) | omega) (by omega)
    have oT_w8 : Hid (OwnS w1.heap.size w2.heap.size w8 aoT xs) := hide (OwnS.chg (S := fun k => w3.heap.size + 1 ≤ k ∧ k < w4.heap.size) oT_w7.out (by repeat (first | with_reducible exact Chg.refl _ _ | with_reducible assumption | with_reducible refine Chg.alloc ?_ _ | with_reducible refine Chg.drew ?_ | ((with_reducible refine Chg.set ?_ ?_ _); (focus (first | (right; simp; done) | (right; simp; omega) | (right; omega)))) | with_reducible refine Chg.trans ?_ hw8)) (fun b h1 h2 h3 => by omega))
    have oW_w8 : Hid (OwnS w2.heap.size w3.heap.size w8 aoW ys) := hide (OwnS.chg (S := fun k => w3.heap.size + 1 ≤ k ∧ k < w4.heap.size) oW_w7.out (by repeat (first | with_reducible exact Chg.refl _ _ | with_reducible assumption | with_reducible refine Chg.alloc ?_ _ | with_reducible refine Chg.drew ?_ | ((with_reducible refine Chg.set ?_ ?_ _); (focus (first | (right; simp; done) | (right; simp; omega) | (right; omega)))) | with_reducible refine Chg.trans ?_ hw8)) (fun b h1 h2 h3 => by omega))
    have oG_w8 : Hid (OwnS (w4.heap.size + 1) w5.heap.size w8 aoG ys) := hide (OwnS.chg (S := fun k => w3.heap.size + 1 ≤ k ∧ k < w4.heap.size) oG_w7.out (by repeat (first | with_reducible exact Chg.refl _ _ | with_reducible assumption | with_reducible refine Chg.alloc ?_ _ | with_reducible refine Chg.drew ?_ | ((with_reducible refine Chg.set ?_ ?_ _); (focus (first | (right; simp; done) | (right; simp; omega) | (right; omega)))) | with_reducible refine Chg.trans ?_ hw8)) (fun b h1 h2 h3 => by omega))
    have xw8 : Ext w w8 := (Chg.trans (Ext.chg (S := fun k => w3.heap.size + 1 ≤ k ∧ k < w4.heap.size) (a := w) (by repeat (first | with_reducible assumption | with_reducible refine Ext.alloc ?_ _ | with_reducible refine Ext.drew ?_ | ((with_reducible refine Ext.set ?_ ?_ _); (focus (first | (simp; done) | (simp; omega) | omega)))))) hw8).ext (fun k hk h => by omega)
    have oX_mw8 := hide omX
    clear omX
    go_wp2_with fail
    refine (eqRing_any z b2 e2 aoG aoW ys.length ys.length capG capW ys ys _ (oG_w8.out.read.ext (by repeat (first | with_reducible exact Ext.refl _ | with_reducible assumption | with_reducible refine Ext.alloc ?_ _ | with_reducible refine Ext.drew ?_ | ((with_reducible refine Ext.set ?_ ?_ _); (focus (first | (simp; done) | (simp; omega) | omega))) | with_reducible refine Ext.trans ?_ hw7))) (oW_w8.out.read.ext (by repeat (first | with_reducible exact Ext.refl _ | with_reducible assumption | with_reducible refine Ext.alloc ?_ _ | with_reducible refine Ext.drew ?_ | ((with_reducible refine Ext.set ?_ ?_ _); (focus (first | (simp; done) | (simp; omega) | omega))) | with_reducible refine Ext.trans ?_ hw7))) rfl rfl (by omega)).mono ?_
    rintro en w9 ⟨rfl, hw9⟩
    have zw9 : w8.heap.size ≤ w9.heap.size := by have := hw9.size; (try simp at this); omega
    have kw9_0 := hw9.more (k := w.heap.size) (by first | assumption | (simp; done) | (simp; omega) | omega)
    obtain ⟨cw9_0, fw9_0⟩ := hw9.row (k := w.heap.size) (by first | assumption | (simp; done) | (simp; omega) | omega)
    have kw9_1 := hw9.more (k := w3.heap.size) (by first | assumption | (simp; done) | (simp; omega) | omega)
    obtain ⟨cw9_1, fw9_1⟩ := hw9.row (k := w3.heap.size) (by first | assumption | (simp; done) | (simp; omega) | omega)
    have kw9_2 := hw9.more (k := w4.heap.size) (by first | assumption | (simp; done) | (simp; omega) | omega)
    obtain ⟨cw9_2, fw9_2⟩ := hw9.row (k := w4.heap.size) (by first | assumption | (simp; done) | (simp; omega) | omega)
    have kw9_3 := hw9.more (k := w5.heap.size) (by first | assumption | (simp; done) | (simp; omega) | omega)
    obtain ⟨cw9_3, fw9_3⟩ := hw9.row (k := w5.heap.size) (by first | assumption | (simp; done) | (simp; omega) | omega)
    have oT_w9 : Hid (OwnS w1.heap.size w2.heap.size w9 aoT xs) := hide (OwnS.chg (S := fun _ => False) oT_w8.out (by repeat (first | with_reducible exact Chg.refl _ _ | with_reducible assumption | with_reducible refine Chg.alloc ?_ _ | with_reducible refine Chg.drew ?_ | ((with_reducible refine Chg.set ?_ ?_ _); (focus (first | (right; simp; done) | (right; simp; omega) | (right; omega)))) | with_reducible refine Chg.trans ?_ (Ext.chg hw9 _))) (fun _ _ _ h => h))
    have oW_w9 : Hid (OwnS w2.heap.size w3.heap.size w9 aoW ys) := hide (OwnS.chg (S := fun _ => False) oW_w8.out (by repeat (first | with_reducible exact Chg.refl _ _ | with_reducible assumption | with_reducible refine Chg.alloc ?_ _ | with_reducible refine Chg.drew ?_ | ((with_reducible refine Chg.set ?_ ?_ _); (focus (first | (right; simp; done) | (right; simp; omega) | (right; omega)))) | with_reducible refine Chg.trans ?_ (Ext.chg hw9 _))) (fun _ _ _ h => h))
    have oX_w9 : Hid (OwnS (w3.heap.size + 1) w4.heap.size w9 aoX (marks 1 xs.length)) := hide (OwnS.chg (S := fun _ => False) oX_mw8.out (by repeat (first | with_reducible exact Chg.refl _ _ | with_reducible assumption | with_reducible refine Chg.alloc ?_ _ | with_reducible refine Chg.drew ?_ | ((with_reducible refine Chg.set ?_ ?_ _); (focus (first | (right; simp; done) | (right; simp; omega) | (right; omega)))) | with_reducible refine Chg.trans ?_ (Ext.chg hw9 _))) (fun _ _ _ h => h))
    have oG_w9 : Hid (OwnS (w4.heap.size + 1) w5.heap.size w9 aoG ys) := hide (OwnS.chg (S := fun _ => False) oG_w8.out (by repeat (first | with_reducible exact Chg.refl _ _ | with_reducible assumption | with_reducible refine Chg.alloc ?_ _ | with_reducible refine Chg.drew ?_ | ((with_reducible refine Chg.set ?_ ?_ _); (focus (first | (right; simp; done) | (right; simp; omega) | (right; omega)))) | with_reducible refine Chg.trans ?_ (Ext.chg hw9 _))) (fun _ _ _ h => h))
    have xw9 : Ext w w9 := (by repeat (first | with_reducible exact Ext.refl _ | with_reducible assumption | with_reducible refine Ext.alloc ?_ _ | with_reducible refine Ext.drew ?_ | ((with_reducible refine Ext.set ?_ ?_ _); (focus (first | (simp; done) | (simp; omega) | omega))) | with_reducible exact xw8 | with_reducible refine Ext.trans ?_ hw9))
    rw [decide_eq_true (rfl : ys = ys)]
    go_wp2_with fail
    refine (markRing_any (w4.heap.size + 1) w5.heap.size z b2 e2 aoG ys.length capG ys 1 _ (OwnS.chg (S := fun _ => False) oG_w9.out (by repeat (first | with_reducible exact Chg.refl _ _ | with_reducible assumption | with_reducible refine Chg.alloc ?_ _ | with_reducible refine Chg.drew ?_ | ((with_reducible refine Chg.set ?_ ?_ _); (focus (first | (right; simp; done) | (right; simp; omega) | (right; omega)))))) (fun _ _ _ h => h)) rfl (by omega) (by omega) (by omega)).mono ?_
    rintro en w10 ⟨rfl, omG, hw10⟩
    have zw10 : w9.heap.size ≤ w10.heap.size := by have := hw10.size; (try simp at this); omega
    have kw10_0 := hw10.more (k := w.heap.size) (by first | assumption | (simp; done) | (simp; omega) | omega)
    obtain ⟨cw10_0, fw10_0⟩ := hw10.row (k := w.heap.size) (by first | assumption | (simp; done) | (simp; omega) | omega) (by omega)
    have kw10_1 := hw10.more (k := w3.heap.size) (by first | assumption | (simp; done) | (simp; omega) | omega)
    obtain ⟨cw10_1, fw10_1⟩ := hw10.row (k := w3.heap.size) (by first | assumption | (simp; done) | (simp; omega) | omega) (by omega)
    have kw10_2 := hw10.more (k := w4.heap.size) (by first | assumption | (simp; done) | (simp; omega) | omega)
    obtain ⟨cw10_2, fw10_2⟩ := hw10.row (k := w4.heap.size) (by first | assumption | (simp; done) | (simp; omega) | omega) (by omega)
    have kw10_3 := hw10.more (k := w5.heap.size) (by first | assumption | (simp; done) | (simp; omega) | omega)
    obtain ⟨cw10_3, fw10_3⟩ := hw10.row (k := w5.heap.size) (by first | assumption | (simp; done) | (simp; omega) | omega) (by omega)
    have oT_w10 : Hid (OwnS w1.heap.size w2.heap.size w10 aoT xs) := hide (OwnS.chg (S := fun k => w4.heap.size + 1 ≤ k ∧ k < w5.heap.size) oT_w9.out (by repeat (first | with_reducible exact Chg.refl _ _ | with_reducible assumption | with_reducible refine Chg.alloc ?_ _ | with_reducible refine Chg.drew ?_ | ((with_reducible refine Chg.set ?_ ?_ _); (focus (first | (right; simp; done) | (right; simp; omega) | (right; omega)))) | with_reducible refine Chg.trans ?_ hw10)) (fun b h1 h2 h3 => by omega))
    have oW_w10 : Hid (OwnS w2.heap.size w3.heap.size w10 aoW ys) := hide (OwnS.chg (S := fun k => w4.heap.size + 1 ≤ k ∧ k < w5.heap.size) oW_w9.out (by repeat (first | with_reducible exact Chg.refl _ _ | with_reducible assumption | with_reducible refine Chg.alloc ?_ _ | with_reducible refine Chg.drew ?_ | ((with_reducible refine Chg.set ?_ ?_ _); (focus (first | (right; simp; done) | (right; simp; omega) | (right; omega)))) | with_reducible refine Chg.trans ?_ hw10)) (fun b h1 h2 h3 => by omega))
    have oX_w10 : Hid (OwnS (w3.heap.size + 1) w4.heap.size w10 aoX (marks 1 xs.length)) := hide (OwnS.chg (S := fun k => w4.heap.size + 1 ≤ k ∧ k < w5.heap.size) oX_w9.out (by repeat (first | with_reducible exact Chg.refl _ _ | with_reducible assumption | with_reducible refine Chg.alloc ?_ _ | with_reducible refine Chg.drew ?_ | ((with_reducible refine Chg.set ?_ ?_ _); (focus (first | (right; simp; done) | (right; simp; omega) | (right; omega)))) | with_reducible refine Chg.trans ?_ hw10)) (fun b h1 h2 h3 => by omega))
    have xw10 : Ext w w10 := (Chg.trans (Ext.chg (S := fun k => w4.heap.size + 1 ≤ k ∧ k < w5.heap.size) (a := w) (by repeat (first | with_reducible assumption | with_reducible refine Ext.alloc ?_ _ | with_reducible refine Ext.drew ?_ | ((with_reducible refine Ext.set ?_ ?_ _); (focus (first | (simp; done) | (simp; omega) | omega)))))) hw10).ext (fun k hk h => by omega)
    have oG_mw10 := hide omG
    clear omG
    go_wp2_with fail
    refine (heldRing_any z b2 e2 aoG ys.length capG 1 _ (oG_mw10.out.read.ext (by repeat (first | with_reducible exact Ext.refl _ | with_reducible assumption | with_reducible refine Ext.alloc ?_ _ | with_reducible refine Ext.drew ?_ | ((with_reducible refine Ext.set ?_ ?_ _); (focus (first | (simp; done) | (simp; omega) | omega))) | with_reducible refine Ext.trans ?_ hw9))) (by omega) (by omega) (by omega)).mono ?_
    rintro en w11 ⟨rfl, hw11⟩
    have zw11 : w10.heap.size ≤ w11.heap.size := by have := hw11.size; (try simp at this); omega
    have kw11_0 := hw11.more (k := w.heap.size) (by first | assumption | (simp; done) | (simp; omega) | omega)
    obtain ⟨cw11_0, fw11_0⟩ := hw11.row (k := w.heap.size) (by first | assumption | (simp; done) | (simp; omega) | omega)
    have kw11_1 := hw11.more (k := w3.heap.size) (by first | assumption | (simp; done) | (simp; omega) | omega)
    obtain ⟨cw11_1, fw11_1⟩ := hw11.row (k := w3.heap.size) (by first | assumption | (simp; done) | (simp; omega) | omega)
    have kw11_2 := hw11.more (k := w4.heap.size) (by first | assumption | (simp; done) | (simp; omega) | omega)
    obtain ⟨cw11_2, fw11_2⟩ := hw11.row (k := w4.heap.size) (by first | assumption | (simp; done) | (simp; omega) | omega)
    have kw11_3 := hw11.more (k := w5.heap.size) (by first | assumption | (simp; done) | (simp; omega) | omega)
    obtain ⟨cw11_3, fw11_3⟩ := hw11.row (k := w5.heap.size) (by first | assumption | (simp; done) | (simp; omega) | omega)
    have oT_w11 : Hid (OwnS w1.heap.size w2.heap.size w11 aoT xs) := hide (OwnS.chg (S := fun _ => False) oT_w10.out (by repeat (first | with_reducible exact Chg.refl _ _ | with_reducible assumption | with_reducible refine Chg.alloc ?_ _ | with_reducible refine Chg.drew ?_ | ((with_reducible refine Chg.set ?_ ?_ _); (focus (first | (right; simp; done) | (right; simp; omega) | (right; omega)))) | with_reducible refine Chg.trans ?_ (Ext.chg hw11 _))) (fun _ _ _ h => h))
    have oW_w11 : Hid (OwnS w2.heap.size w3.heap.size w11 aoW ys) := hide (OwnS.chg (S := fun _ => False) oW_w10.out (by repeat (first | with_reducible exact Chg.refl _ _ | with_reducible assumption | with_reducible refine Chg.alloc ?_ _ | with_reducible refine Chg.drew ?_ | ((with_reducible refine Chg.set ?_ ?_ _); (focus (first | (right; simp; done) | (right; simp; omega) | (right; omega)))) | with_reducible refine Chg.trans ?_ (Ext.chg hw11 _))) (fun _ _ _ h => h))
    have oX_w11 : Hid (OwnS (w3.heap.size + 1) w4.heap.size w11 aoX (marks 1 xs.length)) := hide (OwnS.chg (S := fun _ => False) oX_w10.out (by repeat (first | with_reducible exact Chg.refl _ _ | with_reducible assumption | with_reducible refine Chg.alloc ?_ _ | with_reducible refine Chg.drew ?_ | ((with_reducible refine Chg.set ?_ ?_ _); (focus (first | (right; simp; done) | (right; simp; omega) | (right; omega)))) | with_reducible refine Chg.trans ?_ (Ext.chg hw11 _))) (fun _ _ _ h => h))
    have oG_w11 : Hid (OwnS (w4.heap.size + 1) w5.heap.size w11 aoG (marks 1 ys.length)) := hide (OwnS.chg (S := fun _ => False) oG_mw10.out (by repeat (first | with_reducible exact Chg.refl _ _ | with_reducible assumption | with_reducible refine Chg.alloc ?_ _ | with_reducible refine Chg.drew ?_ | ((with_reducible refine Chg.set ?_ ?_ _); (focus (first | (right; simp; done) | (right; simp; omega) | (right; omega)))) | with_reducible refine Chg.trans ?_ (Ext.chg hw11 _))) (fun _ _ _ h => h))
    have xw11 : Ext w w11 := (by repeat (first | with_reducible exact Ext.refl _ | with_reducible assumption | with_reducible refine Ext.alloc ?_ _ | with_reducible refine Ext.drew ?_ | ((with_reducible refine Ext.set ?_ ?_ _); (focus (first | (simp; done) | (simp; omega) | omega))) | with_reducible exact xw10 | with_reducible refine Ext.trans ?_ hw11))
    go_wp2_with fail
    refine (toRing_any z b e ao n ca xs _ ?_ hn'.out (by omega)).mono ?_
    · exact hx'.out.ext xw11
    rintro en w12 ⟨aoU, capU, rfl, ownU, hw12⟩
    have zw12 : w11.heap.size ≤ w12.heap.size := by have := hw12.size; (try simp at this); omega
    have kw12_0 := hw12.more (k := w.heap.size) (by first | assumption | (simp; done) | (simp; omega) | omega)
    obtain ⟨cw12_0, fw12_0⟩ := hw12.row (k := w.heap.size) (by first | assumption | (simp; done) | (simp; omega) | omega)
    have kw12_1 := hw12.more (k := w3.heap.size) (by first | assumption | (simp; done) | (simp; omega) | omega)
    obtain ⟨cw12_1, fw12_1⟩ := hw12.row (k := w3.heap.size) (by first | assumption | (simp; done) | (simp; omega) | omega)
    have kw12_2 := hw12.more (k := w4.heap.size) (by first | assumption | (simp; done) | (simp; omega) | omega)
    obtain ⟨cw12_2, fw12_2⟩ := hw12.row (k := w4.heap.size) (by first | assumption | (simp; done) | (simp; omega) | omega)
    have kw12_3 := hw12.more (k := w5.heap.size) (by first | assumption | (simp; done) | (simp; omega) | omega)
    obtain ⟨cw12_3, fw12_3⟩ := hw12.row (k := w5.heap.size) (by first | assumption | (simp; done) | (simp; omega) | omega)
    have oT_w12 : Hid (OwnS w1.heap.size w2.heap.size w12 aoT xs) := hide (OwnS.chg (S := fun _ => False) oT_w11.out (by repeat (first | with_reducible exact Chg.refl _ _ | with_reducible assumption | with_reducible refine Chg.alloc ?_ _ | with_reducible refine Chg.drew ?_ | ((with_reducible refine Chg.set ?_ ?_ _); (focus (first | (right; simp; done) | (right; simp; omega) | (right; omega)))) | with_reducible refine Chg.trans ?_ (Ext.chg hw12 _))) (fun _ _ _ h => h))
    have oW_w12 : Hid (OwnS w2.heap.size w3.heap.size w12 aoW ys) := hide (OwnS.chg (S := fun _ => False) oW_w11.out (by repeat (first | with_reducible exact Chg.refl _ _ | with_reducible assumption | with_reducible refine Chg.alloc ?_ _ | with_reducible refine Chg.drew ?_ | ((with_reducible refine Chg.set ?_ ?_ _); (focus (first | (right; simp; done) | (right; simp; omega) | (right; omega)))) | with_reducible refine Chg.trans ?_ (Ext.chg hw12 _))) (fun _ _ _ h => h))
    have oX_w12 : Hid (OwnS (w3.heap.size + 1) w4.heap.size w12 aoX (marks 1 xs.length)) := hide (OwnS.chg (S := fun _ => False) oX_w11.out (by repeat (first | with_reducible exact Chg.refl _ _ | with_reducible assumption | with_reducible refine Chg.alloc ?_ _ | with_reducible refine Chg.drew ?_ | ((with_reducible refine Chg.set ?_ ?_ _); (focus (first | (right; simp; done) | (right; simp; omega) | (right; omega)))) | with_reducible refine Chg.trans ?_ (Ext.chg hw12 _))) (fun _ _ _ h => h))
    have oG_w12 : Hid (OwnS (w4.heap.size + 1) w5.heap.size w12 aoG (marks 1 ys.length)) := hide (OwnS.chg (S := fun _ => False) oG_w11.out (by repeat (first | with_reducible exact Chg.refl _ _ | with_reducible assumption | with_reducible refine Chg.alloc ?_ _ | with_reducible refine Chg.drew ?_ | ((with_reducible refine Chg.set ?_ ?_ _); (focus (first | (right; simp; done) | (right; simp; omega) | (right; omega)))) | with_reducible refine Chg.trans ?_ (Ext.chg hw12 _))) (fun _ _ _ h => h))
    have xw12 : Ext w w12 := (by repeat (first | with_reducible exact Ext.refl _ | with_reducible assumption | with_reducible refine Ext.alloc ?_ _ | with_reducible refine Ext.drew ?_ | ((with_reducible refine Ext.set ?_ ?_ _); (focus (first | (simp; done) | (simp; omega) | omega))) | with_reducible exact xw11 | with_reducible refine Ext.trans ?_ hw12))
    have oU_w12 := hide (OwnS.mono (lo' := w11.heap.size) (hi' := w12.heap.size) ownU (by first | (simp; done) | (simp; omega) | omega) (Nat.le_refl _))
    clear ownU
    go_wp2_with fail
    refine (Hi _ _ _ (oU_w12.out.read.ext (by repeat (first | with_reducible exact Ext.refl _ | with_reducible assumption | with_reducible refine Ext.alloc ?_ _ | with_reducible refine Ext.drew ?_ | ((with_reducible refine Ext.set ?_ ?_ _); (focus (first | (simp; done) | (simp; omega) | omega))) | with_reducible refine Ext.trans ?_ hw12)))).mono ?_
    rintro en w13 ⟨aoH, capH, rfl, ownH, hw13⟩
    have zw13 : w12.heap.size ≤ w13.heap.size := by have := hw13.size; (try simp at this); omega
    have kw13_0 := hw13.more (k := w.heap.size) (by first | assumption | (simp; done) | (simp; omega) | omega)
    obtain ⟨cw13_0, fw13_0⟩ := hw13.row (k := w.heap.size) (by first | assumption | (simp; done) | (simp; omega) | omega)
    have kw13_1 := hw13.more (k := w3.heap.size) (by first | assumption | (simp; done) | (simp; omega) | omega)
    obtain ⟨cw13_1, fw13_1⟩ := hw13.row (k := w3.heap.size) (by first | assumption | (simp; done) | (simp; omega) | omega)
    have kw13_2 := hw13.more (k := w4.heap.size) (by first | assumption | (simp; done) | (simp; omega) | omega)
    obtain ⟨cw13_2, fw13_2⟩ := hw13.row (k := w4.heap.size) (by first | assumption | (simp; done) | (simp; omega) | omega)
    have kw13_3 := hw13.more (k := w5.heap.size) (by first | assumption | (simp; done) | (simp; omega) | omega)
    obtain ⟨cw13_3, fw13_3⟩ := hw13.row (k := w5.heap.size) (by first | assumption | (simp; done) | (simp; omega) | omega)
    have oT_w13 : Hid (OwnS w1.heap.size w2.heap.size w13 aoT xs) := hide (OwnS.chg (S := fun _ => False) oT_w12.out (by repeat (first | with_reducible exact Chg.refl _ _ | with_reducible assumption | with_reducible refine Chg.alloc ?_ _ | with_reducible refine Chg.drew ?_ | ((with_reducible refine Chg.set ?_ ?_ _); (focus (first | (right; simp; done) | (right; simp; omega) | (right; omega)))) | with_reducible refine Chg.trans ?_ (Ext.chg hw13 _))) (fun _ _ _ h => h))
    have oW_w13 : Hid (OwnS w2.heap.size w3.heap.size w13 aoW ys) := hide (OwnS.chg (S := fun _ => False) oW_w12.out (by repeat (first | with_reducible exact Chg.refl _ _ | with_reducible assumption | with_reducible refine Chg.alloc ?_ _ | with_reducible refine Chg.drew ?_ | ((with_reducible refine Chg.set ?_ ?_ _); (focus (first | (right; simp; done) | (right; simp; omega) | (right; omega)))) | with_reducible refine Chg.trans ?_ (Ext.chg hw13 _))) (fun _ _ _ h => h))
    have oX_w13 : Hid (OwnS (w3.heap.size + 1) w4.heap.size w13 aoX (marks 1 xs.length)) := hide (OwnS.chg (S := fun _ => False) oX_w12.out (by repeat (first | with_reducible exact Chg.refl _ _ | with_reducible assumption | with_reducible refine Chg.alloc ?_ _ | with_reducible refine Chg.drew ?_ | ((with_reducible refine Chg.set ?_ ?_ _); (focus (first | (right; simp; done) | (right; simp; omega) | (right; omega)))) | with_reducible refine Chg.trans ?_ (Ext.chg hw13 _))) (fun _ _ _ h => h))
    have oG_w13 : Hid (OwnS (w4.heap.size + 1) w5.heap.size w13 aoG (marks 1 ys.length)) := hide (OwnS.chg (S := fun _ => False) oG_w12.out (by repeat (first | with_reducible exact Chg.refl _ _ | with_reducible assumption | with_reducible refine Chg.alloc ?_ _ | with_reducible refine Chg.drew ?_ | ((with_reducible refine Chg.set ?_ ?_ _); (focus (first | (right; simp; done) | (right; simp; omega) | (right; omega)))) | with_reducible refine Chg.trans ?_ (Ext.chg hw13 _))) (fun _ _ _ h => h))
    have oU_w13 : Hid (OwnS w11.heap.size w12.heap.size w13 aoU xs) := hide (OwnS.chg (S := fun _ => False) oU_w12.out (by repeat (first | with_reducible exact Chg.refl _ _ | with_reducible assumption | with_reducible refine Chg.alloc ?_ _ | with_reducible refine Chg.drew ?_ | ((with_reducible refine Chg.set ?_ ?_ _); (focus (first | (right; simp; done) | (right; simp; omega) | (right; omega)))) | with_reducible refine Chg.trans ?_ (Ext.chg hw13 _))) (fun _ _ _ h => h))
    have xw13 : Ext w w13 := (by repeat (first | with_reducible exact Ext.refl _ | with_reducible assumption | with_reducible refine Ext.alloc ?_ _ | with_reducible refine Ext.drew ?_ | ((with_reducible refine Ext.set ?_ ?_ _); (focus (first | (simp; done) | (simp; omega) | omega))) | with_reducible exact xw12 | with_reducible refine Ext.trans ?_ hw13))
    have oH_w13 := hide (OwnS.mono (lo' := w12.heap.size) (hi' := w13.heap.size) ownH (by first | (simp; done) | (simp; omega) | omega) (Nat.le_refl _))
    clear ownH
    go_wp2_with fail
    refine (eqRing_any z b2 e2 aoH aoW ys.length ys.length capH capW ys ys _ (oH_w13.out.read.ext (by repeat (first | with_reducible exact Ext.refl _ | with_reducible assumption | with_reducible refine Ext.alloc ?_ _ | with_reducible refine Ext.drew ?_ | ((with_reducible refine Ext.set ?_ ?_ _); (focus (first | (simp; done) | (simp; omega) | omega))) | with_reducible refine Ext.trans ?_ hw13))) (oW_w13.out.read.ext (by repeat (first | with_reducible exact Ext.refl _ | with_reducible assumption | with_reducible refine Ext.alloc ?_ _ | with_reducible refine Ext.drew ?_ | ((with_reducible refine Ext.set ?_ ?_ _); (focus (first | (simp; done) | (simp; omega) | omega))) | with_reducible refine Ext.trans ?_ hw13))) rfl rfl (by omega)).mono ?_
    rintro en w14 ⟨rfl, hw14⟩
    have zw14 : w13.heap.size + 1 ≤ w14.heap.size := by have := hw14.size; (try simp at this); omega
    have kw14_0 := hw14.more (k := w.heap.size) (by first | assumption | (simp; done) | (simp; omega) | omega)
    obtain ⟨cw14_0, fw14_0⟩ := hw14.row (k := w.heap.size) (by first | assumption | (simp; done) | (simp; omega) | omega)
    have kw14_1 := hw14.more (k := w3.heap.size) (by first | assumption | (simp; done) | (simp; omega) | omega)
    obtain ⟨cw14_1, fw14_1⟩ := hw14.row (k := w3.heap.size) (by first | assumption | (simp; done) | (simp; omega) | omega)
    have kw14_2 := hw14.more (k := w4.heap.size) (by first | assumption | (simp; done) | (simp; omega) | omega)
    obtain ⟨cw14_2, fw14_2⟩ := hw14.row (k := w4.heap.size) (by first | assumption | (simp; done) | (simp; omega) | omega)
    have kw14_3 := hw14.more (k := w5.heap.size) (by first | assumption | (simp; done) | (simp; omega) | omega)
    obtain ⟨cw14_3, fw14_3⟩ := hw14.row (k := w5.heap.size) (by first | assumption | (simp; done) | (simp; omega) | omega)
    have kw14_4 := hw14.more (k := w13.heap.size) (by first | assumption | (simp; done) | (simp; omega) | omega)
    obtain ⟨cw14_4, fw14_4⟩ := hw14.row (k := w13.heap.size) (by first | assumption | (simp; done) | (simp; omega) | omega)
    have oT_w14 : Hid (OwnS w1.heap.size w2.heap.size w14 aoT xs) := hide (OwnS.chg (S := fun _ => False) oT_w13.out (by repeat (first | with_reducible exact Chg.refl _ _ | with_reducible assumption | with_reducible refine Chg.alloc ?_ _ | with_reducible refine Chg.drew ?_ | ((with_reducible refine Chg.set ?_ ?_ _); (focus (first | (right; simp; done) | (right; simp; omega) | (right; omega)))) | with_reducible refine Chg.trans ?_ (Ext.chg hw14 _))) (fun _ _ _ h => h))
    have oW_w14 : Hid (OwnS w2.heap.size w3.heap.size w14 aoW ys) := hide (OwnS.chg (S := fun _ => False) oW_w13.out (by repeat (first | with_reducible exact Chg.refl _ _ | with_reducible assumption | with_reducible refine Chg.alloc ?_ _ | with_reducible refine Chg.drew ?_ | ((with_reducible refine Chg.set ?_ ?_ _); (focus (first | (right; simp; done) | (right; simp; omega) | (right; omega)))) | with_reducible refine Chg.trans ?_ (Ext.chg hw14 _))) (fun _ _ _ h => h))
    have oX_w14 : Hid (OwnS (w3.heap.size + 1) w4.heap.size w14 aoX (marks 1 xs.length)) := hide (OwnS.chg (S := fun _ => False) oX_w13.out (by repeat (first | with_reducible exact Chg.refl _ _ | with_reducible assumption | with_reducible refine Chg.alloc ?_ _ | with_reducible refine Chg.drew ?_ | ((with_reducible refine Chg.set ?_ ?_ _); (focus (first | (right; simp; done) | (right; simp; omega) | (right; omega)))) | with_reducible refine Chg.trans ?_ (Ext.chg hw14 _))) (fun _ _ _ h => h))
    have oG_w14 : Hid (OwnS (w4.heap.size + 1) w5.heap.size w14 aoG (marks 1 ys.length)) := hide (OwnS.chg (S := fun _ => False) oG_w13.out (by repeat (first | with_reducible exact Chg.refl _ _ | with_reducible assumption | with_reducible refine Chg.alloc ?_ _ | with_reducible refine Chg.drew ?_ | ((with_reducible refine Chg.set ?_ ?_ _); (focus (first | (right; simp; done) | (right; simp; omega) | (right; omega)))) | with_reducible refine Chg.trans ?_ (Ext.chg hw14 _))) (fun _ _ _ h => h))
    have oU_w14 : Hid (OwnS w11.heap.size w12.heap.size w14 aoU xs) := hide (OwnS.chg (S := fun _ => False) oU_w13.out (by repeat (first | with_reducible exact Chg.refl _ _ | with_reducible assumption | with_reducible refine Chg.alloc ?_ _ | with_reducible refine Chg.drew ?_ | ((with_reducible refine Chg.set ?_ ?_ _); (focus (first | (right; simp; done) | (right; simp; omega) | (right; omega)))) | with_reducible refine Chg.trans ?_ (Ext.chg hw14 _))) (fun _ _ _ h => h))
    have oH_w14 : Hid (OwnS w12.heap.size w13.heap.size w14 aoH ys) := hide (OwnS.chg (S := fun _ => False) oH_w13.out (by repeat (first | with_reducible exact Chg.refl _ _ | with_reducible assumption | with_reducible refine Chg.alloc ?_ _ | with_reducible refine Chg.drew ?_ | ((with_reducible refine Chg.set ?_ ?_ _); (focus (first | (right; simp; done) | (right; simp; omega) | (right; omega)))) | with_reducible refine Chg.trans ?_ (Ext.chg hw14 _))) (fun _ _ _ h => h))
    have xw14 : Ext w w14 := (by repeat (first | with_reducible exact Ext.refl _ | with_reducible assumption | with_reducible refine Ext.alloc ?_ _ | with_reducible refine Ext.drew ?_ | ((with_reducible refine Ext.set ?_ ?_ _); (focus (first | (simp; done) | (simp; omega) | omega))) | with_reducible exact xw13 | with_reducible refine Ext.trans ?_ hw14))
    rw [decide_eq_true (rfl : ys = ys)]
    go_wp2_with fail
    refine (heldRing_any z b2 e2 aoG ys.length capG 1 _ (oG_w14.out.read.ext (by repeat (first | with_reducible exact Ext.refl _ | with_reducible assumption | with_reducible refine Ext.alloc ?_ _ | with_reducible refine Ext.drew ?_ | ((with_reducible refine Ext.set ?_ ?_ _); (focus (first | (simp; done) | (simp; omega) | omega))) | with_reducible refine Ext.trans ?_ hw14))) (by omega) (by omega) (by omega)).mono ?_
    rintro en w15 ⟨rfl, hw15⟩
    have zw15 : w14.heap.size ≤ w15.heap.size := by have := hw15.size; (try simp at this); omega
    have kw15_0 := hw15.more (k := w.heap.size) (by first | assumption | (simp; done) | (simp; omega) | omega)
    obtain ⟨cw15_0, fw15_0⟩ := hw15.row (k := w.heap.size) (by first | assumption | (simp; done) | (simp; omega) | omega)
    have kw15_1 := hw15.more (k := w3.heap.size) (by first | assumption | (simp; done) | (simp; omega) | omega)
    obtain ⟨cw15_1, fw15_1⟩ := hw15.row (k := w3.heap.size) (by first | assumption | (simp; done) | (simp; omega) | omega)
    have kw15_2 := hw15.more (k := w4.heap.size) (by first | assumption | (simp; done) | (simp; omega) | omega)
    obtain ⟨cw15_2, fw15_2⟩ := hw15.row (k := w4.heap.size) (by first | assumption | (simp; done) | (simp; omega) | omega)
    have kw15_3 := hw15.more (k := w5.heap.size) (by first | assumption | (simp; done) | (simp; omega) | omega)
    obtain ⟨cw15_3, fw15_3⟩ := hw15.row (k := w5.heap.size) (by first | assumption | (simp; done) | (simp; omega) | omega)
    have kw15_4 := hw15.more (k := w13.heap.size) (by first | assumption | (simp; done) | (simp; omega) | omega)
    obtain ⟨cw15_4, fw15_4⟩ := hw15.row (k := w13.heap.size) (by first | assumption | (simp; done) | (simp; omega) | omega)
    have oT_w15 : Hid (OwnS w1.heap.size w2.heap.size w15 aoT xs) := hide (OwnS.chg (S := fun _ => False) oT_w14.out (by repeat (first | with_reducible exact Chg.refl _ _ | with_reducible assumption | with_reducible refine Chg.alloc ?_ _ | with_reducible refine Chg.drew ?_ | ((with_reducible refine Chg.set ?_ ?_ _); (focus (first | (right; simp; done) | (right; simp; omega) | (right; omega)))) | with_reducible refine Chg.trans ?_ (Ext.chg hw15 _))) (fun _ _ _ h => h))
    have oW_w15 : Hid (OwnS w2.heap.size w3.heap.size w15 aoW ys) := hide (OwnS.chg (S := fun _ => False) oW_w14.out (by repeat (first | with_reducible exact Chg.refl _ _ | with_reducible assumption | with_reducible refine Chg.alloc ?_ _ | with_reducible refine Chg.drew ?_ | ((with_reducible refine Chg.set ?_ ?_ _); (focus (first | (right; simp; done) | (right; simp; omega) | (right; omega)))) | with_reducible refine Chg.trans ?_ (Ext.chg hw15 _))) (fun _ _ _ h => h))
    have oX_w15 : Hid (OwnS (w3.heap.size + 1) w4.heap.size w15 aoX (marks 1 xs.length)) := hide (OwnS.chg (S := fun _ => False) oX_w14.out (by repeat (first | with_reducible exact Chg.refl _ _ | with_reducible assumption | with_reducible refine Chg.alloc ?_ _ | with_reducible refine Chg.drew ?_ | ((with_reducible refine Chg.set ?_ ?_ _); (focus (first | (right; simp; done) | (right; simp; omega) | (right; omega)))) | with_reducible refine Chg.trans ?_ (Ext.chg hw15 _))) (fun _ _ _ h => h))
    have oG_w15 : Hid (OwnS (w4.heap.size + 1) w5.heap.size w15 aoG (marks 1 ys.length)) := hide (OwnS.chg (S := fun _ => False) oG_w14.out (by repeat (first | with_reducible exact Chg.refl _ _ | with_reducible assumption | with_reducible refine Chg.alloc ?_ _ | with_reducible refine Chg.drew ?_ | ((with_reducible refine Chg.set ?_ ?_ _); (focus (first | (right; simp; done) | (right; simp; omega) | (right; omega)))) | with_reducible refine Chg.trans ?_ (Ext.chg hw15 _))) (fun _ _ _ h => h))
    have oU_w15 : Hid (OwnS w11.heap.size w12.heap.size w15 aoU xs) := hide (OwnS.chg (S := fun _ => False) oU_w14.out (by repeat (first | with_reducible exact Chg.refl _ _ | with_reducible assumption | with_reducible refine Chg.alloc ?_ _ | with_reducible refine Chg.drew ?_ | ((with_reducible refine Chg.set ?_ ?_ _); (focus (first | (right; simp; done) | (right; simp; omega) | (right; omega)))) | with_reducible refine Chg.trans ?_ (Ext.chg hw15 _))) (fun _ _ _ h => h))
    have oH_w15 : Hid (OwnS w12.heap.size w13.heap.size w15 aoH ys) := hide (OwnS.chg (S := fun _ => False) oH_w14.out (by repeat (first | with_reducible exact Chg.refl _ _ | with_reducible assumption | with_reducible refine Chg.alloc ?_ _ | with_reducible refine Chg.drew ?_ | ((with_reducible refine Chg.set ?_ ?_ _); (focus (first | (right; simp; done) | (right; simp; omega) | (right; omega)))) | with_reducible refine Chg.trans ?_ (Ext.chg hw15 _))) (fun _ _ _ h => h))
    have xw15 : Ext w w15 := (by repeat (first | with_reducible exact Ext.refl _ | with_reducible assumption | with_reducible refine Ext.alloc ?_ _ | with_reducible refine Ext.drew ?_ | ((with_reducible refine Ext.set ?_ ?_ _); (focus (first | (simp; done) | (simp; omega) | omega))) | with_reducible exact xw14 | with_reducible refine Ext.trans ?_ hw15))
    go_wp2
    go_ret
    exact ⟨rfl, (by repeat (first | with_reducible exact Ext.refl _ | with_reducible assumption | with_reducible refine Ext.alloc ?_ _ | with_reducible refine Ext.drew ?_ | with_reducible refine Ext.drewN ?_ _ | ((with_reducible refine Ext.set ?_ ?_ _); (focus (first | (simp; done) | (simp; omega)))) | with_reducible refine Ext.trans ?_ (by assumption)))⟩
set_option maxHeartbeats 1000000 in
theorem writeRing_no (z b e : Int) (s : ByteArray) (ao : Option Addr) (n ca : Nat) (w : World) (h0 : (n : Int) ≤ 9223372036854775807) (h1 : 1048576 < n) (hs : s.size ≤ 1048576) :
    Calls Try.prog 9 #[.agg #[.int .i64 z, .int .i64 b, .int .i64 e, .slice ao n ca], .string s] w fun en w' => en = .returned (.bool true) ∧ Ext w w' := by
  have s0 : decide ((1048576 : Int) < (s.size : Int)) = false := by simp; omega
  have s1 : (if (1048576 : Int) < (n : Int) then (-1 : Int) else 1048576 - n) = -1 := if_pos (by omega)
  go_enter Try.func9, Try.ntmps9
  go_wp2_with fail
  refine (szRing_any _ _ _ _ _ _ _ _ (by omega) (by omega) (by omega)).mono ?_
  rintro en w1 ⟨rfl, hw1⟩
  have xw1 : Ext w w1 := (by repeat (first | with_reducible exact Ext.refl _ | with_reducible assumption | with_reducible refine Ext.alloc ?_ _ | with_reducible refine Ext.drew ?_ | with_reducible refine Ext.drewN ?_ _ | ((with_reducible refine Ext.set ?_ ?_ _); (focus (first | (simp; done) | (simp; omega)))) | with_reducible refine Ext.trans ?_ (by assumption)))
  have kw1_0 := hw1.more (k := w.heap.size) (by first | assumption | (simp; done) | (simp; omega) | omega)
  obtain ⟨cw1_0, fw1_0⟩ := hw1.row (k := w.heap.size) (by first | assumption | (simp; done) | (simp; omega) | omega)
  rw [s1]
  go_wp2
  go_ret
  exact ⟨rfl, (by repeat (first | with_reducible exact Ext.refl _ | with_reducible assumption | with_reducible refine Ext.alloc ?_ _ | with_reducible refine Ext.drew ?_ | with_reducible refine Ext.drewN ?_ _ | ((with_reducible refine Ext.set ?_ ?_ _); (focus (first | (simp; done) | (simp; omega)))) | with_reducible refine Ext.trans ?_ (by assumption)))⟩
theorem writeRing_big (z b e : Int) (s : ByteArray) (ao : Option Addr) (n ca : Nat) (w : World) (hs : 1048576 < s.size) :
    Calls Try.prog 9 #[.agg #[.int .i64 z, .int .i64 b, .int .i64 e, .slice ao n ca], .string s] w fun en w' => en = .returned (.bool true) ∧ Ext w w' := by
  have s0 : decide ((1048576 : Int) < (s.size : Int)) = true := by simp; omega
  go_enter Try.func9, Try.ntmps9
  go_wp2
  go_ret
  exact ⟨rfl, (by repeat (first | with_reducible exact Ext.refl _ | with_reducible assumption | with_reducible refine Ext.alloc ?_ _ | with_reducible refine Ext.drew ?_ | with_reducible refine Ext.drewN ?_ _ | ((with_reducible refine Ext.set ?_ ?_ _); (focus (first | (simp; done) | (simp; omega)))) | with_reducible refine Ext.trans ?_ (by assumption)))⟩
theorem writeRing_walk (z b e : Int) (s : ByteArray) (ao : Option Addr) (n ca : Nat) (xs : List Int) (w : World) (hx : ReadS w ao xs) (hn : xs.length = n) (he0 : -9223372036854775808 ≤ e) (he : e ≤ 9223372036854775807) (g0 : (n : Int) ≤ 9223372036854775807) :
    Calls Try.prog 9 #[.agg #[.int .i64 z, .int .i64 b, .int .i64 e, .slice ao n ca], .string s] w fun en w' => en = .returned (.bool true) ∧ Ext w w' := by
  by_cases hs : 1048576 < s.size
  · exact writeRing_big z b e s ao n ca w hs
  · by_cases h1 : 1048576 < n
    · exact writeRing_no z b e s ao n ca w g0 h1 (by omega)
    · have hm : ((writeM z b e s xs : Nat) : Int) = min (s.size : Int) (roomOf z b e xs) := by
        have := roomOf_bd z b e xs
        unfold writeM
        omega
      exact writeRing_yes z b e s ao n ca xs w hx hn (by omega) _ _ _ (writeM z b e s xs) (by omega) (setN_length _ _ _ _ _)
        (fun a c w' h => WriteRing_spec z b e s a xs.length c xs w' h rfl (by omega) he0 he _ hm)
        (fun a c w' h => WriteRing_impl z b e s a xs.length c xs w' h rfl (by omega) he0 he _ hm)
/-! ### the row of FnExactWriteRing -/
theorem writeRing_reads : ∀ t ∈ Try.f9.params.toList, Try.prog.readableRec t = true ∧ t < Try.prog.types.size := by
  rw [Try.params9]
  intro t ht
  simp only [List.mem_cons, List.not_mem_nil, or_false] at ht
  rcases ht with rfl | rfl
  all_goals exact ⟨by kernel_rfl, of_decide_eq_true (by kernel_rfl)⟩
set_option maxRecDepth 100000 in
theorem writeRing_lifted (os : Os) (started : os.Started) (H : Type) (enc : TypeId × Value → H) :
    ReturnsInHanded {} Try.checked os 9 .any (Rows.fnExactWriteRingSpec.pre6 enc Try.prog Try.f9 Rows.fnExactWriteRingRow.domain false) (Rows.fnExactWriteRingSpec.post enc Try.prog Try.f9 false true false false) := by
  refine returnsInHanded_of_change (C := Try.checked) ownKnobNone started (by kernel_rfl) Try.func9
    (ChangeSpec.witness6 (enc := enc) (C := Try.checked) false ⟨#[], #[.agg #[.int .i64 0, .int .i64 0, .int .i64 0, .slice none 0 0], .string ⟨#[]⟩], []⟩ 8 (by kernel_rfl) (by kernel_rfl) (by kernel_rfl) (by kernel_rfl)) ?_
  intro W base args ds gs before hval0 hW hcnd _
  have hval : ∀ (j : Nat) t v, Try.f9.params[j]? = some t → args[j]? = some v → Value.okWide Try.prog W .any base t v := hval0
  have hW' := hW
  obtain ⟨p, q, hA0, hV, rfl, hfz, hnd⟩ := hW
  have hA : DataW.TrodAll enc Try.prog W 0 (fun _ => true) true Try.f9.params.toList args.toList ds p := hA0
  rw [Try.params9] at hA hval
  obtain ⟨v0, vs0, d0, ds0, p0, q0, hargs, rfl, rfl, h0, r0⟩ := trodAll_cons hA
  obtain ⟨v1, vs1, d1, ds1, p1, q1, rfl, rfl, rfl, h1, r1⟩ := trodAll_cons r0
  obtain ⟨rfl, rfl, rfl⟩ := trodAll_nil r1
  obtain rfl : args = #[v0, v1] := by cases args; simp_all
  obtain ⟨z, b, e, ao, n, ca, xs, rfl, hn, hnb, hx, wz, wb, we, wx⟩ := open_ring Try.underlying30 (by kernel_rfl) (by kernel_rfl) Try.underlying3 Try.underlying3 Try.underlying3 Try.underlying22 Try.underlying3 (by kernel_rfl) (by kernel_rfl) (by kernel_rfl) (by kernel_rfl) (by kernel_rfl) (hval 0 30 v0 rfl rfl) h0
  obtain ⟨s, rfl⟩ := okWide_string Try.underlying9 (hval 1 9 v1 rfl rfl)
  refine (writeRing_walk z b e s ao n ca xs W hx hn (wf64 we).1 (wf64 we).2 hnb).mono fun e W' ⟨he, hg⟩ => ?_
  subst he
  exact ⟨_, rfl, law_post laidOut writeRing_reads rfl rfl Try.underlying4 hW' (fun gs h => by subst h; rfl) hg⟩
theorem writeRing_over : Rows.fnExactWriteRingRow.holds Try.pinned (OpenSpec.ofChange Rows.fnExactWriteRingSpec) :=
  OpenClaim.holds_of_wide 9 Try.f9 rfl rfl rfl rfl rfl rfl rfl ⟨rfl, rfl, rfl, rfl, rfl⟩ rfl rfl rfl rfl rfl (by kernel_rfl) Try.func9 (by kernel_rfl)
    (of_decide_eq_true (by kernel_rfl)) (by unfold Func.isWrapper; first | (rw [if_pos (by decide +kernel)]; kernel_rfl) | (rw [if_neg (by decide +kernel)]; exact ⟨rfl, rfl⟩))
    (fun os started H enc _ => writeRing_lifted os started H enc)
/-- The statement. -/
theorem writeRing_holds : Rows.FnExactWriteRingSaid := writeRing_over
#print axioms writeRing_holds
end Go.Proofs.Yteebkiochnhnhaa

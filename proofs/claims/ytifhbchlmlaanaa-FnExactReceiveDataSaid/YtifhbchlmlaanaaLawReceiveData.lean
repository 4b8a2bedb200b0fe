/-
  The law FnExactReceiveData holds of every argument. No condition.
-/
import Derived.Test.YtifhbchlmlaanaaRecvIn
import Derived.Test.YtifhbchlmlaanaaLawKit
import Derived.Test.YtifhbchlmlaanaaRecvLine
import Derived.Test.YtifhbchlmlaanaaMarkC
import Derived.Test.YtifhbchlmlaanaaRecvData
namespace Go.Proofs.Ytifhbchlmlaanaa
open Go.ChangeShapes Go.WideShapes Go.ChangeAt Go.RowKit
set_option linter.unusedSimpArgs false
set_option linter.unusedVariables false
set_option maxHeartbeats 8000000 in
set_option maxRecDepth 100000 in
theorem receiveData_yes (st nx fi hg co : Int) (off : Int) (data : ByteArray) (fin : Bool) (ao : Option Addr) (n ca : Nat) (xs : List Ck) (w : World) (hx : ReadC w ao xs) (hn : xs.length = n) (g0 : (n : Int) ≤ 9223372036854775807) (hzx : WfC xs) (hds : data.size ≤ 1048576) (h1 : (n : Int) + (tot xs : Int) ≤ 1048576) (st2 nx2 fi2 hg2 co2 : Int) (ys : List Ck) (v : Int) (hyn : ys.length ≤ 1048576)
    (Hs : ∀ (ao : Option Addr) (ca : Nat) (w : World) (_ : ReadC w ao xs), Calls Try.prog 34 #[.agg #[.int .i64 st, .int .i64 nx, .slice ao xs.length ca, .int .i64 fi, .int .i64 hg, .int .i64 co], .int .i64 off, .string data, .bool fin] w (RecvRes st2 nx2 fi2 hg2 co2 ys (.int .i64 v) w))
    (Hi : ∀ (ao : Option Addr) (ca : Nat) (w : World) (_ : ReadC w ao xs), Calls Try.prog 35 #[.agg #[.int .i64 st, .int .i64 nx, .slice ao xs.length ca, .int .i64 fi, .int .i64 hg, .int .i64 co], .int .i64 off, .string data, .bool fin] w (RecvRes st2 nx2 fi2 hg2 co2 ys (.int .i64 v) w)) :
    Calls Try.prog 10 #[.agg #[.int .i64 st, .int .i64 nx, .slice ao n ca, .int .i64 fi, .int .i64 hg, .int .i64 co], .int .i64 off, .string data, .bool fin] w fun en w' => en = .returned (.bool true) ∧ Ext w w' := by
  have hn' := hide hn
  have hx' := hide hx
  have hzx' := hide hzx
  clear hn hx hzx
  have hxn : xs.length ≤ 1048576 := by rw [hn'.out]; omega
  have hneg1 : decide (1 + 2 * (xs.length : Int) < 0) = false := by simp; omega
  have hneg2 : decide (1 + 2 * (ys.length : Int) < 0) = false := by simp; omega
  have s1 : (if (1048576 : Int) < (n : Int) + (tot xs : Int) then (-1 : Int) else (1048576 : Int) - n - (tot xs : Int)) = (1048576 : Int) - n - (tot xs : Int) := if_neg (by omega)
  have s3 : decide ((1048576 : Int) - n - (tot xs : Int) < 0) = false := by simp; omega
  have s0 : decide ((1048576 : Int) < (data.size : Int)) = false := by simp; omega
  go_enter Try.func10, Try.ntmps10
  go_wp2_with fail
  refine (szReceiver_any st nx fi hg co ao n ca xs _ _ ?_ hn'.out g0 (by omega) (by omega) (fun c hc => (hzx'.out c hc).1)).mono ?_
  · exact hx'.out.ext (by repeat (first | with_reducible exact Ext.refl _ | with_reducible assumption | with_reducible refine Ext.alloc ?_ _ | with_reducible refine Ext.drew ?_ | with_reducible refine Ext.drewN ?_ _ | ((with_reducible refine Ext.set ?_ ?_ _); (focus (first | (simp; done) | (simp; omega)))) | with_reducible refine Ext.trans ?_ (by assumption)))
  rintro en w1 ⟨rfl, hw1⟩
  have zw1 : w.heap.size + 1 ≤ w1.heap.size := by have := hw1.size; (try simp at this); omega
  have kw1_0 := hw1.more (k := w.heap.size) (by first | assumption | (simp; done) | (simp; omega) | omega)
  obtain ⟨cw1_0, fw1_0⟩ := hw1.row (k := w.heap.size) (by first | assumption | (simp; done) | (simp; omega) | omega)
  have xw1 : Ext w w1 := (by repeat (first | with_reducible exact Ext.refl _ | with_reducible assumption | with_reducible refine Ext.alloc ?_ _ | with_reducible refine Ext.drew ?_ | ((with_reducible refine Ext.set ?_ ?_ _); (focus (first | (simp; done) | (simp; omega) | omega))) | with_reducible refine Ext.trans ?_ hw1))
  rw [s1]
  go_wp2_with fail
  refine (toReceiver_any st nx fi hg co ao n ca xs _ ?_ hn'.out (by omega)).mono ?_
  · exact hx'.out.ext xw1
  rintro en w2 ⟨aoT, capT, rfl, ownT, hw2⟩
  have zw2 : w1.heap.size ≤ w2.heap.size := by have := hw2.size; (try simp at this); omega
  have kw2_0 := hw2.more (k := w.heap.size) (by first | assumption | (simp; done) | (simp; omega) | omega)
  obtain ⟨cw2_0, fw2_0⟩ := hw2.row (k := w.heap.size) (by first | assumption | (simp; done) | (simp; omega) | omega)
  have xw2 : Ext w w2 := (by repeat (first | with_reducible exact Ext.refl _ | with_reducible assumption | with_reducible refine Ext.alloc ?_ _ | with_reducible refine Ext.drew ?_ | ((with_reducible refine Ext.set ?_ ?_ _); (focus (first | (simp; done) | (simp; omega) | omega))) | with_reducible exact xw1 | with_reducible refine Ext.trans ?_ hw2))
  have oT_w2 := hide (OwnC.mono (lo' := w1.heap.size) (hi' := w2.heap.size) ownT (by first | (simp; done) | (simp; omega) | omega) (Nat.le_refl _))
  clear ownT
  go_wp2_with fail
  refine (Hs _ _ _ (oT_w2.out.read.ext (by repeat (first | with_reducible exact Ext.refl _ | with_reducible assumption | with_reducible refine Ext.alloc ?_ _ | with_reducible refine Ext.drew ?_ | ((with_reducible refine Ext.set ?_ ?_ _); (focus (first | (simp; done) | (simp; omega) | omega))) | with_reducible refine Ext.trans ?_ hw2)))).mono ?_
  rintro en w3 ⟨aoW, capW, rfl, ownW, hw3⟩
  have zw3 : w2.heap.size ≤ w3.heap.size := by have := hw3.size; (try simp at this); omega
  have kw3_0 := hw3.more (k := w.heap.size) (by first | assumption | (simp; done) | (simp; omega) | omega)
  obtain ⟨cw3_0, fw3_0⟩ := hw3.row (k := w.heap.size) (by first | assumption | (simp; done) | (simp; omega) | omega)
  have oT_w3 : Hid (OwnC w1.heap.size w2.heap.size w3 aoT xs) := hide (OwnC.chg (S := fun _ => False) oT_w2.out (by repeat (first | with_reducible exact Chg.refl _ _ | with_reducible assumption | with_reducible refine Chg.alloc ?_ _ | with_reducible refine Chg.drew ?_ | ((with_reducible refine Chg.set ?_ ?_ _); (focus (first | (right; simp; done) | (right; simp; omega) | (right; omega)))) | with_reducible refine Chg.trans ?_ (Ext.chg hw3 _))) (fun _ _ _ h => h))
  have xw3 : Ext w w3 := (by repeat (first | with_reducible exact Ext.refl _ | with_reducible assumption | with_reducible refine Ext.alloc ?_ _ | with_reducible refine Ext.drew ?_ | ((with_reducible refine Ext.set ?_ ?_ _); (focus (first | (simp; done) | (simp; omega) | omega))) | with_reducible exact xw2 | with_reducible refine Ext.trans ?_ hw3))
  have oW_w3 := hide (OwnC.mono (lo' := w2.heap.size) (hi' := w3.heap.size) ownW (by first | (simp; done) | (simp; omega) | omega) (Nat.le_refl _))
  clear ownW
  go_wp2_with fail
  refine (toReceiver_any st nx fi hg co ao n ca xs _ ?_ hn'.out (by omega)).mono ?_
  · exact hx'.out.ext (Ext.trans xw3 (by repeat (first | with_reducible exact Ext.refl _ | with_reducible assumption | with_reducible refine Ext.alloc ?_ _ | with_reducible refine Ext.drew ?_ | ((with_reducible refine Ext.set ?_ ?_ _); (focus (first | (simp; done) | (simp; omega) | omega))) | with_reducible refine Ext.trans ?_ hw3)))
  rintro en w4 ⟨aoX, capX, rfl, ownX, hw4⟩
  have zw4 : w3.heap.size + 1 ≤ w4.heap.size := by have := hw4.size; (try simp at this); omega
  have kw4_0 := hw4.more (k := w.heap.size) (by first | assumption | (simp; done) | (simp; omega) | omega)
  obtain ⟨cw4_0, fw4_0⟩ := hw4.row (k := w.heap.size) (by first | assumption | (simp; done) | (simp; omega) | omega)
  have kw4_1 := hw4.more (k := w3.heap.size) (by first | assumption | (simp; done) | (simp; omega) | omega)
  obtain ⟨cw4_1, fw4_1⟩ := hw4.row (k := w3.heap.size) (by first | assumption | (simp; done) | (simp; omega) | omega)
  have oT_w4 : Hid (OwnC w1.heap.size w2.heap.size w4 aoT xs) := hide (OwnC.chg (S := fun _ => False) oT_w3.out (by repeat (first | with_reducible exact Chg.refl _ _ | with_reducible assumption | with_reducible refine Chg.alloc ?_ _ | with_reducible refine Chg.drew ?_ | ((with_reducible refine Chg.set ?_ ?_ _); (focus (first | (right; simp; done) | (right; simp; omega) | (right; omega)))) | with_reducible refine Chg.trans ?_ (Ext.chg hw4 _))) (fun _ _ _ h => h))
  have oW_w4 : Hid (OwnC w2.heap.size w3.heap.size w4 aoW ys) := hide (OwnC.chg (S := fun _ => False) oW_w3.out (by repeat (first | with_reducible exact Chg.refl _ _ | with_reducible assumption | with_reducible refine Chg.alloc ?_ _ | with_reducible refine Chg.drew ?_ | ((with_reducible refine Chg.set ?_ ?_ _); (focus (first | (right; simp; done) | (right; simp; omega) | (right; omega)))) | with_reducible refine Chg.trans ?_ (Ext.chg hw4 _))) (fun _ _ _ h => h))
  have xw4 : Ext w w4 := (by repeat (first | with_reducible exact Ext.refl _ | with_reducible assumption | with_reducible refine Ext.alloc ?_ _ | with_reducible refine Ext.drew ?_ | ((with_reducible refine Ext.set ?_ ?_ _); (focus (first | (simp; done) | (simp; omega) | omega))) | with_reducible exact xw3 | with_reducible refine Ext.trans ?_ hw4))
  have oX_w4 := hide (OwnC.mono (lo' := w3.heap.size + 1) (hi' := w4.heap.size) ownX (by first | (simp; done) | (simp; omega) | omega) (Nat.le_refl _))
  clear ownX
  go_wp2_with fail
  refine (Hi _ _ _ (oX_w4.out.read.ext (by repeat (first | with_reducible exact Ext.refl _ | with_reducible assumption | with_reducible refine Ext.alloc ?_ _ | with_reducible refine Ext.drew ?_ | ((with_reducible refine Ext.set ?_ ?_ _); (focus (first | (simp; done) | (simp; omega) | omega))) | with_reducible refine Ext.trans ?_ hw4)))).mono ?_
  rintro en w5 ⟨aoG, capG, rfl, ownG, hw5⟩
  have zw5 : w4.heap.size + 1 ≤ w5.heap.size := by have := hw5.size; (try simp at this); omega
  have kw5_0 := hw5.more (k := w.heap.size) (by first | assumption | (simp; done) | (simp; omega) | omega)
  obtain ⟨cw5_0, fw5_0⟩ := hw5.row (k := w.heap.size) (by first | assumption | (simp; done) | (simp; omega) | omega)
  have kw5_1 := hw5.more (k := w3.heap.size) (by first | assumption | (simp; done) | (simp; omega) | omega)
  obtain ⟨cw5_1, fw5_1⟩ := hw5.row (k := w3.heap.size) (by first | assumption | (simp; done) | (simp; omega) | omega)
  have kw5_2 := hw5.more (k := w4.heap.size) (by first | assumption | (simp; done) | (simp; omega) | omega)
  obtain ⟨cw5_2, fw5_2⟩ := hw5.row (k := w4.heap.size) (by first | assumption | (simp; done) | (simp; omega) | omega)
  have oT_w5 : Hid (OwnC w1.heap.size w2.heap.size w5 aoT xs) := hide (OwnC.chg (S := fun _ => False) oT_w4.out (by repeat (first | with_reducible exact Chg.refl _ _ | with_reducible assumption | with_reducible refine Chg.alloc ?_ _ | with_reducible refine Chg.drew ?_ | ((with_reducible refine Chg.set ?_ ?_ _); (focus (first | (right; simp; done) | (right; simp; omega) | (right; omega)))) | with_reducible refine Chg.trans ?_ (Ext.chg hw5 _))) (fun _ _ _ h => h))
  have oW_w5 : Hid (OwnC w2.heap.size w3.heap.size w5 aoW ys) := hide (OwnC.chg (S := fun _ => False) oW_w4.out (by repeat (first | with_reducible exact Chg.refl _ _ | with_reducible assumption | with_reducible refine Chg.alloc ?_ _ | with_reducible refine Chg.drew ?_ | ((with_reducible refine Chg.set ?_ ?_ _); (focus (first | (right; simp; done) | (right; simp; omega) | (right; omega)))) | with_reducible refine Chg.trans ?_ (Ext.chg hw5 _))) (fun _ _ _ h => h))
  have oX_w5 : Hid (OwnC (w3.heap.size + 1) w4.heap.size w5 aoX xs) := hide (OwnC.chg (S := fun _ => False) oX_w4.out (by repeat (first | with_reducible exact Chg.refl _ _ | with_reducible assumption | with_reducible refine Chg.alloc ?_ _ | with_reducible refine Chg.drew ?_ | ((with_reducible refine Chg.set ?_ ?_ _); (focus (first | (right; simp; done) | (right; simp; omega) | (right; omega)))) | with_reducible refine Chg.trans ?_ (Ext.chg hw5 _))) (fun _ _ _ h => h))
  have xw5 : Ext w w5 := (by repeat (first | with_reducible exact Ext.refl _ | with_reducible assumption | with_reducible refine Ext.alloc ?_ _ | with_reducible refine Ext.drew ?_ | ((with_reducible refine Ext.set ?_ ?_ _); (focus (first | (simp; done) | (simp; omega) | omega))) | with_reducible exact xw4 | with_reducible refine Ext.trans ?_ hw5))
  have oG_w5 := hide (OwnC.mono (lo' := w4.heap.size + 1) (hi' := w5.heap.size) ownG (by first | (simp; done) | (simp; omega) | omega) (Nat.le_refl _))
  clear ownG
  go_wp2_with fail
  refine (eqReceiver_any st2 nx2 fi2 hg2 co2 aoG aoW ys.length ys.length capG capW ys ys _ (oG_w5.out.read.ext (by repeat (first | with_reducible exact Ext.refl _ | with_reducible assumption | with_reducible refine Ext.alloc ?_ _ | with_reducible refine Ext.drew ?_ | ((with_reducible refine Ext.set ?_ ?_ _); (focus (first | (simp; done) | (simp; omega) | omega))) | with_reducible refine Ext.trans ?_ hw5))) (oW_w5.out.read.ext (by repeat (first | with_reducible exact Ext.refl _ | with_reducible assumption | with_reducible refine Ext.alloc ?_ _ | with_reducible refine Ext.drew ?_ | ((with_reducible refine Ext.set ?_ ?_ _); (focus (first | (simp; done) | (simp; omega) | omega))) | with_reducible refine Ext.trans ?_ hw5))) rfl rfl (by omega)).mono ?_
  rintro en w6 ⟨rfl, hw6⟩
  have zw6 : w5.heap.size + 1 ≤ w6.heap.size := by have := hw6.size; (try simp at this); omega
  have kw6_0 := hw6.more (k := w.heap.size) (by first | assumption | (simp; done) | (simp; omega) | omega)
  obtain ⟨cw6_0, fw6_0⟩ := hw6.row (k := w.heap.size) (by first | assumption | (simp; done) | (simp; omega) | omega)
  have kw6_1 := hw6.more (k := w3.heap.size) (by first | assumption | (simp; done) | (simp; omega) | omega)
  obtain ⟨cw6_1, fw6_1⟩ := hw6.row (k := w3.heap.size) (by first | assumption | (simp; done) | (simp; omega) | omega)
  have kw6_2 := hw6.more (k := w4.heap.size) (by first | assumption | (simp; done) | (simp; omega) | omega)
  obtain ⟨cw6_2, fw6_2⟩ := hw6.row (k := w4.heap.size) (by first | assumption | (simp; done) | (simp; omega) | omega)
  have kw6_3 := hw6.more (k := w5.heap.size) (by first | assumption | (simp; done) | (simp; omega) | omega)
  obtain ⟨cw6_3, fw6_3⟩ := hw6.row (k := w5.heap.size) (by first | assumption | (simp; done) | (simp; omega) | omega)
  have oT_w6 : Hid (OwnC w1.heap.size w2.heap.size w6 aoT xs) := hide (OwnC.chg (S := fun _ => False) oT_w5.out (by repeat (first | with_reducible exact Chg.refl _ _ | with_reducible assumption | with_reducible refine Chg.alloc ?_ _ | with_reducible refine Chg.drew ?_ | ((with_reducible refine Chg.set ?_ ?_ _); (focus (first | (right; simp; done) | (right; simp; omega) | (right; omega)))) | with_reducible refine Chg.trans ?_ (Ext.chg hw6 _))) (fun _ _ _ h => h))
  have oW_w6 : Hid (OwnC w2.heap.size w3.heap.size w6 aoW ys) := hide (OwnC.chg (S := fun _ => False) oW_w5.out (by repeat (first | with_reducible exact Chg.refl _ _ | with_reducible assumption | with_reducible refine Chg.alloc ?_ _ | with_reducible refine Chg.drew ?_ | ((with_reducible refine Chg.set ?_ ?_ _); (focus (first | (right; simp; done) | (right; simp; omega) | (right; omega)))) | with_reducible refine Chg.trans ?_ (Ext.chg hw6 _))) (fun _ _ _ h => h))
  have oX_w6 : Hid (OwnC (w3.heap.size + 1) w4.heap.size w6 aoX xs) := hide (OwnC.chg (S := fun _ => False) oX_w5.out (by repeat (first | with_reducible exact Chg.refl _ _ | with_reducible assumption | with_reducible refine Chg.alloc ?_ _ | with_reducible refine Chg.drew ?_ | ((with_reducible refine Chg.set ?_ ?_ _); (focus (first | (right; simp; done) | (right; simp; omega) | (right; omega)))) | with_reducible refine Chg.trans ?_ (Ext.chg hw6 _))) (fun _ _ _ h => h))
  have oG_w6 : Hid (OwnC (w4.heap.size + 1) w5.heap.size w6 aoG ys) := hide (OwnC.chg (S := fun _ => False) oG_w5.out (by repeat (first | with_reducible exact Chg.refl _ _ | with_reducible assumption | with_reducible refine Chg.alloc ?_ _ | with_reducible refine Chg.drew ?_ | ((with_reducible refine Chg.set ?_ ?_ _); (focus (first | (right; simp; done) | (right; simp; omega) | (right; omega)))) | with_reducible refine Chg.trans ?_ (Ext.chg hw6 _))) (fun _ _ _ h => h))
  have xw6 : Ext w w6 := (by repeat (first | with_reducible exact Ext.refl _ | with_reducible assumption | with_reducible refine Ext.alloc ?_ _ | with_reducible refine Ext.drew ?_ | ((with_reducible refine Ext.set ?_ ?_ _); (focus (first | (simp; done) | (simp; omega) | omega))) | with_reducible exact xw5 | with_reducible refine Ext.trans ?_ hw6))
  rw [decide_eq_true (rfl : ys = ys)]
  go_wp2_with fail
  refine wp_region_lines [Line.is (.agg #[.int .i64 st, .int .i64 nx, .slice aoX xs.length capX, .int .i64 fi, .int .i64 hg, .int .i64 co]), Line.is (.agg #[.int .i64 st, .int .i64 nx, .slice ao n ca, .int .i64 fi, .int .i64 hg, .int .i64 co]), recvL st nx fi hg co xs, Line.is (.bool true), Line.is (.bool false)] [56, 57, 58, 59, 60] (by kernel_rfl) (by kernel_rfl) (by kernel_rfl) (by kernel_rfl) (by kernel_rfl) ?_ ?_
  · refine Each.cons ?_ (Each.cons ?_ (Each.cons ?_ (Each.cons ?_ (Each.cons ?_ (Each.nil)))))
    · intro g ws hws hl
      have hxs : Ext w ws := xw6.drew.trans hws
      simp only [fillAt, List.foldl_cons, List.foldl_nil, Act.put, List.setIfInBounds_toArray, List.set_cons_zero, List.set_cons_succ]
      obtain ⟨q0, p0⟩ := hws.row (k := w4.heap.size) (by first | assumption | (simp; done) | (simp; omega) | omega)
      obtain ⟨q1, p1⟩ := hws.row (k := w.heap.size) (by first | assumption | (simp; done) | (simp; omega) | omega)
      refine Stays.plain ?_ (by rfl) ?_ ?_
      rotate_left
      · go_simp
        try with_reducible rfl
      · exact rfl
    · intro g ws hws hl
      have hxs : Ext w ws := xw6.drew.trans hws
      simp only [fillAt, List.foldl_cons, List.foldl_nil, Act.put, List.setIfInBounds_toArray, List.set_cons_zero, List.set_cons_succ]
      obtain ⟨q0, p0⟩ := hws.row (k := w4.heap.size) (by first | assumption | (simp; done) | (simp; omega) | omega)
      obtain ⟨q1, p1⟩ := hws.row (k := w.heap.size) (by first | assumption | (simp; done) | (simp; omega) | omega)
      refine Stays.plain ?_ (by rfl) ?_ ?_
      rotate_left
      · go_simp
        try with_reducible rfl
      · exact rfl
    · intro g ws hws hl
      have hxs : Ext w ws := xw6.drew.trans hws
      have ln1 : g 57 = _ := (show (Line.is (.agg #[.int .i64 st, .int .i64 nx, .slice ao n ca, .int .i64 fi, .int .i64 hg, .int .i64 co])).p (g 57) ws from linesOf_get 1 hl (by kernel_rfl))
      simp only [fillAt, List.foldl_cons, List.foldl_nil, Act.put, List.setIfInBounds_toArray, List.set_cons_zero, List.set_cons_succ, ln1]
      refine Stays.call 22 ?_ (by rfl) ?_ ?_
      rotate_left
      · go_simp
        try with_reducible rfl
      · refine (toReceiver_any st nx fi hg co ao n ca xs _ ?_ hn'.out (by omega)).mono ?_
        · exact hx'.out.ext hxs
        · rintro en w3 ⟨ao3, cap3, rfl, ho3, hb3⟩
          exact ⟨_, rfl, hb3, recvL_mk ho3.read⟩
    · intro g ws hws hl
      have hxs : Ext w ws := xw6.drew.trans hws
      have ln0 : g 56 = _ := (show (Line.is (.agg #[.int .i64 st, .int .i64 nx, .slice aoX xs.length capX, .int .i64 fi, .int .i64 hg, .int .i64 co])).p (g 56) ws from linesOf_get 0 hl (by kernel_rfl))
      obtain ⟨aoC, capC, ln2, hC⟩ := recvL_get (show (recvL st nx fi hg co xs).p (g 58) ws from linesOf_get 2 hl (by kernel_rfl))
      simp only [fillAt, List.foldl_cons, List.foldl_nil, Act.put, List.setIfInBounds_toArray, List.set_cons_zero, List.set_cons_succ, ln0, ln2]
      refine Stays.call 17 ?_ (by rfl) ?_ ?_
      rotate_left
      · go_simp
        try with_reducible rfl
      · refine (eqReceiver_any st nx fi hg co aoX aoC xs.length xs.length _ capC xs xs _ (oX_w6.out.read.ext (by repeat (first | with_reducible exact Ext.refl _ | with_reducible assumption | with_reducible refine Ext.alloc ?_ _ | with_reducible refine Ext.drew ?_ | ((with_reducible refine Ext.set ?_ ?_ _); (focus (first | (simp; done) | (simp; omega) | omega))) | with_reducible refine Ext.trans ?_ hws | with_reducible refine Ext.trans ?_ hw6))) hC rfl rfl (by rw [hn'.out]; omega)).mono ?_
        rintro en w9 ⟨rfl, hb9⟩
        exact ⟨_, rfl, hb9, (show _ = _ by simp)⟩
    · intro g ws hws hl
      have hxs : Ext w ws := xw6.drew.trans hws
      have ln3 : g 59 = _ := (show (Line.is (.bool true)).p (g 59) ws from linesOf_get 3 hl (by kernel_rfl))
      simp only [fillAt, List.foldl_cons, List.foldl_nil, Act.put, List.setIfInBounds_toArray, List.set_cons_zero, List.set_cons_succ, ln3]
      refine Stays.plain ?_ (by rfl) ?_ ?_
      rotate_left
      · go_simp
        try with_reducible rfl
      · exact rfl
  · intro g w7 hw7 hl
    have xw7 : Ext w w7 := xw6.drew.trans hw7
    have ln0 : g 56 = _ := (show (Line.is (.agg #[.int .i64 st, .int .i64 nx, .slice aoX xs.length capX, .int .i64 fi, .int .i64 hg, .int .i64 co])).p (g 56) w7 from (allLines_get 56 0 0 hl rfl))
    have ln1 : g 57 = _ := (show (Line.is (.agg #[.int .i64 st, .int .i64 nx, .slice ao n ca, .int .i64 fi, .int .i64 hg, .int .i64 co])).p (g 57) w7 from (allLines_get 57 1 0 hl rfl))
    obtain ⟨aoC, capC, ln2, hC⟩ := recvL_get (show (recvL st nx fi hg co xs).p (g 58) w7 from (allLines_get 58 2 0 hl rfl))
    have ln3 : g 59 = _ := (show (Line.is (.bool true)).p (g 59) w7 from (allLines_get 59 3 0 hl rfl))
    have ln4 : g 60 = _ := (show (Line.is (.bool false)).p (g 60) w7 from (allLines_get 60 4 0 hl rfl))
    clear hl
    simp only [fillAt, List.foldl_cons, List.foldl_nil, Act.put, List.setIfInBounds_toArray, List.set_cons_zero, List.set_cons_succ, ln0, ln1, ln2, ln3, ln4]
    have zw7 : w6.heap.size ≤ w7.heap.size := by have := hw7.size; simpa using this
    have kw7_0 := hw7.more (k := w.heap.size) (by first | assumption | (simp; done) | (simp; omega) | omega)
    obtain ⟨cw7_0, fw7_0⟩ := hw7.row (k := w.heap.size) (by first | assumption | (simp; done) | (simp; omega) | omega)
    have kw7_1 := hw7.more (k := w3.heap.size) (by first | assumption | (simp; done) | (simp; omega) | omega)
    obtain ⟨cw7_1, fw7_1⟩ := hw7.row (k := w3.heap.size) (by first | assumption | (simp; done) | (simp; omega) | omega)
    have kw7_2 := hw7.more (k := w4.heap.size) (by first | assumption | (simp; done) | (simp; omega) | omega)
    obtain ⟨cw7_2, fw7_2⟩ := hw7.row (k := w4.heap.size) (by first | assumption | (simp; done) | (simp; omega) | omega)
    have kw7_3 := hw7.more (k := w5.heap.size) (by first | assumption | (simp; done) | (simp; omega) | omega)
    obtain ⟨cw7_3, fw7_3⟩ := hw7.row (k := w5.heap.size) (by first | assumption | (simp; done) | (simp; omega) | omega)
    have oT_w7 : Hid (OwnC w1.heap.size w2.heap.size w7 aoT xs) := hide (OwnC.chg (S := fun _ => False) oT_w6.out (by repeat (first | with_reducible exact Chg.refl _ _ | with_reducible assumption | with_reducible refine Chg.alloc ?_ _ | with_reducible refine Chg.drew ?_ | ((with_reducible refine Chg.set ?_ ?_ _); (focus (first | (right; simp; done) | (right; simp; omega) | (right; omega)))) | with_reducible refine Chg.trans ?_ (Ext.chg hw7 _))) (fun _ _ _ h => h))
    have oW_w7 : Hid (OwnC w2.heap.size w3.heap.size w7 aoW ys) := hide (OwnC.chg (S := fun _ => False) oW_w6.out (by repeat (first | with_reducible exact Chg.refl _ _ | with_reducible assumption | with_reducible refine Chg.alloc ?_ _ | with_reducible refine Chg.drew ?_ | ((with_reducible refine Chg.set ?_ ?_ _); (focus (first | (right; simp; done) | (right; simp; omega) | (right; omega)))) | with_reducible refine Chg.trans ?_ (Ext.chg hw7 _))) (fun _ _ _ h => h))
    have oX_w7 : Hid (OwnC (w3.heap.size + 1) w4.heap.size w7 aoX xs) := hide (OwnC.chg (S := fun _ => False) oX_w6.out (by repeat (first | with_reducible exact Chg.refl _ _ | with_reducible assumption | with_reducible refine Chg.alloc ?_ _ | with_reducible refine Chg.drew ?_ | ((with_reducible refine Chg.set ?_ ?_ _); (focus (first | (right; simp; done) | (right; simp; omega) | (right; omega)))) | with_reducible refine Chg.trans ?_ (Ext.chg hw7 _))) (fun _ _ _ h => h))
    have oG_w7 : Hid (OwnC (w4.heap.size + 1) w5.heap.size w7 aoG ys) := hide (OwnC.chg (S := fun _ => False) oG_w6.out (by repeat (first | with_reducible exact Chg.refl _ _ | with_reducible assumption | with_reducible refine Chg.alloc ?_ _ | with_reducible refine Chg.drew ?_ | ((with_reducible refine Chg.set ?_ ?_ _); (focus (first | (right; simp; done) | (right; simp; omega) | (right; omega)))) | with_reducible refine Chg.trans ?_ (Ext.chg hw7 _))) (fun _ _ _ h => h))
    go_wp2_with fail
    refine (receiver_mark (w3.heap.size + 1) w4.heap.size st nx fi hg co aoX xs.length capX xs 1 _ (OwnC.chg (S := fun _ => False) oX_w7.out (by repeat (first | with_reducible exact Chg.refl _ _ | with_reducible assumption | with_reducible refine Chg.alloc ?_ _ | with_reducible refine Chg.drew ?_ | ((with_reducible refine Chg.set ?_ ?_ _); (focus (first | (right; simp; done) | (right; simp; omega) | (right; omega)))))) (fun _ _ _ h => h)) rfl (by omega) (by omega) (by omega)).mono ?_
    rintro en w8 ⟨rfl, omX, hw8⟩
    have zw8 : w7.heap.size ≤ w8.heap.size := by have := hw8.size; (try simp at this); omega
    have kw8_0 := hw8.more (k := w.heap.size) (by first | assumption | (simp; done) | (simp; omega) | omega)
    obtain ⟨cw8_0, fw8_0⟩ := hw8.row (k := w.heap.size) (by first | assumption | (simp; done) | (simp; omega) | omega) (by omega)
    have kw8_1 := hw8.more (k := w3.heap.size) (by first | assumption | (simp; done) | (simp; omega) | omega)
    obtain ⟨cw8_1, fw8_1⟩ := hw8.row (k := w3.heap.size) (by first | assumption | (simp; done) | (simp; omega) | omega) (by omega)
    have kw8_2 := hw8.more (k := w4.heap.size) (by first | assumption | (simp; done) | (simp; omega) | omega)
    obtain ⟨cw8_2, fw8_2⟩ := hw8.row (k := w4.heap.size) (by first | assumption | (simp; done) | (simp; omega) | omega) (by omega)
    have kw8_3 := hw8.more (k := w5.heap.size) (by first | assumption | (simp; done) | (simp; omega) | omega)
    obtain ⟨cw8_3, fw8_3⟩ := hw8.row (k := w5.heap.size) (by first | assumption | (simp; done) | (simp; omega) | omega) (by omega)
    have oT_w8 : Hid (OwnC w1.heap.size w2.heap.size w8 aoT xs) := hide (OwnC.chg (S := fun k => w3.heap.size + 1 ≤ k ∧ k < w4.heap.size) oT_w7.out (by repeat (first | with_reducible exact Chg.refl _ _ | with_reducible assumption | with_reducible refine Chg.alloc ?_ _ | with_reducible refine Chg.drew ?_ | ((with_reducible refine Chg.set ?_ ?_ _); (focus (first | (right; simp; done) | (right; simp; omega) | (right; omega)))) | with_reducible refine Chg.trans ?_ hw8)) (fun b h1 h2 h3 => by omega))
    have oW_w8 : Hid (OwnC w2.heap.size w3.heap.size w8 aoW ys) := hide (OwnC.chg (S := fun k => w3.heap.size + 1 ≤ k ∧ k < w4.heap.size) oW_w7.out (by repeat (first | with_reducible exact Chg.refl _ _ | with_reducible assumption | with_reducible refine Chg.alloc ?_ _ | with_reducible refine Chg.drew ?_ | ((with_reducible refine Chg.set ?_ ?_ _); (focus (first | (right; simp; done) | (right; simp; omega) | (right; omega)))) | with_reducible refine Chg.trans ?_ hw8)) (fun b h1 h2 h3 => by omega))
    have oG_w8 : Hid (OwnC (w4.heap.size + 1) w5.heap.size w8 aoG ys) := hide (OwnC.chg (S := fun k => w3.heap.size + 1 ≤ k ∧ k < w4.heap.size) oG_w7.out (by repeat (first | with_reducible exact Chg.refl _ _ | with_reducible assumption | with_reducible refine Chg.alloc ?_ _ | with_reducible refine Chg.drew ?_ | ((with_reducible refine Chg.set ?_ ?_ _); (focus (first | (right; simp; done) | (right; simp; omega) | (right; omega)))) | with_reducible refine Chg.trans ?_ hw8)) (fun b h1 h2 h3 => by omega))
    have xw8 : Ext w w8 := (Chg.trans (Ext.chg (S := fun k => w3.heap.size + 1 ≤ k ∧ k < w4.heap.size) (a := w) (by repeat (first | with_reducible assumption | with_reducible refine Ext.alloc ?_ _ | with_reducible refine Ext.drew ?_ | ((with_reducible refine Ext.set ?_ ?_ _); (focus (first | (simp; done) | (simp; omega) | omega)))))) hw8).ext (fun k hk h => by omega)
    have oX_mw8 := hide omX
    clear omX
    go_wp2_with fail
    refine (eqReceiver_any st2 nx2 fi2 hg2 co2 aoG aoW ys.length ys.length capG capW ys ys _ (oG_w8.out.read.ext (by repeat (first | with_reducible exact Ext.refl _ | with_reducible assumption | with_reducible refine Ext.alloc ?_ _ | with_reducible refine Ext.drew ?_ | ((with_reducible refine Ext.set ?_ ?_ _); (focus (first | (simp; done) | (simp; omega) | omega))) | with_reducible refine Ext.trans ?_ hw7))) (oW_w8.out.read.ext (by repeat (first | with_reducible exact Ext.refl _ | with_reducible assumption | with_reducible refine Ext.alloc ?_ _ | with_reducible refine Ext.drew ?_ | ((with_reducible refine Ext.set ?_ ?_ _); (focus (first | (simp; done) | (simp; omega) | omega))) | with_reducible refine Ext.trans ?_ hw7))) rfl rfl (by omega)).mono ?_
    rintro en w9 ⟨rfl, hw9⟩
    have zw9 : w8.heap.size ≤ w9.heap.size := by have := hw9.size; (try simp at this); omega
    have kw9_0 := hw9.more (k := w.heap.size) (by first | assumption | (simp; done) | (simp; omega) | omega)
    obtain ⟨cw9_0, fw9_0⟩ := hw9.row (k := w.heap.size) (by first | assumption | (simp; done) | (simp; omega) | omega)
    have kw9_1 := hw9.more (k := w3.heap.size) (by first | assumption | (simp; done) | (simp; omega) | omega)
    obtain ⟨cw9_1, fw9_1⟩ := hw9.row (k := w3.heap.size) (by first | assumption | (simp; done) | (simp; omega) | omega)
    have kw9_2 := hw9.more (k := w4.heap.size) (by first | assumption | (simp; done) | (simp; omega) | omega)
    obtain ⟨cw9_2, fw9_2⟩ := hw9.row (k := w4.heap.size) (by first | assumption | (simp; done) | (simp; omega) | omega)
    have kw9_3 := hw9.more (k := w5.heap.size) (by first | assumption | (simp; done) | (simp; omega) | omega)
    obtain ⟨cw9_3, fw9_3⟩ := hw9.row (k := w5.heap.size) (by first | assumption | (simp; done) | (simp; omega) | omega)
    have oT_w9 : Hid (OwnC w1.heap.size w2.heap.size w9 aoT xs) := hide (OwnC.chg (S := fun _ => False) oT_w8.out (by repeat (first | with_reducible exact Chg.refl _ _ | with_reducible assumption | with_reducible refine Chg.alloc ?_ _ | with_reducible refine Chg.drew ?_ | ((with_reducible refine Chg.set ?_ ?_ _); (focus (first | (right; simp; done) | (right; simp; omega) | (right; omega)))) | with_reducible refine Chg.trans ?_ (Ext.chg hw9 _))) (fun _ _ _ h => h))
    have oW_w9 : Hid (OwnC w2.heap.size w3.heap.size w9 aoW ys) := hide (OwnC.chg (S := fun _ => False) oW_w8.out (by repeat (first | with_reducible exact Chg.refl _ _ | with_reducible assumption | with_reducible refine Chg.alloc ?_ _ | with_reducible refine Chg.drew ?_ | ((with_reducible refine Chg.set ?_ ?_ _); (focus (first | (right; simp; done) | (right; simp; omega) | (right; omega)))) | with_reducible refine Chg.trans ?_ (Ext.chg hw9 _))) (fun _ _ _ h => h))
    have oX_w9 : Hid (OwnC (w3.heap.size + 1) w4.heap.size w9 aoX (marksC 1 xs.length)) := hide (OwnC.chg (S := fun _ => False) oX_mw8.out (by repeat (first | with_reducible exact Chg.refl _ _ | with_reducible assumption | with_reducible refine Chg.alloc ?_ _ | with_reducible refine Chg.drew ?_ | ((with_reducible refine Chg.set ?_ ?_ _); (focus (first | (right; simp; done) | (right; simp; omega) | (right; omega)))) | with_reducible refine Chg.trans ?_ (Ext.chg hw9 _))) (fun _ _ _ h => h))
    have oG_w9 : Hid (OwnC (w4.heap.size + 1) w5.heap.size w9 aoG ys) := hide (OwnC.chg (S := fun _ => False) oG_w8.out (by repeat (first | with_reducible exact Chg.refl _ _ | with_reducible assumption | with_reducible refine Chg.alloc ?_ _ | with_reducible refine Chg.drew ?_ | ((with_reducible refine Chg.set ?_ ?_ _); (focus (first | (right; simp; done) | (right; simp; omega) | (right; omega)))) | with_reducible refine Chg.trans ?_ (Ext.chg hw9 _))) (fun _ _ _ h => h))
    have xw9 : Ext w w9 := (by repeat (first | with_reducible exact Ext.refl _ | with_reducible assumption | with_reducible refine Ext.alloc ?_ _ | with_reducible refine Ext.drew ?_ | ((with_reducible refine Ext.set ?_ ?_ _); (focus (first | (simp; done) | (simp; omega) | omega))) | with_reducible exact xw8 | with_reducible refine Ext.trans ?_ hw9))
    rw [decide_eq_true (rfl : ys = ys)]
    go_wp2_with fail
    refine (receiver_mark (w4.heap.size + 1) w5.heap.size st2 nx2 fi2 hg2 co2 aoG ys.length capG ys 1 _ (OwnC.chg (S := fun _ => False) oG_w9.out (by repeat (first | with_reducible exact Chg.refl _ _ | with_reducible assumption | with_reducible refine Chg.alloc ?_ _ | with_reducible refine Chg.drew ?_ | ((with_reducible refine Chg.set ?_ ?_ _); (focus (first | (right; simp; done) | (right; simp; omega) | (right; omega)))))) (fun _ _ _ h => h)) rfl (by omega) (by omega) (by omega)).mono ?_
    rintro en w10 ⟨rfl, omG, hw10⟩
    have zw10 : w9.heap.size ≤ w10.heap.size := by have := hw10.size; (try simp at this); omega
    have kw10_0 := hw10.more (k := w.heap.size) (by first | assumption | (simp; done) | (simp; omega) | omega)
    obtain ⟨cw10_0, fw10_0⟩ := hw10.row (k := w.heap.size) (by first | assumption | (simp; done) | (simp; omega) | omega) (by omega)
    have kw10_1 := hw10.more (k := w3.heap.size) (by first | assumption | (simp; done) | (simp; omega) | omega)
    obtain ⟨cw10_1, fw10_1⟩ := hw10.row (k := w3.heap.size) (by first | assumption | (simp; done) | (simp; omega) | omega) (by omega)
    have kw10_2 := hw10.more (k := w4.heap.size) (by first | assumption | (simp; done) | (simp; omega) | omega)
    obtain ⟨cw10_2, fw10_2⟩ := hw10.row (k := w4.heap.size) (by first | assumption | (simp; done) | (simp; omega) | omega) (by omega)
    have kw10_3 := hw10.more (k := w5.heap.size) (by first | assumption | (simp; done) | (simp; omega) | omega)
    obtain ⟨cw10_3, fw10_3⟩ := hw10.row (k := w5.heap.size) (by first | assumption | (simp; done) | (simp; omega) | omega) (by omega)
    have oT_w10 : Hid (OwnC w1.heap.size w2.heap.size w10 aoT xs) := hide (OwnC.chg (S := fun k => w4.heap.size + 1 ≤ k ∧ k < w5.heap.size) oT_w9.out (by repeat (first | with_reducible exact Chg.refl _ _ | with_reducible assumption | with_reducible refine Chg.alloc ?_ _ | with_reducible refine Chg.drew ?_ | ((with_reducible refine Chg.set ?_ ?_ _); (focus (first | (right; simp; done) | (right; simp; omega) | (right; omega)))) | with_reducible refine Chg.trans ?_ hw10)) (fun b h1 h2 h3 => by omega))
    have oW_w10 : Hid (OwnC w2.heap.size w3.heap.size w10 aoW ys) := hide (OwnC.chg (S := fun k => w4.heap.size + 1 ≤ k ∧ k < w5.heap.size) oW_w9.out (by repeat (first | with_reducible exact Chg.refl _ _ | with_reducible assumption | with_reducible refine Chg.alloc ?_ _ | with_reducible refine Chg.drew ?_ | ((with_reducible refine Chg.set ?_ ?_ _); (focus (first | (right; simp; done) | (right; simp; omega) | (right; omega)))) | with_reducible refine Chg.trans ?_ hw10)) (fun b h1 h2 h3 => by omega))
    have oX_w10 : Hid (OwnC (w3.heap.size + 1) w4.heap.size w10 aoX (marksC 1 xs.length)) := hide (OwnC.chg (S := fun k => w4.heap.size + 1 ≤ k ∧ k < w5.heap.size) oX_w9.out (by repeat (first | with_reducible exact Chg.refl _ _ | with_reducible assumption | with_reducible refine Chg.alloc ?_ _ | with_reducible refine Chg.drew ?_ | ((with_reducible refine Chg.set ?_ ?_ _); (focus (first | (right; simp; done) | (right; simp; omega) | (right; omega)))) | with_reducible refine Chg.trans ?_ hw10)) (fun b h1 h2 h3 => by omega))
    have xw10 : Ext w w10 := (Chg.trans (Ext.chg (S := fun k => w4.heap.size + 1 ≤ k ∧ k < w5.heap.size) (a := w) (by repeat (first | with_reducible assumption | with_reducible refine Ext.alloc ?_ _ | with_reducible refine Ext.drew ?_ | ((with_reducible refine Ext.set ?_ ?_ _); (focus (first | (simp; done) | (simp; omega) | omega)))))) hw10).ext (fun k hk h => by omega)
    have oG_mw10 := hide omG
    clear omG
    go_wp2_with fail
    refine (receiver_held st2 nx2 fi2 hg2 co2 aoG ys.length capG 1 _ (oG_mw10.out.read.ext (by repeat (first | with_reducible exact Ext.refl _ | with_reducible assumption | with_reducible refine Ext.alloc ?_ _ | with_reducible refine Ext.drew ?_ | ((with_reducible refine Ext.set ?_ ?_ _); (focus (first | (simp; done) | (simp; omega) | omega))) | with_reducible refine Ext.trans ?_ hw9))) (by omega) (by omega) (by omega)).mono ?_
    rintro en w11 ⟨rfl, hw11⟩
    have zw11 : w10.heap.size ≤ w11.heap.size := by have := hw11.size; (try simp at this); omega
    have kw11_0 := hw11.more (k := w.heap.size) (by first | assumption | (simp; done) | (simp; omega) | omega)
    obtain ⟨cw11_0, fw11_0⟩ := hw11.row (k := w.heap.size) (by first | assumption | (simp; done) | (simp; omega) | omega)
    have kw11_1 := hw11.more (k := w3.heap.size) (by first | assumption | (simp; done) | (simp; omega) | omega)
    obtain ⟨cw11_1, fw11_1⟩ := hw11.row (k := w3.heap.size) (by first | assumption | (simp; done) | (simp; omega) | omega)
    have kw11_2 := hw11.more (k := w4.heap.size) (by first | assumption | (simp; done) | (simp; omega) | omega)
    obtain ⟨cw11_2, fw11_2⟩ := hw11.row (k := w4.heap.size) (by first | assumption | (simp; done) | (simp; omega) | omega)
    have kw11_3 := hw11.more (k := w5.heap.size) (by first | assumption | (simp; done) | (simp; omega) | omega)
    obtain ⟨cw11_3, fw11_3⟩ := hw11.row (k := w5.heap.size) (by first | assumption | (simp; done) | (simp; omega) | omega)
    have oT_w11 : Hid (OwnC w1.heap.size w2.heap.size w11 aoT xs) := hide (OwnC.chg (S := fun _ => False) oT_w10.out (by repeat (first | with_reducible exact Chg.refl _ _ | with_reducible assumption | with_reducible refine Chg.alloc ?_ _ | with_reducible refine Chg.drew ?_ | ((with_reducible refine Chg.set ?_ ?_ _); (focus (first | (right; simp; done) | (right; simp; omega) | (right; omega)))) | with_reducible refine Chg.trans ?_ (Ext.chg hw11 _))) (fun _ _ _ h => h))
    have oW_w11 : Hid (OwnC w2.heap.size w3.heap.size w11 aoW ys) := hide (OwnC.chg (S := fun _ => False) oW_w10.out (by repeat (first | with_reducible exact Chg.refl _ _ | with_reducible assumption | with_reducible refine Chg.alloc ?_ _ | with_reducible refine Chg.drew ?_ | ((with_reducible refine Chg.set ?_ ?_ _); (focus (first | (right; simp; done) | (right; simp; omega) | (right; omega)))) | with_reducible refine Chg.trans ?_ (Ext.chg hw11 _))) (fun _ _ _ h => h))
    have oX_w11 : Hid (OwnC (w3.heap.size + 1) w4.heap.size w11 aoX (marksC 1 xs.length)) := hide (OwnC.chg (S := fun _ => False) oX_w10.out (by repeat (first | with_reducible exact Chg.refl _ _ | with_reducible assumption | with_reducible refine Chg.alloc ?_ _ | with_reducible refine Chg.drew ?_ | ((with_reducible refine Chg.set ?_ ?_ _); (focus (first | (right; simp; done) | (right; simp; omega) | (right; omega)))) | with_reducible refine Chg.trans ?_ (Ext.chg hw11 _))) (fun _ _ _ h => h))
    have oG_w11 : Hid (OwnC (w4.heap.size + 1) w5.heap.size w11 aoG (marksC 1 ys.length)) := hide (OwnC.chg (S := fun _ => False) oG_mw10.out (by repeat (first | with_reducible exact Chg.refl _ _ | with_reducible assumption | with_reducible refine Chg.alloc ?_ _ | with_reducible refine Chg.drew ?_ | ((with_reducible refine Chg.set ?_ ?_ _); (focus (first | (right; simp; done) | (right; simp; omega) | (right; omega)))) | with_reducible refine Chg.trans ?_ (Ext.chg hw11 _))) (fun _ _ _ h => h))
    have xw11 : Ext w w11 := (by repeat (first | with_reducible exact Ext.refl _ | with_reducible assumption | with_reducible refine Ext.alloc ?_ _ | with_reducible refine Ext.drew ?_ | ((with_reducible refine Ext.set ?_ ?_ _); (focus (first | (simp; done) | (simp; omega) | omega))) | with_reducible exact xw10 | with_reducible refine Ext.trans ?_ hw11))
    go_wp2_with fail
    refine (toReceiver_any st nx fi hg co ao n ca xs _ ?_ hn'.out (by omega)).mono ?_
    · exact hx'.out.ext xw11
    rintro en w12 ⟨aoU, capU, rfl, ownU, hw12⟩
    have zw12 : w11.heap.size ≤ w12.heap.size := by have := hw12.size; (try simp at this); omega
    have kw12_0 := hw12.more (k := w.heap.size) (by first | assumption | (simp; done) | (simp; omega) | omega)
    obtain ⟨cw12_0, fw12_0⟩ := hw12.row (k := w.heap.size) (by first | assumption | (simp; done) | (simp; omega) | omega)
    have kw12_1 := hw12.more (k := w3.heap.size) (by first | assumption | (simp; done) | (simp; omega) | omega)
    obtain ⟨cw12_1, fw12_1⟩ := hw12.row (k := w3.heap.size) (by first | assumption | (simp; done) | (simp; omega) | omega)
    have kw12_2 := hw12.more (k := w4.heap.size) (by first | assumption | (simp; done) | (simp; omega) | omega)
    obtain ⟨cw12_2, fw12_2⟩ := hw12.row (k := w4.heap.size) (by first | assumption | (simp; done) | (simp; omega) | omega)
    have kw12_3 := hw12.more (k := w5.heap.size) (by first | assumption | (simp; done) | (simp; omega) | omega)
    obtain ⟨cw12_3, fw12_3⟩ := hw12.row (k := w5.heap.size) (by first | assumption | (simp; done) | (simp; omega) | omega)
    have oT_w12 : Hid (OwnC w1.heap.size w2.heap.size w12 aoT xs) := hide (OwnC.chg (S := fun _ => False) oT_w11.out (by repeat (first | with_reducible exact Chg.refl _ _ | with_reducible assumption | with_reducible refine Chg.alloc ?_ _ | with_reducible refine Chg.drew ?_ | ((with_reducible refine Chg.set ?_ ?_ _); (focus (first | (right; simp; done) | (right; simp; omega) | (right; omega)))) | with_reducible refine Chg.trans ?_ (Ext.chg hw12 _))) (fun _ _ _ h => h))
    have oW_w12 : Hid (OwnC w2.heap.size w3.heap.size w12 aoW ys) := hide (OwnC.chg (S := fun _ => False) oW_w11.out (by repeat (first | with_reducible exact Chg.refl _ _ | with_reducible assumption | with_reducible refine Chg.alloc ?_ _ | with_reducible refine Chg.drew ?_ | ((with_reducible refine Chg.set ?_ ?_ _); (focus (first | (right; simp; done) | (right; simp; omega) | (right; omega)))) | with_reducible refine Chg.trans ?_ (Ext.chg hw12 _))) (fun _ _ _ h => h))
    have oX_w12 : Hid (OwnC (w3.heap.size + 1) w4.heap.size w12 aoX (marksC 1 xs.length)) := hide (OwnC.chg (S := fun _ => False) oX_w11.out (by repeat (first | with_reducible exact Chg.refl _ _ | with_reducible assumption | with_reducible refine Chg.alloc ?_ _ | with_reducible refine Chg.drew ?_ | ((with_reducible refine Chg.set ?_ ?_ _); (focus (first | (right; simp; done) | (right; simp; omega) | (right; omega)))) | with_reducible refine Chg.trans ?_ (Ext.chg hw12 _))) (fun _ _ _ h => h))
    have oG_w12 : Hid (OwnC (w4.heap.size + 1) w5.heap.size w12 aoG (marksC 1 ys.length)) := hide (OwnC.chg (S := fun _ => False) oG_w11.out (by repeat (first | with_reducible exact Chg.refl _ _ | with_reducible assumption | with_reducible refine Chg.alloc ?_ _ | with_reducible refine Chg.drew ?_ | ((with_reducible refine Chg.set ?_ ?_ _); (focus (first | (right; simp; done) | (right; simp; omega) | (right; omega)))) | with_reducible refine Chg.trans ?_ (Ext.chg hw12 _))) (fun _ _ _ h => h))
    have xw12 : Ext w w12 := (by repeat (first | with_reducible exact Ext.refl _ | with_reducible assumption | with_reducible refine Ext.alloc ?_ _ | with_reducible refine Ext.drew ?_ | ((with_reducible refine Ext.set ?_ ?_ _); (focus (first | (simp; done) | (simp; omega) | omega))) | with_reducible exact xw11 | with_reducible refine Ext.trans ?_ hw12))
    have oU_w12 := hide (OwnC.mono (lo' := w11.heap.size) (hi' := w12.heap.size) ownU (by first | (simp; done) | (simp; omega) | omega) (Nat.le_refl _))
    clear ownU
    go_wp2_with fail
    refine (Hi _ _ _ (oU_w12.out.read.ext (by repeat (first | with_reducible exact Ext.refl _ | with_reducible assumption | with_reducible refine Ext.alloc ?_ _ | with_reducible refine Ext.drew ?_ | ((with_reducible refine Ext.set ?_ ?_ _); (focus (first | (simp; done) | (simp; omega) | omega))) | with_reducible refine Ext.trans ?_ hw12)))).mono ?_
    rintro en w13 ⟨aoH, capH, rfl, ownH, hw13⟩
    have zw13 : w12.heap.size ≤ w13.heap.size := by have := hw13.size; (try simp at this); omega
    have kw13_0 := hw13.more (k := w.heap.size) (by first | assumption | (simp; done) | (simp; omega) | omega)
    obtain ⟨cw13_0, fw13_0⟩ := hw13.row (k := w.heap.size) (by first | assumption | (simp; done) | (simp; omega) | omega)
    have kw13_1 := hw13.more (k := w3.heap.size) (by first | assumption | (simp; done) | (simp; omega) | omega)
    obtain ⟨cw13_1, fw13_1⟩ := hw13.row (k := w3.heap.size) (by first | assumption | (simp; done) | (simp; omega) | omega)
    have kw13_2 := hw13.more (k := w4.heap.size) (by first | assumption | (simp; done) | (simp; omega) | omega)
    obtain ⟨cw13_2, fw13_2⟩ := hw13.row (k := w4.heap.size) (by first | assumption | (simp; done) | (simp; omega) | omega)
    have kw13_3 := hw13.more (k := w5.heap.size) (by first | assumption | (simp; done) | (simp; omega) | omega)
    obtain ⟨cw13_3, fw13_3⟩ := hw13.row (k := w5.heap.size) (by first | assumption | (simp; done) | (simp; omega) | omega)
    have oT_w13 : Hid (OwnC w1.heap.size w2.heap.size w13 aoT xs) := hide (OwnC.chg (S := fun _ => False) oT_w12.out (by repeat (first | with_reducible exact Chg.refl _ _ | with_reducible assumption | with_reducible refine Chg.alloc ?_ _ | with_reducible refine Chg.drew ?_ | ((with_reducible refine Chg.set ?_ ?_ _); (focus (first | (right; simp; done) | (right; simp; omega) | (right; omega)))) | with_reducible refine Chg.trans ?_ (Ext.chg hw13 _))) (fun _ _ _ h => h))
    have oW_w13 : Hid (OwnC w2.heap.size w3.heap.size w13 aoW ys) := hide (OwnC.chg (S := fun _ => False) oW_w12.out (by repeat (first | with_reducible exact Chg.refl _ _ | with_reducible assumption | with_reducible refine Chg.alloc ?_ _ | with_reducible refine Chg.drew ?_ | ((with_reducible refine Chg.set ?_ ?_ _); (focus (first | (right; simp; done) | (right; simp; omega) | (right; omega)))) | with_reducible refine Chg.trans ?_ (Ext.chg hw13 _))) (fun _ _ _ h => h))
    have oX_w13 : Hid (OwnC (w3.heap.size + 1) w4.heap.size w13 aoX (marksC 1 xs.length)) := hide (OwnC.chg (S := fun _ => False) oX_w12.out (by repeat (first | with_reducible exact Chg.refl _ _ | with_reducible assumption | with_reducible refine Chg.alloc ?_ _ | with_reducible refine Chg.drew ?_ | ((with_reducible refine Chg.set ?_ ?_ _); (focus (first | (right; simp; done) | (right; simp; omega) | (right; omega)))) | with_reducible refine Chg.trans ?_ (Ext.chg hw13 _))) (fun _ _ _ h => h))
    have oG_w13 : Hid (OwnC (w4.heap.size + 1) w5.heap.size w13 aoG (marksC 1 ys.length)) := hide (OwnC.chg (S := fun _ => False) oG_w12.out (by repeat (first | with_reducible exact Chg.refl _ _ | with_reducible assumption | with_reducible refine Chg.alloc ?_ _ | with_reducible refine Chg.drew ?_ | ((with_reducible refine Chg.set ?_ ?_ _); (focus (first | (right; simp; done) | (right; simp; omega) | (right; omega)))) | with_reducible refine Chg.trans ?_ (Ext.chg hw13 _))) (fun _ _ _ h => h))
    have oU_w13 : Hid (OwnC w11.heap.size w12.heap.size w13 aoU xs) := hide (OwnC.chg (S := fun _ => False) oU_w12.out (by repeat (first | with_reducible exact Chg.refl _ _ | with_reducible assumption | with_reducible refine Chg.alloc ?_ _ | with_reducible refine Chg.drew ?_ | ((with_reducible refine Chg.set ?_ ?_ _); (focus (first | (right; simp; done) | (right; simp; omega) | (right; omega)))) | with_reducible refine Chg.trans ?_ (Ext.chg hw13 _))) (fun _ _ _ h => h))
    have xw13 : Ext w w13 := (by repeat (first | with_reducible exact Ext.refl _ | with_reducible assumption | with_reducible refine Ext.alloc ?_ _ | with_reducible refine Ext.drew ?_ | ((with_reducible refine Ext.set ?_ ?_ _); (focus (first | (simp; done) | (simp; omega) | omega))) | with_reducible exact xw12 | with_reducible refine Ext.trans ?_ hw13))
    have oH_w13 := hide (OwnC.mono (lo' := w12.heap.size) (hi' := w13.heap.size) ownH (by first | (simp; done) | (simp; omega) | omega) (Nat.le_refl _))
    clear ownH
    go_wp2_with fail
    refine (eqReceiver_any st2 nx2 fi2 hg2 co2 aoH aoW ys.length ys.length capH capW ys ys _ (oH_w13.out.read.ext (by repeat (first | with_reducible exact Ext.refl _ | with_reducible assumption | with_reducible refine Ext.alloc ?_ _ | with_reducible refine Ext.drew ?_ | ((with_reducible refine Ext.set ?_ ?_ _); (focus (first | (simp; done) | (simp; omega) | omega))) | with_reducible refine Ext.trans ?_ hw13))) (oW_w13.out.read.ext (by repeat (first | with_reducible exact Ext.refl _ | with_reducible assumption | with_reducible refine Ext.alloc ?_ _ | with_reducible refine Ext.drew ?_ | ((with_reducible refine Ext.set ?_ ?_ _); (focus (first | (simp; done) | (simp; omega) | omega))) | with_reducible refine Ext.trans ?_ hw13))) rfl rfl (by omega)).mono ?_
    rintro en w14 ⟨rfl, hw14⟩
    have zw14 : w13.heap.size + 1 ≤ w14.heap.size := by have := hw14.size; (try simp at this); omega
    have kw14_0 := hw14.more (k := w.heap.size) (by first | assumption | (simp; done) | (simp; omega) | omega)
    obtain ⟨cw14_0, fw14_0⟩ := hw14.row (k := w.heap.size) (by first | assumption | (simp; done) | (simp; omega) | omega)
    have kw14_1 := hw14.more (k := w3.heap.size) (by first | assumption | (simp; done) | (simp; omega) | omega)
    obtain ⟨cw14_1, fw14_1⟩ := hw14.row (k := w3.heap.size) (by first | assumption | (simp; done) | (simp; omega) | omega)
    have kw14_2 := hw14.more (k := w4.heap.size) (by first | assumption | (simp; done) | (simp; omega) | omega)
    obtain ⟨cw14_2, fw14_2⟩ := hw14.row (k := w4.heap.size) (by first | assumption | (simp; done) | (simp; omega) | omega)
    have kw14_3 := hw14.more (k := w5.heap.size) (by first | assumption | (simp; done) | (simp; omega) | omega)
    obtain ⟨cw14_3, fw14_3⟩ := hw14.row (k := w5.heap.size) (by first | assumption | (simp; done) | (simp; omega) | omega)
    have kw14_4 := hw14.more (k := w13.heap.size) (by first | assumption | (simp; done) | (simp; omega) | omega)
    obtain ⟨cw14_4, fw14_4⟩ := hw14.row (k := w13.heap.size) (by first | assumption | (simp; done) | (simp; omega) | omega)
    have oT_w14 : Hid (OwnC w1.heap.size w2.heap.size w14 aoT xs) := hide (OwnC.chg (S := fun _ => False) oT_w13.out (by repeat (first | with_reducible exact Chg.refl _ _ | with_reducible assumption | with_reducible refine Chg.alloc ?_ _ | with_reducible refine Chg.drew ?_ | ((with_reducible refine Chg.set ?_ ?_ _); (focus (first | (right; simp; done) | (right; simp; omega) | (right; omega)))) | with_reducible refine Chg.trans ?_ (Ext.chg hw14 _))) (fun _ _ _ h => h))
    have oW_w14 : Hid (OwnC w2.heap.size w3.heap.size w14 aoW ys) := hide (OwnC.chg (S := fun _ => False) oW_w13.out (by repeat (first | with_reducible exact Chg.refl _ _ | with_reducible assumption | with_reducible refine Chg.alloc ?_ _ | with_reducible refine Chg.drew ?_ | ((with_reducible refine Chg.set ?_ ?_ _); (focus (first | (right; simp; done) | (right; simp; omega) | (right; omega)))) | with_reducible refine Chg.trans ?_ (Ext.chg hw14 _))) (fun _ _ _ h => h))
    have oX_w14 : Hid (OwnC (w3.heap.size + 1) w4.heap.size w14 aoX (marksC 1 xs.length)) := hide (OwnC.chg (S := fun _ => False) oX_w13.out (by repeat (first | with_reducible exact Chg.refl _ _ | with_reducible assumption | with_reducible refine Chg.alloc ?_ _ | with_reducible refine Chg.drew ?_ | ((with_reducible refine Chg.set ?_ ?_ _); (focus (first | (right; simp; done) | (right; simp; omega) | (right; omega)))) | with_reducible refine Chg.trans ?_ (Ext.chg hw14 _))) (fun _ _ _ h => h))
    have oG_w14 : Hid (OwnC (w4.heap.size + 1) w5.heap.size w14 aoG (marksC 1 ys.length)) := hide (OwnC.chg (S := fun _ => False) oG_w13.out (by repeat (first | with_reducible exact Chg.refl _ _ | with_reducible assumption | with_reducible refine Chg.alloc ?_ _ | with_reducible refine Chg.drew ?_ | ((with_reducible refine Chg.set ?_ ?_ _); (focus (first | (right; simp; done) | (right; simp; omega) | (right; omega)))) | with_reducible refine Chg.trans ?_ (Ext.chg hw14 _))) (fun _ _ _ h => h))
    have oU_w14 : Hid (OwnC w11.heap.size w12.heap.size w14 aoU xs) := hide (OwnC.chg (S := fun _ => False) oU_w13.out (by repeat (first | with_reducible exact Chg.refl _ _ | with_reducible assumption | with_reducible refine Chg.alloc ?_ _ | with_reducible refine Chg.drew ?_ | ((with_reducible refine Chg.set ?_ ?_ _); (focus (first | (right; simp; done) | (right; simp; omega) | (right; omega)))) | with_reducible refine Chg.trans ?_ (Ext.chg hw14 _))) (fun _ _ _ h => h))
    have oH_w14 : Hid (OwnC w12.heap.size w13.heap.size w14 aoH ys) := hide (OwnC.chg (S := fun _ => False) oH_w13.out (by repeat (first | with_reducible exact Chg.refl _ _ | with_reducible assumption | with_reducible refine Chg.alloc ?_ _ | with_reducible refine Chg.drew ?_ | ((with_reducible refine Chg.set ?_ ?_ _); (focus (first | (right; simp; done) | (right; simp; omega) | (right; omega)))) | with_reducible refine Chg.trans ?_ (Ext.chg hw14 _))) (fun _ _ _ h => h))
    have xw14 : Ext w w14 := (by repeat (first | with_reducible exact Ext.refl _ | with_reducible assumption | with_reducible refine Ext.alloc ?_ _ | with_reducible refine Ext.drew ?_ | ((with_reducible refine Ext.set ?_ ?_ _); (focus (first | (simp; done) | (simp; omega) | omega))) | with_reducible exact xw13 | with_reducible refine Ext.trans ?_ hw14))
    rw [decide_eq_true (rfl : ys = ys)]
    go_wp2_with fail
    refine (receiver_held st2 nx2 fi2 hg2 co2 aoG ys.length capG 1 _ (oG_w14.out.read.ext (by repeat (first | with_reducible exact Ext.refl _ | with_reducible assumption | with_reducible refine Ext.alloc ?_ _ | with_reducible refine Ext.drew ?_ | ((with_reducible refine Ext.set ?_ ?_ _); (focus (first | (simp; done) | (simp; omega) | omega))) | with_reducible refine Ext.trans ?_ hw14))) (by omega) (by omega) (by omega)).mono ?_
    rintro en w15 ⟨rfl, hw15⟩
    have zw15 : w14.heap.size ≤ w15.heap.size := by have := hw15.size; (try simp at this); omega
    have kw15_0 := hw15.more (k := w.heap.size) (by first | assumption | (simp; done) | (simp; omega) | omega)
    obtain ⟨cw15_0, fw15_0⟩ := hw15.row (k := w.heap.size) (by first | assumption | (simp; done) | (simp; omega) | omega)
    have kw15_1 := hw15.more (k := w3.heap.size) (by first | assumption | (simp; done) | (simp; omega) | omega)
    obtain ⟨cw15_1, fw15_1⟩ := hw15.row (k := w3.heap.size) (by first | assumption | (simp; done) | (simp; omega) | omega)
    have kw15_2 := hw15.more (k := w4.heap.size) (by first | assumption | (simp; done) | (simp; omega) | omega)
    obtain ⟨cw15_2, fw15_2⟩ := hw15.row (k := w4.heap.size) (by first | assumption | (simp; done) | (simp; omega) | omega)
    have kw15_3 := hw15.more (k := w5.heap.size) (by first | assumption | (simp; done) | (simp; omega) | omega)
    obtain ⟨cw15_3, fw15_3⟩ := hw15.row (k := w5.heap.size) (by first | assumption | (simp; done) | (simp; omega) | omega)
    have kw15_4 := hw15.more (k := w13.heap.size) (by first | assumption | (simp; done) | (simp; omega) | omega)
    obtain ⟨cw15_4, fw15_4⟩ := hw15.row (k := w13.heap.size) (by first | assumption | (simp; done) | (simp; omega) | omega)
    have oT_w15 : Hid (OwnC w1.heap.size w2.heap.size w15 aoT xs) := hide (OwnC.chg (S := fun _ => False) oT_w14.out (by repeat (first | with_reducible exact Chg.refl _ _ | with_reducible assumption | with_reducible refine Chg.alloc ?_ _ | with_reducible refine Chg.drew ?_ | ((with_reducible refine Chg.set ?_ ?_ _); (focus (first | (right; simp; done) | (right; simp; omega) | (right; omega)))) | with_reducible refine Chg.trans ?_ (Ext.chg hw15 _))) (fun _ _ _ h => h))
    have oW_w15 : Hid (OwnC w2.heap.size w3.heap.size w15 aoW ys) := hide (OwnC.chg (S := fun _ => False) oW_w14.out (by repeat (first | with_reducible exact Chg.refl _ _ | with_reducible assumption | with_reducible refine Chg.alloc ?_ _ | with_reducible refine Chg.drew ?_ | ((with_reducible refine Chg.set ?_ ?_ _); (focus (first | (right; simp; done) | (right; simp; omega) | (right; omega)))) | with_reducible refine Chg.trans ?_ (Ext.chg hw15 _))) (fun _ _ _ h => h))
    have oX_w15 : Hid (OwnC (w3.heap.size + 1) w4.heap.size w15 aoX (marksC 1 xs.length)) := hide (OwnC.chg (S := fun _ => False) oX_w14.out (by repeat (first | with_reducible exact Chg.refl _ _ | with_reducible assumption | with_reducible refine Chg.alloc ?_ _ | with_reducible refine Chg.drew ?_ | ((with_reducible refine Chg.set ?_ ?_ _); (focus (first | (right; simp; done) | (right; simp; omega) | (right; omega)))) | with_reducible refine Chg.trans ?_ (Ext.chg hw15 _))) (fun _ _ _ h => h))
    have oG_w15 : Hid (OwnC (w4.heap.size + 1) w5.heap.size w15 aoG (marksC 1 ys.length)) := hide (OwnC.chg (S := fun _ => False) oG_w14.out (by repeat (first | with_reducible exact Chg.refl _ _ | with_reducible assumption | with_reducible refine Chg.alloc ?_ _ | with_reducible refine Chg.drew ?_ | ((with_reducible refine Chg.set ?_ ?_ _); (focus (first | (right; simp; done) | (right; simp; omega) | (right; omega)))) | with_reducible refine Chg.trans ?_ (Ext.chg hw15 _))) (fun _ _ _ h => h))
    have oU_w15 : Hid (OwnC w11.heap.size w12.heap.size w15 aoU xs) := hide (OwnC.chg (S := fun _ => False) oU_w14.out (by repeat (first | with_reducible exact Chg.refl _ _ | with_reducible assumption | with_reducible refine Chg.alloc ?_ _ | with_reducible refine Chg.drew ?_ | ((with_reducible refine Chg.set ?_ ?_ _); (focus (first | (right; simp; done) | (right; simp; omega) | (right; omega)))) | with_reducible refine Chg.trans ?_ (Ext.chg hw15 _))) (fun _ _ _ h => h))
    have oH_w15 : Hid (OwnC w12.heap.size w13.heap.size w15 aoH ys) := hide (OwnC.chg (S := fun _ => False) oH_w14.out (by repeat (first | with_reducible exact Chg.refl _ _ | with_reducible assumption | with_reducible refine Chg.alloc ?_ _ | with_reducible refine Chg.drew ?_ | ((with_reducible refine Chg.set ?_ ?_ _); (focus (first | (right; simp; done) | (right; simp; omega) | (right; omega)))) | with_reducible refine Chg.trans ?_ (Ext.chg hw15 _))) (fun _ _ _ h => h))
    have xw15 : Ext w w15 := (by repeat (first | with_reducible exact Ext.refl _ | with_reducible assumption | with_reducible refine Ext.alloc ?_ _ | with_reducible refine Ext.drew ?_ | ((with_reducible refine Ext.set ?_ ?_ _); (focus (first | (simp; done) | (simp; omega) | omega))) | with_reducible exact xw14 | with_reducible refine Ext.trans ?_ hw15))
    go_wp2
    go_ret
    exact ⟨rfl, (by repeat (first | with_reducible exact Ext.refl _ | with_reducible assumption | with_reducible refine Ext.alloc ?_ _ | with_reducible refine Ext.drew ?_ | with_reducible refine Ext.drewN ?_ _ | ((with_reducible refine Ext.set ?_ ?_ _); (focus (first | (simp; done) | (simp; omega)))) | with_reducible refine Ext.trans ?_ (by assumption)))⟩
set_option maxHeartbeats 1000000 in
theorem receiveData_no (st nx fi hg co : Int) (off : Int) (data : ByteArray) (fin : Bool) (ao : Option Addr) (n ca : Nat) (xs : List Ck) (w : World) (hx : ReadC w ao xs) (hn : xs.length = n) (g0 : (n : Int) ≤ 9223372036854775807) (hzx : WfC xs) (hds : data.size ≤ 1048576) (h1 : 1048576 < (n : Int) + (tot xs : Int)) :
    Calls Try.prog 10 #[.agg #[.int .i64 st, .int .i64 nx, .slice ao n ca, .int .i64 fi, .int .i64 hg, .int .i64 co], .int .i64 off, .string data, .bool fin] w fun en w' => en = .returned (.bool true) ∧ Ext w w' := by
  have hn' := hide hn
  have hx' := hide hx
  have hzx' := hide hzx
  clear hn hx hzx
  have s1 : (if (1048576 : Int) < (n : Int) + (tot xs : Int) then (-1 : Int) else (1048576 : Int) - n - (tot xs : Int)) = -1 := if_pos (by omega)
  have s0 : decide ((1048576 : Int) < (data.size : Int)) = false := by simp; omega
  go_enter Try.func10, Try.ntmps10
  go_wp2_with fail
  refine (szReceiver_any st nx fi hg co ao n ca xs _ _ ?_ hn'.out g0 (by omega) (by omega) (fun c hc => (hzx'.out c hc).1)).mono ?_
  · exact hx'.out.ext (by repeat (first | with_reducible exact Ext.refl _ | with_reducible assumption | with_reducible refine Ext.alloc ?_ _ | with_reducible refine Ext.drew ?_ | with_reducible refine Ext.drewN ?_ _ | ((with_reducible refine Ext.set ?_ ?_ _); (focus (first | (simp; done) | (simp; omega)))) | with_reducible refine Ext.trans ?_ (by assumption)))
  rintro en w1 ⟨rfl, hw1⟩
  have xw1 : Ext w w1 := (by repeat (first | with_reducible exact Ext.refl _ | with_reducible assumption | with_reducible refine Ext.alloc ?_ _ | with_reducible refine Ext.drew ?_ | with_reducible refine Ext.drewN ?_ _ | ((with_reducible refine Ext.set ?_ ?_ _); (focus (first | (simp; done) | (simp; omega)))) | with_reducible refine Ext.trans ?_ (by assumption)))
  have kw1_0 := hw1.more (k := w.heap.size) (by first | assumption | (simp; done) | (simp; omega) | omega)
  obtain ⟨cw1_0, fw1_0⟩ := hw1.row (k := w.heap.size) (by first | assumption | (simp; done) | (simp; omega) | omega)
  rw [s1]
  go_wp2
  go_ret
  exact ⟨rfl, (by repeat (first | with_reducible exact Ext.refl _ | with_reducible assumption | with_reducible refine Ext.alloc ?_ _ | with_reducible refine Ext.drew ?_ | with_reducible refine Ext.drewN ?_ _ | ((with_reducible refine Ext.set ?_ ?_ _); (focus (first | (simp; done) | (simp; omega)))) | with_reducible refine Ext.trans ?_ (by assumption)))⟩
theorem tot_ge : ∀ {cs : List Ck} {l : Int}, bufFrom l cs = true → cs.length ≤ tot cs
  | [], _, _ => Nat.le_refl _
  | c :: cs, l, h => by
    simp only [bufFrom, Bool.and_eq_true, decide_eq_true_eq] at h
    have := tot_ge h.2.2.2
    have e : tot (c :: cs) = c.2.size + tot cs := by simp [tot]
    rw [List.length_cons, e]
    omega
theorem insC_short {nx : Int} {cs : List Ck} {off : Int} {data : ByteArray} (h : (cs.length : Int) + (tot cs : Int) ≤ 1048576) : (insC nx cs off data).length ≤ 1048576 := by
  by_cases hk : insOk nx cs off data = true
  · have h1 := insC_length nx cs off data
    have hb := (insOk_parts hk).1
    simp only [isBuf, Bool.and_eq_true] at hb
    have := tot_ge hb.2
    omega
  · rw [insC, if_neg hk]; omega
set_option maxHeartbeats 1000000 in
theorem receiveData_big (st nx fi hg co : Int) (off : Int) (data : ByteArray) (fin : Bool) (ao : Option Addr) (n ca : Nat) (xs : List Ck) (w : World) (hds : 1048576 < data.size) :
    Calls Try.prog 10 #[.agg #[.int .i64 st, .int .i64 nx, .slice ao n ca, .int .i64 fi, .int .i64 hg, .int .i64 co], .int .i64 off, .string data, .bool fin] w fun en w' => en = .returned (.bool true) ∧ Ext w w' := by
  have s0 : decide ((1048576 : Int) < (data.size : Int)) = true := by simp; omega
  go_enter Try.func10, Try.ntmps10
  go_wp2
  go_ret
  exact ⟨rfl, (by repeat (first | with_reducible exact Ext.refl _ | with_reducible assumption | with_reducible refine Ext.alloc ?_ _ | with_reducible refine Ext.drew ?_ | with_reducible refine Ext.drewN ?_ _ | ((with_reducible refine Ext.set ?_ ?_ _); (focus (first | (simp; done) | (simp; omega)))) | with_reducible refine Ext.trans ?_ (by assumption)))⟩
theorem receiveData_walk (st nx fi hg co : Int) (off : Int) (data : ByteArray) (fin : Bool) (ao : Option Addr) (n ca : Nat) (xs : List Ck) (w : World) (hx : ReadC w ao xs) (hn : xs.length = n) (g0 : (n : Int) ≤ 9223372036854775807) (hzx : WfC xs) (hnx : -9223372036854775808 ≤ nx ∧ nx ≤ 9223372036854775807) (hoff : -9223372036854775808 ≤ off ∧ off ≤ 9223372036854775807) :
    Calls Try.prog 10 #[.agg #[.int .i64 st, .int .i64 nx, .slice ao n ca, .int .i64 fi, .int .i64 hg, .int .i64 co], .int .i64 off, .string data, .bool fin] w fun en w' => en = .returned (.bool true) ∧ Ext w w' := by
  by_cases hds : 1048576 < data.size
  · exact receiveData_big st nx fi hg co off data fin ao n ca xs w hds
  by_cases h1 : 1048576 < (n : Int) + (tot xs : Int)
  · exact receiveData_no st nx fi hg co off data fin ao n ca xs w hx hn g0 hzx (by omega) h1
  · rcases Bool.eq_false_or_eq_true (rdaGo st nx fi hg co off data fin xs) with hgo | hgo
    · exact receiveData_yes st nx fi hg co off data fin ao n ca xs w hx hn g0 hzx (by omega) (by omega) _ nx _ _ co (insC nx xs off data) 0 (insC_short (by rw [hn]; omega)) (fun a c w' h => ReceiveData_spec_yes st nx fi hg co off data fin a xs.length c xs w' h rfl (by omega) hzx hnx hoff (by omega) hgo) (fun a c w' h => ReceiveData_impl_yes st nx fi hg co off data fin a xs.length c xs w' h rfl (by omega) hzx hnx hoff (by omega) hgo)
    · exact receiveData_yes st nx fi hg co off data fin ao n ca xs w hx hn g0 hzx (by omega) (by omega) st nx fi hg co xs _ (by omega) (fun a c w' h => ReceiveData_spec_no st nx fi hg co off data fin a xs.length c xs w' h rfl (by omega) hzx hnx hoff (by omega) hgo) (fun a c w' h => ReceiveData_impl_no st nx fi hg co off data fin a xs.length c xs w' h rfl (by omega) hzx hnx hoff (by omega) hgo)
/-! ### the row of FnExactReceiveData -/
theorem receiveData_reads : ∀ t ∈ Try.f10.params.toList, Try.prog.readableRec t = true ∧ t < Try.prog.types.size := by
  rw [Try.params10]
  intro t ht
  simp only [List.mem_cons, List.not_mem_nil, or_false] at ht
  rcases ht with rfl | rfl | rfl | rfl
  all_goals exact ⟨by kernel_rfl, of_decide_eq_true (by kernel_rfl)⟩
set_option maxRecDepth 100000 in
theorem receiveData_lifted (os : Os) (started : os.Started) (H : Type) (enc : TypeId × Value → H) :
    ReturnsInHanded {} Try.checked os 10 .any (Rows.fnExactReceiveDataSpec.pre6 enc Try.prog Try.f10 Rows.fnExactReceiveDataRow.domain false) (Rows.fnExactReceiveDataSpec.post enc Try.prog Try.f10 false true false false) := by
  refine returnsInHanded_of_change (C := Try.checked) ownKnobNone started (by kernel_rfl) Try.func10
    (ChangeSpec.witness6 (enc := enc) (C := Try.checked) false ⟨#[], #[.agg #[.int .i64 0, .int .i64 0, .slice none 0 0, .int .i64 0, .int .i64 0, .int .i64 0], .int .i64 0, .string ⟨#[]⟩, .bool false], []⟩ 8 (by kernel_rfl) (by kernel_rfl) (by kernel_rfl) (by kernel_rfl)) ?_
  intro W base args ds gs before hval0 hW hcnd _
  have hval : ∀ (j : Nat) t v, Try.f10.params[j]? = some t → args[j]? = some v → Value.okWide Try.prog W .any base t v := hval0
  have hW' := hW
  obtain ⟨p, q, hA0, hV, rfl, hfz, hnd⟩ := hW
  have hA : DataW.TrodAll enc Try.prog W 0 (fun _ => true) true Try.f10.params.toList args.toList ds p := hA0
  rw [Try.params10] at hA hval
  obtain ⟨v0, vs0, d0, ds0, p0, q0, hargs, rfl, rfl, h0, r0⟩ := trodAll_cons hA
  obtain ⟨v1, vs1, d1, ds1, p1, q1, rfl, rfl, rfl, h1, r1⟩ := trodAll_cons r0
  obtain ⟨v2, vs2, d2, ds2, p2, q2, rfl, rfl, rfl, h2, r2⟩ := trodAll_cons r1
  obtain ⟨v3, vs3, d3, ds3, p3, q3, rfl, rfl, rfl, h3, r3⟩ := trodAll_cons r2
  obtain ⟨rfl, rfl, rfl⟩ := trodAll_nil r3
  obtain rfl : args = #[v0, v1, v2, v3] := by cases args; simp_all
  obtain ⟨st, nx, fi, hg, co, ao, n, ca, xs, rfl, hn, hnb, hx, hwx, q1, q2, q3, q4, q5⟩ := open_receiver Try.underlying35 (by kernel_rfl) (by kernel_rfl) Try.underlying3 (by kernel_rfl) Try.underlying33 (by kernel_rfl) (by kernel_rfl) Try.underlying31 (by kernel_rfl) Try.underlying123 (by kernel_rfl) (by kernel_rfl) Try.underlying9 (by kernel_rfl) (hval 0 35 v0 rfl rfl) h0
  obtain ⟨off, rfl, -, -, wi1⟩ := open_int Try.underlying3 (hval 1 3 v1 rfl rfl) h1
  obtain ⟨data, rfl⟩ := okWide_string Try.underlying9 (hval 2 9 v2 rfl rfl)
  obtain ⟨fin, rfl⟩ := okWide_bool Try.underlying4 (hval 3 4 v3 rfl rfl)
  refine (receiveData_walk st nx fi hg co off data fin ao n ca xs W hx hn hnb (fun c hc => ⟨(hwx c hc).1, wf64 (hwx c hc).2⟩) (wf64 q2) (wf64 wi1)).mono fun e W' ⟨he, hg⟩ => ?_
  subst he
  exact ⟨_, rfl, law_post laidOut receiveData_reads rfl rfl Try.underlying4 hW' (fun gs h => by subst h; rfl) hg⟩
theorem receiveData_over : Rows.fnExactReceiveDataRow.holds Try.pinned (OpenSpec.ofChange Rows.fnExactReceiveDataSpec) :=
  OpenClaim.holds_of_wide 10 Try.f10 rfl rfl rfl rfl rfl rfl rfl ⟨rfl, rfl, rfl, rfl, rfl⟩ rfl rfl rfl rfl rfl (by kernel_rfl) Try.func10 (by kernel_rfl)
    (of_decide_eq_true (by kernel_rfl)) (by unfold Func.isWrapper; first | (rw [if_pos (by decide +kernel)]; kernel_rfl) | (rw [if_neg (by decide +kernel)]; exact ⟨rfl, rfl⟩))
    (fun os started H enc _ => receiveData_lifted os started H enc)
/-- The statement. -/
theorem receiveData_holds : Rows.FnExactReceiveDataSaid := receiveData_over
#print axioms receiveData_holds
end Go.Proofs.Ytifhbchlmlaanaa

/-
  The law FnExactNewSender holds of every argument. No condition.
-/
import Derived.Test.YtmlpgnlpmdpjkaaNewSnd
namespace Go.Proofs.Ytmlpgnlpmdpjkaa
open Go.ChangeShapes Go.WideShapes Go.ChangeAt Go.RowKit
set_option linter.unusedSimpArgs false
set_option linter.unusedVariables false
set_option maxHeartbeats 8000000 in
set_option maxRecDepth 100000 in
theorem newSender_yes (n : Int) (w : World) (st2 z2 b2 e2 fi2 fk2 se2 co2 : Int) (ys : List Int) (qs gs js : List Rg) (q : Bool) (hsum : (ys.length : Int) + (qs.length : Int) + (gs.length : Int) + (js.length : Int) ≤ 1048576)
    (Hs : ∀ (w : World), Calls Try.prog 9 #[.int .i64 n] w (SndRes st2 z2 b2 e2 fi2 fk2 se2 co2 ys qs gs js (.bool q) w))
    (Hi : ∀ (w : World), Calls Try.prog 10 #[.int .i64 n] w (SndRes st2 z2 b2 e2 fi2 fk2 se2 co2 ys qs gs js (.bool q) w)) :
    Calls Try.prog 3 #[.int .i64 n] w fun en w' => en = .returned (.bool true) ∧ Ext w w' := by
  have hneg : decide (1 + (conMk ⟨ys, qs, gs, js⟩ : Int) < 0) = false := by simp; omega
  go_enter Try.func3, Try.ntmps3
  go_wp2_with fail
  refine (Hs _).mono ?_
  rintro en w1 ⟨aW1, aW2, aW3, aW4, caW1, caW2, caW3, caW4, rfl, ownW, hw1⟩
  have zw1 : w.heap.size ≤ w1.heap.size := by have := hw1.size; (try simp at this); omega
  have xw1 : Ext w w1 := (by repeat (first | with_reducible exact Ext.refl _ | with_reducible assumption | with_reducible refine Ext.alloc ?_ _ | with_reducible refine Ext.drew ?_ | ((with_reducible refine Ext.set ?_ ?_ _); (focus (first | (simp; done) | (simp; omega) | omega))) | with_reducible refine Ext.trans ?_ hw1))
  have oW_w1 := hide (OwnSnd.mono (lo' := w.heap.size) (hi' := w1.heap.size) ownW (by first | (simp; done) | (simp; omega) | omega) (Nat.le_refl _))
  clear ownW
  go_wp2_with fail
  refine (Hi _).mono ?_
  rintro en w2 ⟨aG1, aG2, aG3, aG4, caG1, caG2, caG3, caG4, rfl, ownG, hw2⟩
  have zw2 : w1.heap.size + 1 ≤ w2.heap.size := by have := hw2.size; (try simp at this); omega
  have kw2_0 := hw2.more (k := w1.heap.size) (by first | assumption | (simp; done) | (simp; omega) | omega)
  obtain ⟨cw2_0, fw2_0⟩ := hw2.row (k := w1.heap.size) (by first | assumption | (simp; done) | (simp; omega) | omega)
  have oW_w2 : Hid (OwnSnd w.heap.size w1.heap.size w2 ⟨aW1, aW2, aW3, aW4⟩ (⟨ys, qs, gs, js⟩)) := hide (OwnSnd.chg (S := fun _ => False) oW_w1.out (by repeat (first | with_reducible exact Chg.refl _ _ | with_reducible assumption | with_reducible refine Chg.alloc ?_ _ | with_reducible refine Chg.drew ?_ | ((with_reducible refine Chg.set ?_ ?_ _); (focus (first | (right; simp; done) | (right; simp; omega) | (right; omega)))) | with_reducible refine Chg.trans ?_ (Ext.chg hw2 _))) (fun _ _ _ h => h))
  have xw2 : Ext w w2 := (by repeat (first | with_reducible exact Ext.refl _ | with_reducible assumption | with_reducible refine Ext.alloc ?_ _ | with_reducible refine Ext.drew ?_ | ((with_reducible refine Ext.set ?_ ?_ _); (focus (first | (simp; done) | (simp; omega) | omega))) | with_reducible exact xw1 | with_reducible refine Ext.trans ?_ hw2))
  have oG_w2 := hide (OwnSnd.mono (lo' := w1.heap.size + 1) (hi' := w2.heap.size) ownG (by first | (simp; done) | (simp; omega) | omega) (Nat.le_refl _))
  clear ownG
  go_wp2_with fail
  refine (eqSender_any st2 z2 b2 e2 fi2 fk2 se2 co2 aG1 aG2 aG3 aG4 caG1 caG2 caG3 caG4 aW1 aW2 aW3 aW4 caW1 caW2 caW3 caW4 ys qs gs js _ (oG_w2.out.read.ext (by repeat (first | with_reducible exact Ext.refl _ | with_reducible assumption | with_reducible refine Ext.alloc ?_ _ | with_reducible refine Ext.drew ?_ | ((with_reducible refine Ext.set ?_ ?_ _); (focus (first | (simp; done) | (simp; omega) | omega))) | with_reducible refine Ext.trans ?_ hw2))) (oW_w2.out.read.ext (by repeat (first | with_reducible exact Ext.refl _ | with_reducible assumption | with_reducible refine Ext.alloc ?_ _ | with_reducible refine Ext.drew ?_ | ((with_reducible refine Ext.set ?_ ?_ _); (focus (first | (simp; done) | (simp; omega) | omega))) | with_reducible refine Ext.trans ?_ hw2))) ⟨by omega, by omega, by omega, by omega⟩).mono ?_
  rintro en w3 ⟨rfl, hw3⟩
  have zw3 : w2.heap.size + 1 ≤ w3.heap.size := by have := hw3.size; (try simp at this); omega
  have kw3_0 := hw3.more (k := w1.heap.size) (by first | assumption | (simp; done) | (simp; omega) | omega)
  obtain ⟨cw3_0, fw3_0⟩ := hw3.row (k := w1.heap.size) (by first | assumption | (simp; done) | (simp; omega) | omega)
  have kw3_1 := hw3.more (k := w2.heap.size) (by first | assumption | (simp; done) | (simp; omega) | omega)
  obtain ⟨cw3_1, fw3_1⟩ := hw3.row (k := w2.heap.size) (by first | assumption | (simp; done) | (simp; omega) | omega)
  have oW_w3 : Hid (OwnSnd w.heap.size w1.heap.size w3 ⟨aW1, aW2, aW3, aW4⟩ (⟨ys, qs, gs, js⟩)) := hide (OwnSnd.chg (S := fun _ => False) oW_w2.out (by repeat (first | with_reducible exact Chg.refl _ _ | with_reducible assumption | with_reducible refine Chg.alloc ?_ _ | with_reducible refine Chg.drew ?_ | ((with_reducible refine Chg.set ?_ ?_ _); (focus (first | (right; simp; done) | (right; simp; omega) | (right; omega)))) | with_reducible refine Chg.trans ?_ (Ext.chg hw3 _))) (fun _ _ _ h => h))
  have oG_w3 : Hid (OwnSnd (w1.heap.size + 1) w2.heap.size w3 ⟨aG1, aG2, aG3, aG4⟩ (⟨ys, qs, gs, js⟩)) := hide (OwnSnd.chg (S := fun _ => False) oG_w2.out (by repeat (first | with_reducible exact Chg.refl _ _ | with_reducible assumption | with_reducible refine Chg.alloc ?_ _ | with_reducible refine Chg.drew ?_ | ((with_reducible refine Chg.set ?_ ?_ _); (focus (first | (right; simp; done) | (right; simp; omega) | (right; omega)))) | with_reducible refine Chg.trans ?_ (Ext.chg hw3 _))) (fun _ _ _ h => h))
  have xw3 : Ext w w3 := (by repeat (first | with_reducible exact Ext.refl _ | with_reducible assumption | with_reducible refine Ext.alloc ?_ _ | with_reducible refine Ext.drew ?_ | ((with_reducible refine Ext.set ?_ ?_ _); (focus (first | (simp; done) | (simp; omega) | omega))) | with_reducible exact xw2 | with_reducible refine Ext.trans ?_ hw3))
  go_wp2_with fail
  refine (sender_mark (w1.heap.size + 1) w2.heap.size st2 z2 b2 e2 fi2 fk2 se2 co2 aG1 aG2 aG3 aG4 caG1 caG2 caG3 caG4 ys qs gs js 1 _ (OwnSnd.chg (S := fun _ => False) oG_w3.out (by repeat (first | with_reducible exact Chg.refl _ _ | with_reducible assumption | with_reducible refine Chg.alloc ?_ _ | with_reducible refine Chg.drew ?_ | ((with_reducible refine Chg.set ?_ ?_ _); (focus (first | (right; simp; done) | (right; simp; omega) | (right; omega)))))) (fun _ _ _ h => h)) ⟨by omega, by omega, by omega, by omega⟩ (by omega) (by omega) (by omega) (by first | omega | (simp; omega))).mono ?_
  rintro en w4 ⟨rfl, omG, hw4⟩
  have zw4 : w3.heap.size ≤ w4.heap.size := by have := hw4.size; (try simp at this); omega
  have kw4_0 := hw4.more (k := w1.heap.size) (by first | assumption | (simp; done) | (simp; omega) | omega)
  obtain ⟨cw4_0, fw4_0⟩ := hw4.row (k := w1.heap.size) (by first | assumption | (simp; done) | (simp; omega) | omega) (by omega)
  have kw4_1 := hw4.more (k := w2.heap.size) (by first | assumption | (simp; done) | (simp; omega) | omega)
  obtain ⟨cw4_1, fw4_1⟩ := hw4.row (k := w2.heap.size) (by first | assumption | (simp; done) | (simp; omega) | omega) (by omega)
  have oW_w4 : Hid (OwnSnd w.heap.size w1.heap.size w4 ⟨aW1, aW2, aW3, aW4⟩ (⟨ys, qs, gs, js⟩)) := hide (OwnSnd.chg (S := fun k => w1.heap.size + 1 ≤ k ∧ k < w2.heap.size) oW_w3.out (by repeat (first | with_reducible exact Chg.refl _ _ | with_reducible assumption | with_reducible refine Chg.alloc ?_ _ | with_reducible refine Chg.drew ?_ | ((with_reducible refine Chg.set ?_ ?_ _); (focus (first | (right; simp; done) | (right; simp; omega) | (right; omega)))) | with_reducible refine Chg.trans ?_ hw4)) (fun b h1 h2 h3 => by omega))
  have xw4 : Ext w w4 := (Chg.trans (Ext.chg (S := fun k => w1.heap.size + 1 ≤ k ∧ k < w2.heap.size) (a := w) (by repeat (first | with_reducible assumption | with_reducible refine Ext.alloc ?_ _ | with_reducible refine Ext.drew ?_ | ((with_reducible refine Ext.set ?_ ?_ _); (focus (first | (simp; done) | (simp; omega) | omega)))))) hw4).ext (fun k hk h => by omega)
  have oG_mw4 := hide omG
  clear omG
  go_wp2_with fail
  refine (sender_held st2 z2 b2 e2 fi2 fk2 se2 co2 aG1 aG2 aG3 aG4 caG1 caG2 caG3 caG4 ys qs gs js 1 _ (oG_mw4.out.read.ext (by repeat (first | with_reducible exact Ext.refl _ | with_reducible assumption | with_reducible refine Ext.alloc ?_ _ | with_reducible refine Ext.drew ?_ | ((with_reducible refine Ext.set ?_ ?_ _); (focus (first | (simp; done) | (simp; omega) | omega))) | with_reducible refine Ext.trans ?_ hw3))) (by omega) (by omega) (by omega)).mono ?_
  rintro en w5 ⟨rfl, hw5⟩
  have zw5 : w4.heap.size ≤ w5.heap.size := by have := hw5.size; (try simp at this); omega
  have kw5_0 := hw5.more (k := w1.heap.size) (by first | assumption | (simp; done) | (simp; omega) | omega)
  obtain ⟨cw5_0, fw5_0⟩ := hw5.row (k := w1.heap.size) (by first | assumption | (simp; done) | (simp; omega) | omega)
  have kw5_1 := hw5.more (k := w2.heap.size) (by first | assumption | (simp; done) | (simp; omega) | omega)
  obtain ⟨cw5_1, fw5_1⟩ := hw5.row (k := w2.heap.size) (by first | assumption | (simp; done) | (simp; omega) | omega)
  have oW_w5 : Hid (OwnSnd w.heap.size w1.heap.size w5 ⟨aW1, aW2, aW3, aW4⟩ (⟨ys, qs, gs, js⟩)) := hide (OwnSnd.chg (S := fun _ => False) oW_w4.out (by repeat (first | with_reducible exact Chg.refl _ _ | with_reducible assumption | with_reducible refine Chg.alloc ?_ _ | with_reducible refine Chg.drew ?_ | ((with_reducible refine Chg.set ?_ ?_ _); (focus (first | (right; simp; done) | (right; simp; omega) | (right; omega)))) | with_reducible refine Chg.trans ?_ (Ext.chg hw5 _))) (fun _ _ _ h => h))
  have oG_w5 : Hid (OwnSnd (w1.heap.size + 1) w2.heap.size w5 ⟨aG1, aG2, aG3, aG4⟩ ((marksSnd 1 ⟨ys, qs, gs, js⟩))) := hide (OwnSnd.chg (S := fun _ => False) oG_mw4.out (by repeat (first | with_reducible exact Chg.refl _ _ | with_reducible assumption | with_reducible refine Chg.alloc ?_ _ | with_reducible refine Chg.drew ?_ | ((with_reducible refine Chg.set ?_ ?_ _); (focus (first | (right; simp; done) | (right; simp; omega) | (right; omega)))) | with_reducible refine Chg.trans ?_ (Ext.chg hw5 _))) (fun _ _ _ h => h))
  have xw5 : Ext w w5 := (by repeat (first | with_reducible exact Ext.refl _ | with_reducible assumption | with_reducible refine Ext.alloc ?_ _ | with_reducible refine Ext.drew ?_ | ((with_reducible refine Ext.set ?_ ?_ _); (focus (first | (simp; done) | (simp; omega) | omega))) | with_reducible exact xw4 | with_reducible refine Ext.trans ?_ hw5))
  go_wp2_with fail
  refine (Hi _).mono ?_
  rintro en w6 ⟨aH1, aH2, aH3, aH4, caH1, caH2, caH3, caH4, rfl, ownH, hw6⟩
  have zw6 : w5.heap.size ≤ w6.heap.size := by have := hw6.size; (try simp at this); omega
  have kw6_0 := hw6.more (k := w1.heap.size) (by first | assumption | (simp; done) | (simp; omega) | omega)
  obtain ⟨cw6_0, fw6_0⟩ := hw6.row (k := w1.heap.size) (by first | assumption | (simp; done) | (simp; omega) | omega)
  have kw6_1 := hw6.more (k := w2.heap.size) (by first | assumption | (simp; done) | (simp; omega) | omega)
  obtain ⟨cw6_1, fw6_1⟩ := hw6.row (k := w2.heap.size) (by first | assumption | (simp; done) | (simp; omega) | omega)
  have oW_w6 : Hid (OwnSnd w.heap.size w1.heap.size w6 ⟨aW1, aW2, aW3, aW4⟩ (⟨ys, qs, gs, js⟩)) := hide (OwnSnd.chg (S := fun _ => False) oW_w5.out (by repeat (first | with_reducible exact Chg.refl _ _ | with_reducible assumption | with_reducible refine Chg.alloc ?_ _ | with_reducible refine Chg.drew ?_ | ((with_reducible refine Chg.set ?_ ?_ _); (focus (first | (right; simp; done) | (right; simp; omega) | (right; omega)))) | with_reducible refine Chg.trans ?_ (Ext.chg hw6 _))) (fun _ _ _ h => h))
  have oG_w6 : Hid (OwnSnd (w1.heap.size + 1) w2.heap.size w6 ⟨aG1, aG2, aG3, aG4⟩ ((marksSnd 1 ⟨ys, qs, gs, js⟩))) := hide (OwnSnd.chg (S := fun _ => False) oG_w5.out (by repeat (first | with_reducible exact Chg.refl _ _ | with_reducible assumption | with_reducible refine Chg.alloc ?_ _ | with_reducible refine Chg.drew ?_ | ((with_reducible refine Chg.set ?_ ?_ _); (focus (first | (right; simp; done) | (right; simp; omega) | (right; omega)))) | with_reducible refine Chg.trans ?_ (Ext.chg hw6 _))) (fun _ _ _ h => h))
  have xw6 : Ext w w6 := (by repeat (first | with_reducible exact Ext.refl _ | with_reducible assumption | with_reducible refine Ext.alloc ?_ _ | with_reducible refine Ext.drew ?_ | ((with_reducible refine Ext.set ?_ ?_ _); (focus (first | (simp; done) | (simp; omega) | omega))) | with_reducible exact xw5 | with_reducible refine Ext.trans ?_ hw6))
  have oH_w6 := hide (OwnSnd.mono (lo' := w5.heap.size) (hi' := w6.heap.size) ownH (by first | (simp; done) | (simp; omega) | omega) (Nat.le_refl _))
  clear ownH
  go_wp2_with fail
  refine (eqSender_any st2 z2 b2 e2 fi2 fk2 se2 co2 aH1 aH2 aH3 aH4 caH1 caH2 caH3 caH4 aW1 aW2 aW3 aW4 caW1 caW2 caW3 caW4 ys qs gs js _ (oH_w6.out.read.ext (by repeat (first | with_reducible exact Ext.refl _ | with_reducible assumption | with_reducible refine Ext.alloc ?_ _ | with_reducible refine Ext.drew ?_ | ((with_reducible refine Ext.set ?_ ?_ _); (focus (first | (simp; done) | (simp; omega) | omega))) | with_reducible refine Ext.trans ?_ hw6))) (oW_w6.out.read.ext (by repeat (first | with_reducible exact Ext.refl _ | with_reducible assumption | with_reducible refine Ext.alloc ?_ _ | with_reducible refine Ext.drew ?_ | ((with_reducible refine Ext.set ?_ ?_ _); (focus (first | (simp; done) | (simp; omega) | omega))) | with_reducible refine Ext.trans ?_ hw6))) ⟨by omega, by omega, by omega, by omega⟩).mono ?_
  rintro en w7 ⟨rfl, hw7⟩
  have zw7 : w6.heap.size + 1 ≤ w7.heap.size := by have := hw7.size; (try simp at this); omega
  have kw7_0 := hw7.more (k := w1.heap.size) (by first | assumption | (simp; done) | (simp; omega) | omega)
  obtain ⟨cw7_0, fw7_0⟩ := hw7.row (k := w1.heap.size) (by first | assumption | (simp; done) | (simp; omega) | omega)
  have kw7_1 := hw7.more (k := w2.heap.size) (by first | assumption | (simp; done) | (simp; omega) | omega)
  obtain ⟨cw7_1, fw7_1⟩ := hw7.row (k := w2.heap.size) (by first | assumption | (simp; done) | (simp; omega) | omega)
  have kw7_2 := hw7.more (k := w6.heap.size) (by first | assumption | (simp; done) | (simp; omega) | omega)
  obtain ⟨cw7_2, fw7_2⟩ := hw7.row (k := w6.heap.size) (by first | assumption | (simp; done) | (simp; omega) | omega)
  have oW_w7 : Hid (OwnSnd w.heap.size w1.heap.size w7 ⟨aW1, aW2, aW3, aW4⟩ (⟨ys, qs, gs, js⟩)) := hide (OwnSnd.chg (S := fun _ => False) oW_w6.out (by repeat (first | with_reducible exact Chg.refl _ _ | with_reducible assumption | with_reducible refine Chg.alloc ?_ _ | with_reducible refine Chg.drew ?_ | ((with_reducible refine Chg.set ?_ ?_ _); (focus (first | (right; simp; done) | (right; simp; omega) | (right; omega)))) | with_reducible refine Chg.trans ?_ (Ext.chg hw7 _))) (fun _ _ _ h => h))
  have oG_w7 : Hid (OwnSnd (w1.heap.size + 1) w2.heap.size w7 ⟨aG1, aG2, aG3, aG4⟩ ((marksSnd 1 ⟨ys, qs, gs, js⟩))) := hide (OwnSnd.chg (S := fun _ => False) oG_w6.out (by repeat (first | with_reducible exact Chg.refl _ _ | with_reducible assumption | with_reducible refine Chg.alloc ?_ _ | with_reducible refine Chg.drew ?_ | ((with_reducible refine Chg.set ?_ ?_ _); (focus (first | (right; simp; done) | (right; simp; omega) | (right; omega)))) | with_reducible refine Chg.trans ?_ (Ext.chg hw7 _))) (fun _ _ _ h => h))
  have oH_w7 : Hid (OwnSnd w5.heap.size w6.heap.size w7 ⟨aH1, aH2, aH3, aH4⟩ (⟨ys, qs, gs, js⟩)) := hide (OwnSnd.chg (S := fun _ => False) oH_w6.out (by repeat (first | with_reducible exact Chg.refl _ _ | with_reducible assumption | with_reducible refine Chg.alloc ?_ _ | with_reducible refine Chg.drew ?_ | ((with_reducible refine Chg.set ?_ ?_ _); (focus (first | (right; simp; done) | (right; simp; omega) | (right; omega)))) | with_reducible refine Chg.trans ?_ (Ext.chg hw7 _))) (fun _ _ _ h => h))
  have xw7 : Ext w w7 := (by repeat (first | with_reducible exact Ext.refl _ | with_reducible assumption | with_reducible refine Ext.alloc ?_ _ | with_reducible refine Ext.drew ?_ | ((with_reducible refine Ext.set ?_ ?_ _); (focus (first | (simp; done) | (simp; omega) | omega))) | with_reducible exact xw6 | with_reducible refine Ext.trans ?_ hw7))
  go_wp2_with fail
  refine (sender_held st2 z2 b2 e2 fi2 fk2 se2 co2 aG1 aG2 aG3 aG4 caG1 caG2 caG3 caG4 ys qs gs js 1 _ (oG_w7.out.read.ext (by repeat (first | with_reducible exact Ext.refl _ | with_reducible assumption | with_reducible refine Ext.alloc ?_ _ | with_reducible refine Ext.drew ?_ | ((with_reducible refine Ext.set ?_ ?_ _); (focus (first | (simp; done) | (simp; omega) | omega))) | with_reducible refine Ext.trans ?_ hw7))) (by omega) (by omega) (by omega)).mono ?_
  rintro en w8 ⟨rfl, hw8⟩
  have zw8 : w7.heap.size ≤ w8.heap.size := by have := hw8.size; (try simp at this); omega
  have kw8_0 := hw8.more (k := w1.heap.size) (by first | assumption | (simp; done) | (simp; omega) | omega)
  obtain ⟨cw8_0, fw8_0⟩ := hw8.row (k := w1.heap.size) (by first | assumption | (simp; done) | (simp; omega) | omega)
  have kw8_1 := hw8.more (k := w2.heap.size) (by first | assumption | (simp; done) | (simp; omega) | omega)
  obtain ⟨cw8_1, fw8_1⟩ := hw8.row (k := w2.heap.size) (by first | assumption | (simp; done) | (simp; omega) | omega)
  have kw8_2 := hw8.more (k := w6.heap.size) (by first | assumption | (simp; done) | (simp; omega) | omega)
  obtain ⟨cw8_2, fw8_2⟩ := hw8.row (k := w6.heap.size) (by first | assumption | (simp; done) | (simp; omega) | omega)
  have oW_w8 : Hid (OwnSnd w.heap.size w1.heap.size w8 ⟨aW1, aW2, aW3, aW4⟩ (⟨ys, qs, gs, js⟩)) := hide (OwnSnd.chg (S := fun _ => False) oW_w7.out (by repeat (first | with_reducible exact Chg.refl _ _ | with_reducible assumption | with_reducible refine Chg.alloc ?_ _ | with_reducible refine Chg.drew ?_ | ((with_reducible refine Chg.set ?_ ?_ _); (focus (first | (right; simp; done) | (right; simp; omega) | (right; omega)))) | with_reducible refine Chg.trans ?_ (Ext.chg hw8 _))) (fun _ _ _ h => h))
  have oG_w8 : Hid (OwnSnd (w1.heap.size + 1) w2.heap.size w8 ⟨aG1, aG2, aG3, aG4⟩ ((marksSnd 1 ⟨ys, qs, gs, js⟩))) := hide (OwnSnd.chg (S := fun _ => False) oG_w7.out (by repeat (first | with_reducible exact Chg.refl _ _ | with_reducible assumption | with_reducible refine Chg.alloc ?_ _ | with_reducible refine Chg.drew ?_ | ((with_reducible refine Chg.set ?_ ?_ _); (focus (first | (right; simp; done) | (right; simp; omega) | (right; omega)))) | with_reducible refine Chg.trans ?_ (Ext.chg hw8 _))) (fun _ _ _ h => h))
  have oH_w8 : Hid (OwnSnd w5.heap.size w6.heap.size w8 ⟨aH1, aH2, aH3, aH4⟩ (⟨ys, qs, gs, js⟩)) := hide (OwnSnd.chg (S := fun _ => False) oH_w7.out (by repeat (first | with_reducible exact Chg.refl _ _ | with_reducible assumption | with_reducible refine Chg.alloc ?_ _ | with_reducible refine Chg.drew ?_ | ((with_reducible refine Chg.set ?_ ?_ _); (focus (first | (right; simp; done) | (right; simp; omega) | (right; omega)))) | with_reducible refine Chg.trans ?_ (Ext.chg hw8 _))) (fun _ _ _ h => h))
  have xw8 : Ext w w8 := (by repeat (first | with_reducible exact Ext.refl _ | with_reducible assumption | with_reducible refine Ext.alloc ?_ _ | with_reducible refine Ext.drew ?_ | ((with_reducible refine Ext.set ?_ ?_ _); (focus (first | (simp; done) | (simp; omega) | omega))) | with_reducible exact xw7 | with_reducible refine Ext.trans ?_ hw8))
  go_wp2
  go_ret
  exact ⟨rfl, (by repeat (first | with_reducible exact Ext.refl _ | with_reducible assumption | with_reducible refine Ext.alloc ?_ _ | with_reducible refine Ext.drew ?_ | with_reducible refine Ext.drewN ?_ _ | ((with_reducible refine Ext.set ?_ ?_ _); (focus (first | (simp; done) | (simp; omega)))) | with_reducible refine Ext.trans ?_ (by assumption)))⟩
theorem newSender_walk (n : Int) (w : World) : Calls Try.prog 3 #[.int .i64 n] w fun en w' => en = .returned (.bool true) ∧ Ext w w' := by
  rcases Bool.eq_false_or_eq_true (ringSz n) with h | h
  · have hbd := ringSz_bd h
    obtain ⟨k, rfl⟩ : ∃ k : Nat, n = k := ⟨n.toNat, by omega⟩
    exact newSender_yes k w _ _ _ _ _ _ _ _ _ _ _ _ true (by simp; omega) (fun w => NewSender_spec_yes k w h) (fun w => NewSender_impl_yes k w h)
  · exact newSender_yes n w _ _ _ _ _ _ _ _ _ _ _ _ false (by simp) (fun w => NewSender_spec_no n w h) (fun w => NewSender_impl_no n w h)
/-! ### the row of FnExactNewSender -/
theorem newSender_reads : ∀ t ∈ Try.f3.params.toList, Try.prog.readableRec t = true ∧ t < Try.prog.types.size := by
  rw [Try.params3]
  intro t ht
  simp only [List.mem_cons, List.not_mem_nil, or_false] at ht
  subst ht
  exact ⟨by kernel_rfl, of_decide_eq_true (by kernel_rfl)⟩
set_option maxRecDepth 100000 in
theorem newSender_lifted (os : Os) (started : os.Started) (H : Type) (enc : TypeId × Value → H) :
    ReturnsInHanded {} Try.checked os 3 .any (Rows.fnExactNewSenderSpec.pre6 enc Try.prog Try.f3 Rows.fnExactNewSenderRow.domain false) (Rows.fnExactNewSenderSpec.post enc Try.prog Try.f3 false true false false) := by
  refine returnsInHanded_of_change (C := Try.checked) ownKnobNone started (by kernel_rfl) Try.func3
    (ChangeSpec.witness6 (enc := enc) (C := Try.checked) false ⟨#[], #[.int .i64 0], []⟩ 8 (by kernel_rfl) (by kernel_rfl) (by kernel_rfl) (by kernel_rfl)) ?_
  intro W base args ds gs before hval0 hW hcnd _
  have hval : ∀ (j : Nat) t v, Try.f3.params[j]? = some t → args[j]? = some v → Value.okWide Try.prog W .any base t v := hval0
  have hW' := hW
  obtain ⟨p, q, hA0, hV, rfl, hfz, hnd⟩ := hW
  have hA : DataW.TrodAll enc Try.prog W 0 (fun _ => true) true Try.f3.params.toList args.toList ds p := hA0
  rw [Try.params3] at hA hval
  obtain ⟨v0, vs0, d0, ds0, p0, q0, hargs, rfl, rfl, h0, r0⟩ := trodAll_cons hA
  obtain ⟨rfl, rfl, rfl⟩ := trodAll_nil r0
  obtain rfl : args = #[v0] := by cases args; simp_all
  obtain ⟨n, rfl, -, -, wi0⟩ := open_int Try.underlying3 (hval 0 3 v0 rfl rfl) h0
  refine (newSender_walk n W).mono fun e W' ⟨he, hg⟩ => ?_
  subst he
  exact ⟨_, rfl, law_post laidOut newSender_reads rfl rfl Try.underlying4 hW' (fun gs h => by subst h; rfl) hg⟩
theorem newSender_over : Rows.fnExactNewSenderRow.holds Try.pinned (OpenSpec.ofChange Rows.fnExactNewSenderSpec) :=
  OpenClaim.holds_of_wide 3 Try.f3 rfl rfl rfl rfl rfl rfl rfl ⟨rfl, rfl, rfl, rfl, rfl⟩ rfl rfl rfl rfl rfl (by kernel_rfl) Try.func3 (by kernel_rfl)
    (of_decide_eq_true (by kernel_rfl)) (by unfold Func.isWrapper; first | (rw [if_pos (by decide +kernel)]; kernel_rfl) | (rw [if_neg (by decide +kernel)]; exact ⟨rfl, rfl⟩))
    (fun os started H enc _ => newSender_lifted os started H enc)
/-- The statement. -/
theorem newSender_holds : Rows.FnExactNewSenderSaid := newSender_over
#print axioms newSender_holds
end Go.Proofs.Ytmlpgnlpmdpjkaa

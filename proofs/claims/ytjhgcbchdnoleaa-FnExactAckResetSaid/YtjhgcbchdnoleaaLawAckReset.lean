/-
  The law FnExactAckReset holds of every argument. No condition.
-/
import Derived.Test.YtjhgcbchdnoleaaAckReset
import Derived.Test.YtjhgcbchdnoleaaNewSnd
import Derived.Test.YtjhgcbchdnoleaaSndIn
import Derived.Test.YtjhgcbchdnoleaaTable
import Derived.Test.YtjhgcbchdnoleaaLawKit
namespace Go.Proofs.Ytjhgcbchdnoleaa
open Go.ChangeShapes Go.WideShapes Go.ChangeAt Go.RowKit
set_option linter.unusedSimpArgs false
set_option linter.unusedVariables false
/-- The line of a table that says: a sender of these parts. -/
def sndL (st z b e fi fk se co : Int) (xs : List Int) (ps fs ks : List Rg) : Line :=
  ⟨fun v w => ∃ (a1 a2 a3 a4 : Option Addr) (ca1 ca2 ca3 ca4 : Nat), v = .agg #[.int .i64 st, .int .i64 z, .int .i64 b, .int .i64 e, .slice a1 xs.length ca1, .slice a2 ps.length ca2, .slice a3 fs.length ca3, .slice a4 ks.length ca4, .int .i64 fi, .int .i64 fk, .int .i64 se, .int .i64 co] ∧ ReadSnd w ⟨a1, a2, a3, a4⟩ ⟨xs, ps, fs, ks⟩,
   fun _ _ _ hg ⟨a1, a2, a3, a4, ca1, ca2, ca3, ca4, h1, h2⟩ => ⟨a1, a2, a3, a4, ca1, ca2, ca3, ca4, h1, h2.ext hg⟩⟩
theorem sndL_mk {st z b e fi fk se co : Int} {xs : List Int} {ps fs ks : List Rg} {a1 a2 a3 a4 : Option Addr} {ca1 ca2 ca3 ca4 : Nat} {w : World} (h : ReadSnd w ⟨a1, a2, a3, a4⟩ ⟨xs, ps, fs, ks⟩) : (sndL st z b e fi fk se co xs ps fs ks).p (.agg #[.int .i64 st, .int .i64 z, .int .i64 b, .int .i64 e, .slice a1 xs.length ca1, .slice a2 ps.length ca2, .slice a3 fs.length ca3, .slice a4 ks.length ca4, .int .i64 fi, .int .i64 fk, .int .i64 se, .int .i64 co]) w := ⟨a1, a2, a3, a4, ca1, ca2, ca3, ca4, rfl, h⟩
theorem sndL_get {st z b e fi fk se co : Int} {xs : List Int} {ps fs ks : List Rg} {v : Value} {w : World} (h : (sndL st z b e fi fk se co xs ps fs ks).p v w) : ∃ (a1 a2 a3 a4 : Option Addr) (ca1 ca2 ca3 ca4 : Nat), v = .agg #[.int .i64 st, .int .i64 z, .int .i64 b, .int .i64 e, .slice a1 xs.length ca1, .slice a2 ps.length ca2, .slice a3 fs.length ca3, .slice a4 ks.length ca4, .int .i64 fi, .int .i64 fk, .int .i64 se, .int .i64 co] ∧ ReadSnd w ⟨a1, a2, a3, a4⟩ ⟨xs, ps, fs, ks⟩ := h
set_option maxHeartbeats 8000000 in
set_option maxRecDepth 100000 in
theorem ackReset_yes (st z b e fi fk se co : Int) (a1 a2 a3 a4 : Option Addr) (ca1 ca2 ca3 ca4 : Nat) (xs : List Int) (ps fs ks : List Rg) (w : World) (hx : ReadSnd w ⟨a1, a2, a3, a4⟩ ⟨xs, ps, fs, ks⟩) (h1 : (xs.length : Int) + (ps.length : Int) + (fs.length : Int) + (ks.length : Int) ≤ 1048576) (st2 z2 b2 e2 fi2 fk2 se2 co2 : Int) (ys : List Int) (qs gs js : List Rg) (q : Bool) (h2 : (ys.length : Int) + (qs.length : Int) + (gs.length : Int) + (js.length : Int) ≤ 1048576)
    (Hs : ∀ (u1 u2 u3 u4 : Option Addr) (cu1 cu2 cu3 cu4 : Nat) (w : World) (_ : ReadSnd w ⟨u1, u2, u3, u4⟩ ⟨xs, ps, fs, ks⟩), Calls Try.prog 8 #[.agg #[.int .i64 st, .int .i64 z, .int .i64 b, .int .i64 e, .slice u1 xs.length cu1, .slice u2 ps.length cu2, .slice u3 fs.length cu3, .slice u4 ks.length cu4, .int .i64 fi, .int .i64 fk, .int .i64 se, .int .i64 co]] w (SndRes st2 z2 b2 e2 fi2 fk2 se2 co2 ys qs gs js (.bool q) w))
    (Hi : ∀ (u1 u2 u3 u4 : Option Addr) (cu1 cu2 cu3 cu4 : Nat) (w : World) (_ : ReadSnd w ⟨u1, u2, u3, u4⟩ ⟨xs, ps, fs, ks⟩), Calls Try.prog 10 #[.agg #[.int .i64 st, .int .i64 z, .int .i64 b, .int .i64 e, .slice u1 xs.length cu1, .slice u2 ps.length cu2, .slice u3 fs.length cu3, .slice u4 ks.length cu4, .int .i64 fi, .int .i64 fk, .int .i64 se, .int .i64 co]] w (SndRes st2 z2 b2 e2 fi2 fk2 se2 co2 ys qs gs js (.bool q) w)) :
    Calls Try.prog 3 #[.agg #[.int .i64 st, .int .i64 z, .int .i64 b, .int .i64 e, .slice a1 xs.length ca1, .slice a2 ps.length ca2, .slice a3 fs.length ca3, .slice a4 ks.length ca4, .int .i64 fi, .int .i64 fk, .int .i64 se, .int .i64 co]] w fun en w' => en = .returned (.bool true) ∧ Ext w w' := by
  have hx' := hide hx
  clear hx
  have hneg1 : decide (1 + (conMk ⟨xs, ps, fs, ks⟩ : Int) < 0) = false := by simp; omega
  have hneg2 : decide (1 + (conMk ⟨ys, qs, gs, js⟩ : Int) < 0) = false := by simp; omega
  have s3 : decide ((1048576 : Int) - ((xs.length : Int) + (ps.length : Int) + (fs.length : Int) + (ks.length : Int)) < 0) = false := decide_eq_false (by omega)
  go_enter Try.func3, Try.ntmps3
  go_wp2_with fail
  refine (szSender_yes st z b e fi fk se co a1 a2 a3 a4 ca1 ca2 ca3 ca4 xs ps fs ks 1048576 _ (by omega) (by omega) (by omega)).mono ?_
  rintro en w1 ⟨rfl, hw1⟩
  have zw1 : w.heap.size + 1 ≤ w1.heap.size := by have := hw1.size; (try simp at this); omega
  have kw1_0 := hw1.more (k := w.heap.size) (by first | assumption | (simp; done) | (simp; omega) | omega)
  obtain ⟨cw1_0, fw1_0⟩ := hw1.row (k := w.heap.size) (by first | assumption | (simp; done) | (simp; omega) | omega)
  have xw1 : Ext w w1 := (by repeat (first | with_reducible exact Ext.refl _ | with_reducible assumption | with_reducible refine Ext.alloc ?_ _ | with_reducible refine Ext.drew ?_ | ((with_reducible refine Ext.set ?_ ?_ _); (focus (first | (simp; done) | (simp; omega) | omega))) | with_reducible refine Ext.trans ?_ hw1))
  go_wp2_with fail
  refine (toSender_any st z b e fi fk se co a1 a2 a3 a4 ca1 ca2 ca3 ca4 xs ps fs ks _ ?_ ⟨by omega, by omega, by omega, by omega⟩).mono ?_
  · exact hx'.out.ext xw1
  rintro en w2 ⟨aT1, aT2, aT3, aT4, caT1, caT2, caT3, caT4, rfl, ownT, hw2⟩
  have zw2 : w1.heap.size ≤ w2.heap.size := by have := hw2.size; (try simp at this); omega
  have kw2_0 := hw2.more (k := w.heap.size) (by first | assumption | (simp; done) | (simp; omega) | omega)
  obtain ⟨cw2_0, fw2_0⟩ := hw2.row (k := w.heap.size) (by first | assumption | (simp; done) | (simp; omega) | omega)
  have xw2 : Ext w w2 := (by repeat (first | with_reducible exact Ext.refl _ | with_reducible assumption | with_reducible refine Ext.alloc ?_ _ | with_reducible refine Ext.drew ?_ | ((with_reducible refine Ext.set ?_ ?_ _); (focus (first | (simp; done) | (simp; omega) | omega))) | with_reducible exact xw1 | with_reducible refine Ext.trans ?_ hw2))
  have oT_w2 := hide (OwnSnd.mono (lo' := w1.heap.size) (hi' := w2.heap.size) ownT (by first | (simp; done) | (simp; omega) | omega) (Nat.le_refl _))
  clear ownT
  go_wp2_with fail
  refine (Hs aT1 aT2 aT3 aT4 caT1 caT2 caT3 caT4 _ (oT_w2.out.read.ext (by repeat (first | with_reducible exact Ext.refl _ | with_reducible assumption | with_reducible refine Ext.alloc ?_ _ | with_reducible refine Ext.drew ?_ | ((with_reducible refine Ext.set ?_ ?_ _); (focus (first | (simp; done) | (simp; omega) | omega))) | with_reducible refine Ext.trans ?_ hw2)))).mono ?_
  rintro en w3 ⟨aW1, aW2, aW3, aW4, caW1, caW2, caW3, caW4, rfl, ownW, hw3⟩
  have zw3 : w2.heap.size ≤ w3.heap.size := by have := hw3.size; (try simp at this); omega
  have kw3_0 := hw3.more (k := w.heap.size) (by first | assumption | (simp; done) | (simp; omega) | omega)
  obtain ⟨cw3_0, fw3_0⟩ := hw3.row (k := w.heap.size) (by first | assumption | (simp; done) | (simp; omega) | omega)
  have oT_w3 : Hid (OwnSnd w1.heap.size w2.heap.size w3 ⟨aT1, aT2, aT3, aT4⟩ (⟨xs, ps, fs, ks⟩)) := hide (OwnSnd.chg (S := fun _ => False) oT_w2.out (by repeat (first | with_reducible exact Chg.refl _ _ | with_reducible assumption | with_reducible refine Chg.alloc ?_ _ | with_reducible refine Chg.drew ?_ | ((with_reducible refine Chg.set ?_ ?_ _); (focus (first | (right; simp; done) | (right; simp; omega) | (right; omega)))) | with_reducible refine Chg.trans ?_ (Ext.chg hw3 _))) (fun _ _ _ h => h))
  have xw3 : Ext w w3 := (by repeat (first | with_reducible exact Ext.refl _ | with_reducible assumption | with_reducible refine Ext.alloc ?_ _ | with_reducible refine Ext.drew ?_ | ((with_reducible refine Ext.set ?_ ?_ _); (focus (first | (simp; done) | (simp; omega) | omega))) | with_reducible exact xw2 | with_reducible refine Ext.trans ?_ hw3))
  have oW_w3 := hide (OwnSnd.mono (lo' := w2.heap.size) (hi' := w3.heap.size) ownW (by first | (simp; done) | (simp; omega) | omega) (Nat.le_refl _))
  clear ownW
  go_wp2_with fail
  refine (toSender_any st z b e fi fk se co a1 a2 a3 a4 ca1 ca2 ca3 ca4 xs ps fs ks _ ?_ ⟨by omega, by omega, by omega, by omega⟩).mono ?_
  · exact hx'.out.ext (Ext.trans xw3 (by repeat (first | with_reducible exact Ext.refl _ | with_reducible assumption | with_reducible refine Ext.alloc ?_ _ | with_reducible refine Ext.drew ?_ | ((with_reducible refine Ext.set ?_ ?_ _); (focus (first | (simp; done) | (simp; omega) | omega))) | with_reducible refine Ext.trans ?_ hw3)))
  rintro en w4 ⟨aX1, aX2, aX3, aX4, caX1, caX2, caX3, caX4, rfl, ownX, hw4⟩
  have zw4 : w3.heap.size + 1 ≤ w4.heap.size := by have := hw4.size; (try simp at this); omega
  have kw4_0 := hw4.more (k := w.heap.size) (by first | assumption | (simp; done) | (simp; omega) | omega)
  obtain ⟨cw4_0, fw4_0⟩ := hw4.row (k := w.heap.size) (by first | assumption | (simp; done) | (simp; omega) | omega)
  have kw4_1 := hw4.more (k := w3.heap.size) (by first | assumption | (simp; done) | (simp; omega) | omega)
  obtain ⟨cw4_1, fw4_1⟩ := hw4.row (k := w3.heap.size) (by first | assumption | (simp; done) | (simp; omega) | omega)
  have oT_w4 : Hid (OwnSnd w1.heap.size w2.heap.size w4 ⟨aT1, aT2, aT3, aT4⟩ (⟨xs, ps, fs, ks⟩)) := hide (OwnSnd.chg (S := fun _ => False) oT_w3.out (by repeat (first | with_reducible exact Chg.refl _ _ | with_reducible assumption | with_reducible refine Chg.alloc ?_ _ | with_reducible refine Chg.drew ?_ | ((with_reducible refine Chg.set ?_ ?_ _); (focus (first | (right; simp; done) | (right; simp; omega) | (right; omega)))) | with_reducible refine Chg.trans ?_ (Ext.chg hw4 _))) (fun _ _ _ h => h))
  have oW_w4 : Hid (OwnSnd w2.heap.size w3.heap.size w4 ⟨aW1, aW2, aW3, aW4⟩ (⟨ys, qs, gs, js⟩)) := hide (OwnSnd.chg (S := fun _ => False) oW_w3.out (by repeat (first | with_reducible exact Chg.refl _ _ | with_reducible assumption | with_reducible refine Chg.alloc ?_ _ | with_reducible refine Chg.drew ?_ | ((with_reducible refine Chg.set ?_ ?_ _); (focus (first | (right; simp; done) | (right; simp; omega) | (right; omega)))) | with_reducible refine Chg.trans ?_ (Ext.chg hw4 _))) (fun _ _ _ h => h))
  have xw4 : Ext w w4 := (by repeat (first | with_reducible exact Ext.refl _ | with_reducible assumption | with_reducible refine Ext.alloc ?_ _ | with_reducible refine Ext.drew ?_ | ((with_reducible refine Ext.set ?_ ?_ _); (focus (first | (simp; done) | (simp; omega) | omega))) | with_reducible exact xw3 | with_reducible refine Ext.trans ?_ hw4))
  have oX_w4 := hide (OwnSnd.mono (lo' := w3.heap.size + 1) (hi' := w4.heap.size) ownX (by first | (simp; done) | (simp; omega) | omega) (Nat.le_refl _))
  clear ownX
  go_wp2_with fail
  refine (Hi aX1 aX2 aX3 aX4 caX1 caX2 caX3 caX4 _ (oX_w4.out.read.ext (by repeat (first | with_reducible exact Ext.refl _ | with_reducible assumption | with_reducible refine Ext.alloc ?_ _ | with_reducible refine Ext.drew ?_ | ((with_reducible refine Ext.set ?_ ?_ _); (focus (first | (simp; done) | (simp; omega) | omega))) | with_reducible refine Ext.trans ?_ hw4)))).mono ?_
  rintro en w5 ⟨aG1, aG2, aG3, aG4, caG1, caG2, caG3, caG4, rfl, ownG, hw5⟩
  have zw5 : w4.heap.size + 1 ≤ w5.heap.size := by have := hw5.size; (try simp at this); omega
  have kw5_0 := hw5.more (k := w.heap.size) (by first | assumption | (simp; done) | (simp; omega) | omega)
  obtain ⟨cw5_0, fw5_0⟩ := hw5.row (k := w.heap.size) (by first | assumption | (simp; done) | (simp; omega) | omega)
  have kw5_1 := hw5.more (k := w3.heap.size) (by first | assumption | (simp; done) | (simp; omega) | omega)
  obtain ⟨cw5_1, fw5_1⟩ := hw5.row (k := w3.heap.size) (by first | assumption | (simp; done) | (simp; omega) | omega)
  have kw5_2 := hw5.more (k := w4.heap.size) (by first | assumption | (simp; done) | (simp; omega) | omega)
  obtain ⟨cw5_2, fw5_2⟩ := hw5.row (k := w4.heap.size) (by first | assumption | (simp; done) | (simp; omega) | omega)
  have oT_w5 : Hid (OwnSnd w1.heap.size w2.heap.size w5 ⟨aT1, aT2, aT3, aT4⟩ (⟨xs, ps, fs, ks⟩)) := hide (OwnSnd.chg (S := fun _ => False) oT_w4.out (by repeat (first | with_reducible exact Chg.refl _ _ | with_reducible assumption | with_reducible refine Chg.alloc ?_ _ | with_reducible refine Chg.drew ?_ | ((with_reducible refine Chg.set ?_ ?_ _); (focus (first | (right; simp; done) | (right; simp; omega) | (right; omega)))) | with_reducible refine Chg.trans ?_ (Ext.chg hw5 _))) (fun _ _ _ h => h))
  have oW_w5 : Hid (OwnSnd w2.heap.size w3.heap.size w5 ⟨aW1, aW2, aW3, aW4⟩ (⟨ys, qs, gs, js⟩)) := hide (OwnSnd.chg (S := fun _ => False) oW_w4.out (by repeat (first | with_reducible exact Chg.refl _ _ | with_reducible assumption | with_reducible refine Chg.alloc ?_ _ | with_reducible refine Chg.drew ?_ | ((with_reducible refine Chg.set ?_ ?_ _); (focus (first | (right; simp; done) | (right; simp; omega) | (right; omega)))) | with_reducible refine Chg.trans ?_ (Ext.chg hw5 _))) (fun _ _ _ h => h))
  have oX_w5 : Hid (OwnSnd (w3.heap.size + 1) w4.heap.size w5 ⟨aX1, aX2, aX3, aX4⟩ (⟨xs, ps, fs, ks⟩)) := hide (OwnSnd.chg (S := fun _ => False) oX_w4.out (by repeat (first | with_reducible exact Chg.refl _ _ | with_reducible assumption | with_reducible refine Chg.alloc ?_ _ | with_reducible refine Chg.drew ?_ | ((with_reducible refine Chg.set ?_ ?_ _); (focus (first | (right; simp; done) | (right; simp; omega) | (right; omega)))) | with_reducible refine Chg.trans ?_ (Ext.chg hw5 _))) (fun _ _ _ h => h))
  have xw5 : Ext w w5 := (by repeat (first | with_reducible exact Ext.refl _ | with_reducible assumption | with_reducible refine Ext.alloc ?_ _ | with_reducible refine Ext.drew ?_ | ((with_reducible refine Ext.set ?_ ?_ _); (focus (first | (simp; done) | (simp; omega) | omega))) | with_reducible exact xw4 | with_reducible refine Ext.trans ?_ hw5))
  have oG_w5 := hide (OwnSnd.mono (lo' := w4.heap.size + 1) (hi' := w5.heap.size) ownG (by first | (simp; done) | (simp; omega) | omega) (Nat.le_refl _))
  clear ownG
  go_wp2_with fail
  refine (eqSender_any st2 z2 b2 e2 fi2 fk2 se2 co2 aG1 aG2 aG3 aG4 caG1 caG2 caG3 caG4 aW1 aW2 aW3 aW4 caW1 caW2 caW3 caW4 ys qs gs js _ (oG_w5.out.read.ext (by repeat (first | with_reducible exact Ext.refl _ | with_reducible assumption | with_reducible refine Ext.alloc ?_ _ | with_reducible refine Ext.drew ?_ | ((with_reducible refine Ext.set ?_ ?_ _); (focus (first | (simp; done) | (simp; omega) | omega))) | with_reducible refine Ext.trans ?_ hw5))) (oW_w5.out.read.ext (by repeat (first | with_reducible exact Ext.refl _ | with_reducible assumption | with_reducible refine Ext.alloc ?_ _ | with_reducible refine Ext.drew ?_ | ((with_reducible refine Ext.set ?_ ?_ _); (focus (first | (simp; done) | (simp; omega) | omega))) | with_reducible refine Ext.trans ?_ hw5))) ⟨by omega, by omega, by omega, by omega⟩).mono ?_
  rintro en w6 ⟨rfl, hw6⟩
  have zw6 : w5.heap.size + 1 ≤ w6.heap.size := by have := hw6.size; (try simp at this); omega
  have kw6_0 := hw6.more (k := w.heap.size) (by first | assumption | (simp; done) | (simp; omega) | omega)
  obtain ⟨cw6_0, fw6_0⟩ := hw6.row (k := w.heap.size) (by first | assumption | (simp; done) | (simp; omega) | omega)
  have kw6_1 := hw6.more (k := w3.heap.size) (by first | assumption | (simp; done) | (simp; omega) | omega)
  obtain ⟨cw6_1, fw6_1⟩ := hw6.row (k := w3.heap.size) (by first | assumption | (simp; done) | (simp; omega) | omega)
  have kw6_2 := hw6.more (k := w4.heap.size) (by first | assumption | (simp; done) | (simp; omega) | omega)
  obtain ⟨cw6_2, fw6_2⟩ := hw6.row (k := w4.heap.size) (by first | assumption | (simp; done) | (simp; omega) | omega)
  have kw6_3 := hw6.more (k := w5.heap.size) (by first | assumption | (simp; done) | (simp; omega) | omega)
  obtain ⟨cw6_3, fw6_3⟩ := hw6.row (k := w5.heap.size) (by first | assumption | (simp; done) | (simp; omega) | omega)
  have oT_w6 : Hid (OwnSnd w1.heap.size w2.heap.size w6 ⟨aT1, aT2, aT3, aT4⟩ (⟨xs, ps, fs, ks⟩)) := hide (OwnSnd.chg (S := fun _ => False) oT_w5.out (by repeat (first | with_reducible exact Chg.refl _ _ | with_reducible assumption | with_reducible refine Chg.alloc ?_ _ | with_reducible refine Chg.drew ?_ | ((with_reducible refine Chg.set ?_ ?_ _); (focus (first | (right; simp; done) | (right; simp; omega) | (right; omega)))) | with_reducible refine Chg.trans ?_ (Ext.chg hw6 _))) (fun _ _ _ h => h))
  have oW_w6 : Hid (OwnSnd w2.heap.size w3.heap.size w6 ⟨aW1, aW2, aW3, aW4⟩ (⟨ys, qs, gs, js⟩)) := hide (OwnSnd.chg (S := fun _ => False) oW_w5.out (by repeat (first | with_reducible exact Chg.refl _ _ | with_reducible assumption | with_reducible refine Chg.alloc ?_ _ | with_reducible refine Chg.drew ?_ | ((with_reducible refine Chg.set ?_ ?_ _); (focus (first | (right; simp; done) | (right; simp; omega) | (right; omega)))) | with_reducible refine Chg.trans ?_ (Ext.chg hw6 _))) (fun _ _ _ h => h))
  have oX_w6 : Hid (OwnSnd (w3.heap.size + 1) w4.heap.size w6 ⟨aX1, aX2, aX3, aX4⟩ (⟨xs, ps, fs, ks⟩)) := hide (OwnSnd.chg (S := fun _ => False) oX_w5.out (by repeat (first | with_reducible exact Chg.refl _ _ | with_reducible assumption | with_reducible refine Chg.alloc ?_ _ | with_reducible refine Chg.drew ?_ | ((with_reducible refine Chg.set ?_ ?_ _); (focus (first | (right; simp; done) | (right; simp; omega) | (right; omega)))) | with_reducible refine Chg.trans ?_ (Ext.chg hw6 _))) (fun _ _ _ h => h))
  have oG_w6 : Hid (OwnSnd (w4.heap.size + 1) w5.heap.size w6 ⟨aG1, aG2, aG3, aG4⟩ (⟨ys, qs, gs, js⟩)) := hide (OwnSnd.chg (S := fun _ => False) oG_w5.out (by repeat (first | with_reducible exact Chg.refl _ _ | with_reducible assumption | with_reducible refine Chg.alloc ?_ _ | with_reducible refine Chg.drew ?_ | ((with_reducible refine Chg.set ?_ ?_ _); (focus (first | (right; simp; done) | (right; simp; omega) | (right; omega)))) | with_reducible refine Chg.trans ?_ (Ext.chg hw6 _))) (fun _ _ _ h => h))
  have xw6 : Ext w w6 := (by repeat (first | with_reducible exact Ext.refl _ | with_reducible assumption | with_reducible refine Ext.alloc ?_ _ | with_reducible refine Ext.drew ?_ | ((with_reducible refine Ext.set ?_ ?_ _); (focus (first | (simp; done) | (simp; omega) | omega))) | with_reducible exact xw5 | with_reducible refine Ext.trans ?_ hw6))
  go_wp2_with fail
  refine wp_region_lines [Line.is (.agg #[.int .i64 st, .int .i64 z, .int .i64 b, .int .i64 e, .slice aX1 xs.length caX1, .slice aX2 ps.length caX2, .slice aX3 fs.length caX3, .slice aX4 ks.length caX4, .int .i64 fi, .int .i64 fk, .int .i64 se, .int .i64 co]), Line.is (.agg #[.int .i64 st, .int .i64 z, .int .i64 b, .int .i64 e, .slice a1 xs.length ca1, .slice a2 ps.length ca2, .slice a3 fs.length ca3, .slice a4 ks.length ca4, .int .i64 fi, .int .i64 fk, .int .i64 se, .int .i64 co]), sndL st z b e fi fk se co xs ps fs ks, Line.is (.bool true), Line.is (.bool false)] [41, 42, 43, 44, 45] (by kernel_rfl) (by kernel_rfl) (by kernel_rfl) (by kernel_rfl) (by kernel_rfl) ?_ ?_
  · refine Each.cons ?_ (Each.cons ?_ (Each.cons ?_ (Each.cons ?_ (Each.cons ?_ (Each.nil)))))
    · intro g ws hws hl
      have hxs : Ext w ws := xw6.drew.trans hws
      simp only [fillAt, List.foldl_cons, List.foldl_nil, Act.put, List.setIfInBounds_toArray, List.set_cons_zero, List.set_cons_succ]
      obtain ⟨q0, p0⟩ := hws.row (k := w4.heap.size) (by first | assumption | (simp; done) | (simp; omega) | omega)
      obtain ⟨q1, p1⟩ := hws.row (k := w.heap.size) (by first | assumption | (simp; done) | (simp; omega) | omega)
      refine Stays.plain ?_ (by rfl) ?_ ?_
      rotate_left
      · go_simp
        try with_reducible rfl
      · exact rfl
    · intro g ws hws hl
      have hxs : Ext w ws := xw6.drew.trans hws
      simp only [fillAt, List.foldl_cons, List.foldl_nil, Act.put, List.setIfInBounds_toArray, List.set_cons_zero, List.set_cons_succ]
      obtain ⟨q0, p0⟩ := hws.row (k := w4.heap.size) (by first | assumption | (simp; done) | (simp; omega) | omega)
      obtain ⟨q1, p1⟩ := hws.row (k := w.heap.size) (by first | assumption | (simp; done) | (simp; omega) | omega)
      refine Stays.plain ?_ (by rfl) ?_ ?_
      rotate_left
      · go_simp
        try with_reducible rfl
      · exact rfl
    · intro g ws hws hl
      have hxs : Ext w ws := xw6.drew.trans hws
      have ln1 : g 42 = _ := (show (Line.is (.agg #[.int .i64 st, .int .i64 z, .int .i64 b, .int .i64 e, .slice a1 xs.length ca1, .slice a2 ps.length ca2, .slice a3 fs.length ca3, .slice a4 ks.length ca4, .int .i64 fi, .int .i64 fk, .int .i64 se, .int .i64 co])).p (g 42) ws from linesOf_get 1 hl (by kernel_rfl))
      simp only [fillAt, List.foldl_cons, List.foldl_nil, Act.put, List.setIfInBounds_toArray, List.set_cons_zero, List.set_cons_succ, ln1]
      refine Stays.call 9 ?_ (by rfl) ?_ ?_
      rotate_left
      · go_simp
        try with_reducible rfl
      · refine (toSender_any st z b e fi fk se co a1 a2 a3 a4 ca1 ca2 ca3 ca4 xs ps fs ks _ ?_ ⟨by omega, by omega, by omega, by omega⟩).mono ?_
        · exact hx'.out.ext hxs
        · rintro en w3 ⟨d1, d2, d3, d4, cd1, cd2, cd3, cd4, rfl, ho3, hb3⟩
          exact ⟨_, rfl, hb3, sndL_mk ho3.read⟩
    · intro g ws hws hl
      have hxs : Ext w ws := xw6.drew.trans hws
      have ln0 : g 41 = _ := (show (Line.is (.agg #[.int .i64 st, .int .i64 z, .int .i64 b, .int .i64 e, .slice aX1 xs.length caX1, .slice aX2 ps.length caX2, .slice aX3 fs.length caX3, .slice aX4 ks.length caX4, .int .i64 fi, .int .i64 fk, .int .i64 se, .int .i64 co])).p (g 41) ws from linesOf_get 0 hl (by kernel_rfl))
      obtain ⟨C1, C2, C3, C4, cC1, cC2, cC3, cC4, ln2, hC⟩ := sndL_get (show (sndL st z b e fi fk se co xs ps fs ks).p (g 43) ws from linesOf_get 2 hl (by kernel_rfl))
      simp only [fillAt, List.foldl_cons, List.foldl_nil, Act.put, List.setIfInBounds_toArray, List.set_cons_zero, List.set_cons_succ, ln0, ln2]
      refine Stays.call 11 ?_ (by rfl) ?_ ?_
      rotate_left
      · go_simp
        try with_reducible rfl
      · refine (eqSender_any st z b e fi fk se co aX1 aX2 aX3 aX4 caX1 caX2 caX3 caX4 C1 C2 C3 C4 cC1 cC2 cC3 cC4 xs ps fs ks _ (oX_w6.out.read.ext (by repeat (first | with_reducible exact Ext.refl _ | with_reducible assumption | with_reducible refine Ext.alloc ?_ _ | with_reducible refine Ext.drew ?_ | ((with_reducible refine Ext.set ?_ ?_ _); (focus (first | (simp; done) | (simp; omega) | omega))) | with_reducible refine Ext.trans ?_ hws | with_reducible refine Ext.trans ?_ hw6))) hC ⟨by omega, by omega, by omega, by omega⟩).mono ?_
        rintro en w9 ⟨rfl, hb9⟩
        exact ⟨_, rfl, hb9, rfl⟩
    · intro g ws hws hl
      have hxs : Ext w ws := xw6.drew.trans hws
      have ln3 : g 44 = _ := (show (Line.is (.bool true)).p (g 44) ws from linesOf_get 3 hl (by kernel_rfl))
      simp only [fillAt, List.foldl_cons, List.foldl_nil, Act.put, List.setIfInBounds_toArray, List.set_cons_zero, List.set_cons_succ, ln3]
      refine Stays.plain ?_ (by rfl) ?_ ?_
      rotate_left
      · go_simp
        try with_reducible rfl
      · exact rfl
  · intro g w7 hw7 hl
    have xw7 : Ext w w7 := xw6.drew.trans hw7
    have ln0 : g 41 = _ := (show (Line.is (.agg #[.int .i64 st, .int .i64 z, .int .i64 b, .int .i64 e, .slice aX1 xs.length caX1, .slice aX2 ps.length caX2, .slice aX3 fs.length caX3, .slice aX4 ks.length caX4, .int .i64 fi, .int .i64 fk, .int .i64 se, .int .i64 co])).p (g 41) w7 from (allLines_get 41 0 0 hl rfl))
    have ln1 : g 42 = _ := (show (Line.is (.agg #[.int .i64 st, .int .i64 z, .int .i64 b, .int .i64 e, .slice a1 xs.length ca1, .slice a2 ps.length ca2, .slice a3 fs.length ca3, .slice a4 ks.length ca4, .int .i64 fi, .int .i64 fk, .int .i64 se, .int .i64 co])).p (g 42) w7 from (allLines_get 42 1 0 hl rfl))
    obtain ⟨C1, C2, C3, C4, cC1, cC2, cC3, cC4, ln2, hC⟩ := sndL_get (show (sndL st z b e fi fk se co xs ps fs ks).p (g 43) w7 from (allLines_get 43 2 0 hl rfl))
    have ln3 : g 44 = _ := (show (Line.is (.bool true)).p (g 44) w7 from (allLines_get 44 3 0 hl rfl))
    have ln4 : g 45 = _ := (show (Line.is (.bool false)).p (g 45) w7 from (allLines_get 45 4 0 hl rfl))
    clear hl
    simp only [fillAt, List.foldl_cons, List.foldl_nil, Act.put, List.setIfInBounds_toArray, List.set_cons_zero, List.set_cons_succ, ln0, ln1, ln2, ln3, ln4]
    have zw7 : w6.heap.size ≤ w7.heap.size := by have := hw7.size; simpa using this
    have kw7_0 := hw7.more (k := w.heap.size) (by first | assumption | (simp; done) | (simp; omega) | omega)
    obtain ⟨cw7_0, fw7_0⟩ := hw7.row (k := w.heap.size) (by first | assumption | (simp; done) | (simp; omega) | omega)
    have kw7_1 := hw7.more (k := w3.heap.size) (by first | assumption | (simp; done) | (simp; omega) | omega)
    obtain ⟨cw7_1, fw7_1⟩ := hw7.row (k := w3.heap.size) (by first | assumption | (simp; done) | (simp; omega) | omega)
    have kw7_2 := hw7.more (k := w4.heap.size) (by first | assumption | (simp; done) | (simp; omega) | omega)
    obtain ⟨cw7_2, fw7_2⟩ := hw7.row (k := w4.heap.size) (by first | assumption | (simp; done) | (simp; omega) | omega)
    have kw7_3 := hw7.more (k := w5.heap.size) (by first | assumption | (simp; done) | (simp; omega) | omega)
    obtain ⟨cw7_3, fw7_3⟩ := hw7.row (k := w5.heap.size) (by first | assumption | (simp; done) | (simp; omega) | omega)
    have oT_w7 : Hid (OwnSnd w1.heap.size w2.heap.size w7 ⟨aT1, aT2, aT3, aT4⟩ (⟨xs, ps, fs, ks⟩)) := hide (OwnSnd.chg (S := fun _ => False) oT_w6.out (by repeat (first | with_reducible exact Chg.refl _ _ | with_reducible assumption | with_reducible refine Chg.alloc ?_ _ | with_reducible refine Chg.drew ?_ | ((with_reducible refine Chg.set ?_ ?_ _); (focus (first | (right; simp; done) | (right; simp; omega) | (right; omega)))) | with_reducible refine Chg.trans ?_ (Ext.chg hw7 _))) (fun _ _ _ h => h))
    have oW_w7 : Hid (OwnSnd w2.heap.size w3.heap.size w7 ⟨aW1, aW2, aW3, aW4⟩ (⟨ys, qs, gs, js⟩)) := hide (OwnSnd.chg (S := fun _ => False) oW_w6.out (by repeat (first | with_reducible exact Chg.refl _ _ | with_reducible assumption | with_reducible refine Chg.alloc ?_ _ | with_reducible refine Chg.drew ?_ | ((with_reducible refine Chg.set ?_ ?_ _); (focus (first | (right; simp; done) | (right; simp; omega) | (right; omega)))) | with_reducible refine Chg.trans ?_ (Ext.chg hw7 _))) (fun _ _ _ h => h))
    have oX_w7 : Hid (OwnSnd (w3.heap.size + 1) w4.heap.size w7 ⟨aX1, aX2, aX3, aX4⟩ (⟨xs, ps, fs, ks⟩)) := hide (OwnSnd.chg (S := fun _ => False) oX_w6.out (by repeat (first | with_reducible exact Chg.refl _ _ | with_reducible assumption | with_reducible refine Chg.alloc ?_ _ | with_reducible refine Chg.drew ?_ | ((with_reducible refine Chg.set ?_ ?_ _); (focus (first | (right; simp; done) | (right; simp; omega) | (right; omega)))) | with_reducible refine Chg.trans ?_ (Ext.chg hw7 _))) (fun _ _ _ h => h))
    have oG_w7 : Hid (OwnSnd (w4.heap.size + 1) w5.heap.size w7 ⟨aG1, aG2, aG3, aG4⟩ (⟨ys, qs, gs, js⟩)) := hide (OwnSnd.chg (S := fun _ => False) oG_w6.out (by repeat (first | with_reducible exact Chg.refl _ _ | with_reducible assumption | with_reducible refine Chg.alloc ?_ _ | with_reducible refine Chg.drew ?_ | ((with_reducible refine Chg.set ?_ ?_ _); (focus (first | (right; simp; done) | (right; simp; omega) | (right; omega)))) | with_reducible refine Chg.trans ?_ (Ext.chg hw7 _))) (fun _ _ _ h => h))
    go_wp2_with fail
    refine (sender_mark (w3.heap.size + 1) w4.heap.size st z b e fi fk se co aX1 aX2 aX3 aX4 caX1 caX2 caX3 caX4 xs ps fs ks 1 _ (OwnSnd.chg (S := fun _ => False) oX_w7.out (by repeat (first | with_reducible exact Chg.refl _ _ | with_reducible assumption | with_reducible refine Chg.alloc ?_ _ | with_reducible refine Chg.drew ?_ | ((with_reducible refine Chg.set ?_ ?_ _); (focus (first | (right; simp; done) | (right; simp; omega) | (right; omega)))))) (fun _ _ _ h => h)) ⟨by omega, by omega, by omega, by omega⟩ (by omega) (by omega) (by omega) (by first | omega | (simp; omega))).mono ?_
    rintro en w8 ⟨rfl, omX, hw8⟩
    have zw8 : w7.heap.size ≤ w8.heap.size := by have := hw8.size; (try simp at this); omega
    have kw8_0 := hw8.more (k := w.heap.size) (by first | assumption | (simp; done) | (simp; omega) | omega)
    obtain ⟨cw8_0, fw8_0⟩ := hw8.row (k := w.heap.size) (by first | assumption | (simp; done) | (simp; omega) | omega) (by omega)
    have kw8_1 := hw8.more (k := w3.heap.size) (by first | assumption | (simp; done) | (simp; omega) | omega)
    obtain ⟨cw8_1, fw8_1⟩ := hw8.row (k := w3.heap.size) (by first | assumption | (simp; done) | (simp; omega) | omega) (by omega)
    have kw8_2 := hw8.more (k := w4.heap.size) (by first | assumption | (simp; done) | (simp; omega) | omega)
    obtain ⟨cw8_2, fw8_2⟩ := hw8.row (k := w4.heap.size) (by first | assumption | (simp; done) | (simp; omega) | omega) (by omega)
    have kw8_3 := hw8.more (k := w5.heap.size) (by first | assumption | (simp; done) | (simp; omega) | omega)
    obtain ⟨cw8_3, fw8_3⟩ := hw8.row (k := w5.heap.size) (by first | assumption | (simp; done) | (simp; omega) | omega) (by omega)
    have oT_w8 : Hid (OwnSnd w1.heap.size w2.heap.size w8 ⟨aT1, aT2, aT3, aT4⟩ (⟨xs, ps, fs, ks⟩)) := hide (OwnSnd.chg (S := fun k => w3.heap.size + 1 ≤ k ∧ k < w4.heap.size) oT_w7.out (by repeat (first | with_reducible exact Chg.refl _ _ | with_reducible assumption | with_reducible refine Chg.alloc ?_ _ | with_reducible refine Chg.drew ?_ | ((with_reducible refine Chg.set ?_ ?_ _); (focus (first | (right; simp; done) | (right; simp; omega) | (right; omega)))) | with_reducible refine Chg.trans ?_ hw8)) (fun b h1 h2 h3 => by omega))
    have oW_w8 : Hid (OwnSnd w2.heap.size w3.heap.size w8 ⟨aW1, aW2, aW3, aW4⟩ (⟨ys, qs, gs, js⟩)) := hide (OwnSnd.chg (S := fun k => w3.heap.size + 1 ≤ k ∧ k < w4.heap.size) oW_w7.out (by repeat (first | with_reducible exact Chg.refl _ _ | with_reducible assumption | with_reducible refine Chg.alloc ?_ _ | with_reducible refine Chg.drew ?_ | ((with_reducible refine Chg.set ?_ ?_ _); (focus (first | (right; simp; done) | (right; simp; omega) | (right; omega)))) | with_reducible refine Chg.trans ?_ hw8)) (fun b h1 h2 h3 => by omega))
    have oG_w8 : Hid (OwnSnd (w4.heap.size + 1) w5.heap.size w8 ⟨aG1, aG2, aG3, aG4⟩ (⟨ys, qs, gs, js⟩)) := hide (OwnSnd.chg (S := fun k => w3.heap.size + 1 ≤ k ∧ k < w4.heap.size) oG_w7.out (by repeat (first | with_reducible exact Chg.refl _ _ | with_reducible assumption | with_reducible refine Chg.alloc ?_ _ | with_reducible refine Chg.drew ?_ | ((with_reducible refine Chg.set ?_ ?_ _); (focus (first | (right; simp; done) | (right; simp; omega) | (right; omega)))) | with_reducible refine Chg.trans ?_ hw8)) (fun b h1 h2 h3 => by omega))
    have xw8 : Ext w w8 := (Chg.trans (Ext.chg (S := fun k => w3.heap.size + 1 ≤ k ∧ k < w4.heap.size) (a := w) (by repeat (first | with_reducible assumption | with_reducible refine Ext.alloc ?_ _ | with_reducible refine Ext.drew ?_ | ((with_reducible refine Ext.set ?_ ?_ _); (focus (first | (simp; done) | (simp; omega) | omega)))))) hw8).ext (fun k hk h => by omega)
    have oX_mw8 := hide omX
    clear omX
    go_wp2_with fail
    refine (eqSender_any st2 z2 b2 e2 fi2 fk2 se2 co2 aG1 aG2 aG3 aG4 caG1 caG2 caG3 caG4 aW1 aW2 aW3 aW4 caW1 caW2 caW3 caW4 ys qs gs js _ (oG_w8.out.read.ext (by repeat (first | with_reducible exact Ext.refl _ | with_reducible assumption | with_reducible refine Ext.alloc ?_ _ | with_reducible refine Ext.drew ?_ | ((with_reducible refine Ext.set ?_ ?_ _); (focus (first | (simp; done) | (simp; omega) | omega))) | with_reducible refine Ext.trans ?_ hw7))) (oW_w8.out.read.ext (by repeat (first | with_reducible exact Ext.refl _ | with_reducible assumption | with_reducible refine Ext.alloc ?_ _ | with_reducible refine Ext.drew ?_ | ((with_reducible refine Ext.set ?_ ?_ _); (focus (first | (simp; done) | (simp; omega) | omega))) | with_reducible refine Ext.trans ?_ hw7))) ⟨by omega, by omega, by omega, by omega⟩).mono ?_
    rintro en w9 ⟨rfl, hw9⟩
    have zw9 : w8.heap.size ≤ w9.heap.size := by have := hw9.size; (try simp at this); omega
    have kw9_0 := hw9.more (k := w.heap.size) (by first | assumption | (simp; done) | (simp; omega) | omega)
    obtain ⟨cw9_0, fw9_0⟩ := hw9.row (k := w.heap.size) (by first | assumption | (simp; done) | (simp; omega) | omega)
    have kw9_1 := hw9.more (k := w3.heap.size) (by first | assumption | (simp; done) | (simp; omega) | omega)
    obtain ⟨cw9_1, fw9_1⟩ := hw9.row (k := w3.heap.size) (by first | assumption | (simp; done) | (simp; omega) | omega)
    have kw9_2 := hw9.more (k := w4.heap.size) (by first | assumption | (simp; done) | (simp; omega) | omega)
    obtain ⟨cw9_2, fw9_2⟩ := hw9.row (k := w4.heap.size) (by first | assumption | (simp; done) | (simp; omega) | omega)
    have kw9_3 := hw9.more (k := w5.heap.size) (by first | assumption | (simp; done) | (simp; omega) | omega)
    obtain ⟨cw9_3, fw9_3⟩ := hw9.row (k := w5.heap.size) (by first | assumption | (simp; done) | (simp; omega) | omega)
    have oT_w9 : Hid (OwnSnd w1.heap.size w2.heap.size w9 ⟨aT1, aT2, aT3, aT4⟩ (⟨xs, ps, fs, ks⟩)) := hide (OwnSnd.chg (S := fun _ => False) oT_w8.out (by repeat (first | with_reducible exact Chg.refl _ _ | with_reducible assumption | with_reducible refine Chg.alloc ?_ _ | with_reducible refine Chg.drew ?_ | ((with_reducible refine Chg.set ?_ ?_ _); (focus (first | (right; simp; done) | (right; simp; omega) | (right; omega)))) | with_reducible refine Chg.trans ?_ (Ext.chg hw9 _))) (fun _ _ _ h => h))
    have oW_w9 : Hid (OwnSnd w2.heap.size w3.heap.size w9 ⟨aW1, aW2, aW3, aW4⟩ (⟨ys, qs, gs, js⟩)) := hide (OwnSnd.chg (S := fun _ => False) oW_w8.out (by repeat (first | with_reducible exact Chg.refl _ _ | with_reducible assumption | with_reducible refine Chg.alloc ?_ _ | with_reducible refine Chg.drew ?_ | ((with_reducible refine Chg.set ?_ ?_ _); (focus (first | (right; simp; done) | (right; simp; omega) | (right; omega)))) | with_reducible refine Chg.trans ?_ (Ext.chg hw9 _))) (fun _ _ _ h => h))
    have oX_w9 : Hid (OwnSnd (w3.heap.size + 1) w4.heap.size w9 ⟨aX1, aX2, aX3, aX4⟩ ((marksSnd 1 ⟨xs, ps, fs, ks⟩))) := hide (OwnSnd.chg (S := fun _ => False) oX_mw8.out (by repeat (first | with_reducible exact Chg.refl _ _ | with_reducible assumption | with_reducible refine Chg.alloc ?_ _ | with_reducible refine Chg.drew ?_ | ((with_reducible refine Chg.set ?_ ?_ _); (focus (first | (right; simp; done) | (right; simp; omega) | (right; omega)))) | with_reducible refine Chg.trans ?_ (Ext.chg hw9 _))) (fun _ _ _ h => h))
    have oG_w9 : Hid (OwnSnd (w4.heap.size + 1) w5.heap.size w9 ⟨aG1, aG2, aG3, aG4⟩ (⟨ys, qs, gs, js⟩)) := hide (OwnSnd.chg (S := fun _ => False) oG_w8.out (by repeat (first | with_reducible exact Chg.refl _ _ | with_reducible assumption | with_reducible refine Chg.alloc ?_ _ | with_reducible refine Chg.drew ?_ | ((with_reducible refine Chg.set ?_ ?_ _); (focus (first | (right; simp; done) | (right; simp; omega) | (right; omega)))) | with_reducible refine Chg.trans ?_ (Ext.chg hw9 _))) (fun _ _ _ h => h))
    have xw9 : Ext w w9 := (by repeat (first | with_reducible exact Ext.refl _ | with_reducible assumption | with_reducible refine Ext.alloc ?_ _ | with_reducible refine Ext.drew ?_ | ((with_reducible refine Ext.set ?_ ?_ _); (focus (first | (simp; done) | (simp; omega) | omega))) | with_reducible exact xw8 | with_reducible refine Ext.trans ?_ hw9))
    go_wp2_with fail
    refine (sender_mark (w4.heap.size + 1) w5.heap.size st2 z2 b2 e2 fi2 fk2 se2 co2 aG1 aG2 aG3 aG4 caG1 caG2 caG3 caG4 ys qs gs js 1 _ (OwnSnd.chg (S := fun _ => False) oG_w9.out (by repeat (first | with_reducible exact Chg.refl _ _ | with_reducible assumption | with_reducible refine Chg.alloc ?_ _ | with_reducible refine Chg.drew ?_ | ((with_reducible refine Chg.set ?_ ?_ _); (focus (first | (right; simp; done) | (right; simp; omega) | (right; omega)))))) (fun _ _ _ h => h)) ⟨by omega, by omega, by omega, by omega⟩ (by omega) (by omega) (by omega) (by first | omega | (simp; omega))).mono ?_
    rintro en w10 ⟨rfl, omG, hw10⟩
    have zw10 : w9.heap.size ≤ w10.heap.size := by have := hw10.size; (try simp at this); omega
    have kw10_0 := hw10.more (k := w.heap.size) (by first | assumption | (simp; done) | (simp; omega) | omega)
    obtain ⟨cw10_0, fw10_0⟩ := hw10.row (k := w.heap.size) (by first | assumption | (simp; done) | (simp; omega) | omega) (by omega)
    have kw10_1 := hw10.more (k := w3.heap.size) (by first | assumption | (simp; done) | (simp; omega) | omega)
    obtain ⟨cw10_1, fw10_1⟩ := hw10.row (k := w3.heap.size) (by first | assumption | (simp; done) | (simp; omega) | omega) (by omega)
    have kw10_2 := hw10.more (k := w4.heap.size) (by first | assumption | (simp; done) | (simp; omega) | omega)
    obtain ⟨cw10_2, fw10_2⟩ := hw10.row (k := w4.heap.size) (by first | assumption | (simp; done) | (simp; omega) | omega) (by omega)
    have kw10_3 := hw10.more (k := w5.heap.size) (by first | assumption | (simp; done) | (simp; omega) | omega)
    obtain ⟨cw10_3, fw10_3⟩ := hw10.row (k := w5.heap.size) (by first | assumption | (simp; done) | (simp; omega) | omega) (by omega)
    have oT_w10 : Hid (OwnSnd w1.heap.size w2.heap.size w10 ⟨aT1, aT2, aT3, aT4⟩ (⟨xs, ps, fs, ks⟩)) := hide (OwnSnd.chg (S := fun k => w4.heap.size + 1 ≤ k ∧ k < w5.heap.size) oT_w9.out (by repeat (first | with_reducible exact Chg.refl _ _ | with_reducible assumption | with_reducible refine Chg.alloc ?_ _ | with_reducible refine Chg.drew ?_ | ((with_reducible refine Chg.set ?_ ?_ _); (focus (first | (right; simp; done) | (right; simp; omega) | (right; omega)))) | with_reducible refine Chg.trans ?_ hw10)) (fun b h1 h2 h3 => by omega))
    have oW_w10 : Hid (OwnSnd w2.heap.size w3.heap.size w10 ⟨aW1, aW2, aW3, aW4⟩ (⟨ys, qs, gs, js⟩)) := hide (OwnSnd.chg (S := fun k => w4.heap.size + 1 ≤ k ∧ k < w5.heap.size) oW_w9.out (by repeat (first | with_reducible exact Chg.refl _ _ | with_reducible assumption | with_reducible refine Chg.alloc ?_ _ | with_reducible refine Chg.drew ?_ | ((with_reducible refine Chg.set ?_ ?_ _); (focus (first | (right; simp; done) | (right; simp; omega) | (right; omega)))) | with_reducible refine Chg.trans ?_ hw10)) (fun b h1 h2 h3 => by omega))
    have oX_w10 : Hid (OwnSnd (w3.heap.size + 1) w4.heap.size w10 ⟨aX1, aX2, aX3, aX4⟩ ((marksSnd 1 ⟨xs, ps, fs, ks⟩))) := hide (OwnSnd.chg (S := fun k => w4.heap.size + 1 ≤ k ∧ k < w5.heap.size) oX_w9.out (by repeat (first | with_reducible exact Chg.refl _ _ | with_reducible assumption | with_reducible refine Chg.alloc ?_ _ | with_reducible refine Chg.drew ?_ | ((with_reducible refine Chg.set ?_ ?_ _); (focus (first | (right; simp; done) | (right; simp; omega) | (right; omega)))) | with_reducible refine Chg.trans ?_ hw10)) (fun b h1 h2 h3 => by omega))
    have xw10 : Ext w w10 := (Chg.trans (Ext.chg (S := fun k => w4.heap.size + 1 ≤ k ∧ k < w5.heap.size) (a := w) (by repeat (first | with_reducible assumption | with_reducible refine Ext.alloc ?_ _ | with_reducible refine Ext.drew ?_ | ((with_reducible refine Ext.set ?_ ?_ _); (focus (first | (simp; done) | (simp; omega) | omega)))))) hw10).ext (fun k hk h => by omega)
    have oG_mw10 := hide omG
    clear omG
    go_wp2_with fail
    refine (sender_held st2 z2 b2 e2 fi2 fk2 se2 co2 aG1 aG2 aG3 aG4 caG1 caG2 caG3 caG4 ys qs gs js 1 _ (oG_mw10.out.read.ext (by repeat (first | with_reducible exact Ext.refl _ | with_reducible assumption | with_reducible refine Ext.alloc ?_ _ | with_reducible refine Ext.drew ?_ | ((with_reducible refine Ext.set ?_ ?_ _); (focus (first | (simp; done) | (simp; omega) | omega))) | with_reducible refine Ext.trans ?_ hw9))) (by omega) (by omega) (by omega)).mono ?_
    rintro en w11 ⟨rfl, hw11⟩
    have zw11 : w10.heap.size ≤ w11.heap.size := by have := hw11.size; (try simp at this); omega
    have kw11_0 := hw11.more (k := w.heap.size) (by first | assumption | (simp; done) | (simp; omega) | omega)
    obtain ⟨cw11_0, fw11_0⟩ := hw11.row (k := w.heap.size) (by first | assumption | (simp; done) | (simp; omega) | omega)
    have kw11_1 := hw11.more (k := w3.heap.size) (by first | assumption | (simp; done) | (simp; omega) | omega)
    obtain ⟨cw11_1, fw11_1⟩ := hw11.row (k := w3.heap.size) (by first | assumption | (simp; done) | (simp; omega) | omega)
    have kw11_2 := hw11.more (k := w4.heap.size) (by first | assumption | (simp; done) | (simp; omega) | omega)
    obtain ⟨cw11_2, fw11_2⟩ := hw11.row (k := w4.heap.size) (by first | assumption | (simp; done) | (simp; omega) | omega)
    have kw11_3 := hw11.more (k := w5.heap.size) (by first | assumption | (simp; done) | (simp; omega) | omega)
    obtain ⟨cw11_3, fw11_3⟩ := hw11.row (k := w5.heap.size) (by first | assumption | (simp; done) | (simp; omega) | omega)
    have oT_w11 : Hid (OwnSnd w1.heap.size w2.heap.size w11 ⟨aT1, aT2, aT3, aT4⟩ (⟨xs, ps, fs, ks⟩)) := hide (OwnSnd.chg (S := fun _ => False) oT_w10.out (by repeat (first | with_reducible exact Chg.refl _ _ | with_reducible assumption | with_reducible refine Chg.alloc ?_ _ | with_reducible refine Chg.drew ?_ | ((with_reducible refine Chg.set ?_ ?_ _); (focus (first | (right; simp; done) | (right; simp; omega) | (right; omega)))) | with_reducible refine Chg.trans ?_ (Ext.chg hw11 _))) (fun _ _ _ h => h))
    have oW_w11 : Hid (OwnSnd w2.heap.size w3.heap.size w11 ⟨aW1, aW2, aW3, aW4⟩ (⟨ys, qs, gs, js⟩)) := hide (OwnSnd.chg (S := fun _ => False) oW_w10.out (by repeat (first | with_reducible exact Chg.refl _ _ | with_reducible assumption | with_reducible refine Chg.alloc ?_ _ | with_reducible refine Chg.drew ?_ | ((with_reducible refine Chg.set ?_ ?_ _); (focus (first | (right; simp; done) | (right; simp; omega) | (right; omega)))) | with_reducible refine Chg.trans ?_ (Ext.chg hw11 _))) (fun _ _ _ h => h))
    have oX_w11 : Hid (OwnSnd (w3.heap.size + 1) w4.heap.size w11 ⟨aX1, aX2, aX3, aX4⟩ ((marksSnd 1 ⟨xs, ps, fs, ks⟩))) := hide (OwnSnd.chg (S := fun _ => False) oX_w10.out (by repeat (first | with_reducible exact Chg.refl _ _ | with_reducible assumption | with_reducible refine Chg.alloc ?_ _ | with_reducible refine Chg.drew ?_ | ((with_reducible refine Chg.set ?_ ?_ _); (focus (first | (right; simp; done) | (right; simp; omega) | (right; omega)))) | with_reducible refine Chg.trans ?_ (Ext.chg hw11 _))) (fun _ _ _ h => h))
    have oG_w11 : Hid (OwnSnd (w4.heap.size + 1) w5.heap.size w11 ⟨aG1, aG2, aG3, aG4⟩ ((marksSnd 1 ⟨ys, qs, gs, js⟩))) := hide (OwnSnd.chg (S := fun _ => False) oG_mw10.out (by repeat (first | with_reducible exact Chg.refl _ _ | with_reducible assumption | with_reducible refine Chg.alloc ?_ _ | with_reducible refine Chg.drew ?_ | ((with_reducible refine Chg.set ?_ ?_ _); (focus (first | (right; simp; done) | (right; simp; omega) | (right; omega)))) | with_reducible refine Chg.trans ?_ (Ext.chg hw11 _))) (fun _ _ _ h => h))
    have xw11 : Ext w w11 := (by repeat (first | with_reducible exact Ext.refl _ | with_reducible assumption | with_reducible refine Ext.alloc ?_ _ | with_reducible refine Ext.drew ?_ | ((with_reducible refine Ext.set ?_ ?_ _); (focus (first | (simp; done) | (simp; omega) | omega))) | with_reducible exact xw10 | with_reducible refine Ext.trans ?_ hw11))
    go_wp2_with fail
    refine (toSender_any st z b e fi fk se co a1 a2 a3 a4 ca1 ca2 ca3 ca4 xs ps fs ks _ ?_ ⟨by omega, by omega, by omega, by omega⟩).mono ?_
    · exact hx'.out.ext xw11
    rintro en w12 ⟨aU1, aU2, aU3, aU4, caU1, caU2, caU3, caU4, rfl, ownU, hw12⟩
    have zw12 : w11.heap.size ≤ w12.heap.size := by have := hw12.size; (try simp at this); omega
    have kw12_0 := hw12.more (k := w.heap.size) (by first | assumption | (simp; done) | (simp; omega) | omega)
    obtain ⟨cw12_0, fw12_0⟩ := hw12.row (k := w.heap.size) (by first | assumption | (simp; done) | (simp; omega) | omega)
    have kw12_1 := hw12.more (k := w3.heap.size) (by first | assumption | (simp; done) | (simp; omega) | omega)
    obtain ⟨cw12_1, fw12_1⟩ := hw12.row (k := w3.heap.size) (by first | assumption | (simp; done) | (simp; omega) | omega)
    have kw12_2 := hw12.more (k := w4.heap.size) (by first | assumption | (simp; done) | (simp; omega) | omega)
    obtain ⟨cw12_2, fw12_2⟩ := hw12.row (k := w4.heap.size) (by first | assumption | (simp; done) | (simp; omega) | omega)
    have kw12_3 := hw12.more (k := w5.heap.size) (by first | assumption | (simp; done) | (simp; omega) | omega)
    obtain ⟨cw12_3, fw12_3⟩ := hw12.row (k := w5.heap.size) (by first | assumption | (simp; done) | (simp; omega) | omega)
    have oT_w12 : Hid (OwnSnd w1.heap.size w2.heap.size w12 ⟨aT1, aT2, aT3, aT4⟩ (⟨xs, ps, fs, ks⟩)) := hide (OwnSnd.chg (S := fun _ => False) oT_w11.out (by repeat (first | with_reducible exact Chg.refl _ _ | with_reducible assumption | with_reducible refine Chg.alloc ?_ _ | with_reducible refine Chg.drew ?_ | ((with_reducible refine Chg.set ?_ ?_ _); (focus (first | (right; simp; done) | (right; simp; omega) | (right; omega)))) | with_reducible refine Chg.trans ?_ (Ext.chg hw12 _))) (fun _ _ _ h => h))
    have oW_w12 : Hid (OwnSnd w2.heap.size w3.heap.size w12 ⟨aW1, aW2, aW3, aW4⟩ (⟨ys, qs, gs, js⟩)) := hide (OwnSnd.chg (S := fun _ => False) oW_w11.out (by repeat (first | with_reducible exact Chg.refl _ _ | with_reducible assumption | with_reducible refine Chg.alloc ?_ _ | with_reducible refine Chg.drew ?_ | ((with_reducible refine Chg.set ?_ ?_ _); (focus (first | (right; simp; done) | (right; simp; omega) | (right; omega)))) | with_reducible refine Chg.trans ?_ (Ext.chg hw12 _))) (fun _ _ _ h => h))
    have oX_w12 : Hid (OwnSnd (w3.heap.size + 1) w4.heap.size w12 ⟨aX1, aX2, aX3, aX4⟩ ((marksSnd 1 ⟨xs, ps, fs, ks⟩))) := hide (OwnSnd.chg (S := fun _ => False) oX_w11.out (by repeat (first | with_reducible exact Chg.refl _ _ | with_reducible assumption | with_reducible refine Chg.alloc ?_ _ | with_reducible refine Chg.drew ?_ | ((with_reducible refine Chg.set ?_ ?_ _); (focus (first | (right; simp; done) | (right; simp; omega) | (right; omega)))) | with_reducible refine Chg.trans ?_ (Ext.chg hw12 _))) (fun _ _ _ h => h))
    have oG_w12 : Hid (OwnSnd (w4.heap.size + 1) w5.heap.size w12 ⟨aG1, aG2, aG3, aG4⟩ ((marksSnd 1 ⟨ys, qs, gs, js⟩))) := hide (OwnSnd.chg (S := fun _ => False) oG_w11.out (by repeat (first | with_reducible exact Chg.refl _ _ | with_reducible assumption | with_reducible refine Chg.alloc ?_ _ | with_reducible refine Chg.drew ?_ | ((with_reducible refine Chg.set ?_ ?_ _); (focus (first | (right; simp; done) | (right; simp; omega) | (right; omega)))) | with_reducible refine Chg.trans ?_ (Ext.chg hw12 _))) (fun _ _ _ h => h))
    have xw12 : Ext w w12 := (by repeat (first | with_reducible exact Ext.refl _ | with_reducible assumption | with_reducible refine Ext.alloc ?_ _ | with_reducible refine Ext.drew ?_ | ((with_reducible refine Ext.set ?_ ?_ _); (focus (first | (simp; done) | (simp; omega) | omega))) | with_reducible exact xw11 | with_reducible refine Ext.trans ?_ hw12))
    have oU_w12 := hide (OwnSnd.mono (lo' := w11.heap.size) (hi' := w12.heap.size) ownU (by first | (simp; done) | (simp; omega) | omega) (Nat.le_refl _))
    clear ownU
    go_wp2_with fail
    refine (Hi aU1 aU2 aU3 aU4 caU1 caU2 caU3 caU4 _ (oU_w12.out.read.ext (by repeat (first | with_reducible exact Ext.refl _ | with_reducible assumption | with_reducible refine Ext.alloc ?_ _ | with_reducible refine Ext.drew ?_ | ((with_reducible refine Ext.set ?_ ?_ _); (focus (first | (simp; done) | (simp; omega) | omega))) | with_reducible refine Ext.trans ?_ hw12)))).mono ?_
    rintro en w13 ⟨aH1, aH2, aH3, aH4, caH1, caH2, caH3, caH4, rfl, ownH, hw13⟩
    have zw13 : w12.heap.size ≤ w13.heap.size := by have := hw13.size; (try simp at this); omega
    have kw13_0 := hw13.more (k := w.heap.size) (by first | assumption | (simp; done) | (simp; omega) | omega)
    obtain ⟨cw13_0, fw13_0⟩ := hw13.row (k := w.heap.size) (by first | assumption | (simp; done) | (simp; omega) | omega)
    have kw13_1 := hw13.more (k := w3.heap.size) (by first | assumption | (simp; done) | (simp; omega) | omega)
    obtain ⟨cw13_1, fw13_1⟩ := hw13.row (k := w3.heap.size) (by first | assumption | (simp; done) | (simp; omega) | omega)
    have kw13_2 := hw13.more (k := w4.heap.size) (by first | assumption | (simp; done) | (simp; omega) | omega)
    obtain ⟨cw13_2, fw13_2⟩ := hw13.row (k := w4.heap.size) (by first | assumption | (simp; done) | (simp; omega) | omega)
    have kw13_3 := hw13.more (k := w5.heap.size) (by first | assumption | (simp; done) | (simp; omega) | omega)
    obtain ⟨cw13_3, fw13_3⟩ := hw13.row (k := w5.heap.size) (by first | assumption | (simp; done) | (simp; omega) | omega)
    have oT_w13 : Hid (OwnSnd w1.heap.size w2.heap.size w13 ⟨aT1, aT2, aT3, aT4⟩ (⟨xs, ps, fs, ks⟩)) := hide (OwnSnd.chg (S := fun _ => False) oT_w12.out (by repeat (first | with_reducible exact Chg.refl _ _ | with_reducible assumption | with_reducible refine Chg.alloc ?_ _ | with_reducible refine Chg.drew ?_ | ((with_reducible refine Chg.set ?_ ?_ _); (focus (first | (right; simp; done) | (right; simp; omega) | (right; omega)))) | with_reducible refine Chg.trans ?_ (Ext.chg hw13 _))) (fun _ _ _ h => h))
    have oW_w13 : Hid (OwnSnd w2.heap.size w3.heap.size w13 ⟨aW1, aW2, aW3, aW4⟩ (⟨ys, qs, gs, js⟩)) := hide (OwnSnd.chg (S := fun _ => False) oW_w12.out (by repeat (first | with_reducible exact Chg.refl _ _ | with_reducible assumption | with_reducible refine Chg.alloc ?_ _ | with_reducible refine Chg.drew ?_ | ((with_reducible refine Chg.set ?_ ?_ _); (focus (first | (right; simp; done) | (right; simp; omega) | (right; omega)))) | with_reducible refine Chg.trans ?_ (Ext.chg hw13 _))) (fun _ _ _ h => h))
    have oX_w13 : Hid (OwnSnd (w3.heap.size + 1) w4.heap.size w13 ⟨aX1, aX2, aX3, aX4⟩ ((marksSnd 1 ⟨xs, ps, fs, ks⟩))) := hide (OwnSnd.chg (S := fun _ => False) oX_w12.out (by repeat (first | with_reducible exact Chg.refl _ _ | with_reducible assumption | with_reducible refine Chg.alloc ?_ _ | with_reducible refine Chg.drew ?_ | ((with_reducible refine Chg.set ?_ ?_ _); (focus (first | (right; simp; done) | (right; simp; omega) | (right; omega)))) | with_reducible refine Chg.trans ?_ (Ext.chg hw13 _))) (fun _ _ _ h => h))
    have oG_w13 : Hid (OwnSnd (w4.heap.size + 1) w5.heap.size w13 ⟨aG1, aG2, aG3, aG4⟩ ((marksSnd 1 ⟨ys, qs, gs, js⟩))) := hide (OwnSnd.chg (S := fun _ => False) oG_w12.out (by repeat (first | with_reducible exact Chg.refl _ _ | with_reducible assumption | with_reducible refine Chg.alloc ?_ _ | with_reducible refine Chg.drew ?_ | ((with_reducible refine Chg.set ?_ ?_ _); (focus (first | (right; simp; done) | (right; simp; omega) | (right; omega)))) | with_reducible refine Chg.trans ?_ (Ext.chg hw13 _))) (fun _ _ _ h => h))
    have oU_w13 : Hid (OwnSnd w11.heap.size w12.heap.size w13 ⟨aU1, aU2, aU3, aU4⟩ (⟨xs, ps, fs, ks⟩)) := hide (OwnSnd.chg (S := fun _ => False) oU_w12.out (by repeat (first | with_reducible exact Chg.refl _ _ | with_reducible assumption | with_reducible refine Chg.alloc ?_ _ | with_reducible refine Chg.drew ?_ | ((with_reducible refine Chg.set ?_ ?_ _); (focus (first | (right; simp; done) | (right; simp; omega) | (right; omega)))) | with_reducible refine Chg.trans ?_ (Ext.chg hw13 _))) (fun _ _ _ h => h))
    have xw13 : Ext w w13 := (by repeat (first | with_reducible exact Ext.refl _ | with_reducible assumption | with_reducible refine Ext.alloc ?_ _ | with_reducible refine Ext.drew ?_ | ((with_reducible refine Ext.set ?_ ?_ _); (focus (first | (simp; done) | (simp; omega) | omega))) | with_reducible exact xw12 | with_reducible refine Ext.trans ?_ hw13))
    have oH_w13 := hide (OwnSnd.mono (lo' := w12.heap.size) (hi' := w13.heap.size) ownH (by first | (simp; done) | (simp; omega) | omega) (Nat.le_refl _))
    clear ownH
    go_wp2_with fail
    refine (eqSender_any st2 z2 b2 e2 fi2 fk2 se2 co2 aH1 aH2 aH3 aH4 caH1 caH2 caH3 caH4 aW1 aW2 aW3 aW4 caW1 caW2 caW3 caW4 ys qs gs js _ (oH_w13.out.read.ext (by repeat (first | with_reducible exact Ext.refl _ | with_reducible assumption | with_reducible refine Ext.alloc ?_ _ | with_reducible refine Ext.drew ?_ | ((with_reducible refine Ext.set ?_ ?_ _); (focus (first | (simp; done) | (simp; omega) | omega))) | with_reducible refine Ext.trans ?_ hw13))) (oW_w13.out.read.ext (by repeat (first | with_reducible exact Ext.refl _ | with_reducible assumption | with_reducible refine Ext.alloc ?_ _ | with_reducible refine Ext.drew ?_ | ((with_reducible refine Ext.set ?_ ?_ _); (focus (first | (simp; done) | (simp; omega) | omega))) | with_reducible refine Ext.trans ?_ hw13))) ⟨by omega, by omega, by omega, by omega⟩).mono ?_
    rintro en w14 ⟨rfl, hw14⟩
    have zw14 : w13.heap.size + 1 ≤ w14.heap.size := by have := hw14.size; (try simp at this); omega
    have kw14_0 := hw14.more (k := w.heap.size) (by first | assumption | (simp; done) | (simp; omega) | omega)
    obtain ⟨cw14_0, fw14_0⟩ := hw14.row (k := w.heap.size) (by first | assumption | (simp; done) | (simp; omega) | omega)
    have kw14_1 := hw14.more (k := w3.heap.size) (by first | assumption | (simp; done) | (simp; omega) | omega)
    obtain ⟨cw14_1, fw14_1⟩ := hw14.row (k := w3.heap.size) (by first | assumption | (simp; done) | (simp; omega) | omega)
    have kw14_2 := hw14.more (k := w4.heap.size) (by first | assumption | (simp; done) | (simp; omega) | omega)
    obtain ⟨cw14_2, fw14_2⟩ := hw14.row (k := w4.heap.size) (by first | assumption | (simp; done) | (simp; omega) | omega)
    have kw14_3 := hw14.more (k := w5.heap.size) (by first | assumption | (simp; done) | (simp; omega) | omega)
    obtain ⟨cw14_3, fw14_3⟩ := hw14.row (k := w5.heap.size) (by first | assumption | (simp; done) | (simp; omega) | omega)
    have kw14_4 := hw14.more (k := w13.heap.size) (by first | assumption | (simp; done) | (simp; omega) | omega)
    obtain ⟨cw14_4, fw14_4⟩ := hw14.row (k := w13.heap.size) (by first | assumption | (simp; done) | (simp; omega) | omega)
    have oT_w14 : Hid (OwnSnd w1.heap.size w2.heap.size w14 ⟨aT1, aT2, aT3, aT4⟩ (⟨xs, ps, fs, ks⟩)) := hide (OwnSnd.chg (S := fun _ => False) oT_w13.out (by repeat (first | with_reducible exact Chg.refl _ _ | with_reducible assumption | with_reducible refine Chg.alloc ?_ _ | with_reducible refine Chg.drew ?_ | ((with_reducible refine Chg.set ?_ ?_ _); (focus (first | (right; simp; done) | (right; simp; omega) | (right; omega)))) | with_reducible refine Chg.trans ?_ (Ext.chg hw14 _))) (fun _ _ _ h => h))
    have oW_w14 : Hid (OwnSnd w2.heap.size w3.heap.size w14 ⟨aW1, aW2, aW3, aW4⟩ (⟨ys, qs, gs, js⟩)) := hide (OwnSnd.chg (S := fun _ => False) oW_w13.out (by repeat (first | with_reducible exact Chg.refl _ _ | with_reducible assumption | with_reducible refine Chg.alloc ?_ _ | with_reducible refine Chg.drew ?_ | ((with_reducible refine Chg.set ?_ ?_ _); (focus (first | (right; simp; done) | (right; simp; omega) | (right; omega)))) | with_reducible refine Chg.trans ?_ (Ext.chg hw14 _))) (fun _ _ _ h => h))
    have oX_w14 : Hid (OwnSnd (w3.heap.size + 1) w4.heap.size w14 ⟨aX1, aX2, aX3, aX4⟩ ((marksSnd 1 ⟨xs, ps, fs, ks⟩))) := hide (OwnSnd.chg (S := fun _ => False) oX_w13.out (by repeat (first | with_reducible exact Chg.refl _ _ | with_reducible assumption | with_reducible refine Chg.alloc ?_ _ | with_reducible refine Chg.drew ?_ | ((with_reducible refine Chg.set ?_ ?_ _); (focus (first | (right; simp; done) | (right; simp; omega) | (right; omega)))) | with_reducible refine Chg.trans ?_ (Ext.chg hw14 _))) (fun _ _ _ h => h))
    have oG_w14 : Hid (OwnSnd (w4.heap.size + 1) w5.heap.size w14 ⟨aG1, aG2, aG3, aG4⟩ ((marksSnd 1 ⟨ys, qs, gs, js⟩))) := hide (OwnSnd.chg (S := fun _ => False) oG_w13.out (by repeat (first | with_reducible exact Chg.refl _ _ | with_reducible assumption | with_reducible refine Chg.alloc ?_ _ | with_reducible refine Chg.drew ?_ | ((with_reducible refine Chg.set ?_ ?_ _); (focus (first | (right; simp; done) | (right; simp; omega) | (right; omega)))) | with_reducible refine Chg.trans ?_ (Ext.chg hw14 _))) (fun _ _ _ h => h))
    have oU_w14 : Hid (OwnSnd w11.heap.size w12.heap.size w14 ⟨aU1, aU2, aU3, aU4⟩ (⟨xs, ps, fs, ks⟩)) := hide (OwnSnd.chg (S := fun _ => False) oU_w13.out (by repeat (first | with_reducible exact Chg.refl _ _ | with_reducible assumption | with_reducible refine Chg.alloc ?_ _ | with_reducible refine Chg.drew ?_ | ((with_reducible refine Chg.set ?_ ?_ _); (focus (first | (right; simp; done) | (right; simp; omega) | (right; omega)))) | with_reducible refine Chg.trans ?_ (Ext.chg hw14 _))) (fun _ _ _ h => h))
    have oH_w14 : Hid (OwnSnd w12.heap.size w13.heap.size w14 ⟨aH1, aH2, aH3, aH4⟩ (⟨ys, qs, gs, js⟩)) := hide (OwnSnd.chg (S := fun _ => False) oH_w13.out (by repeat (first | with_reducible exact Chg.refl _ _ | with_reducible assumption | with_reducible refine Chg.alloc ?_ _ | with_reducible refine Chg.drew ?_ | ((with_reducible refine Chg.set ?_ ?_ _); (focus (first | (right; simp; done) | (right; simp; omega) | (right; omega)))) | with_reducible refine Chg.trans ?_ (Ext.chg hw14 _))) (fun _ _ _ h => h))
    have xw14 : Ext w w14 := (by repeat (first | with_reducible exact Ext.refl _ | with_reducible assumption | with_reducible refine Ext.alloc ?_ _ | with_reducible refine Ext.drew ?_ | ((with_reducible refine Ext.set ?_ ?_ _); (focus (first | (simp; done) | (simp; omega) | omega))) | with_reducible exact xw13 | with_reducible refine Ext.trans ?_ hw14))
    go_wp2_with fail
    refine (sender_held st2 z2 b2 e2 fi2 fk2 se2 co2 aG1 aG2 aG3 aG4 caG1 caG2 caG3 caG4 ys qs gs js 1 _ (oG_w14.out.read.ext (by repeat (first | with_reducible exact Ext.refl _ | with_reducible assumption | with_reducible refine Ext.alloc ?_ _ | with_reducible refine Ext.drew ?_ | ((with_reducible refine Ext.set ?_ ?_ _); (focus (first | (simp; done) | (simp; omega) | omega))) | with_reducible refine Ext.trans ?_ hw14))) (by omega) (by omega) (by omega)).mono ?_
    rintro en w15 ⟨rfl, hw15⟩
    have zw15 : w14.heap.size ≤ w15.heap.size := by have := hw15.size; (try simp at this); omega
    have kw15_0 := hw15.more (k := w.heap.size) (by first | assumption | (simp; done) | (simp; omega) | omega)
    obtain ⟨cw15_0, fw15_0⟩ := hw15.row (k := w.heap.size) (by first | assumption | (simp; done) | (simp; omega) | omega)
    have kw15_1 := hw15.more (k := w3.heap.size) (by first | assumption | (simp; done) | (simp; omega) | omega)
    obtain ⟨cw15_1, fw15_1⟩ := hw15.row (k := w3.heap.size) (by first | assumption | (simp; done) | (simp; omega) | omega)
    have kw15_2 := hw15.more (k := w4.heap.size) (by first | assumption | (simp; done) | (simp; omega) | omega)
    obtain ⟨cw15_2, fw15_2⟩ := hw15.row (k := w4.heap.size) (by first | assumption | (simp; done) | (simp; omega) | omega)
    have kw15_3 := hw15.more (k := w5.heap.size) (by first | assumption | (simp; done) | (simp; omega) | omega)
    obtain ⟨cw15_3, fw15_3⟩ := hw15.row (k := w5.heap.size) (by first | assumption | (simp; done) | (simp; omega) | omega)
    have kw15_4 := hw15.more (k := w13.heap.size) (by first | assumption | (simp; done) | (simp; omega) | omega)
    obtain ⟨cw15_4, fw15_4⟩ := hw15.row (k := w13.heap.size) (by first | assumption | (simp; done) | (simp; omega) | omega)
    have oT_w15 : Hid (OwnSnd w1.heap.size w2.heap.size w15 ⟨aT1, aT2, aT3, aT4⟩ (⟨xs, ps, fs, ks⟩)) := hide (OwnSnd.chg (S := fun _ => False) oT_w14.out (by repeat (first | with_reducible exact Chg.refl _ _ | with_reducible assumption | with_reducible refine Chg.alloc ?_ _ | with_reducible refine Chg.drew ?_ | ((with_reducible refine Chg.set ?_ ?_ _); (focus (first | (right; simp; done) | (right; simp; omega) | (right; omega)))) | with_reducible refine Chg.trans ?_ (Ext.chg hw15 _))) (fun _ _ _ h => h))
    have oW_w15 : Hid (OwnSnd w2.heap.size w3.heap.size w15 ⟨aW1, aW2, aW3, aW4⟩ (⟨ys, qs, gs, js⟩)) := hide (OwnSnd.chg (S := fun _ => False) oW_w14.out (by repeat (first | with_reducible exact Chg.refl _ _ | with_reducible assumption | with_reducible refine Chg.alloc ?_ _ | with_reducible refine Chg.drew ?_ | ((with_reducible refine Chg.set ?_ ?_ _); (focus (first | (right; simp; done) | (right; simp; omega) | (right; omega)))) | with_reducible refine Chg.trans ?_ (Ext.chg hw15 _))) (fun _ _ _ h => h))
    have oX_w15 : Hid (OwnSnd (w3.heap.size + 1) w4.heap.size w15 ⟨aX1, aX2, aX3, aX4⟩ ((marksSnd 1 ⟨xs, ps, fs, ks⟩))) := hide (OwnSnd.chg (S := fun _ => False) oX_w14.out (by repeat (first | with_reducible exact Chg.refl _ _ | with_reducible assumption | with_reducible refine Chg.alloc ?_ _ | with_reducible refine Chg.drew ?_ | ((with_reducible refine Chg.set ?_ ?_ _); (focus (first | (right; simp; done) | (right; simp; omega) | (right; omega)))) | with_reducible refine Chg.trans ?_ (Ext.chg hw15 _))) (fun _ _ _ h => h))
    have oG_w15 : Hid (OwnSnd (w4.heap.size + 1) w5.heap.size w15 ⟨aG1, aG2, aG3, aG4⟩ ((marksSnd 1 ⟨ys, qs, gs, js⟩))) := hide (OwnSnd.chg (S := fun _ => False) oG_w14.out (by repeat (first | with_reducible exact Chg.refl _ _ | with_reducible assumption | with_reducible refine Chg.alloc ?_ _ | with_reducible refine Chg.drew ?_ | ((with_reducible refine Chg.set ?_ ?_ _); (focus (first | (right; simp; done) | (right; simp; omega) | (right; omega)))) | with_reducible refine Chg.trans ?_ (Ext.chg hw15 _))) (fun _ _ _ h => h))
    have oU_w15 : Hid (OwnSnd w11.heap.size w12.heap.size w15 ⟨aU1, aU2, aU3, aU4⟩ (⟨xs, ps, fs, ks⟩)) := hide (OwnSnd.chg (S := fun _ => False) oU_w14.out (by repeat (first | with_reducible exact Chg.refl _ _ | with_reducible assumption | with_reducible refine Chg.alloc ?_ _ | with_reducible refine Chg.drew ?_ | ((with_reducible refine Chg.set ?_ ?_ _); (focus (first | (right; simp; done) | (right; simp; omega) | (right; omega)))) | with_reducible refine Chg.trans ?_ (Ext.chg hw15 _))) (fun _ _ _ h => h))
    have oH_w15 : Hid (OwnSnd w12.heap.size w13.heap.size w15 ⟨aH1, aH2, aH3, aH4⟩ (⟨ys, qs, gs, js⟩)) := hide (OwnSnd.chg (S := fun _ => False) oH_w14.out (by repeat (first | with_reducible exact Chg.refl _ _ | with_reducible assumption | with_reducible refine Chg.alloc ?_ _ | with_reducible refine Chg.drew ?_ | ((with_reducible refine Chg.set ?_ ?_ _); (focus (first | (right; simp; done) | (right; simp; omega) | (right; omega)))) | with_reducible refine Chg.trans ?_ (Ext.chg hw15 _))) (fun _ _ _ h => h))
    have xw15 : Ext w w15 := (by repeat (first | with_reducible exact Ext.refl _ | with_reducible assumption | with_reducible refine Ext.alloc ?_ _ | with_reducible refine Ext.drew ?_ | ((with_reducible refine Ext.set ?_ ?_ _); (focus (first | (simp; done) | (simp; omega) | omega))) | with_reducible exact xw14 | with_reducible refine Ext.trans ?_ hw15))
    go_wp2
    go_ret
    exact ⟨rfl, (by repeat (first | with_reducible exact Ext.refl _ | with_reducible assumption | with_reducible refine Ext.alloc ?_ _ | with_reducible refine Ext.drew ?_ | with_reducible refine Ext.drewN ?_ _ | ((with_reducible refine Ext.set ?_ ?_ _); (focus (first | (simp; done) | (simp; omega)))) | with_reducible refine Ext.trans ?_ (by assumption)))⟩
set_option maxHeartbeats 1000000 in
theorem ackReset_no (st z b e fi fk se co : Int) (a1 a2 a3 a4 : Option Addr) (ca1 ca2 ca3 ca4 : Nat) (xs : List Int) (ps fs ks : List Rg) (w : World) (g : (xs.length : Int) ≤ 9223372036854775807 ∧ (ps.length : Int) ≤ 9223372036854775807 ∧ (fs.length : Int) ≤ 9223372036854775807 ∧ (ks.length : Int) ≤ 9223372036854775807) (h1 : 1048576 < (xs.length : Int) + (ps.length : Int) + (fs.length : Int) + (ks.length : Int)) :
    Calls Try.prog 3 #[.agg #[.int .i64 st, .int .i64 z, .int .i64 b, .int .i64 e, .slice a1 xs.length ca1, .slice a2 ps.length ca2, .slice a3 fs.length ca3, .slice a4 ks.length ca4, .int .i64 fi, .int .i64 fk, .int .i64 se, .int .i64 co]] w fun en w' => en = .returned (.bool true) ∧ Ext w w' := by
  go_enter Try.func3, Try.ntmps3
  go_wp2_with fail
  refine (szSender_no st z b e fi fk se co a1 a2 a3 a4 ca1 ca2 ca3 ca4 xs ps fs ks 1048576 _ (by omega) (by omega) g.1 g.2.1 g.2.2.1 g.2.2.2 (by omega)).mono ?_
  rintro en w1 ⟨rfl, hw1⟩
  have xw1 : Ext w w1 := (by repeat (first | with_reducible exact Ext.refl _ | with_reducible assumption | with_reducible refine Ext.alloc ?_ _ | with_reducible refine Ext.drew ?_ | with_reducible refine Ext.drewN ?_ _ | ((with_reducible refine Ext.set ?_ ?_ _); (focus (first | (simp; done) | (simp; omega)))) | with_reducible refine Ext.trans ?_ (by assumption)))
  have kw1_0 := hw1.more (k := w.heap.size) (by first | assumption | (simp; done) | (simp; omega) | omega)
  obtain ⟨cw1_0, fw1_0⟩ := hw1.row (k := w.heap.size) (by first | assumption | (simp; done) | (simp; omega) | omega)
  go_wp2
  go_ret
  exact ⟨rfl, (by repeat (first | with_reducible exact Ext.refl _ | with_reducible assumption | with_reducible refine Ext.alloc ?_ _ | with_reducible refine Ext.drew ?_ | with_reducible refine Ext.drewN ?_ _ | ((with_reducible refine Ext.set ?_ ?_ _); (focus (first | (simp; done) | (simp; omega)))) | with_reducible refine Ext.trans ?_ (by assumption)))⟩
theorem rst_same {s : Sn} (h : isRst s = true) : sndI s = sndS s := by unfold sndI sndS; rw [if_pos h, if_pos h]
theorem ack_same (s : Sn) : (sndI s = true ∧ s.st = 4 ↔ sndS s = true ∧ s.st = 4) ∧ (sndI s && decide (s.st = 4)) = (sndS s && decide (s.st = 4)) := by
  by_cases h : s.st = 4
  · have e := rst_same (s := s) (by simp [isRst, h])
    rw [e]; exact ⟨Iff.rfl, rfl⟩
  · exact ⟨⟨fun k => absurd k.2 h, fun k => absurd k.2 h⟩, by simp [h]⟩
theorem SnRes.snd {s : Sn} {v : Value} {w w' : World} {en : Ending} (h : SnRes s v w en w') : SndRes s.st s.z s.b s.e s.fi s.fk s.se s.co s.xs s.p s.f s.k v w en w' := by
  obtain ⟨a1, a2, a3, a4, ca1, ca2, ca3, ca4, h1, h2, h3⟩ := h
  exact ⟨a1, a2, a3, a4, ca1, ca2, ca3, ca4, h1, h2.own, h3⟩
theorem ackReset_walk (st z b e fi fk se co : Int) (a1 a2 a3 a4 : Option Addr) (ca1 ca2 ca3 ca4 : Nat) (xs : List Int) (ps fs ks : List Rg) (w : World) (hx : ReadSnd w ⟨a1, a2, a3, a4⟩ ⟨xs, ps, fs, ks⟩) (g : (xs.length : Int) ≤ 9223372036854775807 ∧ (ps.length : Int) ≤ 9223372036854775807 ∧ (fs.length : Int) ≤ 9223372036854775807 ∧ (ks.length : Int) ≤ 9223372036854775807) (he : e ≤ 9223372036854775807) :
    Calls Try.prog 3 #[.agg #[.int .i64 st, .int .i64 z, .int .i64 b, .int .i64 e, .slice a1 xs.length ca1, .slice a2 ps.length ca2, .slice a3 fs.length ca3, .slice a4 ks.length ca4, .int .i64 fi, .int .i64 fk, .int .i64 se, .int .i64 co]] w fun en w' => en = .returned (.bool true) ∧ Ext w w' := by
  by_cases h1 : 1048576 < (xs.length : Int) + (ps.length : Int) + (fs.length : Int) + (ks.length : Int)
  · exact ackReset_no st z b e fi fk se co a1 a2 a3 a4 ca1 ca2 ca3 ca4 xs ps fs ks w g h1
  · have hs := fun (u1 u2 u3 u4 : Option Addr) (cu1 cu2 cu3 cu4 : Nat) (w : World) (hu : ReadSnd w ⟨u1, u2, u3, u4⟩ ⟨xs, ps, fs, ks⟩) => Calls.mono (AckReset_spec ⟨st, z, b, e, xs, ps, fs, ks, fi, fk, se, co⟩ ⟨u1, u2, u3, u4⟩ cu1 cu2 cu3 cu4 w hu (by (try dsimp only); omega) (by (try dsimp only); omega) he) fun _ _ h => h.snd
    have hi := fun (u1 u2 u3 u4 : Option Addr) (cu1 cu2 cu3 cu4 : Nat) (w : World) (hu : ReadSnd w ⟨u1, u2, u3, u4⟩ ⟨xs, ps, fs, ks⟩) => Calls.mono (AckReset_impl ⟨st, z, b, e, xs, ps, fs, ks, fi, fk, se, co⟩ ⟨u1, u2, u3, u4⟩ cu1 cu2 cu3 cu4 w hu (by (try dsimp only); omega) (by (try dsimp only); omega) he) fun _ _ h => h.snd
    have hk := ack_same ⟨st, z, b, e, xs, ps, fs, ks, fi, fk, se, co⟩
    by_cases hy : sndS ⟨st, z, b, e, xs, ps, fs, ks, fi, fk, se, co⟩ = true ∧ st = 4
    · simp only [if_pos hy] at hs
      simp only [if_pos (hk.1.2 hy), hk.2] at hi
      exact ackReset_yes st z b e fi fk se co a1 a2 a3 a4 ca1 ca2 ca3 ca4 xs ps fs ks w hx (by omega) _ _ _ _ _ _ _ _ _ _ _ _ _ (by (try dsimp only [arV]); omega) hs hi
    · simp only [if_neg hy] at hs
      simp only [if_neg (fun h => hy (hk.1.1 h)), hk.2] at hi
      exact ackReset_yes st z b e fi fk se co a1 a2 a3 a4 ca1 ca2 ca3 ca4 xs ps fs ks w hx (by omega) _ _ _ _ _ _ _ _ _ _ _ _ _ (by (try dsimp only); omega) hs hi
/-! ### the row of FnExactAckReset -/
theorem ackReset_reads : ∀ t ∈ Try.f3.params.toList, Try.prog.readableRec t = true ∧ t < Try.prog.types.size := by
  rw [Try.params3]
  intro t ht
  simp only [List.mem_cons, List.not_mem_nil, or_false] at ht
  subst ht
  exact ⟨by kernel_rfl, of_decide_eq_true (by kernel_rfl)⟩
set_option maxRecDepth 100000 in
theorem ackReset_lifted (os : Os) (started : os.Started) (H : Type) (enc : TypeId × Value → H) :
    ReturnsInHanded {} Try.checked os 3 .any (Rows.fnExactAckResetSpec.pre6 enc Try.prog Try.f3 Rows.fnExactAckResetRow.domain false) (Rows.fnExactAckResetSpec.post enc Try.prog Try.f3 false true false false) := by
  refine returnsInHanded_of_change (C := Try.checked) ownKnobNone started (by kernel_rfl) Try.func3
    (ChangeSpec.witness6 (enc := enc) (C := Try.checked) false ⟨#[], #[.agg #[.int .i64 0, .int .i64 0, .int .i64 0, .int .i64 0, .slice none 0 0, .slice none 0 0, .slice none 0 0, .slice none 0 0, .int .i64 0, .int .i64 0, .int .i64 0, .int .i64 0]], []⟩ 8 (by kernel_rfl) (by kernel_rfl) (by kernel_rfl) (by kernel_rfl)) ?_
  intro W base args ds gs before hval0 hW hcnd _
  have hval : ∀ (j : Nat) t v, Try.f3.params[j]? = some t → args[j]? = some v → Value.okWide Try.prog W .any base t v := hval0
  have hW' := hW
  obtain ⟨p, q, hA0, hV, rfl, hfz, hnd⟩ := hW
  have hA : DataW.TrodAll enc Try.prog W 0 (fun _ => true) true Try.f3.params.toList args.toList ds p := hA0
  rw [Try.params3] at hA hval
  obtain ⟨v0, vs0, d0, ds0, p0, q0, hargs, rfl, rfl, h0, r0⟩ := trodAll_cons hA
  obtain ⟨rfl, rfl, rfl⟩ := trodAll_nil r0
  obtain rfl : args = #[v0] := by cases args; simp_all
  obtain ⟨st, z, b, e, fi, fk, se, co, a1, a2, a3, a4, ca1, ca2, ca3, ca4, na1, na2, na3, na4, xs, ps, fs, ks, rfl, ⟨hna1, hna2, hna3, hna4⟩, ⟨hba1, hba2, hba3, hba4⟩, hxa, hwa, hwxa, hwpa, hwfa, hwka⟩ := open_sender Try.underlying27 (by kernel_rfl) (by kernel_rfl) Try.underlying3 (by kernel_rfl) Try.underlying24 (by kernel_rfl) (by kernel_rfl) Try.underlying22 (by kernel_rfl) Try.underlying25 (by kernel_rfl) Try.underlying110 (by kernel_rfl) (by kernel_rfl) (hval 0 27 v0 rfl rfl) h0
  subst hna1 hna2 hna3 hna4
  refine (ackReset_walk st z b e fi fk se co a1 a2 a3 a4 ca1 ca2 ca3 ca4 xs ps fs ks W hxa ⟨hba1, hba2, hba3, hba4⟩ (wf64 hwa.2.2.2.1).2).mono fun e W' ⟨he, hg⟩ => ?_
  subst he
  exact ⟨_, rfl, law_post laidOut ackReset_reads rfl rfl Try.underlying4 hW' (fun gs h => by subst h; rfl) hg⟩
theorem ackReset_over : Rows.fnExactAckResetRow.holds Try.pinned (OpenSpec.ofChange Rows.fnExactAckResetSpec) :=
  OpenClaim.holds_of_wide 3 Try.f3 rfl rfl rfl rfl rfl rfl rfl ⟨rfl, rfl, rfl, rfl, rfl⟩ rfl rfl rfl rfl rfl (by kernel_rfl) Try.func3 (by kernel_rfl)
    (of_decide_eq_true (by kernel_rfl)) (by unfold Func.isWrapper; first | (rw [if_pos (by decide +kernel)]; kernel_rfl) | (rw [if_neg (by decide +kernel)]; exact ⟨rfl, rfl⟩))
    (fun os started H enc _ => ackReset_lifted os started H enc)
/-- The statement. -/
theorem ackReset_holds : Rows.FnExactAckResetSaid := ackReset_over
#print axioms ackReset_holds
end Go.Proofs.Ytjhgcbchdnoleaa

/-
  Senders: what they hold (ReadSnd, OwnSnd), and contracts of the laws' helpers on them. Conditions: the slices can be read (for the marks: written).
-/
import Derived.Test.YtjhgcbchdnoleaaRgL
import Derived.Test.YtjhgcbchdnoleaaRing2
namespace Go.Proofs.Ytjhgcbchdnoleaa
open Go.ChangeShapes Go.WideShapes Go.ChangeAt Go.RowKit
set_option linter.unusedSimpArgs false
set_option linter.unusedVariables false
structure Ads where
  r : Option Addr
  p : Option Addr
  f : Option Addr
  k : Option Addr
structure Con where
  r : List Int
  p : List Rg
  f : List Rg
  k : List Rg
/-- The slices of a sender can be read. -/
structure ReadSnd (w : World) (a : Ads) (c : Con) : Prop where
  r : ReadS w a.r c.r
  p : ReadR w a.p c.p
  f : ReadR w a.f c.f
  k : ReadR w a.k c.k
def Ap (l u l' u' : Nat) : Prop := u ≤ l' ∨ u' ≤ l
/-- Likewise, in blocks from lo up to hi, apart from each other, which may be written. -/
def OwnSnd (lo hi : Nat) (w : World) (a : Ads) (c : Con) : Prop :=
  ∃ l1 u1 l2 u2 l3 u3 l4 u4 : Nat, ((lo ≤ l1 ∧ u1 ≤ hi) ∧ (lo ≤ l2 ∧ u2 ≤ hi) ∧ (lo ≤ l3 ∧ u3 ≤ hi) ∧ (lo ≤ l4 ∧ u4 ≤ hi)) ∧ (Ap l1 u1 l2 u2 ∧ Ap l1 u1 l3 u3 ∧ Ap l1 u1 l4 u4 ∧ Ap l2 u2 l3 u3 ∧ Ap l2 u2 l4 u4 ∧ Ap l3 u3 l4 u4) ∧ OwnS l1 u1 w a.r c.r ∧ OwnR l2 u2 w a.p c.p ∧ OwnR l3 u3 w a.f c.f ∧ OwnR l4 u4 w a.k c.k
theorem OwnSnd.read {lo hi : Nat} {w : World} {a : Ads} {c : Con} (h : OwnSnd lo hi w a c) : ReadSnd w a c := by
  obtain ⟨_, _, _, _, _, _, _, _, _, _, h1, h2, h3, h4⟩ := h
  exact ⟨h1.read, h2.read, h3.read, h4.read⟩
theorem ReadSnd.ext {w w' : World} {a : Ads} {c : Con} (h : ReadSnd w a c) (hx : Ext w w') : ReadSnd w' a c :=
  ⟨h.r.ext hx, h.p.ext hx, h.f.ext hx, h.k.ext hx⟩
theorem OwnSnd.chg {lo hi : Nat} {S : Nat → Prop} {w w' : World} {a : Ads} {c : Con} (h : OwnSnd lo hi w a c) (hx : Chg S w w') (hS : ∀ b, lo ≤ b → b < hi → ¬ S b) : OwnSnd lo hi w' a c := by
  obtain ⟨l1, u1, l2, u2, l3, u3, l4, u4, hb, ha, h1, h2, h3, h4⟩ := h
  exact ⟨l1, u1, l2, u2, l3, u3, l4, u4, hb, ha, h1.chg hx (fun b k1 k2 => hS b (by omega) (by omega)), h2.chg hx (fun b k1 k2 => hS b (by omega) (by omega)), h3.chg hx (fun b k1 k2 => hS b (by omega) (by omega)), h4.chg hx (fun b k1 k2 => hS b (by omega) (by omega))⟩
theorem OwnSnd.mono {lo hi lo' hi' : Nat} {w : World} {a : Ads} {c : Con} (h : OwnSnd lo hi w a c) (h1 : lo' ≤ lo) (h2 : hi ≤ hi') : OwnSnd lo' hi' w a c := by
  obtain ⟨l1, u1, l2, u2, l3, u3, l4, u4, hb, ha, h⟩ := h
  exact ⟨l1, u1, l2, u2, l3, u3, l4, u4, by omega, ha, h⟩
theorem same_extS {P : Program} {f : FuncId} {args : Array Value} {w : World} {v : Value} (h : Calls P f args w fun e w' => e = .returned v ∧ w = w') : Calls P f args w fun e w' => e = .returned v ∧ Ext w w' :=
  Calls.mono h fun _ _ ⟨h1, h2⟩ => ⟨h1, by subst h2; exact Ext.refl _⟩
/-- How many elements. -/
def conLen (c : Con) : Nat := c.r.length + (c.p.length + (c.f.length + c.k.length))
/-- How many marks. -/
def conMk (c : Con) : Nat := c.r.length + 2 * (c.p.length + (c.f.length + c.k.length))
theorem szSender_yes (st z b e fi fk se co : Int) (a1 a2 a3 a4 : Option Addr) (ca1 ca2 ca3 ca4 : Nat) (xs : List Int) (ps fs ks : List Rg) (left : Int) (w : World) (h0 : 0 ≤ left) (h1 : left ≤ 1048576) (h : (xs.length : Int) + (ps.length : Int) + (fs.length : Int) + (ks.length : Int) ≤ left) :
    Calls Try.prog 7 #[.agg #[.int .i64 st, .int .i64 z, .int .i64 b, .int .i64 e, .slice a1 xs.length ca1, .slice a2 ps.length ca2, .slice a3 fs.length ca3, .slice a4 ks.length ca4, .int .i64 fi, .int .i64 fk, .int .i64 se, .int .i64 co], .int .i64 left] w fun en w' => en = .returned (.int .i64 (left - ((xs.length : Int) + (ps.length : Int) + (fs.length : Int) + (ks.length : Int)))) ∧ Ext w w' := by
  have g1 : decide (left - (xs.length : Int) < 0) = false := decide_eq_false (by omega)
  have g2 : decide (left - (xs.length : Int) - (ps.length : Int) < 0) = false := decide_eq_false (by omega)
  have g3 : decide (left - (xs.length : Int) - (ps.length : Int) - (fs.length : Int) < 0) = false := decide_eq_false (by omega)
  have g4 : decide (left - (xs.length : Int) - (ps.length : Int) - (fs.length : Int) - (ks.length : Int) < 0) = false := decide_eq_false (by omega)
  rw [show left - ((xs.length : Int) + (ps.length : Int) + (fs.length : Int) + (ks.length : Int)) = left - (xs.length : Int) - (ps.length : Int) - (fs.length : Int) - (ks.length : Int) from by omega]
  go_enter Try.func7, Try.ntmps7
  go_wp2_with fail
  refine (szRing_any z b e a1 xs.length ca1 (left) _ (by omega) (by omega) (by omega)).mono ?_
  rintro en w1 ⟨rfl, hw1⟩
  have xw1 : Ext w w1 := (by repeat (first | with_reducible exact Ext.refl _ | with_reducible assumption | with_reducible refine Ext.alloc ?_ _ | with_reducible refine Ext.drew ?_ | with_reducible refine Ext.drewN ?_ _ | ((with_reducible refine Ext.set ?_ ?_ _); (focus (first | (simp; done) | (simp; omega)))) | with_reducible refine Ext.trans ?_ (by assumption)))
  have kw1_0 := hw1.more (k := w.heap.size) (by first | assumption | (simp; done) | (simp; omega) | omega)
  obtain ⟨cw1_0, fw1_0⟩ := hw1.row (k := w.heap.size) (by first | assumption | (simp; done) | (simp; omega) | omega)
  rw [if_neg (by omega)]
  go_wp2_with fail
  refine (same_extS (szRangeS_any a2 ps.length ca2 (left - (xs.length : Int)) _ (by omega) (by omega) (by omega))).mono ?_
  rintro en w2 ⟨rfl, hw2⟩
  have xw2 : Ext w w2 := (by repeat (first | with_reducible exact Ext.refl _ | with_reducible assumption | with_reducible refine Ext.alloc ?_ _ | with_reducible refine Ext.drew ?_ | with_reducible refine Ext.drewN ?_ _ | ((with_reducible refine Ext.set ?_ ?_ _); (focus (first | (simp; done) | (simp; omega)))) | with_reducible refine Ext.trans ?_ (by assumption)))
  have kw2_0 := hw2.more (k := w.heap.size) (by first | assumption | (simp; done) | (simp; omega) | omega)
  obtain ⟨cw2_0, fw2_0⟩ := hw2.row (k := w.heap.size) (by first | assumption | (simp; done) | (simp; omega) | omega)
  rw [if_neg (by omega)]
  go_wp2_with fail
  refine (same_extS (szRangeS_any a3 fs.length ca3 (left - (xs.length : Int) - (ps.length : Int)) _ (by omega) (by omega) (by omega))).mono ?_
  rintro en w3 ⟨rfl, hw3⟩
  have xw3 : Ext w w3 := (by repeat (first | with_reducible exact Ext.refl _ | with_reducible assumption | with_reducible refine Ext.alloc ?_ _ | with_reducible refine Ext.drew ?_ | with_reducible refine Ext.drewN ?_ _ | ((with_reducible refine Ext.set ?_ ?_ _); (focus (first | (simp; done) | (simp; omega)))) | with_reducible refine Ext.trans ?_ (by assumption)))
  have kw3_0 := hw3.more (k := w.heap.size) (by first | assumption | (simp; done) | (simp; omega) | omega)
  obtain ⟨cw3_0, fw3_0⟩ := hw3.row (k := w.heap.size) (by first | assumption | (simp; done) | (simp; omega) | omega)
  rw [if_neg (by omega)]
  go_wp2_with fail
  refine (same_extS (szRangeS_any a4 ks.length ca4 (left - (xs.length : Int) - (ps.length : Int) - (fs.length : Int)) _ (by omega) (by omega) (by omega))).mono ?_
  rintro en w4 ⟨rfl, hw4⟩
  have xw4 : Ext w w4 := (by repeat (first | with_reducible exact Ext.refl _ | with_reducible assumption | with_reducible refine Ext.alloc ?_ _ | with_reducible refine Ext.drew ?_ | with_reducible refine Ext.drewN ?_ _ | ((with_reducible refine Ext.set ?_ ?_ _); (focus (first | (simp; done) | (simp; omega)))) | with_reducible refine Ext.trans ?_ (by assumption)))
  have kw4_0 := hw4.more (k := w.heap.size) (by first | assumption | (simp; done) | (simp; omega) | omega)
  obtain ⟨cw4_0, fw4_0⟩ := hw4.row (k := w.heap.size) (by first | assumption | (simp; done) | (simp; omega) | omega)
  rw [if_neg (by omega)]
  go_wp2
  go_ret
  exact ⟨rfl, (by repeat (first | with_reducible exact Ext.refl _ | with_reducible assumption | with_reducible refine Ext.alloc ?_ _ | with_reducible refine Ext.drew ?_ | with_reducible refine Ext.drewN ?_ _ | ((with_reducible refine Ext.set ?_ ?_ _); (focus (first | (simp; done) | (simp; omega)))) | with_reducible refine Ext.trans ?_ (by assumption)))⟩
theorem szSender_no (st z b e fi fk se co : Int) (a1 a2 a3 a4 : Option Addr) (ca1 ca2 ca3 ca4 : Nat) (xs : List Int) (ps fs ks : List Rg) (left : Int) (w : World) (h0 : 0 ≤ left) (h1 : left ≤ 1048576) (hl1 : (xs.length : Int) ≤ 9223372036854775807) (hl2 : (ps.length : Int) ≤ 9223372036854775807) (hl3 : (fs.length : Int) ≤ 9223372036854775807) (hl4 : (ks.length : Int) ≤ 9223372036854775807) (h : left < (xs.length : Int) + (ps.length : Int) + (fs.length : Int) + (ks.length : Int)) :
    Calls Try.prog 7 #[.agg #[.int .i64 st, .int .i64 z, .int .i64 b, .int .i64 e, .slice a1 xs.length ca1, .slice a2 ps.length ca2, .slice a3 fs.length ca3, .slice a4 ks.length ca4, .int .i64 fi, .int .i64 fk, .int .i64 se, .int .i64 co], .int .i64 left] w fun en w' => en = .returned (.int .i64 (-1)) ∧ Ext w w' := by
  by_cases k0 : left < (xs.length : Int)
  · skip
    go_enter Try.func7, Try.ntmps7
    go_wp2_with fail
    refine (szRing_any z b e a1 xs.length ca1 (left) _ (by omega) (by omega) (by omega)).mono ?_
    rintro en w1 ⟨rfl, hw1⟩
    have xw1 : Ext w w1 := (by repeat (first | with_reducible exact Ext.refl _ | with_reducible assumption | with_reducible refine Ext.alloc ?_ _ | with_reducible refine Ext.drew ?_ | with_reducible refine Ext.drewN ?_ _ | ((with_reducible refine Ext.set ?_ ?_ _); (focus (first | (simp; done) | (simp; omega)))) | with_reducible refine Ext.trans ?_ (by assumption)))
    have kw1_0 := hw1.more (k := w.heap.size) (by first | assumption | (simp; done) | (simp; omega) | omega)
    obtain ⟨cw1_0, fw1_0⟩ := hw1.row (k := w.heap.size) (by first | assumption | (simp; done) | (simp; omega) | omega)
    rw [if_pos (by omega)]
    go_wp2
    go_ret
    exact ⟨rfl, (by repeat (first | with_reducible exact Ext.refl _ | with_reducible assumption | with_reducible refine Ext.alloc ?_ _ | with_reducible refine Ext.drew ?_ | with_reducible refine Ext.drewN ?_ _ | ((with_reducible refine Ext.set ?_ ?_ _); (focus (first | (simp; done) | (simp; omega)))) | with_reducible refine Ext.trans ?_ (by assumption)))⟩
  by_cases k1 : left - (xs.length : Int) < (ps.length : Int)
  · skip
    have g1 : decide (left - (xs.length : Int) < 0) = false := decide_eq_false (by omega)
    go_enter Try.func7, Try.ntmps7
    go_wp2_with fail
    refine (szRing_any z b e a1 xs.length ca1 (left) _ (by omega) (by omega) (by omega)).mono ?_
    rintro en w1 ⟨rfl, hw1⟩
    have xw1 : Ext w w1 := (by repeat (first | with_reducible exact Ext.refl _ | with_reducible assumption | with_reducible refine Ext.alloc ?_ _ | with_reducible refine Ext.drew ?_ | with_reducible refine Ext.drewN ?_ _ | ((with_reducible refine Ext.set ?_ ?_ _); (focus (first | (simp; done) | (simp; omega)))) | with_reducible refine Ext.trans ?_ (by assumption)))
    have kw1_0 := hw1.more (k := w.heap.size) (by first | assumption | (simp; done) | (simp; omega) | omega)
    obtain ⟨cw1_0, fw1_0⟩ := hw1.row (k := w.heap.size) (by first | assumption | (simp; done) | (simp; omega) | omega)
    rw [if_neg (by omega)]
    go_wp2_with fail
    refine (same_extS (szRangeS_any a2 ps.length ca2 (left - (xs.length : Int)) _ (by omega) (by omega) (by omega))).mono ?_
    rintro en w2 ⟨rfl, hw2⟩
    have xw2 : Ext w w2 := (by repeat (first | with_reducible exact Ext.refl _ | with_reducible assumption | with_reducible refine Ext.alloc ?_ _ | with_reducible refine Ext.drew ?_ | with_reducible refine Ext.drewN ?_ _ | ((with_reducible refine Ext.set ?_ ?_ _); (focus (first | (simp; done) | (simp; omega)))) | with_reducible refine Ext.trans ?_ (by assumption)))
    have kw2_0 := hw2.more (k := w.heap.size) (by first | assumption | (simp; done) | (simp; omega) | omega)
    obtain ⟨cw2_0, fw2_0⟩ := hw2.row (k := w.heap.size) (by first | assumption | (simp; done) | (simp; omega) | omega)
    rw [if_pos (by omega)]
    go_wp2
    go_ret
    exact ⟨rfl, (by repeat (first | with_reducible exact Ext.refl _ | with_reducible assumption | with_reducible refine Ext.alloc ?_ _ | with_reducible refine Ext.drew ?_ | with_reducible refine Ext.drewN ?_ _ | ((with_reducible refine Ext.set ?_ ?_ _); (focus (first | (simp; done) | (simp; omega)))) | with_reducible refine Ext.trans ?_ (by assumption)))⟩
  by_cases k2 : left - (xs.length : Int) - (ps.length : Int) < (fs.length : Int)
  · skip
    have g1 : decide (left - (xs.length : Int) < 0) = false := decide_eq_false (by omega)
    have g2 : decide (left - (xs.length : Int) - (ps.length : Int) < 0) = false := decide_eq_false (by omega)
    go_enter Try.func7, Try.ntmps7
    go_wp2_with fail
    refine (szRing_any z b e a1 xs.length ca1 (left) _ (by omega) (by omega) (by omega)).mono ?_
    rintro en w1 ⟨rfl, hw1⟩
    have xw1 : Ext w w1 := (by repeat (first | with_reducible exact Ext.refl _ | with_reducible assumption | with_reducible refine Ext.alloc ?_ _ | with_reducible refine Ext.drew ?_ | with_reducible refine Ext.drewN ?_ _ | ((with_reducible refine Ext.set ?_ ?_ _); (focus (first | (simp; done) | (simp; omega)))) | with_reducible refine Ext.trans ?_ (by assumption)))
    have kw1_0 := hw1.more (k := w.heap.size) (by first | assumption | (simp; done) | (simp; omega) | omega)
    obtain ⟨cw1_0, fw1_0⟩ := hw1.row (k := w.heap.size) (by first | assumption | (simp; done) | (simp; omega) | omega)
    rw [if_neg (by omega)]
    go_wp2_with fail
    refine (same_extS (szRangeS_any a2 ps.length ca2 (left - (xs.length : Int)) _ (by omega) (by omega) (by omega))).mono ?_
    rintro en w2 ⟨rfl, hw2⟩
    have xw2 : Ext w w2 := (by repeat (first | with_reducible exact Ext.refl _ | with_reducible assumption | with_reducible refine Ext.alloc ?_ _ | with_reducible refine Ext.drew ?_ | with_reducible refine Ext.drewN ?_ _ | ((with_reducible refine Ext.set ?_ ?_ _); (focus (first | (simp; done) | (simp; omega)))) | with_reducible refine Ext.trans ?_ (by assumption)))
    have kw2_0 := hw2.more (k := w.heap.size) (by first | assumption | (simp; done) | (simp; omega) | omega)
    obtain ⟨cw2_0, fw2_0⟩ := hw2.row (k := w.heap.size) (by first | assumption | (simp; done) | (simp; omega) | omega)
    rw [if_neg (by omega)]
    go_wp2_with fail
    refine (same_extS (szRangeS_any a3 fs.length ca3 (left - (xs.length : Int) - (ps.length : Int)) _ (by omega) (by omega) (by omega))).mono ?_
    rintro en w3 ⟨rfl, hw3⟩
    have xw3 : Ext w w3 := (by repeat (first | with_reducible exact Ext.refl _ | with_reducible assumption | with_reducible refine Ext.alloc ?_ _ | with_reducible refine Ext.drew ?_ | with_reducible refine Ext.drewN ?_ _ | ((with_reducible refine Ext.set ?_ ?_ _); (focus (first | (simp; done) | (simp; omega)))) | with_reducible refine Ext.trans ?_ (by assumption)))
    have kw3_0 := hw3.more (k := w.heap.size) (by first | assumption | (simp; done) | (simp; omega) | omega)
    obtain ⟨cw3_0, fw3_0⟩ := hw3.row (k := w.heap.size) (by first | assumption | (simp; done) | (simp; omega) | omega)
    rw [if_pos (by omega)]
    go_wp2
    go_ret
    exact ⟨rfl, (by repeat (first | with_reducible exact Ext.refl _ | with_reducible assumption | with_reducible refine Ext.alloc ?_ _ | with_reducible refine Ext.drew ?_ | with_reducible refine Ext.drewN ?_ _ | ((with_reducible refine Ext.set ?_ ?_ _); (focus (first | (simp; done) | (simp; omega)))) | with_reducible refine Ext.trans ?_ (by assumption)))⟩
  · have k3 : left - (xs.length : Int) - (ps.length : Int) - (fs.length : Int) < (ks.length : Int) := by omega
    have g1 : decide (left - (xs.length : Int) < 0) = false := decide_eq_false (by omega)
    have g2 : decide (left - (xs.length : Int) - (ps.length : Int) < 0) = false := decide_eq_false (by omega)
    have g3 : decide (left - (xs.length : Int) - (ps.length : Int) - (fs.length : Int) < 0) = false := decide_eq_false (by omega)
    go_enter Try.func7, Try.ntmps7
    go_wp2_with fail
    refine (szRing_any z b e a1 xs.length ca1 (left) _ (by omega) (by omega) (by omega)).mono ?_
    rintro en w1 ⟨rfl, hw1⟩
    have xw1 : Ext w w1 := (by repeat (first | with_reducible exact Ext.refl _ | with_reducible assumption | with_reducible refine Ext.alloc ?_ _ | with_reducible refine Ext.drew ?_ | with_reducible refine Ext.drewN ?_ _ | ((with_reducible refine Ext.set ?_ ?_ _); (focus (first | (simp; done) | (simp; omega)))) | with_reducible refine Ext.trans ?_ (by assumption)))
    have kw1_0 := hw1.more (k := w.heap.size) (by first | assumption | (simp; done) | (simp; omega) | omega)
    obtain ⟨cw1_0, fw1_0⟩ := hw1.row (k := w.heap.size) (by first | assumption | (simp; done) | (simp; omega) | omega)
    rw [if_neg (by omega)]
    go_wp2_with fail
    refine (same_extS (szRangeS_any a2 ps.length ca2 (left - (xs.length : Int)) _ (by omega) (by omega) (by omega))).mono ?_
    rintro en w2 ⟨rfl, hw2⟩
    have xw2 : Ext w w2 := (by repeat (first | with_reducible exact Ext.refl _ | with_reducible assumption | with_reducible refine Ext.alloc ?_ _ | with_reducible refine Ext.drew ?_ | with_reducible refine Ext.drewN ?_ _ | ((with_reducible refine Ext.set ?_ ?_ _); (focus (first | (simp; done) | (simp; omega)))) | with_reducible refine Ext.trans ?_ (by assumption)))
    have kw2_0 := hw2.more (k := w.heap.size) (by first | assumption | (simp; done) | (simp; omega) | omega)
    obtain ⟨cw2_0, fw2_0⟩ := hw2.row (k := w.heap.size) (by first | assumption | (simp; done) | (simp; omega) | omega)
    rw [if_neg (by omega)]
    go_wp2_with fail
    refine (same_extS (szRangeS_any a3 fs.length ca3 (left - (xs.length : Int) - (ps.length : Int)) _ (by omega) (by omega) (by omega))).mono ?_
    rintro en w3 ⟨rfl, hw3⟩
    have xw3 : Ext w w3 := (by repeat (first | with_reducible exact Ext.refl _ | with_reducible assumption | with_reducible refine Ext.alloc ?_ _ | with_reducible refine Ext.drew ?_ | with_reducible refine Ext.drewN ?_ _ | ((with_reducible refine Ext.set ?_ ?_ _); (focus (first | (simp; done) | (simp; omega)))) | with_reducible refine Ext.trans ?_ (by assumption)))
    have kw3_0 := hw3.more (k := w.heap.size) (by first | assumption | (simp; done) | (simp; omega) | omega)
    obtain ⟨cw3_0, fw3_0⟩ := hw3.row (k := w.heap.size) (by first | assumption | (simp; done) | (simp; omega) | omega)
    rw [if_neg (by omega)]
    go_wp2_with fail
    refine (same_extS (szRangeS_any a4 ks.length ca4 (left - (xs.length : Int) - (ps.length : Int) - (fs.length : Int)) _ (by omega) (by omega) (by omega))).mono ?_
    rintro en w4 ⟨rfl, hw4⟩
    have xw4 : Ext w w4 := (by repeat (first | with_reducible exact Ext.refl _ | with_reducible assumption | with_reducible refine Ext.alloc ?_ _ | with_reducible refine Ext.drew ?_ | with_reducible refine Ext.drewN ?_ _ | ((with_reducible refine Ext.set ?_ ?_ _); (focus (first | (simp; done) | (simp; omega)))) | with_reducible refine Ext.trans ?_ (by assumption)))
    have kw4_0 := hw4.more (k := w.heap.size) (by first | assumption | (simp; done) | (simp; omega) | omega)
    obtain ⟨cw4_0, fw4_0⟩ := hw4.row (k := w.heap.size) (by first | assumption | (simp; done) | (simp; omega) | omega)
    rw [if_pos (by omega)]
    go_wp2
    go_ret
    exact ⟨rfl, (by repeat (first | with_reducible exact Ext.refl _ | with_reducible assumption | with_reducible refine Ext.alloc ?_ _ | with_reducible refine Ext.drew ?_ | with_reducible refine Ext.drewN ?_ _ | ((with_reducible refine Ext.set ?_ ?_ _); (focus (first | (simp; done) | (simp; omega)))) | with_reducible refine Ext.trans ?_ (by assumption)))⟩
/-- A new sender with these numbers, whose slices hold these lists. -/
def NewSndV (st z b e fi fk se co : Int) (xs : List Int) (ps fs ks : List Rg) (w : World) (en : Ending) (w' : World) : Prop :=
  ∃ (a1 a2 a3 a4 : Option Addr) (ca1 ca2 ca3 ca4 : Nat), en = .returned (.agg #[.int .i64 st, .int .i64 z, .int .i64 b, .int .i64 e, .slice a1 xs.length ca1, .slice a2 ps.length ca2, .slice a3 fs.length ca3, .slice a4 ks.length ca4, .int .i64 fi, .int .i64 fk, .int .i64 se, .int .i64 co]) ∧ OwnSnd w.heap.size w'.heap.size w' ⟨a1, a2, a3, a4⟩ ⟨xs, ps, fs, ks⟩ ∧ Ext w w'
set_option maxHeartbeats 4000000 in
theorem toSender_any (st z b e fi fk se co : Int) (a1 a2 a3 a4 : Option Addr) (ca1 ca2 ca3 ca4 : Nat) (xs : List Int) (ps fs ks : List Rg) (w : World) (hx : ReadSnd w ⟨a1, a2, a3, a4⟩ ⟨xs, ps, fs, ks⟩) (hl : xs.length ≤ 1048576 ∧ ps.length ≤ 1048576 ∧ fs.length ≤ 1048576 ∧ ks.length ≤ 1048576) :
    Calls Try.prog 9 #[.agg #[.int .i64 st, .int .i64 z, .int .i64 b, .int .i64 e, .slice a1 xs.length ca1, .slice a2 ps.length ca2, .slice a3 fs.length ca3, .slice a4 ks.length ca4, .int .i64 fi, .int .i64 fk, .int .i64 se, .int .i64 co]] w (NewSndV st z b e fi fk se co xs ps fs ks w) := by
  obtain ⟨hx1, hx2, hx3, hx4⟩ := hx
  obtain ⟨l1, l2, l3, l4⟩ := hl
  replace hx1 := hide hx1
  replace hx2 := hide hx2
  replace hx3 := hide hx3
  replace hx4 := hide hx4
  go_enter Try.func9, Try.ntmps9
  go_wp2_with fail
  refine (toRing_any z b e a1 xs.length ca1 xs _ (hx1.out.ext (by repeat (first | with_reducible exact Ext.refl _ | with_reducible assumption | with_reducible refine Ext.alloc ?_ _ | with_reducible refine Ext.drew ?_ | ((with_reducible refine Ext.set ?_ ?_ _); (focus (first | (simp; done) | (simp; omega) | omega)))))) rfl (by omega)).mono ?_
  rintro en1 w1 ⟨d1, cd1, rfl, ho1, hb1⟩
  have xw1 : Ext w w1 := Ext.trans (by repeat (first | with_reducible exact Ext.refl _ | with_reducible assumption | with_reducible refine Ext.alloc ?_ _ | with_reducible refine Ext.drew ?_ | ((with_reducible refine Ext.set ?_ ?_ _); (focus (first | (simp; done) | (simp; omega) | omega))))) hb1
  have hg1 : Chg (fun k => k = w.heap.size + 1 + 1) (((w.alloc (.cells #[.int .i64 st, .int .i64 z, .int .i64 b, .int .i64 e, .slice a1 xs.length ca1, .slice a2 ps.length ca2, .slice a3 fs.length ca3, .slice a4 ks.length ca4, .int .i64 fi, .int .i64 fk, .int .i64 se, .int .i64 co] 27)).alloc (.cells #[.int .i64 0, .int .i64 0, .int .i64 0, .int .i64 0, .slice none 0 0, .slice none 0 0, .slice none 0 0, .slice none 0 0, .int .i64 0, .int .i64 0, .int .i64 0, .int .i64 0] 32)).alloc (.cells #[.int .i64 st, .int .i64 0, .int .i64 0, .int .i64 0, .slice none 0 0, .slice none 0 0, .slice none 0 0, .slice none 0 0, .int .i64 0, .int .i64 0, .int .i64 0, .int .i64 0] 32)) w1 := Chg.trans (by repeat (first | with_reducible exact Chg.refl _ _ | with_reducible assumption | with_reducible refine Chg.alloc ?_ _ | ((with_reducible refine Chg.set ?_ ?_ _); (focus (first | (left; rfl) | (left; simp; done) | (left; simp; omega)))) | with_reducible refine Chg.trans ?_ (Ext.chg (by assumption) _))) (hb1.chg _)
  have hG1 := hide hg1
  have zs1 : w.heap.size + 3 ≤ w1.heap.size := by have := hG1.out.size; simp at this; omega
  have q1_0 : w.heap.size < w1.heap.size := by omega
  have q1_1 : w.heap.size + 1 < w1.heap.size := by omega
  have q1_2 : w.heap.size + 1 + 1 < w1.heap.size := by omega
  obtain ⟨xb, yb⟩ := hG1.out.row (k := w.heap.size) (by first | assumption | (simp; done) | (simp; omega) | omega) (by (try dsimp only); omega)
  have e1_0 : w1.cell? ⟨w.heap.size, 0, none⟩ = some (.int .i64 st) := (by rw [xb]; simp [go_sem])
  have e1_1 : w1.cell? ⟨w.heap.size, 1, none⟩ = some (.int .i64 z) := (by rw [xb]; simp [go_sem])
  have e1_2 : w1.cell? ⟨w.heap.size, 2, none⟩ = some (.int .i64 b) := (by rw [xb]; simp [go_sem])
  have e1_3 : w1.cell? ⟨w.heap.size, 3, none⟩ = some (.int .i64 e) := (by rw [xb]; simp [go_sem])
  have e1_4 : w1.cell? ⟨w.heap.size, 4, none⟩ = some (.slice a1 xs.length ca1) := (by rw [xb]; simp [go_sem])
  have e1_5 : w1.cell? ⟨w.heap.size, 5, none⟩ = some (.slice a2 ps.length ca2) := (by rw [xb]; simp [go_sem])
  have e1_6 : w1.cell? ⟨w.heap.size, 6, none⟩ = some (.slice a3 fs.length ca3) := (by rw [xb]; simp [go_sem])
  have e1_7 : w1.cell? ⟨w.heap.size, 7, none⟩ = some (.slice a4 ks.length ca4) := (by rw [xb]; simp [go_sem])
  have e1_8 : w1.cell? ⟨w.heap.size, 8, none⟩ = some (.int .i64 fi) := (by rw [xb]; simp [go_sem])
  have e1_9 : w1.cell? ⟨w.heap.size, 9, none⟩ = some (.int .i64 fk) := (by rw [xb]; simp [go_sem])
  have e1_10 : w1.cell? ⟨w.heap.size, 10, none⟩ = some (.int .i64 se) := (by rw [xb]; simp [go_sem])
  have e1_11 : w1.cell? ⟨w.heap.size, 11, none⟩ = some (.int .i64 co) := (by rw [xb]; simp [go_sem])
  clear xb yb
  obtain ⟨xb, yb⟩ := hb1.row (k := w.heap.size + 1 + 1) (by first | assumption | (simp; done) | (simp; omega) | omega)
  have o1_0 : w1.cell? ⟨w.heap.size + 1 + 1, 0, none⟩ = some (.int .i64 st) := (by rw [xb]; simp [go_sem, *])
  have o1_1 : w1.cell? ⟨w.heap.size + 1 + 1, 1, none⟩ = some (.int .i64 0) := (by rw [xb]; simp [go_sem, *])
  have o1_2 : w1.cell? ⟨w.heap.size + 1 + 1, 2, none⟩ = some (.int .i64 0) := (by rw [xb]; simp [go_sem, *])
  have o1_3 : w1.cell? ⟨w.heap.size + 1 + 1, 3, none⟩ = some (.int .i64 0) := (by rw [xb]; simp [go_sem, *])
  have o1_4 : w1.cell? ⟨w.heap.size + 1 + 1, 4, none⟩ = some (.slice none 0 0) := (by rw [xb]; simp [go_sem, *])
  have o1_5 : w1.cell? ⟨w.heap.size + 1 + 1, 5, none⟩ = some (.slice none 0 0) := (by rw [xb]; simp [go_sem, *])
  have o1_6 : w1.cell? ⟨w.heap.size + 1 + 1, 6, none⟩ = some (.slice none 0 0) := (by rw [xb]; simp [go_sem, *])
  have o1_7 : w1.cell? ⟨w.heap.size + 1 + 1, 7, none⟩ = some (.slice none 0 0) := (by rw [xb]; simp [go_sem, *])
  have o1_8 : w1.cell? ⟨w.heap.size + 1 + 1, 8, none⟩ = some (.int .i64 0) := (by rw [xb]; simp [go_sem, *])
  have o1_9 : w1.cell? ⟨w.heap.size + 1 + 1, 9, none⟩ = some (.int .i64 0) := (by rw [xb]; simp [go_sem, *])
  have o1_10 : w1.cell? ⟨w.heap.size + 1 + 1, 10, none⟩ = some (.int .i64 0) := (by rw [xb]; simp [go_sem, *])
  have o1_11 : w1.cell? ⟨w.heap.size + 1 + 1, 11, none⟩ = some (.int .i64 0) := (by rw [xb]; simp [go_sem, *])
  have oF1 : ∀ o, w1.frozen? ⟨w.heap.size + 1 + 1, o, none⟩ = false := fun o => (by rw [yb]; simp [go_sem, *])
  clear xb yb
  replace ho1 := hide ho1
  clear hb1
  replace hg1 := hide hg1
  go_wp2_with fail
  refine (toRangeS_any a2 ps.length ca2 ps _ (hx2.out.ext (by repeat (first | with_reducible exact Ext.refl _ | with_reducible assumption | with_reducible refine Ext.alloc ?_ _ | with_reducible refine Ext.drew ?_ | ((with_reducible refine Ext.set ?_ ?_ _); (focus (first | (simp; done) | (simp; omega) | omega))) | with_reducible refine Ext.trans ?_ xw1))) rfl (by omega)).mono ?_
  rintro en2 w2 ⟨d2, cd2, rfl, ho2, hb2⟩
  have xw2 : Ext w w2 := Ext.trans (by repeat (first | with_reducible exact Ext.refl _ | with_reducible assumption | with_reducible refine Ext.alloc ?_ _ | with_reducible refine Ext.drew ?_ | ((with_reducible refine Ext.set ?_ ?_ _); (focus (first | (simp; done) | (simp; omega) | omega))) | with_reducible refine Ext.trans ?_ xw1)) hb2
  have hg2 : Chg (fun k => k = w.heap.size + 1 + 1) (w1) w2 := Chg.trans (by repeat (first | with_reducible exact Chg.refl _ _ | with_reducible assumption | with_reducible refine Chg.alloc ?_ _ | ((with_reducible refine Chg.set ?_ ?_ _); (focus (first | (left; rfl) | (left; simp; done) | (left; simp; omega)))) | with_reducible refine Chg.trans ?_ (Ext.chg (by assumption) _))) (hb2.chg _)
  have hG2 := hide (hG1.out.trans hg2)
  have zs2 : w.heap.size + 3 ≤ w2.heap.size := by have := hG2.out.size; simp at this; omega
  have q2_0 : w.heap.size < w2.heap.size := by omega
  have q2_1 : w.heap.size + 1 < w2.heap.size := by omega
  have q2_2 : w.heap.size + 1 + 1 < w2.heap.size := by omega
  obtain ⟨xb, yb⟩ := hG2.out.row (k := w.heap.size) (by first | assumption | (simp; done) | (simp; omega) | omega) (by (try dsimp only); omega)
  have e2_0 : w2.cell? ⟨w.heap.size, 0, none⟩ = some (.int .i64 st) := (by rw [xb]; simp [go_sem])
  have e2_1 : w2.cell? ⟨w.heap.size, 1, none⟩ = some (.int .i64 z) := (by rw [xb]; simp [go_sem])
  have e2_2 : w2.cell? ⟨w.heap.size, 2, none⟩ = some (.int .i64 b) := (by rw [xb]; simp [go_sem])
  have e2_3 : w2.cell? ⟨w.heap.size, 3, none⟩ = some (.int .i64 e) := (by rw [xb]; simp [go_sem])
  have e2_4 : w2.cell? ⟨w.heap.size, 4, none⟩ = some (.slice a1 xs.length ca1) := (by rw [xb]; simp [go_sem])
  have e2_5 : w2.cell? ⟨w.heap.size, 5, none⟩ = some (.slice a2 ps.length ca2) := (by rw [xb]; simp [go_sem])
  have e2_6 : w2.cell? ⟨w.heap.size, 6, none⟩ = some (.slice a3 fs.length ca3) := (by rw [xb]; simp [go_sem])
  have e2_7 : w2.cell? ⟨w.heap.size, 7, none⟩ = some (.slice a4 ks.length ca4) := (by rw [xb]; simp [go_sem])
  have e2_8 : w2.cell? ⟨w.heap.size, 8, none⟩ = some (.int .i64 fi) := (by rw [xb]; simp [go_sem])
  have e2_9 : w2.cell? ⟨w.heap.size, 9, none⟩ = some (.int .i64 fk) := (by rw [xb]; simp [go_sem])
  have e2_10 : w2.cell? ⟨w.heap.size, 10, none⟩ = some (.int .i64 se) := (by rw [xb]; simp [go_sem])
  have e2_11 : w2.cell? ⟨w.heap.size, 11, none⟩ = some (.int .i64 co) := (by rw [xb]; simp [go_sem])
  clear xb yb
  obtain ⟨xb, yb⟩ := hb2.row (k := w.heap.size + 1 + 1) (by first | assumption | (simp; done) | (simp; omega) | omega)
  have o2_0 : w2.cell? ⟨w.heap.size + 1 + 1, 0, none⟩ = some (.int .i64 st) := (by rw [xb]; simp [go_sem, *])
  have o2_1 : w2.cell? ⟨w.heap.size + 1 + 1, 1, none⟩ = some (.int .i64 z) := (by rw [xb]; simp [go_sem, *])
  have o2_2 : w2.cell? ⟨w.heap.size + 1 + 1, 2, none⟩ = some (.int .i64 b) := (by rw [xb]; simp [go_sem, *])
  have o2_3 : w2.cell? ⟨w.heap.size + 1 + 1, 3, none⟩ = some (.int .i64 e) := (by rw [xb]; simp [go_sem, *])
  have o2_4 : w2.cell? ⟨w.heap.size + 1 + 1, 4, none⟩ = some (.slice d1 xs.length cd1) := (by rw [xb]; simp [go_sem, *])
  have o2_5 : w2.cell? ⟨w.heap.size + 1 + 1, 5, none⟩ = some (.slice none 0 0) := (by rw [xb]; simp [go_sem, *])
  have o2_6 : w2.cell? ⟨w.heap.size + 1 + 1, 6, none⟩ = some (.slice none 0 0) := (by rw [xb]; simp [go_sem, *])
  have o2_7 : w2.cell? ⟨w.heap.size + 1 + 1, 7, none⟩ = some (.slice none 0 0) := (by rw [xb]; simp [go_sem, *])
  have o2_8 : w2.cell? ⟨w.heap.size + 1 + 1, 8, none⟩ = some (.int .i64 0) := (by rw [xb]; simp [go_sem, *])
  have o2_9 : w2.cell? ⟨w.heap.size + 1 + 1, 9, none⟩ = some (.int .i64 0) := (by rw [xb]; simp [go_sem, *])
  have o2_10 : w2.cell? ⟨w.heap.size + 1 + 1, 10, none⟩ = some (.int .i64 0) := (by rw [xb]; simp [go_sem, *])
  have o2_11 : w2.cell? ⟨w.heap.size + 1 + 1, 11, none⟩ = some (.int .i64 0) := (by rw [xb]; simp [go_sem, *])
  have oF2 : ∀ o, w2.frozen? ⟨w.heap.size + 1 + 1, o, none⟩ = false := fun o => (by rw [yb]; simp [go_sem, *])
  clear xb yb
  clear e1_0 o1_0 e1_1 o1_1 e1_2 o1_2 e1_3 o1_3 e1_4 o1_4 e1_5 o1_5 e1_6 o1_6 e1_7 o1_7 e1_8 o1_8 e1_9 o1_9 e1_10 o1_10 e1_11 o1_11 oF1
  replace ho2 := hide ho2
  clear hb2
  replace hg2 := hide hg2
  go_wp2_with fail
  refine (toRangeS_any a3 fs.length ca3 fs _ (hx3.out.ext (by repeat (first | with_reducible exact Ext.refl _ | with_reducible assumption | with_reducible refine Ext.alloc ?_ _ | with_reducible refine Ext.drew ?_ | ((with_reducible refine Ext.set ?_ ?_ _); (focus (first | (simp; done) | (simp; omega) | omega))) | with_reducible refine Ext.trans ?_ xw2))) rfl (by omega)).mono ?_
  rintro en3 w3 ⟨d3, cd3, rfl, ho3, hb3⟩
  have xw3 : Ext w w3 := Ext.trans (by repeat (first | with_reducible exact Ext.refl _ | with_reducible assumption | with_reducible refine Ext.alloc ?_ _ | with_reducible refine Ext.drew ?_ | ((with_reducible refine Ext.set ?_ ?_ _); (focus (first | (simp; done) | (simp; omega) | omega))) | with_reducible refine Ext.trans ?_ xw2)) hb3
  have hg3 : Chg (fun k => k = w.heap.size + 1 + 1) (w2) w3 := Chg.trans (by repeat (first | with_reducible exact Chg.refl _ _ | with_reducible assumption | with_reducible refine Chg.alloc ?_ _ | ((with_reducible refine Chg.set ?_ ?_ _); (focus (first | (left; rfl) | (left; simp; done) | (left; simp; omega)))) | with_reducible refine Chg.trans ?_ (Ext.chg (by assumption) _))) (hb3.chg _)
  have hG3 := hide (hG2.out.trans hg3)
  have zs3 : w.heap.size + 3 ≤ w3.heap.size := by have := hG3.out.size; simp at this; omega
  have q3_0 : w.heap.size < w3.heap.size := by omega
  have q3_1 : w.heap.size + 1 < w3.heap.size := by omega
  have q3_2 : w.heap.size + 1 + 1 < w3.heap.size := by omega
  obtain ⟨xb, yb⟩ := hG3.out.row (k := w.heap.size) (by first | assumption | (simp; done) | (simp; omega) | omega) (by (try dsimp only); omega)
  have e3_0 : w3.cell? ⟨w.heap.size, 0, none⟩ = some (.int .i64 st) := (by rw [xb]; simp [go_sem])
  have e3_1 : w3.cell? ⟨w.heap.size, 1, none⟩ = some (.int .i64 z) := (by rw [xb]; simp [go_sem])
  have e3_2 : w3.cell? ⟨w.heap.size, 2, none⟩ = some (.int .i64 b) := (by rw [xb]; simp [go_sem])
  have e3_3 : w3.cell? ⟨w.heap.size, 3, none⟩ = some (.int .i64 e) := (by rw [xb]; simp [go_sem])
  have e3_4 : w3.cell? ⟨w.heap.size, 4, none⟩ = some (.slice a1 xs.length ca1) := (by rw [xb]; simp [go_sem])
  have e3_5 : w3.cell? ⟨w.heap.size, 5, none⟩ = some (.slice a2 ps.length ca2) := (by rw [xb]; simp [go_sem])
  have e3_6 : w3.cell? ⟨w.heap.size, 6, none⟩ = some (.slice a3 fs.length ca3) := (by rw [xb]; simp [go_sem])
  have e3_7 : w3.cell? ⟨w.heap.size, 7, none⟩ = some (.slice a4 ks.length ca4) := (by rw [xb]; simp [go_sem])
  have e3_8 : w3.cell? ⟨w.heap.size, 8, none⟩ = some (.int .i64 fi) := (by rw [xb]; simp [go_sem])
  have e3_9 : w3.cell? ⟨w.heap.size, 9, none⟩ = some (.int .i64 fk) := (by rw [xb]; simp [go_sem])
  have e3_10 : w3.cell? ⟨w.heap.size, 10, none⟩ = some (.int .i64 se) := (by rw [xb]; simp [go_sem])
  have e3_11 : w3.cell? ⟨w.heap.size, 11, none⟩ = some (.int .i64 co) := (by rw [xb]; simp [go_sem])
  clear xb yb
  obtain ⟨xb, yb⟩ := hb3.row (k := w.heap.size + 1 + 1) (by first | assumption | (simp; done) | (simp; omega) | omega)
  have o3_0 : w3.cell? ⟨w.heap.size + 1 + 1, 0, none⟩ = some (.int .i64 st) := (by rw [xb]; simp [go_sem, *])
  have o3_1 : w3.cell? ⟨w.heap.size + 1 + 1, 1, none⟩ = some (.int .i64 z) := (by rw [xb]; simp [go_sem, *])
  have o3_2 : w3.cell? ⟨w.heap.size + 1 + 1, 2, none⟩ = some (.int .i64 b) := (by rw [xb]; simp [go_sem, *])
  have o3_3 : w3.cell? ⟨w.heap.size + 1 + 1, 3, none⟩ = some (.int .i64 e) := (by rw [xb]; simp [go_sem, *])
  have o3_4 : w3.cell? ⟨w.heap.size + 1 + 1, 4, none⟩ = some (.slice d1 xs.length cd1) := (by rw [xb]; simp [go_sem, *])
  have o3_5 : w3.cell? ⟨w.heap.size + 1 + 1, 5, none⟩ = some (.slice d2 ps.length cd2) := (by rw [xb]; simp [go_sem, *])
  have o3_6 : w3.cell? ⟨w.heap.size + 1 + 1, 6, none⟩ = some (.slice none 0 0) := (by rw [xb]; simp [go_sem, *])
  have o3_7 : w3.cell? ⟨w.heap.size + 1 + 1, 7, none⟩ = some (.slice none 0 0) := (by rw [xb]; simp [go_sem, *])
  have o3_8 : w3.cell? ⟨w.heap.size + 1 + 1, 8, none⟩ = some (.int .i64 0) := (by rw [xb]; simp [go_sem, *])
  have o3_9 : w3.cell? ⟨w.heap.size + 1 + 1, 9, none⟩ = some (.int .i64 0) := (by rw [xb]; simp [go_sem, *])
  have o3_10 : w3.cell? ⟨w.heap.size + 1 + 1, 10, none⟩ = some (.int .i64 0) := (by rw [xb]; simp [go_sem, *])
  have o3_11 : w3.cell? ⟨w.heap.size + 1 + 1, 11, none⟩ = some (.int .i64 0) := (by rw [xb]; simp [go_sem, *])
  have oF3 : ∀ o, w3.frozen? ⟨w.heap.size + 1 + 1, o, none⟩ = false := fun o => (by rw [yb]; simp [go_sem, *])
  clear xb yb
  clear e2_0 o2_0 e2_1 o2_1 e2_2 o2_2 e2_3 o2_3 e2_4 o2_4 e2_5 o2_5 e2_6 o2_6 e2_7 o2_7 e2_8 o2_8 e2_9 o2_9 e2_10 o2_10 e2_11 o2_11 oF2
  replace ho3 := hide ho3
  clear hb3
  replace hg3 := hide hg3
  go_wp2_with fail
  refine (toRangeS_any a4 ks.length ca4 ks _ (hx4.out.ext (by repeat (first | with_reducible exact Ext.refl _ | with_reducible assumption | with_reducible refine Ext.alloc ?_ _ | with_reducible refine Ext.drew ?_ | ((with_reducible refine Ext.set ?_ ?_ _); (focus (first | (simp; done) | (simp; omega) | omega))) | with_reducible refine Ext.trans ?_ xw3))) rfl (by omega)).mono ?_
  rintro en4 w4 ⟨d4, cd4, rfl, ho4, hb4⟩
  have xw4 : Ext w w4 := Ext.trans (by repeat (first | with_reducible exact Ext.refl _ | with_reducible assumption | with_reducible refine Ext.alloc ?_ _ | with_reducible refine Ext.drew ?_ | ((with_reducible refine Ext.set ?_ ?_ _); (focus (first | (simp; done) | (simp; omega) | omega))) | with_reducible refine Ext.trans ?_ xw3)) hb4
  have hg4 : Chg (fun k => k = w.heap.size + 1 + 1) (w3) w4 := Chg.trans (by repeat (first | with_reducible exact Chg.refl _ _ | with_reducible assumption | with_reducible refine Chg.alloc ?_ _ | ((with_reducible refine Chg.set ?_ ?_ _); (focus (first | (left; rfl) | (left; simp; done) | (left; simp; omega)))) | with_reducible refine Chg.trans ?_ (Ext.chg (by assumption) _))) (hb4.chg _)
  have hG4 := hide (hG3.out.trans hg4)
  have zs4 : w.heap.size + 3 ≤ w4.heap.size := by have := hG4.out.size; simp at this; omega
  have q4_0 : w.heap.size < w4.heap.size := by omega
  have q4_1 : w.heap.size + 1 < w4.heap.size := by omega
  have q4_2 : w.heap.size + 1 + 1 < w4.heap.size := by omega
  obtain ⟨xb, yb⟩ := hG4.out.row (k := w.heap.size) (by first | assumption | (simp; done) | (simp; omega) | omega) (by (try dsimp only); omega)
  have e4_0 : w4.cell? ⟨w.heap.size, 0, none⟩ = some (.int .i64 st) := (by rw [xb]; simp [go_sem])
  have e4_1 : w4.cell? ⟨w.heap.size, 1, none⟩ = some (.int .i64 z) := (by rw [xb]; simp [go_sem])
  have e4_2 : w4.cell? ⟨w.heap.size, 2, none⟩ = some (.int .i64 b) := (by rw [xb]; simp [go_sem])
  have e4_3 : w4.cell? ⟨w.heap.size, 3, none⟩ = some (.int .i64 e) := (by rw [xb]; simp [go_sem])
  have e4_4 : w4.cell? ⟨w.heap.size, 4, none⟩ = some (.slice a1 xs.length ca1) := (by rw [xb]; simp [go_sem])
  have e4_5 : w4.cell? ⟨w.heap.size, 5, none⟩ = some (.slice a2 ps.length ca2) := (by rw [xb]; simp [go_sem])
  have e4_6 : w4.cell? ⟨w.heap.size, 6, none⟩ = some (.slice a3 fs.length ca3) := (by rw [xb]; simp [go_sem])
  have e4_7 : w4.cell? ⟨w.heap.size, 7, none⟩ = some (.slice a4 ks.length ca4) := (by rw [xb]; simp [go_sem])
  have e4_8 : w4.cell? ⟨w.heap.size, 8, none⟩ = some (.int .i64 fi) := (by rw [xb]; simp [go_sem])
  have e4_9 : w4.cell? ⟨w.heap.size, 9, none⟩ = some (.int .i64 fk) := (by rw [xb]; simp [go_sem])
  have e4_10 : w4.cell? ⟨w.heap.size, 10, none⟩ = some (.int .i64 se) := (by rw [xb]; simp [go_sem])
  have e4_11 : w4.cell? ⟨w.heap.size, 11, none⟩ = some (.int .i64 co) := (by rw [xb]; simp [go_sem])
  clear xb yb
  obtain ⟨xb, yb⟩ := hb4.row (k := w.heap.size + 1 + 1) (by first | assumption | (simp; done) | (simp; omega) | omega)
  have o4_0 : w4.cell? ⟨w.heap.size + 1 + 1, 0, none⟩ = some (.int .i64 st) := (by rw [xb]; simp [go_sem, *])
  have o4_1 : w4.cell? ⟨w.heap.size + 1 + 1, 1, none⟩ = some (.int .i64 z) := (by rw [xb]; simp [go_sem, *])
  have o4_2 : w4.cell? ⟨w.heap.size + 1 + 1, 2, none⟩ = some (.int .i64 b) := (by rw [xb]; simp [go_sem, *])
  have o4_3 : w4.cell? ⟨w.heap.size + 1 + 1, 3, none⟩ = some (.int .i64 e) := (by rw [xb]; simp [go_sem, *])
  have o4_4 : w4.cell? ⟨w.heap.size + 1 + 1, 4, none⟩ = some (.slice d1 xs.length cd1) := (by rw [xb]; simp [go_sem, *])
  have o4_5 : w4.cell? ⟨w.heap.size + 1 + 1, 5, none⟩ = some (.slice d2 ps.length cd2) := (by rw [xb]; simp [go_sem, *])
  have o4_6 : w4.cell? ⟨w.heap.size + 1 + 1, 6, none⟩ = some (.slice d3 fs.length cd3) := (by rw [xb]; simp [go_sem, *])
  have o4_7 : w4.cell? ⟨w.heap.size + 1 + 1, 7, none⟩ = some (.slice none 0 0) := (by rw [xb]; simp [go_sem, *])
  have o4_8 : w4.cell? ⟨w.heap.size + 1 + 1, 8, none⟩ = some (.int .i64 0) := (by rw [xb]; simp [go_sem, *])
  have o4_9 : w4.cell? ⟨w.heap.size + 1 + 1, 9, none⟩ = some (.int .i64 0) := (by rw [xb]; simp [go_sem, *])
  have o4_10 : w4.cell? ⟨w.heap.size + 1 + 1, 10, none⟩ = some (.int .i64 0) := (by rw [xb]; simp [go_sem, *])
  have o4_11 : w4.cell? ⟨w.heap.size + 1 + 1, 11, none⟩ = some (.int .i64 0) := (by rw [xb]; simp [go_sem, *])
  have oF4 : ∀ o, w4.frozen? ⟨w.heap.size + 1 + 1, o, none⟩ = false := fun o => (by rw [yb]; simp [go_sem, *])
  clear xb yb
  clear e3_0 o3_0 e3_1 o3_1 e3_2 o3_2 e3_3 o3_3 e3_4 o3_4 e3_5 o3_5 e3_6 o3_6 e3_7 o3_7 e3_8 o3_8 e3_9 o3_9 e3_10 o3_10 e3_11 o3_11 oF3
  replace ho4 := hide ho4
  clear hb4
  replace hg4 := hide hg4
  obtain ⟨xb, yb⟩ := hG4.out.row (k := w.heap.size + 1) (by first | assumption | (simp; done) | (simp; omega) | omega) (by (try dsimp only); omega)
  have r0 : w4.cell? ⟨w.heap.size + 1, 0, none⟩ = some (.int .i64 0) := (by rw [xb]; simp [go_sem])
  have r1 : w4.cell? ⟨w.heap.size + 1, 1, none⟩ = some (.int .i64 0) := (by rw [xb]; simp [go_sem])
  have r2 : w4.cell? ⟨w.heap.size + 1, 2, none⟩ = some (.int .i64 0) := (by rw [xb]; simp [go_sem])
  have r3 : w4.cell? ⟨w.heap.size + 1, 3, none⟩ = some (.int .i64 0) := (by rw [xb]; simp [go_sem])
  have r4 : w4.cell? ⟨w.heap.size + 1, 4, none⟩ = some (.slice none 0 0) := (by rw [xb]; simp [go_sem])
  have r5 : w4.cell? ⟨w.heap.size + 1, 5, none⟩ = some (.slice none 0 0) := (by rw [xb]; simp [go_sem])
  have r6 : w4.cell? ⟨w.heap.size + 1, 6, none⟩ = some (.slice none 0 0) := (by rw [xb]; simp [go_sem])
  have r7 : w4.cell? ⟨w.heap.size + 1, 7, none⟩ = some (.slice none 0 0) := (by rw [xb]; simp [go_sem])
  have r8 : w4.cell? ⟨w.heap.size + 1, 8, none⟩ = some (.int .i64 0) := (by rw [xb]; simp [go_sem])
  have r9 : w4.cell? ⟨w.heap.size + 1, 9, none⟩ = some (.int .i64 0) := (by rw [xb]; simp [go_sem])
  have r10 : w4.cell? ⟨w.heap.size + 1, 10, none⟩ = some (.int .i64 0) := (by rw [xb]; simp [go_sem])
  have r11 : w4.cell? ⟨w.heap.size + 1, 11, none⟩ = some (.int .i64 0) := (by rw [xb]; simp [go_sem])
  have rF : ∀ o, w4.frozen? ⟨w.heap.size + 1, o, none⟩ = false := fun o => (by rw [yb]; simp [go_sem])
  clear xb yb
  go_wp2
  refine bodyPost_ret (v := .agg #[.int .i64 st, .int .i64 z, .int .i64 b, .int .i64 e, .slice d1 xs.length cd1, .slice d2 ps.length cd2, .slice d3 fs.length cd3, .slice d4 ks.length cd4, .int .i64 fi, .int .i64 fk, .int .i64 se, .int .i64 co]) (by simp [results, Try.results9, go_sem, *]) rfl ?_
  have z1 := hg2.out.size
  have z2 := hg3.out.size
  have z3 := hg4.out.size
  refine ⟨d1, d2, d3, d4, cd1, cd2, cd3, cd4, rfl, ?_, ?_⟩
  · have hS4 : ∀ {a b : World}, Chg (fun k => k = w.heap.size + 1 + 1) a b → Chg (fun k => k = w.heap.size + 1 ∨ k = w.heap.size + 1 + 1) a b := fun h => h.mono (fun _ _ h => Or.inr h)
    refine OwnSnd.mono (OwnSnd.chg (lo := w.heap.size + 3) (hi := w4.heap.size) (S := fun k => k = w.heap.size + 1 ∨ k = w.heap.size + 1 + 1) (w := w4) ⟨w.heap.size + 3, w1.heap.size, w1.heap.size, w2.heap.size, w2.heap.size, w3.heap.size, w3.heap.size, w4.heap.size, ?_, ?_, ?_, ?_, ?_, ?_⟩ (by repeat (first | with_reducible exact Chg.refl _ _ | ((with_reducible refine Chg.set ?_ ?_ _); (focus (first | (left; left; rfl) | (left; right; rfl) | (left; left; simp; done) | (left; right; simp; done) | (left; left; simp; omega) | (left; right; simp; omega)))))) (fun b h1 h2 h3 => by (try dsimp only at h3); omega)) (by omega) (by simp)
    · omega
    · unfold Ap
      omega
    · exact (OwnS.chg (S := fun k => k = w.heap.size + 1 + 1) (OwnS.chg (S := fun k => k = w.heap.size + 1 + 1) (OwnS.chg (S := fun k => k = w.heap.size + 1 + 1) (ho1.out.mono (lo' := (w.heap.size + 3)) (hi' := w1.heap.size) (by first | assumption | (simp; done) | (simp; omega) | omega) (Nat.le_refl _)) hg2.out (fun b h1 h2 h3 => by (try dsimp only at h3); omega)) hg3.out (fun b h1 h2 h3 => by (try dsimp only at h3); omega)) hg4.out (fun b h1 h2 h3 => by (try dsimp only at h3); omega))
    · exact (OwnR.chg (S := fun k => k = w.heap.size + 1 + 1) (OwnR.chg (S := fun k => k = w.heap.size + 1 + 1) (ho2.out.mono (lo' := w1.heap.size) (hi' := w2.heap.size) (by first | assumption | (simp; done) | (simp; omega) | omega) (Nat.le_refl _)) hg3.out (fun b h1 h2 h3 => by (try dsimp only at h3); omega)) hg4.out (fun b h1 h2 h3 => by (try dsimp only at h3); omega))
    · exact (OwnR.chg (S := fun k => k = w.heap.size + 1 + 1) (ho3.out.mono (lo' := w2.heap.size) (hi' := w3.heap.size) (by first | assumption | (simp; done) | (simp; omega) | omega) (Nat.le_refl _)) hg4.out (fun b h1 h2 h3 => by (try dsimp only at h3); omega))
    · exact (ho4.out.mono (lo' := w3.heap.size) (hi' := w4.heap.size) (by first | assumption | (simp; done) | (simp; omega) | omega) (Nat.le_refl _))
  · exact Chg.ext (S := fun k => k = w.heap.size + 1 ∨ k = w.heap.size + 1 + 1) (Chg.trans (Ext.chg xw4 _) (by repeat (first | with_reducible exact Chg.refl _ _ | ((with_reducible refine Chg.set ?_ ?_ _); (focus (first | (left; left; rfl) | (left; right; rfl) | (left; left; simp; done) | (left; right; simp; done) | (left; left; simp; omega) | (left; right; simp; omega))))))) (fun k hk h => by (try dsimp only at h); omega)
set_option maxHeartbeats 2000000 in
theorem eqSender_any (st z b e fi fk se co : Int) (a1 a2 a3 a4 : Option Addr) (ca1 ca2 ca3 ca4 : Nat) (b1 b2 b3 b4 : Option Addr) (cb1 cb2 cb3 cb4 : Nat) (xs : List Int) (ps fs ks : List Rg) (w : World) (hx : ReadSnd w ⟨a1, a2, a3, a4⟩ ⟨xs, ps, fs, ks⟩) (hy : ReadSnd w ⟨b1, b2, b3, b4⟩ ⟨xs, ps, fs, ks⟩) (hl : xs.length ≤ 1048576 ∧ ps.length ≤ 1048576 ∧ fs.length ≤ 1048576 ∧ ks.length ≤ 1048576) :
    Calls Try.prog 11 #[.agg #[.int .i64 st, .int .i64 z, .int .i64 b, .int .i64 e, .slice a1 xs.length ca1, .slice a2 ps.length ca2, .slice a3 fs.length ca3, .slice a4 ks.length ca4, .int .i64 fi, .int .i64 fk, .int .i64 se, .int .i64 co], .agg #[.int .i64 st, .int .i64 z, .int .i64 b, .int .i64 e, .slice b1 xs.length cb1, .slice b2 ps.length cb2, .slice b3 fs.length cb3, .slice b4 ks.length cb4, .int .i64 fi, .int .i64 fk, .int .i64 se, .int .i64 co]] w fun en w' => en = .returned (.bool true) ∧ Ext w w' := by
  obtain ⟨hx1, hx2, hx3, hx4⟩ := hx
  obtain ⟨hy1, hy2, hy3, hy4⟩ := hy
  obtain ⟨l1, l2, l3, l4⟩ := hl
  replace hx1 := hide hx1
  replace hy1 := hide hy1
  replace hx2 := hide hx2
  replace hy2 := hide hy2
  replace hx3 := hide hx3
  replace hy3 := hide hy3
  replace hx4 := hide hx4
  replace hy4 := hide hy4
  go_enter Try.func11, Try.ntmps11
  go_wp2_with fail
  refine (eqRing_any z b e a1 b1 xs.length xs.length ca1 cb1 xs xs _ (hx1.out.ext (by repeat (first | with_reducible exact Ext.refl _ | with_reducible assumption | with_reducible refine Ext.alloc ?_ _ | with_reducible refine Ext.drew ?_ | ((with_reducible refine Ext.set ?_ ?_ _); (focus (first | (simp; done) | (simp; omega) | omega)))))) (hy1.out.ext (by repeat (first | with_reducible exact Ext.refl _ | with_reducible assumption | with_reducible refine Ext.alloc ?_ _ | with_reducible refine Ext.drew ?_ | ((with_reducible refine Ext.set ?_ ?_ _); (focus (first | (simp; done) | (simp; omega) | omega)))))) rfl rfl (by omega)).mono ?_
  rintro en w1 ⟨rfl, hw1⟩
  have xw1 : Ext w w1 := (by repeat (first | with_reducible exact Ext.refl _ | with_reducible assumption | with_reducible refine Ext.alloc ?_ _ | with_reducible refine Ext.drew ?_ | with_reducible refine Ext.drewN ?_ _ | ((with_reducible refine Ext.set ?_ ?_ _); (focus (first | (simp; done) | (simp; omega)))) | with_reducible refine Ext.trans ?_ (by assumption)))
  have kw1_0 := hw1.more (k := w.heap.size) (by first | assumption | (simp; done) | (simp; omega) | omega)
  obtain ⟨cw1_0, fw1_0⟩ := hw1.row (k := w.heap.size) (by first | assumption | (simp; done) | (simp; omega) | omega)
  have kw1_1 := hw1.more (k := w.heap.size + 1) (by first | assumption | (simp; done) | (simp; omega) | omega)
  obtain ⟨cw1_1, fw1_1⟩ := hw1.row (k := w.heap.size + 1) (by first | assumption | (simp; done) | (simp; omega) | omega)
  rw [decide_eq_true (rfl : xs = xs)]
  go_wp2_with fail
  refine (eqRangeS_any a2 b2 ps.length ps.length ca2 cb2 ps ps _ (hx2.out.ext (by repeat (first | with_reducible exact Ext.refl _ | with_reducible assumption | with_reducible refine Ext.alloc ?_ _ | with_reducible refine Ext.drew ?_ | ((with_reducible refine Ext.set ?_ ?_ _); (focus (first | (simp; done) | (simp; omega) | omega))) | with_reducible refine Ext.trans ?_ hw1))) (hy2.out.ext (by repeat (first | with_reducible exact Ext.refl _ | with_reducible assumption | with_reducible refine Ext.alloc ?_ _ | with_reducible refine Ext.drew ?_ | ((with_reducible refine Ext.set ?_ ?_ _); (focus (first | (simp; done) | (simp; omega) | omega))) | with_reducible refine Ext.trans ?_ hw1))) rfl rfl (by omega)).mono ?_
  rintro en w2 ⟨rfl, hw2⟩
  have xw2 : Ext w w2 := (by repeat (first | with_reducible exact Ext.refl _ | with_reducible assumption | with_reducible refine Ext.alloc ?_ _ | with_reducible refine Ext.drew ?_ | with_reducible refine Ext.drewN ?_ _ | ((with_reducible refine Ext.set ?_ ?_ _); (focus (first | (simp; done) | (simp; omega)))) | with_reducible refine Ext.trans ?_ (by assumption)))
  have kw2_0 := hw2.more (k := w.heap.size) (by first | assumption | (simp; done) | (simp; omega) | omega)
  obtain ⟨cw2_0, fw2_0⟩ := hw2.row (k := w.heap.size) (by first | assumption | (simp; done) | (simp; omega) | omega)
  have kw2_1 := hw2.more (k := w.heap.size + 1) (by first | assumption | (simp; done) | (simp; omega) | omega)
  obtain ⟨cw2_1, fw2_1⟩ := hw2.row (k := w.heap.size + 1) (by first | assumption | (simp; done) | (simp; omega) | omega)
  rw [decide_eq_true (rfl : ps = ps)]
  go_wp2_with fail
  refine (eqRangeS_any a3 b3 fs.length fs.length ca3 cb3 fs fs _ (hx3.out.ext (by repeat (first | with_reducible exact Ext.refl _ | with_reducible assumption | with_reducible refine Ext.alloc ?_ _ | with_reducible refine Ext.drew ?_ | ((with_reducible refine Ext.set ?_ ?_ _); (focus (first | (simp; done) | (simp; omega) | omega))) | with_reducible refine Ext.trans ?_ hw2 | with_reducible refine Ext.trans ?_ hw1))) (hy3.out.ext (by repeat (first | with_reducible exact Ext.refl _ | with_reducible assumption | with_reducible refine Ext.alloc ?_ _ | with_reducible refine Ext.drew ?_ | ((with_reducible refine Ext.set ?_ ?_ _); (focus (first | (simp; done) | (simp; omega) | omega))) | with_reducible refine Ext.trans ?_ hw2 | with_reducible refine Ext.trans ?_ hw1))) rfl rfl (by omega)).mono ?_
  rintro en w3 ⟨rfl, hw3⟩
  have xw3 : Ext w w3 := (by repeat (first | with_reducible exact Ext.refl _ | with_reducible assumption | with_reducible refine Ext.alloc ?_ _ | with_reducible refine Ext.drew ?_ | with_reducible refine Ext.drewN ?_ _ | ((with_reducible refine Ext.set ?_ ?_ _); (focus (first | (simp; done) | (simp; omega)))) | with_reducible refine Ext.trans ?_ (by assumption)))
  have kw3_0 := hw3.more (k := w.heap.size) (by first | assumption | (simp; done) | (simp; omega) | omega)
  obtain ⟨cw3_0, fw3_0⟩ := hw3.row (k := w.heap.size) (by first | assumption | (simp; done) | (simp; omega) | omega)
  have kw3_1 := hw3.more (k := w.heap.size + 1) (by first | assumption | (simp; done) | (simp; omega) | omega)
  obtain ⟨cw3_1, fw3_1⟩ := hw3.row (k := w.heap.size + 1) (by first | assumption | (simp; done) | (simp; omega) | omega)
  rw [decide_eq_true (rfl : fs = fs)]
  go_wp2_with fail
  refine (eqRangeS_any a4 b4 ks.length ks.length ca4 cb4 ks ks _ (hx4.out.ext (by repeat (first | with_reducible exact Ext.refl _ | with_reducible assumption | with_reducible refine Ext.alloc ?_ _ | with_reducible refine Ext.drew ?_ | ((with_reducible refine Ext.set ?_ ?_ _); (focus (first | (simp; done) | (simp; omega) | omega))) | with_reducible refine Ext.trans ?_ hw3 | with_reducible refine Ext.trans ?_ hw2 | with_reducible refine Ext.trans ?_ hw1))) (hy4.out.ext (by repeat (first | with_reducible exact Ext.refl _ | with_reducible assumption | with_reducible refine Ext.alloc ?_ _ | with_reducible refine Ext.drew ?_ | ((with_reducible refine Ext.set ?_ ?_ _); (focus (first | (simp; done) | (simp; omega) | omega))) | with_reducible refine Ext.trans ?_ hw3 | with_reducible refine Ext.trans ?_ hw2 | with_reducible refine Ext.trans ?_ hw1))) rfl rfl (by omega)).mono ?_
  rintro en w4 ⟨rfl, hw4⟩
  have xw4 : Ext w w4 := (by repeat (first | with_reducible exact Ext.refl _ | with_reducible assumption | with_reducible refine Ext.alloc ?_ _ | with_reducible refine Ext.drew ?_ | with_reducible refine Ext.drewN ?_ _ | ((with_reducible refine Ext.set ?_ ?_ _); (focus (first | (simp; done) | (simp; omega)))) | with_reducible refine Ext.trans ?_ (by assumption)))
  have kw4_0 := hw4.more (k := w.heap.size) (by first | assumption | (simp; done) | (simp; omega) | omega)
  obtain ⟨cw4_0, fw4_0⟩ := hw4.row (k := w.heap.size) (by first | assumption | (simp; done) | (simp; omega) | omega)
  have kw4_1 := hw4.more (k := w.heap.size + 1) (by first | assumption | (simp; done) | (simp; omega) | omega)
  obtain ⟨cw4_1, fw4_1⟩ := hw4.row (k := w.heap.size + 1) (by first | assumption | (simp; done) | (simp; omega) | omega)
  rw [decide_eq_true (rfl : ks = ks)]
  go_wp2
  go_ret
  exact ⟨rfl, (by repeat (first | with_reducible exact Ext.refl _ | with_reducible assumption | with_reducible refine Ext.alloc ?_ _ | with_reducible refine Ext.drew ?_ | with_reducible refine Ext.drewN ?_ _ | ((with_reducible refine Ext.set ?_ ?_ _); (focus (first | (simp; done) | (simp; omega)))) | with_reducible refine Ext.trans ?_ (by assumption)))⟩
/-- The marks. -/
def marksSnd (k : Int) (c : Con) : Con := ⟨marks k c.r.length, marksR (k + c.r.length) c.p.length, marksR (k + c.r.length + 2 * c.p.length) c.f.length, marksR (k + c.r.length + 2 * c.p.length + 2 * c.f.length) c.k.length⟩
def MarkedSnd (lo hi : Nat) (a : Ads) (k0 : Int) (c : Con) (w : World) (e : Ending) (w' : World) : Prop :=
  e = .returned (.int .i64 (k0 + conMk c)) ∧ OwnSnd lo hi w' a (marksSnd k0 c) ∧ Chg (fun b => lo ≤ b ∧ b < hi) w w'
set_option maxHeartbeats 4000000 in
theorem sender_mark (lo hi : Nat) (st z b e fi fk se co : Int) (a1 a2 a3 a4 : Option Addr) (ca1 ca2 ca3 ca4 : Nat) (xs : List Int) (ps fs ks : List Rg) (k0 : Int) (w : World) (hx : OwnSnd lo hi w ⟨a1, a2, a3, a4⟩ ⟨xs, ps, fs, ks⟩) (hl : xs.length ≤ 1048576 ∧ ps.length ≤ 1048576 ∧ fs.length ≤ 1048576 ∧ ks.length ≤ 1048576) (h0 : 0 < k0) (h1 : k0 ≤ 1024) (hsum : (xs.length : Int) + (ps.length : Int) + (fs.length : Int) + (ks.length : Int) ≤ 1048576) (hlo : hi ≤ w.heap.size) :
    Calls Try.prog 12 #[.agg #[.int .i64 st, .int .i64 z, .int .i64 b, .int .i64 e, .slice a1 xs.length ca1, .slice a2 ps.length ca2, .slice a3 fs.length ca3, .slice a4 ks.length ca4, .int .i64 fi, .int .i64 fk, .int .i64 se, .int .i64 co], .int .i64 k0] w (MarkedSnd lo hi ⟨a1, a2, a3, a4⟩ k0 ⟨xs, ps, fs, ks⟩ w) := by
  obtain ⟨m1, n1, m2, n2, m3, n3, m4, n4, ⟨⟨b1, b2⟩, ⟨b3, b4⟩, ⟨b5, b6⟩, ⟨b7, b8⟩⟩, ⟨p12, p13, p14, p23, p24, p34⟩, x1, x2, x3, x4⟩ := hx
  obtain ⟨l1, l2, l3, l4⟩ := hl
  replace x1 := hide x1
  replace x2 := hide x2
  replace x3 := hide x3
  replace x4 := hide x4
  unfold Ap at p12 p13 p14 p23 p24 p34
  go_enter Try.func12, Try.ntmps12
  have g0 : Chg (fun b => lo ≤ b ∧ b < hi) w (w.alloc (.cells #[.int .i64 st, .int .i64 z, .int .i64 b, .int .i64 e, .slice a1 xs.length ca1, .slice a2 ps.length ca2, .slice a3 fs.length ca3, .slice a4 ks.length ca4, .int .i64 fi, .int .i64 fk, .int .i64 se, .int .i64 co] 32)) := (Chg.refl _ _).alloc _
  go_wp2_with fail
  refine (markRing_any m1 n1 z b e a1 xs.length ca1 xs k0 _ (OwnS.chg (S := fun b => ∃ d, d = b ∧ False) x1.out (((Ext.refl w).alloc _).chg _) (fun b h1 h2 h3 => by obtain ⟨_, _, h⟩ := h3; exact h)) rfl (by omega) (by omega) (by omega)).mono ?_
  rintro en w1 ⟨rfl, o1, h1⟩
  have k1 : w.heap.size < w1.heap.size := by have := h1.size; (try simp at this); omega
  obtain ⟨xb, yb⟩ := h1.row (k := w.heap.size) (by first | assumption | (simp; done) | (simp; omega) | omega) (by omega)
  have c1_0 : w1.cell? ⟨w.heap.size, 0, none⟩ = some (.int .i64 st) := (by rw [xb]; simp [go_sem])
  have c1_1 : w1.cell? ⟨w.heap.size, 1, none⟩ = some (.int .i64 z) := (by rw [xb]; simp [go_sem])
  have c1_2 : w1.cell? ⟨w.heap.size, 2, none⟩ = some (.int .i64 b) := (by rw [xb]; simp [go_sem])
  have c1_3 : w1.cell? ⟨w.heap.size, 3, none⟩ = some (.int .i64 e) := (by rw [xb]; simp [go_sem])
  have c1_4 : w1.cell? ⟨w.heap.size, 4, none⟩ = some (.slice a1 xs.length ca1) := (by rw [xb]; simp [go_sem])
  have c1_5 : w1.cell? ⟨w.heap.size, 5, none⟩ = some (.slice a2 ps.length ca2) := (by rw [xb]; simp [go_sem])
  have c1_6 : w1.cell? ⟨w.heap.size, 6, none⟩ = some (.slice a3 fs.length ca3) := (by rw [xb]; simp [go_sem])
  have c1_7 : w1.cell? ⟨w.heap.size, 7, none⟩ = some (.slice a4 ks.length ca4) := (by rw [xb]; simp [go_sem])
  have c1_8 : w1.cell? ⟨w.heap.size, 8, none⟩ = some (.int .i64 fi) := (by rw [xb]; simp [go_sem])
  have c1_9 : w1.cell? ⟨w.heap.size, 9, none⟩ = some (.int .i64 fk) := (by rw [xb]; simp [go_sem])
  have c1_10 : w1.cell? ⟨w.heap.size, 10, none⟩ = some (.int .i64 se) := (by rw [xb]; simp [go_sem])
  have c1_11 : w1.cell? ⟨w.heap.size, 11, none⟩ = some (.int .i64 co) := (by rw [xb]; simp [go_sem])
  clear xb yb
  have g1 : Chg (fun b => lo ≤ b ∧ b < hi) w w1 := g0.trans (h1.mono (fun b _ h => by (try dsimp only at h ⊢); omega))
  have y11_1 := hide o1
  have y2_1 := hide (OwnR.chg (S := fun b => m1 ≤ b ∧ b < n1) (OwnR.chg (S := fun b => False) x2.out (((Ext.refl w).alloc _).chg _) (fun _ _ _ h => h)) h1 (fun b h1 h2 h3 => by (try dsimp only at h3); omega))
  have y3_1 := hide (OwnR.chg (S := fun b => m1 ≤ b ∧ b < n1) (OwnR.chg (S := fun b => False) x3.out (((Ext.refl w).alloc _).chg _) (fun _ _ _ h => h)) h1 (fun b h1 h2 h3 => by (try dsimp only at h3); omega))
  have y4_1 := hide (OwnR.chg (S := fun b => m1 ≤ b ∧ b < n1) (OwnR.chg (S := fun b => False) x4.out (((Ext.refl w).alloc _).chg _) (fun _ _ _ h => h)) h1 (fun b h1 h2 h3 => by (try dsimp only at h3); omega))
  clear h1 o1
  go_wp2_with fail
  refine (rangeS_mark m2 n2 a2 ps.length ca2 ps (k0 + (xs.length : Int)) _ (y2_1.out) rfl (by omega) (by omega) (by omega) (by omega)).mono ?_
  rintro en w2 ⟨rfl, o2, h2⟩
  have k2 : w.heap.size < w2.heap.size := by have := h2.size; (try simp at this); omega
  obtain ⟨xb, yb⟩ := h2.row (k := w.heap.size) (by first | assumption | (simp; done) | (simp; omega) | omega) (by omega)
  have c2_0 : w2.cell? ⟨w.heap.size, 0, none⟩ = some (.int .i64 st) := (by rw [xb]; simp [go_sem, *])
  have c2_1 : w2.cell? ⟨w.heap.size, 1, none⟩ = some (.int .i64 z) := (by rw [xb]; simp [go_sem, *])
  have c2_2 : w2.cell? ⟨w.heap.size, 2, none⟩ = some (.int .i64 b) := (by rw [xb]; simp [go_sem, *])
  have c2_3 : w2.cell? ⟨w.heap.size, 3, none⟩ = some (.int .i64 e) := (by rw [xb]; simp [go_sem, *])
  have c2_4 : w2.cell? ⟨w.heap.size, 4, none⟩ = some (.slice a1 xs.length ca1) := (by rw [xb]; simp [go_sem, *])
  have c2_5 : w2.cell? ⟨w.heap.size, 5, none⟩ = some (.slice a2 ps.length ca2) := (by rw [xb]; simp [go_sem, *])
  have c2_6 : w2.cell? ⟨w.heap.size, 6, none⟩ = some (.slice a3 fs.length ca3) := (by rw [xb]; simp [go_sem, *])
  have c2_7 : w2.cell? ⟨w.heap.size, 7, none⟩ = some (.slice a4 ks.length ca4) := (by rw [xb]; simp [go_sem, *])
  have c2_8 : w2.cell? ⟨w.heap.size, 8, none⟩ = some (.int .i64 fi) := (by rw [xb]; simp [go_sem, *])
  have c2_9 : w2.cell? ⟨w.heap.size, 9, none⟩ = some (.int .i64 fk) := (by rw [xb]; simp [go_sem, *])
  have c2_10 : w2.cell? ⟨w.heap.size, 10, none⟩ = some (.int .i64 se) := (by rw [xb]; simp [go_sem, *])
  have c2_11 : w2.cell? ⟨w.heap.size, 11, none⟩ = some (.int .i64 co) := (by rw [xb]; simp [go_sem, *])
  clear xb yb
  clear c1_0 c1_1 c1_2 c1_3 c1_4 c1_5 c1_6 c1_7 c1_8 c1_9 c1_10 c1_11
  have g2 : Chg (fun b => lo ≤ b ∧ b < hi) w w2 := g1.trans (h2.mono (fun b _ h => by (try dsimp only at h ⊢); omega))
  have y12_2 := hide o2
  have y3_2 := hide (OwnR.chg (S := fun b => m2 ≤ b ∧ b < n2) y3_1.out h2 (fun b h1 h2 h3 => by (try dsimp only at h3); omega))
  have y4_2 := hide (OwnR.chg (S := fun b => m2 ≤ b ∧ b < n2) y4_1.out h2 (fun b h1 h2 h3 => by (try dsimp only at h3); omega))
  have y11_2 := hide (OwnS.chg (S := fun b => m2 ≤ b ∧ b < n2) y11_1.out h2 (fun b h1 h2 h3 => by (try dsimp only at h3); omega))
  clear h2 o2
  go_wp2_with fail
  refine (rangeS_mark m3 n3 a3 fs.length ca3 fs (k0 + (xs.length : Int) + 2 * (ps.length : Int)) _ (y3_2.out) rfl (by omega) (by omega) (by omega) (by omega)).mono ?_
  rintro en w3 ⟨rfl, o3, h3⟩
  have k3 : w.heap.size < w3.heap.size := by have := h3.size; (try simp at this); omega
  obtain ⟨xb, yb⟩ := h3.row (k := w.heap.size) (by first | assumption | (simp; done) | (simp; omega) | omega) (by omega)
  have c3_0 : w3.cell? ⟨w.heap.size, 0, none⟩ = some (.int .i64 st) := (by rw [xb]; simp [go_sem, *])
  have c3_1 : w3.cell? ⟨w.heap.size, 1, none⟩ = some (.int .i64 z) := (by rw [xb]; simp [go_sem, *])
  have c3_2 : w3.cell? ⟨w.heap.size, 2, none⟩ = some (.int .i64 b) := (by rw [xb]; simp [go_sem, *])
  have c3_3 : w3.cell? ⟨w.heap.size, 3, none⟩ = some (.int .i64 e) := (by rw [xb]; simp [go_sem, *])
  have c3_4 : w3.cell? ⟨w.heap.size, 4, none⟩ = some (.slice a1 xs.length ca1) := (by rw [xb]; simp [go_sem, *])
  have c3_5 : w3.cell? ⟨w.heap.size, 5, none⟩ = some (.slice a2 ps.length ca2) := (by rw [xb]; simp [go_sem, *])
  have c3_6 : w3.cell? ⟨w.heap.size, 6, none⟩ = some (.slice a3 fs.length ca3) := (by rw [xb]; simp [go_sem, *])
  have c3_7 : w3.cell? ⟨w.heap.size, 7, none⟩ = some (.slice a4 ks.length ca4) := (by rw [xb]; simp [go_sem, *])
  have c3_8 : w3.cell? ⟨w.heap.size, 8, none⟩ = some (.int .i64 fi) := (by rw [xb]; simp [go_sem, *])
  have c3_9 : w3.cell? ⟨w.heap.size, 9, none⟩ = some (.int .i64 fk) := (by rw [xb]; simp [go_sem, *])
  have c3_10 : w3.cell? ⟨w.heap.size, 10, none⟩ = some (.int .i64 se) := (by rw [xb]; simp [go_sem, *])
  have c3_11 : w3.cell? ⟨w.heap.size, 11, none⟩ = some (.int .i64 co) := (by rw [xb]; simp [go_sem, *])
  clear xb yb
  clear c2_0 c2_1 c2_2 c2_3 c2_4 c2_5 c2_6 c2_7 c2_8 c2_9 c2_10 c2_11
  have g3 : Chg (fun b => lo ≤ b ∧ b < hi) w w3 := g2.trans (h3.mono (fun b _ h => by (try dsimp only at h ⊢); omega))
  have y13_3 := hide o3
  have y4_3 := hide (OwnR.chg (S := fun b => m3 ≤ b ∧ b < n3) y4_2.out h3 (fun b h1 h2 h3 => by (try dsimp only at h3); omega))
  have y11_3 := hide (OwnS.chg (S := fun b => m3 ≤ b ∧ b < n3) y11_2.out h3 (fun b h1 h2 h3 => by (try dsimp only at h3); omega))
  have y12_3 := hide (OwnR.chg (S := fun b => m3 ≤ b ∧ b < n3) y12_2.out h3 (fun b h1 h2 h3 => by (try dsimp only at h3); omega))
  clear h3 o3
  go_wp2_with fail
  refine (rangeS_mark m4 n4 a4 ks.length ca4 ks (k0 + (xs.length : Int) + 2 * (ps.length : Int) + 2 * (fs.length : Int)) _ (y4_3.out) rfl (by omega) (by omega) (by omega) (by omega)).mono ?_
  rintro en w4 ⟨rfl, o4, h4⟩
  have k4 : w.heap.size < w4.heap.size := by have := h4.size; (try simp at this); omega
  obtain ⟨xb, yb⟩ := h4.row (k := w.heap.size) (by first | assumption | (simp; done) | (simp; omega) | omega) (by omega)
  have c4_0 : w4.cell? ⟨w.heap.size, 0, none⟩ = some (.int .i64 st) := (by rw [xb]; simp [go_sem, *])
  have c4_1 : w4.cell? ⟨w.heap.size, 1, none⟩ = some (.int .i64 z) := (by rw [xb]; simp [go_sem, *])
  have c4_2 : w4.cell? ⟨w.heap.size, 2, none⟩ = some (.int .i64 b) := (by rw [xb]; simp [go_sem, *])
  have c4_3 : w4.cell? ⟨w.heap.size, 3, none⟩ = some (.int .i64 e) := (by rw [xb]; simp [go_sem, *])
  have c4_4 : w4.cell? ⟨w.heap.size, 4, none⟩ = some (.slice a1 xs.length ca1) := (by rw [xb]; simp [go_sem, *])
  have c4_5 : w4.cell? ⟨w.heap.size, 5, none⟩ = some (.slice a2 ps.length ca2) := (by rw [xb]; simp [go_sem, *])
  have c4_6 : w4.cell? ⟨w.heap.size, 6, none⟩ = some (.slice a3 fs.length ca3) := (by rw [xb]; simp [go_sem, *])
  have c4_7 : w4.cell? ⟨w.heap.size, 7, none⟩ = some (.slice a4 ks.length ca4) := (by rw [xb]; simp [go_sem, *])
  have c4_8 : w4.cell? ⟨w.heap.size, 8, none⟩ = some (.int .i64 fi) := (by rw [xb]; simp [go_sem, *])
  have c4_9 : w4.cell? ⟨w.heap.size, 9, none⟩ = some (.int .i64 fk) := (by rw [xb]; simp [go_sem, *])
  have c4_10 : w4.cell? ⟨w.heap.size, 10, none⟩ = some (.int .i64 se) := (by rw [xb]; simp [go_sem, *])
  have c4_11 : w4.cell? ⟨w.heap.size, 11, none⟩ = some (.int .i64 co) := (by rw [xb]; simp [go_sem, *])
  clear xb yb
  clear c3_0 c3_1 c3_2 c3_3 c3_4 c3_5 c3_6 c3_7 c3_8 c3_9 c3_10 c3_11
  have g4 : Chg (fun b => lo ≤ b ∧ b < hi) w w4 := g3.trans (h4.mono (fun b _ h => by (try dsimp only at h ⊢); omega))
  have y14_4 := hide o4
  have y11_4 := hide (OwnS.chg (S := fun b => m4 ≤ b ∧ b < n4) y11_3.out h4 (fun b h1 h2 h3 => by (try dsimp only at h3); omega))
  have y12_4 := hide (OwnR.chg (S := fun b => m4 ≤ b ∧ b < n4) y12_3.out h4 (fun b h1 h2 h3 => by (try dsimp only at h3); omega))
  have y13_4 := hide (OwnR.chg (S := fun b => m4 ≤ b ∧ b < n4) y13_3.out h4 (fun b h1 h2 h3 => by (try dsimp only at h3); omega))
  clear h4 o4
  go_wp2
  go_ret
  refine ⟨?_, ⟨m1, n1, m2, n2, m3, n3, m4, n4, ⟨⟨b1, b2⟩, ⟨b3, b4⟩, ⟨b5, b6⟩, ⟨b7, b8⟩⟩, ⟨p12, p13, p14, p23, p24, p34⟩, y11_4.out, y12_4.out, y13_4.out, y14_4.out⟩, g4⟩
  show Ending.returned (.int .i64 (k0 + (xs.length : Int) + 2 * (ps.length : Int) + 2 * (fs.length : Int) + 2 * (ks.length : Int))) = _
  have e : (k0 + (xs.length : Int) + 2 * (ps.length : Int) + 2 * (fs.length : Int) + 2 * (ks.length : Int)) = k0 + (conMk ⟨xs, ps, fs, ks⟩ : Int) := by
    unfold conMk
    dsimp only
    omega
  rw [e]
set_option maxHeartbeats 2000000 in
theorem sender_held (st z b e fi fk se co : Int) (a1 a2 a3 a4 : Option Addr) (ca1 ca2 ca3 ca4 : Nat) (xs : List Int) (ps fs ks : List Rg) (k0 : Int) (w : World) (hx : ReadSnd w ⟨a1, a2, a3, a4⟩ (marksSnd k0 ⟨xs, ps, fs, ks⟩)) (h0 : 0 < k0) (h1 : k0 ≤ 1024) (hsum : (xs.length : Int) + (ps.length : Int) + (fs.length : Int) + (ks.length : Int) ≤ 1048576) :
    Calls Try.prog 13 #[.agg #[.int .i64 st, .int .i64 z, .int .i64 b, .int .i64 e, .slice a1 xs.length ca1, .slice a2 ps.length ca2, .slice a3 fs.length ca3, .slice a4 ks.length ca4, .int .i64 fi, .int .i64 fk, .int .i64 se, .int .i64 co], .int .i64 k0] w fun en w' => en = .returned (.int .i64 (k0 + (conMk ⟨xs, ps, fs, ks⟩ : Int))) ∧ Ext w w' := by
  obtain ⟨hx1, hx2, hx3, hx4⟩ := hx
  replace hx1 := hide hx1
  replace hx2 := hide hx2
  replace hx3 := hide hx3
  replace hx4 := hide hx4
  have g1 : decide ((k0 + (xs.length : Int)) < 0) = false := decide_eq_false (by omega)
  have g2 : decide ((k0 + (xs.length : Int) + 2 * (ps.length : Int)) < 0) = false := decide_eq_false (by omega)
  have g3 : decide ((k0 + (xs.length : Int) + 2 * (ps.length : Int) + 2 * (fs.length : Int)) < 0) = false := decide_eq_false (by omega)
  have g4 : decide ((k0 + (xs.length : Int) + 2 * (ps.length : Int) + 2 * (fs.length : Int) + 2 * (ks.length : Int)) < 0) = false := decide_eq_false (by omega)
  go_enter Try.func13, Try.ntmps13
  go_wp2_with fail
  refine (heldRing_any z b e a1 xs.length ca1 k0 _ (hx1.out.ext (by repeat (first | with_reducible exact Ext.refl _ | with_reducible assumption | with_reducible refine Ext.alloc ?_ _ | with_reducible refine Ext.drew ?_ | ((with_reducible refine Ext.set ?_ ?_ _); (focus (first | (simp; done) | (simp; omega) | omega)))))) (by omega) (by omega) (by omega)).mono ?_
  rintro en w1 ⟨rfl, hw1⟩
  have xw1 : Ext w w1 := (by repeat (first | with_reducible exact Ext.refl _ | with_reducible assumption | with_reducible refine Ext.alloc ?_ _ | with_reducible refine Ext.drew ?_ | with_reducible refine Ext.drewN ?_ _ | ((with_reducible refine Ext.set ?_ ?_ _); (focus (first | (simp; done) | (simp; omega)))) | with_reducible refine Ext.trans ?_ (by assumption)))
  have kw1_0 := hw1.more (k := w.heap.size) (by first | assumption | (simp; done) | (simp; omega) | omega)
  obtain ⟨cw1_0, fw1_0⟩ := hw1.row (k := w.heap.size) (by first | assumption | (simp; done) | (simp; omega) | omega)
  go_wp2_with fail
  refine (rangeS_held a2 ps.length ca2 (k0 + (xs.length : Int)) _ (hx2.out.ext (by repeat (first | with_reducible exact Ext.refl _ | with_reducible assumption | with_reducible refine Ext.alloc ?_ _ | with_reducible refine Ext.drew ?_ | ((with_reducible refine Ext.set ?_ ?_ _); (focus (first | (simp; done) | (simp; omega) | omega))) | with_reducible refine Ext.trans ?_ hw1))) (by omega) (by omega) (by omega)).mono ?_
  rintro en w2 ⟨rfl, hw2⟩
  have xw2 : Ext w w2 := (by repeat (first | with_reducible exact Ext.refl _ | with_reducible assumption | with_reducible refine Ext.alloc ?_ _ | with_reducible refine Ext.drew ?_ | with_reducible refine Ext.drewN ?_ _ | ((with_reducible refine Ext.set ?_ ?_ _); (focus (first | (simp; done) | (simp; omega)))) | with_reducible refine Ext.trans ?_ (by assumption)))
  have kw2_0 := hw2.more (k := w.heap.size) (by first | assumption | (simp; done) | (simp; omega) | omega)
  obtain ⟨cw2_0, fw2_0⟩ := hw2.row (k := w.heap.size) (by first | assumption | (simp; done) | (simp; omega) | omega)
  go_wp2_with fail
  refine (rangeS_held a3 fs.length ca3 (k0 + (xs.length : Int) + 2 * (ps.length : Int)) _ (hx3.out.ext (by repeat (first | with_reducible exact Ext.refl _ | with_reducible assumption | with_reducible refine Ext.alloc ?_ _ | with_reducible refine Ext.drew ?_ | ((with_reducible refine Ext.set ?_ ?_ _); (focus (first | (simp; done) | (simp; omega) | omega))) | with_reducible refine Ext.trans ?_ hw2 | with_reducible refine Ext.trans ?_ hw1))) (by omega) (by omega) (by omega)).mono ?_
  rintro en w3 ⟨rfl, hw3⟩
  have xw3 : Ext w w3 := (by repeat (first | with_reducible exact Ext.refl _ | with_reducible assumption | with_reducible refine Ext.alloc ?_ _ | with_reducible refine Ext.drew ?_ | with_reducible refine Ext.drewN ?_ _ | ((with_reducible refine Ext.set ?_ ?_ _); (focus (first | (simp; done) | (simp; omega)))) | with_reducible refine Ext.trans ?_ (by assumption)))
  have kw3_0 := hw3.more (k := w.heap.size) (by first | assumption | (simp; done) | (simp; omega) | omega)
  obtain ⟨cw3_0, fw3_0⟩ := hw3.row (k := w.heap.size) (by first | assumption | (simp; done) | (simp; omega) | omega)
  go_wp2_with fail
  refine (rangeS_held a4 ks.length ca4 (k0 + (xs.length : Int) + 2 * (ps.length : Int) + 2 * (fs.length : Int)) _ (hx4.out.ext (by repeat (first | with_reducible exact Ext.refl _ | with_reducible assumption | with_reducible refine Ext.alloc ?_ _ | with_reducible refine Ext.drew ?_ | ((with_reducible refine Ext.set ?_ ?_ _); (focus (first | (simp; done) | (simp; omega) | omega))) | with_reducible refine Ext.trans ?_ hw3 | with_reducible refine Ext.trans ?_ hw2 | with_reducible refine Ext.trans ?_ hw1))) (by omega) (by omega) (by omega)).mono ?_
  rintro en w4 ⟨rfl, hw4⟩
  have xw4 : Ext w w4 := (by repeat (first | with_reducible exact Ext.refl _ | with_reducible assumption | with_reducible refine Ext.alloc ?_ _ | with_reducible refine Ext.drew ?_ | with_reducible refine Ext.drewN ?_ _ | ((with_reducible refine Ext.set ?_ ?_ _); (focus (first | (simp; done) | (simp; omega)))) | with_reducible refine Ext.trans ?_ (by assumption)))
  have kw4_0 := hw4.more (k := w.heap.size) (by first | assumption | (simp; done) | (simp; omega) | omega)
  obtain ⟨cw4_0, fw4_0⟩ := hw4.row (k := w.heap.size) (by first | assumption | (simp; done) | (simp; omega) | omega)
  go_wp2
  go_ret
  refine ⟨?_, (by repeat (first | with_reducible exact Ext.refl _ | with_reducible assumption | with_reducible refine Ext.alloc ?_ _ | with_reducible refine Ext.drew ?_ | with_reducible refine Ext.drewN ?_ _ | ((with_reducible refine Ext.set ?_ ?_ _); (focus (first | (simp; done) | (simp; omega)))) | with_reducible refine Ext.trans ?_ (by assumption)))⟩
  show Ending.returned (.int .i64 (k0 + (xs.length : Int) + 2 * (ps.length : Int) + 2 * (fs.length : Int) + 2 * (ks.length : Int))) = _
  have e : (k0 + (xs.length : Int) + 2 * (ps.length : Int) + 2 * (fs.length : Int) + 2 * (ks.length : Int)) = k0 + (conMk ⟨xs, ps, fs, ks⟩ : Int) := by
    unfold conMk
    dsimp only
    omega
  rw [e]
end Go.Proofs.Ytjhgcbchdnoleaa

/-
  Contracts of NewSender, and a sender as a result. No condition.
-/
import Derived.Test.YtjhgcbchdnoleaaSnd
namespace Go.Proofs.Ytjhgcbchdnoleaa
open Go.ChangeShapes Go.WideShapes Go.ChangeAt Go.RowKit
set_option linter.unusedSimpArgs false
set_option linter.unusedVariables false
/-- A sender and a second value: the sender's slices in memory of the call's own. -/
def SndRes (st z b e fi fk se co : Int) (xs : List Int) (ps fs ks : List Rg) (v : Value) (w : World) (en : Ending) (w' : World) : Prop :=
  ∃ (a1 a2 a3 a4 : Option Addr) (ca1 ca2 ca3 ca4 : Nat), en = .returned (.tuple #[.agg #[.int .i64 st, .int .i64 z, .int .i64 b, .int .i64 e, .slice a1 xs.length ca1, .slice a2 ps.length ca2, .slice a3 fs.length ca3, .slice a4 ks.length ca4, .int .i64 fi, .int .i64 fk, .int .i64 se, .int .i64 co], v]) ∧ OwnSnd w.heap.size w'.heap.size w' ⟨a1, a2, a3, a4⟩ ⟨xs, ps, fs, ks⟩ ∧ Ext w w'
theorem own_ring {lo hi : Nat} {w : World} {ao : Option Addr} {xs : List Int} (h : OwnS lo hi w ao xs) (hle : lo ≤ hi) : OwnSnd lo hi w ⟨ao, none, none, none⟩ ⟨xs, [], [], []⟩ :=
  ⟨lo, hi, lo, lo, lo, lo, lo, lo, ⟨⟨Nat.le_refl _, Nat.le_refl _⟩, ⟨Nat.le_refl _, hle⟩, ⟨Nat.le_refl _, hle⟩, ⟨Nat.le_refl _, hle⟩⟩, ⟨Or.inr (Nat.le_refl _), Or.inr (Nat.le_refl _), Or.inr (Nat.le_refl _), Or.inl (Nat.le_refl _), Or.inl (Nat.le_refl _), Or.inl (Nat.le_refl _)⟩, h, Or.inl rfl, Or.inl rfl, Or.inl rfl⟩
set_option maxHeartbeats 1000000 in
theorem NewSender_impl_yes (k : Nat) (w : World) (h : ringSz k = true) : Calls Try.prog 29 #[.int .i64 k] w (SndRes 0 k 0 0 (-1) 0 0 0 (List.replicate k 0) [] [] [] (.bool true) w) := by
  go_enter Try.func29, Try.ntmps29
  go_wp2_with fail
  refine (NewRing_impl_yes k _ h).mono ?_
  rintro en w1 ⟨d1, cd1, rfl, ho, hb⟩
  have hs := hb.size
  simp at hs
  have k0 : w.heap.size < w1.heap.size := by omega
  obtain ⟨xb, yb⟩ := hb.row (k := w.heap.size) (by first | assumption | (simp; done) | (simp; omega) | omega)
  go_wp2
  refine bodyPost_ret (v := .tuple #[.agg #[.int .i64 0, .int .i64 k, .int .i64 0, .int .i64 0, .slice d1 k cd1, .slice none 0 0, .slice none 0 0, .slice none 0 0, .int .i64 (-1), .int .i64 0, .int .i64 0, .int .i64 0], .bool true]) (by simp [results, Try.results29, go_sem, *]) rfl ⟨d1, none, none, none, cd1, 0, 0, 0, by simp, ?_, ?_⟩
  · refine own_ring (OwnS.mono (OwnS.chg (S := fun b => b = w.heap.size ∨ w1.heap.size ≤ b) (OwnS.mono (lo' := w.heap.size + 1) ho (by simp) (Nat.le_refl _)) (by repeat (first | with_reducible exact Chg.refl _ _ | with_reducible refine Chg.alloc ?_ _ | ((with_reducible refine Chg.set ?_ ?_ _); (focus (first | (left; simp; done) | (left; simp; omega) | (left; omega)))))) (fun b h1 h2 h3 => by (try dsimp only at h3); omega)) (by omega) (by simp)) (by first | (simp; done) | (simp; omega))
  · exact (by repeat (first | with_reducible exact Ext.refl _ | with_reducible assumption | with_reducible refine Ext.alloc ?_ _ | with_reducible refine Ext.drew ?_ | with_reducible refine Ext.drewN ?_ _ | ((with_reducible refine Ext.set ?_ ?_ _); (focus (first | (simp; done) | (simp; omega)))) | with_reducible refine Ext.trans ?_ (by assumption)))
theorem NewSender_impl_no (n : Int) (w : World) (h : ringSz n = false) : Calls Try.prog 29 #[.int .i64 n] w (SndRes 0 0 0 0 0 0 0 0 [] [] [] [] (.bool false) w) := by
  go_enter Try.func29, Try.ntmps29
  go_wp2_with fail
  refine (NewRing_impl_no n _ h).mono ?_
  rintro en w1 ⟨rfl, hb⟩
  have hs := hb.size
  simp at hs
  have k0 : w.heap.size < w1.heap.size := by omega
  obtain ⟨xb, yb⟩ := hb.row (k := w.heap.size) (by first | assumption | (simp; done) | (simp; omega) | omega)
  go_wp2
  refine bodyPost_ret (v := .tuple #[.agg #[.int .i64 0, .int .i64 0, .int .i64 0, .int .i64 0, .slice none 0 0, .slice none 0 0, .slice none 0 0, .slice none 0 0, .int .i64 0, .int .i64 0, .int .i64 0, .int .i64 0], .bool false]) (by simp [results, Try.results29, go_sem, *]) rfl ⟨none, none, none, none, 0, 0, 0, 0, rfl, ?_, ?_⟩
  · exact own_ring (Or.inl rfl) (by first | (simp; done) | (simp; omega))
  · exact (by repeat (first | with_reducible exact Ext.refl _ | with_reducible assumption | with_reducible refine Ext.alloc ?_ _ | with_reducible refine Ext.drew ?_ | with_reducible refine Ext.drewN ?_ _ | ((with_reducible refine Ext.set ?_ ?_ _); (focus (first | (simp; done) | (simp; omega)))) | with_reducible refine Ext.trans ?_ (by assumption)))
set_option maxHeartbeats 1000000 in
theorem NewSender_spec_yes (k : Nat) (w : World) (h : ringSz k = true) : Calls Try.prog 30 #[.int .i64 k] w (SndRes 0 k 0 0 (-1) 0 0 0 (List.replicate k 0) [] [] [] (.bool true) w) := by
  go_enter Try.func30, Try.ntmps30
  go_wp2_with fail
  refine (NewRing_spec_yes k _ h).mono ?_
  rintro en w1 ⟨d1, cd1, rfl, ho, hb⟩
  have hs := hb.size
  simp at hs
  have k0 : w.heap.size < w1.heap.size := by omega
  obtain ⟨xb, yb⟩ := hb.row (k := w.heap.size) (by first | assumption | (simp; done) | (simp; omega) | omega)
  go_wp2
  refine bodyPost_ret (v := .tuple #[.agg #[.int .i64 0, .int .i64 k, .int .i64 0, .int .i64 0, .slice d1 k cd1, .slice none 0 0, .slice none 0 0, .slice none 0 0, .int .i64 (-1), .int .i64 0, .int .i64 0, .int .i64 0], .bool true]) (by simp [results, Try.results30, go_sem, *]) rfl ⟨d1, none, none, none, cd1, 0, 0, 0, by simp, ?_, ?_⟩
  · refine own_ring (OwnS.mono (OwnS.chg (S := fun b => b = w.heap.size ∨ w1.heap.size ≤ b) (OwnS.mono (lo' := w.heap.size + 1) ho (by simp) (Nat.le_refl _)) (by repeat (first | with_reducible exact Chg.refl _ _ | with_reducible refine Chg.alloc ?_ _ | ((with_reducible refine Chg.set ?_ ?_ _); (focus (first | (left; simp; done) | (left; simp; omega) | (left; omega)))))) (fun b h1 h2 h3 => by (try dsimp only at h3); omega)) (by omega) (by simp)) (by first | (simp; done) | (simp; omega))
  · exact (by repeat (first | with_reducible exact Ext.refl _ | with_reducible assumption | with_reducible refine Ext.alloc ?_ _ | with_reducible refine Ext.drew ?_ | with_reducible refine Ext.drewN ?_ _ | ((with_reducible refine Ext.set ?_ ?_ _); (focus (first | (simp; done) | (simp; omega)))) | with_reducible refine Ext.trans ?_ (by assumption)))
theorem NewSender_spec_no (n : Int) (w : World) (h : ringSz n = false) : Calls Try.prog 30 #[.int .i64 n] w (SndRes 0 0 0 0 0 0 0 0 [] [] [] [] (.bool false) w) := by
  go_enter Try.func30, Try.ntmps30
  go_wp2_with fail
  refine (NewRing_spec_no n _ h).mono ?_
  rintro en w1 ⟨rfl, hb⟩
  have hs := hb.size
  simp at hs
  have k0 : w.heap.size < w1.heap.size := by omega
  obtain ⟨xb, yb⟩ := hb.row (k := w.heap.size) (by first | assumption | (simp; done) | (simp; omega) | omega)
  go_wp2
  refine bodyPost_ret (v := .tuple #[.agg #[.int .i64 0, .int .i64 0, .int .i64 0, .int .i64 0, .slice none 0 0, .slice none 0 0, .slice none 0 0, .slice none 0 0, .int .i64 0, .int .i64 0, .int .i64 0, .int .i64 0], .bool false]) (by simp [results, Try.results30, go_sem, *]) rfl ⟨none, none, none, none, 0, 0, 0, 0, rfl, ?_, ?_⟩
  · exact own_ring (Or.inl rfl) (by first | (simp; done) | (simp; omega))
  · exact (by repeat (first | with_reducible exact Ext.refl _ | with_reducible assumption | with_reducible refine Ext.alloc ?_ _ | with_reducible refine Ext.drew ?_ | with_reducible refine Ext.drewN ?_ _ | ((with_reducible refine Ext.set ?_ ?_ _); (focus (first | (simp; done) | (simp; omega)))) | with_reducible refine Ext.trans ?_ (by assumption)))
end Go.Proofs.Ytjhgcbchdnoleaa

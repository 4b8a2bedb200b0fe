/-
  Contracts of markRing, heldRing, of the tests of a ring's size and of NewRing. Conditions: the cells can be read (written).
-/
import Derived.Test.YtjhgcbchdnoleaaRing
import Derived.Test.YtjhgcbchdnoleaaIn
namespace Go.Proofs.Ytjhgcbchdnoleaa
open Go.ChangeShapes Go.WideShapes Go.ChangeAt Go.RowKit
set_option linter.unusedSimpArgs false

theorem heldRing_any (z b e : Int) (ao : Option Addr) (n cap : Nat) (k0 : Int) (w : World) (hx : ReadS w ao (marks k0 n)) (hl : n ≤ 4611686018427387904) (h0 : 0 ≤ k0) (h1 : k0 ≤ 2305843009213693952) :
    Calls Try.prog 60 #[.agg #[.int .i64 z, .int .i64 b, .int .i64 e, .slice ao n cap], .int .i64 k0] w fun en w' => en = .returned (.int .i64 (k0 + n)) ∧ Ext w w' := by
  have h2 : decide (k0 + (n : Int) < 0) = false := by simp; omega
  go_enter Try.func60, Try.ntmps60
  go_wp2_with fail
  refine (heldIntS_any ao n cap k0 _ (hx.ext ((Ext.refl w).alloc _)) hl h0 h1).mono ?_
  rintro en w1 ⟨rfl, rfl⟩
  go_wp2
  go_ret
  exact ⟨rfl, (Ext.refl w).alloc _⟩
theorem markRing_any (lo hi : Nat) (z b e : Int) (ao : Option Addr) (n cap : Nat) (xs : List Int) (k0 : Int) (w : World) (hx : OwnS lo hi w ao xs) (hn : xs.length = n) (hl : n ≤ 4611686018427387904) (h0 : 0 ≤ k0) (h1 : k0 ≤ 2305843009213693952) :
    Calls Try.prog 58 #[.agg #[.int .i64 z, .int .i64 b, .int .i64 e, .slice ao n cap], .int .i64 k0] w (Marked lo hi ao k0 n w) := by
  have hn' := hide hn
  clear hn
  go_enter Try.func58, Try.ntmps58
  go_wp2_with fail
  refine (markIntS_any lo hi ao n cap xs k0 _ (hx.chg (((Ext.refl w).alloc _).chg (fun _ => False)) (fun _ _ _ h => h)) hn'.out hl h0 h1).mono ?_
  rintro en w1 ⟨rfl, ho, hg⟩
  go_wp2
  go_ret
  exact ⟨rfl, ho, (((Ext.refl w).alloc _).chg _).trans hg⟩
/-- Is this a ring's size? -/
def ringSz (n : Int) : Bool := inB 1 n 64 && (bits .and .i64 n (n - 1) == 0)
theorem ringSz_bd {n : Int} (h : ringSz n = true) : 1 ≤ n ∧ n ≤ 64 := by
  simp only [ringSz, Bool.and_eq_true] at h
  exact inB_true h.1
theorem isRingSize_any (n : Int) (w : World) : Calls Try.prog 125 #[.int .i64 n] w fun e w' => e = .returned (.bool (ringSz n)) ∧ w = w' := by
  rcases Bool.eq_false_or_eq_true (inB 1 n 64) with h | h
  · obtain ⟨k1, k2⟩ := inB_true h
    go_enter Try.func125, Try.ntmps125
    go_wp2_with (go_at_call 74; refine (within_any _ _ _ _).mono ?_; rintro e w1 ⟨rfl, rfl⟩)
    go_ret
    exact ⟨by simp [ringSz, h], rfl⟩
  · go_enter Try.func125, Try.ntmps125
    go_wp2_with (go_at_call 74; refine (within_any _ _ _ _).mono ?_; rintro e w1 ⟨rfl, rfl⟩)
    go_ret
    exact ⟨by simp [ringSz, h], rfl⟩
theorem l8Power_any (n : Int) (w : World) : Calls Try.prog 129 #[.int .i64 n] w fun e w' => e = .returned (.bool (ringSz n)) ∧ w = w' := by
  by_cases h1 : 1 ≤ n
  · by_cases h2 : n ≤ 64
    · have h := inB_mk h1 h2
      go_enter Try.func129, Try.ntmps129
      go_wp2
      go_ret
      exact ⟨by simp [ringSz, h], rfl⟩
    · have h : inB 1 n 64 = false := inB_no (by omega)
      have h3 : decide (n ≤ 64) = false := decide_eq_false h2
      have h4 : decide (0 < n) = true := by simp; omega
      go_enter Try.func129, Try.ntmps129
      go_wp2
      go_ret
      exact ⟨by simp [ringSz, h], rfl⟩
  · have h : inB 1 n 64 = false := inB_no (by omega)
    have h3 : decide (0 < n) = false := by simp; omega
    go_enter Try.func129, Try.ntmps129
    go_wp2
    go_ret
    exact ⟨by simp [ringSz, h], rfl⟩
/-- What NewRing gives for a good size. -/
def MadeRing (k : Nat) (w : World) (e : Ending) (w' : World) : Prop :=
  ∃ (ao : Option Addr) (cap : Nat), e = .returned (.tuple #[.agg #[.int .i64 k, .int .i64 0, .int .i64 0, .slice ao k cap], .bool true]) ∧ OwnS w.heap.size w'.heap.size w' ao (List.replicate k 0) ∧ Ext w w'
set_option maxHeartbeats 1000000 in
theorem NewRing_spec_yes (k : Nat) (w : World) (h : ringSz k = true) : Calls Try.prog 91 #[.int .i64 k] w (MadeRing k w) := by
  obtain ⟨k1, k2⟩ := ringSz_bd h
  have hmk := run_make_row' (P := Try.prog) 22 3 (.int .i64 0) 8 Try.underlying22 infoInt rfl .i64 .i64 k (by omega) (by omega)
  go_enter Try.func91, Try.ntmps91
  go_wp2_with (go_at_call 129; refine (l8Power_any _ _).mono ?_; rintro e w1 ⟨rfl, rfl⟩)
  refine bodyPost_ret (v := .tuple #[.agg #[.int .i64 k, .int .i64 0, .int .i64 0, .slice (some ⟨w.heap.size + 1, 0, none⟩) k k], .bool true]) (by simp [results, Try.results91, go_sem, *]) rfl ⟨_, _, rfl, ?_, ?_⟩
  · refine Or.inr ⟨w.heap.size + 1, 0, rfl, by omega, by simp [World.setCell], fun o => ?_, fun j hj => ?_⟩
    · simp [go_sem]
    · simp at hj
      simp [go_sem]
      rw [← Array.getElem?_toList, toList_madeCells_one]
      simp [hj]
  · exact ((Ext.refl w).alloc _).alloc _
theorem NewRing_spec_no (n : Int) (w : World) (h : ringSz n = false) : Calls Try.prog 91 #[.int .i64 n] w fun e w' => e = .returned (.tuple #[.agg #[.int .i64 0, .int .i64 0, .int .i64 0, .slice none 0 0], .bool false]) ∧ Ext w w' := by
  go_enter Try.func91, Try.ntmps91
  go_wp2_with (go_at_call 129; refine (l8Power_any _ _).mono ?_; rintro e w1 ⟨rfl, rfl⟩)
  exact bodyPost_ret (v := .tuple #[.agg #[.int .i64 0, .int .i64 0, .int .i64 0, .slice none 0 0], .bool false]) (by simp [results, Try.results91, go_sem, *]) rfl ⟨rfl, (by repeat (first | with_reducible exact Ext.refl _ | with_reducible assumption | with_reducible refine Ext.alloc ?_ _ | with_reducible refine Ext.drew ?_ | with_reducible refine Ext.drewN ?_ _ | ((with_reducible refine Ext.set ?_ ?_ _); (focus (first | (simp; done) | (simp; omega)))) | with_reducible refine Ext.trans ?_ (by assumption)))⟩
set_option maxHeartbeats 1000000 in
theorem NewRing_impl_yes (k : Nat) (w : World) (h : ringSz k = true) : Calls Try.prog 90 #[.int .i64 k] w (MadeRing k w) := by
  obtain ⟨k1, k2⟩ := ringSz_bd h
  have hmk := run_make_row' (P := Try.prog) 22 3 (.int .i64 0) 8 Try.underlying22 infoInt rfl .i64 .i64 k (by omega) (by omega)
  go_enter Try.func90, Try.ntmps90
  go_wp2_with (go_at_call 125; refine (isRingSize_any _ _).mono ?_; rintro e w1 ⟨rfl, rfl⟩)
  refine bodyPost_ret (v := .tuple #[.agg #[.int .i64 k, .int .i64 0, .int .i64 0, .slice (some ⟨w.heap.size + 1, 0, none⟩) k k], .bool true]) (by simp [results, Try.results90, go_sem, *]) rfl ⟨_, _, rfl, ?_, ?_⟩
  · refine Or.inr ⟨w.heap.size + 1, 0, rfl, by omega, by simp [World.setCell], fun o => ?_, fun j hj => ?_⟩
    · simp [go_sem]
    · simp at hj
      simp [go_sem]
      rw [← Array.getElem?_toList, toList_madeCells_one]
      simp [hj]
  · exact ((Ext.refl w).alloc _).alloc _
theorem NewRing_impl_no (n : Int) (w : World) (h : ringSz n = false) : Calls Try.prog 90 #[.int .i64 n] w fun e w' => e = .returned (.tuple #[.agg #[.int .i64 0, .int .i64 0, .int .i64 0, .slice none 0 0], .bool false]) ∧ Ext w w' := by
  go_enter Try.func90, Try.ntmps90
  go_wp2_with (go_at_call 125; refine (isRingSize_any _ _).mono ?_; rintro e w1 ⟨rfl, rfl⟩)
  exact bodyPost_ret (v := .tuple #[.agg #[.int .i64 0, .int .i64 0, .int .i64 0, .slice none 0 0], .bool false]) (by simp [results, Try.results90, go_sem, *]) rfl ⟨rfl, (by repeat (first | with_reducible exact Ext.refl _ | with_reducible assumption | with_reducible refine Ext.alloc ?_ _ | with_reducible refine Ext.drew ?_ | with_reducible refine Ext.drewN ?_ _ | ((with_reducible refine Ext.set ?_ ?_ _); (focus (first | (simp; done) | (simp; omega)))) | with_reducible refine Ext.trans ?_ (by assumption)))⟩
end Go.Proofs.Ytjhgcbchdnoleaa

/-
  Contracts of copyRing and l8Copy. Condition: the cells can be read.
-/
import Derived.Test.YtjhgcbchdnoleaaRing
import Derived.Test.YtjhgcbchdnoleaaRow
import Derived.Deep.RegionHeld3
namespace Go.Proofs.Ytjhgcbchdnoleaa
open Go.ChangeShapes Go.WideShapes Go.ChangeAt Go.RowKit
set_option linter.unusedSimpArgs false
def NewRingT (z b e : Int) (xs : List Int) (w : World) (en : Ending) (w' : World) : Prop :=
  ∃ (ao : Option Addr) (cap : Nat), en = .returned (.agg #[.int .i64 z, .int .i64 b, .int .i64 e, .slice ao xs.length cap]) ∧ OwnT 3 w.heap.size w'.heap.size w' ao xs ∧ Ext w w'
set_option maxHeartbeats 1000000 in
theorem copyRing_own (z b e : Int) (ao : Option Addr) (n ca : Nat) (xs : List Int) (w : World) (hx : ReadS w ao xs) (hn : xs.length = n) (hl : n ≤ 4194304) :
    Calls Try.prog 113 #[.agg #[.int .i64 z, .int .i64 b, .int .i64 e, .slice ao n ca]] w (NewRingT z b e xs w) := by
  have hn' := hide hn
  have hx' := hide hx
  clear hn hx
  obtain ⟨i0, hi0, hz0, hz1, hz2⟩ := info_parts infoInt
  go_enter Try.func113, Try.ntmps113
  go_wp2_with (at_builtin; refine wpList_append_any (by rfl) _ _ 22 (by rfl) (w.heap.size + 2) 3 i0 (.int .i64 0) 1 8 Try.underlying22 hi0 hz0 hz1 hz2 rfl (by omega) (.slice (some ⟨w.heap.size + 2, 0, none⟩) 0 0) 0 [] (by rfl) ?_ ao n ca (xs.map (Value.int .i64)) (by rfl) (by simp [hn'.out]) (hx'.out.v.ext (by repeat (first | with_reducible exact Ext.refl _ | with_reducible assumption | with_reducible refine Ext.alloc ?_ _ | with_reducible refine Ext.drew ?_ | with_reducible refine Ext.drewN ?_ _ | ((with_reducible refine Ext.set ?_ ?_ _); (focus (first | (simp; done) | (simp; omega)))) | with_reducible refine Ext.trans ?_ (by assumption)))) (ints_one xs) (by simp [maxLen]; omega) (by omega) (by simp) ?_)
  · exact own_made (by simp) (by omega)
  · intro v' w' hown hgrow
    have hg : Chg (fun k => k = w.heap.size + 2) _ w' := grown_chg hgrow (fun k hk => (Option.some.inj hk).symm)
    obtain ⟨ao', cap', rfl, hxl, ho⟩ := own_intsT hown
    obtain ⟨c1, f1⟩ := hg.row (k := w.heap.size) (by first | assumption | (simp; done) | (simp; omega) | omega) (by omega)
    obtain ⟨c2, f2⟩ := hg.row (k := w.heap.size + 1) (by first | assumption | (simp; done) | (simp; omega) | omega) (by omega)
    have k1 := hg.more (k := w.heap.size) (by first | assumption | (simp; done) | (simp; omega) | omega)
    have k2 := hg.more (k := w.heap.size + 1) (by first | assumption | (simp; done) | (simp; omega) | omega)
    have hE : Ext w w' := (Chg.trans (Ext.chg (S := fun k => k = w.heap.size + 2) (by repeat (first | with_reducible exact Ext.refl _ | with_reducible assumption | with_reducible refine Ext.alloc ?_ _ | with_reducible refine Ext.drew ?_ | with_reducible refine Ext.drewN ?_ _ | ((with_reducible refine Ext.set ?_ ?_ _); (focus (first | (simp; done) | (simp; omega)))) | with_reducible refine Ext.trans ?_ (by assumption)))) hg).ext (fun k hk h => by omega)
    have d0 : w'.cell? ⟨w.heap.size, 0, none⟩ = some (.int .i64 z) := (by rw [c1]; simp [go_sem])
    have d1 : w'.cell? ⟨w.heap.size, 1, none⟩ = some (.int .i64 b) := (by rw [c1]; simp [go_sem])
    have d2 : w'.cell? ⟨w.heap.size, 2, none⟩ = some (.int .i64 e) := (by rw [c1]; simp [go_sem])
    have d3 : w'.cell? ⟨w.heap.size, 3, none⟩ = some (.slice ao n ca) := (by rw [c1]; simp [go_sem])
    have g0 : w'.cell? ⟨w.heap.size + 1, 0, none⟩ = some (.int .i64 0) := (by rw [c2]; simp [go_sem])
    have g1 : w'.cell? ⟨w.heap.size + 1, 1, none⟩ = some (.int .i64 0) := (by rw [c2]; simp [go_sem])
    have g2 : w'.cell? ⟨w.heap.size + 1, 2, none⟩ = some (.int .i64 0) := (by rw [c2]; simp [go_sem])
    have g3 : w'.cell? ⟨w.heap.size + 1, 3, none⟩ = some (.slice none 0 0) := (by rw [c2]; simp [go_sem])
    clear hown hgrow hg hxl c1 c2
    go_wp2
    refine bodyPost_ret (v := .agg #[.int .i64 z, .int .i64 b, .int .i64 e, .slice ao' xs.length cap']) (by simp [results, Try.results113, go_sem, *]) rfl ⟨ao', cap', rfl, ?_, ?_⟩
    · refine OwnT.mono (OwnT.chg (S := fun k => k < w.heap.size + 2) ho (by repeat (first | with_reducible exact Chg.refl _ _ | with_reducible assumption | with_reducible refine Chg.alloc ?_ _ | with_reducible refine Chg.drew ?_ | with_reducible refine Chg.drewN ?_ _ | ((with_reducible refine Chg.set ?_ ?_ _); (focus (first | (left; simp; done) | (left; simp; omega) | (right; simp; done) | (right; simp; omega)))))) (fun b arr h1 h2 _ h3 => by omega)) (by omega) (by simp)
    · exact (by repeat (first | with_reducible exact Ext.refl _ | with_reducible assumption | with_reducible refine Ext.alloc ?_ _ | with_reducible refine Ext.drew ?_ | with_reducible refine Ext.drewN ?_ _ | ((with_reducible refine Ext.set ?_ ?_ _); (focus (first | (simp; done) | (simp; omega)))) | with_reducible refine Ext.trans ?_ (by assumption)))
theorem copyRing_any (z b e : Int) (ao : Option Addr) (n ca : Nat) (xs : List Int) (w : World) (hx : ReadS w ao xs) (hn : xs.length = n) (hl : n ≤ 4194304) :
    Calls Try.prog 113 #[.agg #[.int .i64 z, .int .i64 b, .int .i64 e, .slice ao n ca]] w (NewRingV z b e xs w) :=
  (copyRing_own z b e ao n ca xs w hx hn hl).mono fun _ _ ⟨ao, cap, h1, h2, h3⟩ => ⟨ao, cap, h1, h2.own, h3⟩
set_option maxHeartbeats 1000000 in
theorem l8Copy_any (z b e : Int) (ao : Option Addr) (n ca : Nat) (xs : List Int) (w : World) (hx : ReadS w ao xs) (hn : xs.length = n) (hl : n ≤ 4194304) :
    Calls Try.prog 109 #[.agg #[.int .i64 z, .int .i64 b, .int .i64 e, .slice ao n ca]] w (NewRingV z b e xs w) := by
  have hn' := hide hn
  have hx' := hide hx
  clear hn hx
  obtain ⟨i0, hi0, hz0, hz1, hz2⟩ := info_parts infoInt
  go_enter Try.func109, Try.ntmps109
  go_wp2_with fail
  go_region_held3 (fun w' => w'.cell? ⟨w.heap.size, 0, none⟩ = some (.int .i64 z) ∧ w'.cell? ⟨w.heap.size, 1, none⟩ = some (.int .i64 b) ∧ w'.cell? ⟨w.heap.size, 2, none⟩ = some (.int .i64 e) ∧ w'.cell? ⟨w.heap.size, 3, none⟩ = some (.slice ao n ca))
    (first
      | go_keep
      | (go_split_ands
         refine ⟨?_, ?_, ?_, ?_⟩
         · (rw [hgrow.cell_far _ (by simp; omega) (by simp [Value.ownBlock])]; assumption)
         · (rw [hgrow.cell_far _ (by simp; omega) (by simp [Value.ownBlock])]; assumption)
         · (rw [hgrow.cell_far _ (by simp; omega) (by simp [Value.ownBlock])]; assumption)
         · (rw [hgrow.cell_far _ (by simp; omega) (by simp [Value.ownBlock])]; assumption)))
    ((refine step_append_any (by rfl) _ _ 22 (by rfl) (w.heap.size + 2) 3 i0 (.int .i64 0) 1 8 Try.underlying22 hi0 hz0 hz1 hz2 rfl (by omega) (.slice (some ⟨w.heap.size + 2, 0, none⟩) 0 0) 0 [] (by rfl) ((own_made (by simp) (by omega)).drew) ao n ca (xs.map (Value.int .i64)) (by rfl) (by simp [hn'.out]) (hx'.out.v.ext (by repeat (first | with_reducible exact Ext.refl _ | with_reducible assumption | with_reducible refine Ext.alloc ?_ _ | with_reducible refine Ext.drew ?_ | with_reducible refine Ext.drewN ?_ _ | ((with_reducible refine Ext.set ?_ ?_ _); (focus (first | (simp; done) | (simp; omega)))) | with_reducible refine Ext.trans ?_ (by assumption)))) (ints_one xs) (by simp [maxLen]; omega) (by omega) (by simp) ?_; intro v' w1 hown hgrow; obtain ⟨ao', cap', rfl, hxl, ho⟩ := own_ints hown; have hg : Chg (fun k => k = w.heap.size + 2) _ w1 := grown_chg hgrow (fun k hk => (Option.some.inj hk).symm); obtain ⟨c2, f2⟩ := hg.row (k := w.heap.size + 1) (by first | assumption | (simp; done) | (simp; omega) | omega) (by omega); have hE : Ext w w1 := (Chg.trans (Ext.chg (S := fun k => k = w.heap.size + 2) (by repeat (first | with_reducible exact Ext.refl _ | with_reducible assumption | with_reducible refine Ext.alloc ?_ _ | with_reducible refine Ext.drew ?_ | with_reducible refine Ext.drewN ?_ _ | ((with_reducible refine Ext.set ?_ ?_ _); (focus (first | (simp; done) | (simp; omega)))) | with_reducible refine Ext.trans ?_ (by assumption)))) hg).ext (fun k hk h => by omega); have g0 : w1.cell? ⟨w.heap.size + 1, 0, none⟩ = some (.int .i64 0) := (by rw [c2]; simp [go_sem]); have g1 : w1.cell? ⟨w.heap.size + 1, 1, none⟩ = some (.int .i64 0) := (by rw [c2]; simp [go_sem]); have g2 : w1.cell? ⟨w.heap.size + 1, 2, none⟩ = some (.int .i64 0) := (by rw [c2]; simp [go_sem]); have g3 : w1.cell? ⟨w.heap.size + 1, 3, none⟩ = some (.slice none 0 0) := (by rw [c2]; simp [go_sem]); clear hxl hown hg c2))
  go_wp2
  refine bodyPost_ret (v := .agg #[.int .i64 z, .int .i64 b, .int .i64 e, .slice ao' xs.length cap']) (by simp [results, Try.results109, go_sem, *]) rfl ⟨ao', cap', rfl, ?_, ?_⟩
  · refine OwnS.mono (OwnS.chg (S := fun k => k < w.heap.size + 2) ho (by repeat (first | with_reducible exact Chg.refl _ _ | with_reducible assumption | with_reducible refine Chg.alloc ?_ _ | with_reducible refine Chg.drew ?_ | with_reducible refine Chg.drewN ?_ _ | ((with_reducible refine Chg.set ?_ ?_ _); (focus (first | (left; simp; done) | (left; simp; omega) | (right; simp; done) | (right; simp; omega)))))) (fun b h1 h2 h3 => by omega)) (by omega) (by simp)
  · exact (by repeat (first | with_reducible exact Ext.refl _ | with_reducible assumption | with_reducible refine Ext.alloc ?_ _ | with_reducible refine Ext.drew ?_ | with_reducible refine Ext.drewN ?_ _ | ((with_reducible refine Ext.set ?_ ?_ _); (focus (first | (simp; done) | (simp; omega)))) | with_reducible refine Ext.trans ?_ (by assumption)))
end Go.Proofs.Ytjhgcbchdnoleaa

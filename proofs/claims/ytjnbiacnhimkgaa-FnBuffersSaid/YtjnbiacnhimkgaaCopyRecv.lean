/-
  Contracts of copyBuffer, l6Copy, copyReceiver, l7Copy. Condition: the chunks can be read.
-/
import Derived.Test.YtjnbiacnhimkgaaRecv
import Derived.Test.YtjnbiacnhimkgaaRowC
import Derived.Test.YtjnbiacnhimkgaaTable
import Derived.Deep.RegionHeld3
namespace Go.Proofs.Ytjnbiacnhimkgaa
open Go.ChangeShapes Go.WideShapes Go.ChangeAt Go.RowKit
set_option linter.unusedSimpArgs false
set_option maxHeartbeats 1000000 in
theorem copyBuffer_any (nx : Int) (ao : Option Addr) (n ca : Nat) (cs : List Ck) (w : World) (hx : ReadC w ao cs) (hn : cs.length = n) (hl : n ≤ 1048576) :
    Calls Try.prog 31 #[.agg #[.int .i64 nx, .slice ao n ca]] w (NewBufV nx cs w) := by
  have hn' := hide hn
  have hx' := hide hx
  clear hn hx
  have hlen := hide (ckCells_length cs)
  obtain ⟨i0, hi0, hz0, hz1, hz2⟩ := info_parts infoChunk
  go_enter Try.func31, Try.ntmps31
  go_wp2_with fail
  go_region_held3 (fun w' => w'.cell? ⟨w.heap.size, 0, none⟩ = some (.int .i64 nx) ∧ w'.cell? ⟨w.heap.size, 1, none⟩ = some (.slice ao n ca))
    (first
      | go_keep
      | (go_split_ands
         refine ⟨?_, ?_⟩
         · (rw [hgrow.cell_far _ (by simp; omega) (by simp [Value.ownBlock])]; assumption)
         · (rw [hgrow.cell_far _ (by simp; omega) (by simp [Value.ownBlock])]; assumption)))
    ((refine step_append_any (by rfl) _ _ 24 (by rfl) (w.heap.size + 2) 53 i0 (.agg #[.int .i64 0, .string ⟨#[]⟩]) 2 24 Try.underlying24 hi0 hz0 hz1 hz2 rfl (by omega) (.slice (some ⟨w.heap.size + 2, 0, none⟩) 0 0) 0 [] (by rfl) ((own_made (by simp) (by omega)).drew) ao n ca (ckCells cs) (by rfl) (by rw [hlen.out, hn'.out]) (hx'.out.v.ext (by repeat (first | with_reducible exact Ext.refl _ | with_reducible assumption | with_reducible refine Ext.alloc ?_ _ | with_reducible refine Ext.drew ?_ | with_reducible refine Ext.drewN ?_ _ | ((with_reducible refine Ext.set ?_ ?_ _); (focus (first | (simp; done) | (simp; omega)))) | with_reducible refine Ext.trans ?_ (by assumption)))) (ckCells_one cs) (by simp [maxLen]; omega) (by omega) (by simp) ?_; intro v' w1 hown hgrow; obtain ⟨ao', cap', rfl, hxl, ho⟩ := own_chunks hown; have hg : Chg (fun k => k = w.heap.size + 2) _ w1 := grown_chg hgrow (fun k hk => (Option.some.inj hk).symm); obtain ⟨c2, f2⟩ := hg.row (k := w.heap.size + 1) (by first | assumption | (simp; done) | (simp; omega) | omega) (by omega); have hE : Ext w w1 := (Chg.trans (Ext.chg (S := fun k => k = w.heap.size + 2) (by repeat (first | with_reducible exact Ext.refl _ | with_reducible assumption | with_reducible refine Ext.alloc ?_ _ | with_reducible refine Ext.drew ?_ | with_reducible refine Ext.drewN ?_ _ | ((with_reducible refine Ext.set ?_ ?_ _); (focus (first | (simp; done) | (simp; omega)))) | with_reducible refine Ext.trans ?_ (by assumption)))) hg).ext (fun k hk h => by omega); have g0 : w1.cell? ⟨w.heap.size + 1, 0, none⟩ = some (.int .i64 0) := (by rw [c2]; simp [go_sem]); have g1 : w1.cell? ⟨w.heap.size + 1, 1, none⟩ = some (.slice none 0 0) := (by rw [c2]; simp [go_sem]); clear hxl hown hg c2))
  go_wp2
  refine bodyPost_ret (v := .agg #[.int .i64 nx, .slice ao' cs.length cap']) (by simp [results, Try.results31, go_sem, *]) rfl ⟨ao', cap', rfl, ?_, ?_⟩
  · refine OwnC.mono (OwnC.chg (S := fun k => k < w.heap.size + 2) ho (by repeat (first | with_reducible exact Chg.refl _ _ | with_reducible assumption | with_reducible refine Chg.alloc ?_ _ | with_reducible refine Chg.drew ?_ | with_reducible refine Chg.drewN ?_ _ | ((with_reducible refine Chg.set ?_ ?_ _); (focus (first | (left; simp; done) | (left; simp; omega) | (right; simp; done) | (right; simp; omega)))))) (fun b h1 h2 h3 => by omega)) (by omega) (by simp)
  · exact (by repeat (first | with_reducible exact Ext.refl _ | with_reducible assumption | with_reducible refine Ext.alloc ?_ _ | with_reducible refine Ext.drew ?_ | with_reducible refine Ext.drewN ?_ _ | ((with_reducible refine Ext.set ?_ ?_ _); (focus (first | (simp; done) | (simp; omega)))) | with_reducible refine Ext.trans ?_ (by assumption)))
set_option maxHeartbeats 1000000 in
theorem l6Copy_any (nx : Int) (ao : Option Addr) (n ca : Nat) (cs : List Ck) (w : World) (hx : ReadC w ao cs) (hn : cs.length = n) (hl : n ≤ 1048576) :
    Calls Try.prog 37 #[.agg #[.int .i64 nx, .slice ao n ca]] w (NewBufV nx cs w) := by
  have hn' := hide hn
  have hx' := hide hx
  clear hn hx
  have hlen := hide (ckCells_length cs)
  obtain ⟨i0, hi0, hz0, hz1, hz2⟩ := info_parts infoChunk
  go_enter Try.func37, Try.ntmps37
  go_wp2_with fail
  go_region_held3 (fun w' => w'.cell? ⟨w.heap.size, 0, none⟩ = some (.int .i64 nx) ∧ w'.cell? ⟨w.heap.size, 1, none⟩ = some (.slice ao n ca))
    (first
      | go_keep
      | (go_split_ands
         refine ⟨?_, ?_⟩
         · (rw [hgrow.cell_far _ (by simp; omega) (by simp [Value.ownBlock])]; assumption)
         · (rw [hgrow.cell_far _ (by simp; omega) (by simp [Value.ownBlock])]; assumption)))
    ((refine step_append_any (by rfl) _ _ 24 (by rfl) (w.heap.size + 2) 53 i0 (.agg #[.int .i64 0, .string ⟨#[]⟩]) 2 24 Try.underlying24 hi0 hz0 hz1 hz2 rfl (by omega) (.slice (some ⟨w.heap.size + 2, 0, none⟩) 0 0) 0 [] (by rfl) ((own_made (by simp) (by omega)).drew) ao n ca (ckCells cs) (by rfl) (by rw [hlen.out, hn'.out]) (hx'.out.v.ext (by repeat (first | with_reducible exact Ext.refl _ | with_reducible assumption | with_reducible refine Ext.alloc ?_ _ | with_reducible refine Ext.drew ?_ | with_reducible refine Ext.drewN ?_ _ | ((with_reducible refine Ext.set ?_ ?_ _); (focus (first | (simp; done) | (simp; omega)))) | with_reducible refine Ext.trans ?_ (by assumption)))) (ckCells_one cs) (by simp [maxLen]; omega) (by omega) (by simp) ?_; intro v' w1 hown hgrow; obtain ⟨ao', cap', rfl, hxl, ho⟩ := own_chunks hown; have hg : Chg (fun k => k = w.heap.size + 2) _ w1 := grown_chg hgrow (fun k hk => (Option.some.inj hk).symm); obtain ⟨c2, f2⟩ := hg.row (k := w.heap.size + 1) (by first | assumption | (simp; done) | (simp; omega) | omega) (by omega); have hE : Ext w w1 := (Chg.trans (Ext.chg (S := fun k => k = w.heap.size + 2) (by repeat (first | with_reducible exact Ext.refl _ | with_reducible assumption | with_reducible refine Ext.alloc ?_ _ | with_reducible refine Ext.drew ?_ | with_reducible refine Ext.drewN ?_ _ | ((with_reducible refine Ext.set ?_ ?_ _); (focus (first | (simp; done) | (simp; omega)))) | with_reducible refine Ext.trans ?_ (by assumption)))) hg).ext (fun k hk h => by omega); have g0 : w1.cell? ⟨w.heap.size + 1, 0, none⟩ = some (.int .i64 0) := (by rw [c2]; simp [go_sem]); have g1 : w1.cell? ⟨w.heap.size + 1, 1, none⟩ = some (.slice none 0 0) := (by rw [c2]; simp [go_sem]); clear hxl hown hg c2))
  go_wp2
  refine bodyPost_ret (v := .agg #[.int .i64 nx, .slice ao' cs.length cap']) (by simp [results, Try.results37, go_sem, *]) rfl ⟨ao', cap', rfl, ?_, ?_⟩
  · refine OwnC.mono (OwnC.chg (S := fun k => k < w.heap.size + 2) ho (by repeat (first | with_reducible exact Chg.refl _ _ | with_reducible assumption | with_reducible refine Chg.alloc ?_ _ | with_reducible refine Chg.drew ?_ | with_reducible refine Chg.drewN ?_ _ | ((with_reducible refine Chg.set ?_ ?_ _); (focus (first | (left; simp; done) | (left; simp; omega) | (right; simp; done) | (right; simp; omega)))))) (fun b h1 h2 h3 => by omega)) (by omega) (by simp)
  · exact (by repeat (first | with_reducible exact Ext.refl _ | with_reducible assumption | with_reducible refine Ext.alloc ?_ _ | with_reducible refine Ext.drew ?_ | with_reducible refine Ext.drewN ?_ _ | ((with_reducible refine Ext.set ?_ ?_ _); (focus (first | (simp; done) | (simp; omega)))) | with_reducible refine Ext.trans ?_ (by assumption)))
end Go.Proofs.Ytjnbiacnhimkgaa

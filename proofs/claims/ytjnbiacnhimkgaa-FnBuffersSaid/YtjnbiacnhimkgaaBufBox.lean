/-
  The line of a table with a box: a buffer of memory of the region's own. copyBuffer once more, its row with its type. Conditions: the chunks can be read.
-/
import Derived.Test.YtjnbiacnhimkgaaBox
import Derived.Test.YtjnbiacnhimkgaaCopyRecv
namespace Go.Proofs.Ytjnbiacnhimkgaa
open Go.ChangeShapes Go.WideShapes Go.ChangeAt Go.RowKit
set_option linter.unusedSimpArgs false
def OwnCT (e lo hi : Nat) (w : World) (ao : Option Addr) (cs : List Ck) : Prop :=
  cs = [] ∨ ∃ (b off : Nat) (arr : Array Value), ao = some ⟨b, off, none⟩ ∧ lo ≤ b ∧ b < hi ∧ w.heap[b]? = some (.cells arr e (0, 0)) ∧ ∀ j : Nat, j < cs.length → arr[off + j * 2]? = some (.int .i64 (cs.getD j dk).1) ∧ arr[off + j * 2 + 1]? = some (.string (cs.getD j dk).2)
theorem OwnCT.own {e lo hi : Nat} {w : World} {ao : Option Addr} {cs : List Ck} (h : OwnCT e lo hi w ao cs) : OwnC lo hi w ao cs := by
  rcases h with h | ⟨b, off, arr, h1, h2, h3, h4, h5⟩
  · exact Or.inl h
  · refine Or.inr ⟨b, off, h1, h2, h3, fun o => by simp [World.frozen?, h4], fun j hj => ?_⟩
    rw [cell_of_row w b _ arr _ _ h4, cell_of_row w b _ arr _ _ h4]
    exact h5 j hj
theorem OwnCT.chg {e lo hi : Nat} {S : Nat → Prop} {w w' : World} {ao : Option Addr} {cs : List Ck} (h : OwnCT e lo hi w ao cs) (hx : Chg S w w') (hS : ∀ b arr, lo ≤ b → b < hi → w.heap[b]? = some (.cells arr e (0, 0)) → ¬ S b) : OwnCT e lo hi w' ao cs := by
  rcases h with h | ⟨b, off, arr, h1, h2, h3, h4, h5⟩
  · exact Or.inl h
  · exact Or.inr ⟨b, off, arr, h1, h2, h3, by rw [hx.block b (lt_of_block h4) (hS b arr h2 h3 h4)]; exact h4, h5⟩
theorem OwnCT.mono {e lo hi lo' hi' : Nat} {w : World} {ao : Option Addr} {cs : List Ck} (h : OwnCT e lo hi w ao cs) (h1 : lo' ≤ lo) (h2 : hi ≤ hi') : OwnCT e lo' hi' w ao cs := by
  rcases h with h | ⟨b, off, arr, k1, k2, k3, k4, k5⟩
  · exact Or.inl h
  · exact Or.inr ⟨b, off, arr, k1, Nat.le_trans h1 k2, Nat.lt_of_lt_of_le k3 h2, k4, k5⟩
theorem own_chunksT {w : World} {base : Nat} {e : TypeId} {v : Value} {n : Nat} {cs : List Ck} (h : w.ownsRow base e 2 v n (ckCells cs)) :
    ∃ (ao : Option Addr) (cap : Nat), v = .slice ao cs.length cap ∧ (cs.length = n ∧ cs.length ≤ cap) ∧ OwnCT e base w.heap.size w ao cs := by
  obtain ⟨hl, ⟨rfl, rfl⟩ | ⟨g, cap, cur, rfl, hb, hblk, hle, _, hsz, htake⟩⟩ := h
  · have hx : cs = [] := by
      rw [ckCells_length] at hl
      exact List.eq_nil_of_length_eq_zero (by omega)
    subst hx
    exact ⟨none, 0, rfl, ⟨rfl, Nat.le_refl _⟩, Or.inl rfl⟩
  · have hl' : cs.length = n := by rw [ckCells_length] at hl; omega
    refine ⟨some ⟨g, 0, none⟩, cap, by rw [hl'], ⟨hl', by omega⟩, Or.inr ⟨g, 0, cur, rfl, hb, lt_of_block hblk, hblk, fun j hj => ?_⟩⟩
    obtain ⟨k1, k2⟩ := ckCells_at cs j hj
    have h1 := congrArg (fun l => l[j * 2]?) htake
    have h2 := congrArg (fun l => l[j * 2 + 1]?) htake
    simp only [List.getElem?_take, (by omega : j * 2 < n * 2), (by omega : j * 2 + 1 < n * 2), if_true] at h1 h2
    constructor
    · rw [Nat.zero_add, ← Array.getElem?_toList, h1]; exact k1
    · rw [Nat.zero_add, ← Array.getElem?_toList, h2]; exact k2
/-- A buffer of memory of the region's own, in a row of type 53. -/
def bufB (lo t : Nat) (ht : t ≠ 53) (nx : Int) (cs : List Ck) : BLine lo t :=
  ⟨fun v w => ∃ (ao : Option Addr) (cap l h : Nat), v = .agg #[.int .i64 nx, .slice ao cs.length cap] ∧ OwnCT 53 l h w ao cs ∧ lo ≤ l ∧ h ≤ w.heap.size ∧ cs.length ≤ cap,
   fun _ _ _ hg ⟨ao, cap, l, h, h1, h2, h3, h4, h5⟩ => ⟨ao, cap, l, h, h1, h2.chg hg (fun b arr _ _ hb hS => by
     obtain ⟨_, arr', fr, h5⟩ := hS
     rw [hb] at h5
     injection h5 with h5
     injection h5 with _ h6 _
     exact ht h6.symm), h3, Nat.le_trans h4 hg.size, h5⟩⟩
theorem store_two {w : World} {B t : Nat} {a0 a1 v0 v1 : Value} (h : w.heap[B]? = some (.cells #[a0, a1] t (0, 0))) :
    ((w.setCell ⟨B, 0, none⟩ v0).setCell ⟨B, 1, none⟩ v1).heap[B]? = some (.cells #[v0, v1] t (0, 0)) ∧
    Chg (fun k => k = B) w ((w.setCell ⟨B, 0, none⟩ v0).setCell ⟨B, 1, none⟩ v1) := by
  have g0 : Chg (fun k => k = B) w (w.setCell ⟨B, 0, none⟩ v0) := Chg.set (S := fun k => k = B) (p := ⟨B, 0, none⟩) (Or.inl (Eq.refl B)) (Chg.refl (fun k => k = B) w) _
  refine ⟨?_, Chg.set (S := fun k => k = B) (p := ⟨B, 1, none⟩) (Or.inl (Eq.refl B)) g0 _⟩
  have h0 := block_set (i := 0) h v0
  have h1 := block_set (i := 1) h0 v1
  exact h1
theorem own_oneC {e l h B t lo : Nat} {w : World} {ao : Option Addr} {cs : List Ck} {arr : Array Value} (ho : OwnCT e l h w ao cs) (hl : lo ≤ l) (hB : w.heap[B]? = some (.cells arr t (0, 0))) (hne : t ≠ e) (hlo : lo ≤ B) :
    ∃ l2 h2 : Nat, OwnC l2 h2 w ao cs ∧ lo ≤ l2 ∧ h2 ≤ w.heap.size ∧ (B < l2 ∨ h2 ≤ B) := by
  rcases ho with rfl | ⟨b, off, ar, h1, h2, h3, h4, h5⟩
  · exact ⟨lo, lo, Or.inl rfl, Nat.le_refl _, Nat.le_trans hlo (Nat.le_of_lt (lt_of_block hB)), Or.inr hlo⟩
  · refine ⟨b, b + 1, OwnCT.own (e := e) (Or.inr ⟨b, off, ar, h1, Nat.le_refl _, Nat.lt_succ_self _, h4, h5⟩), Nat.le_trans hl h2, lt_of_block h4, ?_⟩
    have : b ≠ B := fun hb => by
      subst hb
      rw [hB] at h4
      injection h4 with h4
      injection h4 with _ h6 _
      exact hne h6
    omega
theorem bufNeChunk : (26 : Nat) ≠ 53 := by decide
def NewBufT (nx : Int) (cs : List Ck) (w : World) (en : Ending) (w' : World) : Prop :=
  ∃ (ao : Option Addr) (cap : Nat), en = .returned (.agg #[.int .i64 nx, .slice ao cs.length cap]) ∧ OwnCT 53 w.heap.size w'.heap.size w' ao cs ∧ Ext w w' ∧ cs.length ≤ cap
set_option maxHeartbeats 1000000 in
theorem copyBuffer_own (nx : Int) (ao : Option Addr) (n ca : Nat) (cs : List Ck) (w : World) (hx : ReadC w ao cs) (hn : cs.length = n) (hl : n ≤ 1048576) :
    Calls Try.prog 31 #[.agg #[.int .i64 nx, .slice ao n ca]] w (NewBufT nx cs w) := by
  have hn' := hide hn
  have hx' := hide hx
  clear hn hx
  have hlen := hide (ckCells_length cs)
  obtain ⟨i0, hi0, hz0, hz1, hz2⟩ := info_parts infoChunk
  go_enter Try.func31, Try.ntmps31
  go_wp2_with fail
  go_region_held3 (fun w' => w'.cell? ⟨w.heap.size, 0, none⟩ = some (.int .i64 nx) ∧ w'.cell? ⟨w.heap.size, 1, none⟩ = some (.slice ao n ca))
    (first
      | go_keep
      | (go_split_ands
         refine ⟨?_, ?_⟩
         · (rw [hgrow.cell_far _ (by simp; omega) (by simp [Value.ownBlock])]; assumption)
         · (rw [hgrow.cell_far _ (by simp; omega) (by simp [Value.ownBlock])]; assumption)))
    ((refine step_append_any (by rfl) _ _ 24 (by rfl) (w.heap.size + 2) 53 i0 (.agg #[.int .i64 0, .string ⟨#[]⟩]) 2 24 Try.underlying24 hi0 hz0 hz1 hz2 rfl (by omega) (.slice (some ⟨w.heap.size + 2, 0, none⟩) 0 0) 0 [] (by rfl) ((own_made (by simp) (by omega)).drew) ao n ca (ckCells cs) (by rfl) (by rw [hlen.out, hn'.out]) (hx'.out.v.ext (by repeat (first | with_reducible exact Ext.refl _ | with_reducible assumption | with_reducible refine Ext.alloc ?_ _ | with_reducible refine Ext.drew ?_ | with_reducible refine Ext.drewN ?_ _ | ((with_reducible refine Ext.set ?_ ?_ _); (focus (first | (simp; done) | (simp; omega)))) | with_reducible refine Ext.trans ?_ (by assumption)))) (ckCells_one cs) (by simp [maxLen]; omega) (by omega) (by simp) ?_; intro v' w1 hown hgrow; obtain ⟨ao', cap', rfl, hxl, ho⟩ := own_chunksT hown; have hg : Chg (fun k => k = w.heap.size + 2) _ w1 := grown_chg hgrow (fun k hk => (Option.some.inj hk).symm); obtain ⟨c2, f2⟩ := hg.row (k := w.heap.size + 1) (by first | assumption | (simp; done) | (simp; omega) | omega) (by omega); have hE : Ext w w1 := (Chg.trans (Ext.chg (S := fun k => k = w.heap.size + 2) (by repeat (first | with_reducible exact Ext.refl _ | with_reducible assumption | with_reducible refine Ext.alloc ?_ _ | with_reducible refine Ext.drew ?_ | with_reducible refine Ext.drewN ?_ _ | ((with_reducible refine Ext.set ?_ ?_ _); (focus (first | (simp; done) | (simp; omega)))) | with_reducible refine Ext.trans ?_ (by assumption)))) hg).ext (fun k hk h => by omega); have g0 : w1.cell? ⟨w.heap.size + 1, 0, none⟩ = some (.int .i64 0) := (by rw [c2]; simp [go_sem]); have g1 : w1.cell? ⟨w.heap.size + 1, 1, none⟩ = some (.slice none 0 0) := (by rw [c2]; simp [go_sem]); clear hown hg c2))
  go_wp2
  refine bodyPost_ret (v := .agg #[.int .i64 nx, .slice ao' cs.length cap']) (by simp [results, Try.results31, go_sem, *]) rfl ⟨ao', cap', rfl, ?_, ?_, hxl.2⟩
  · refine OwnCT.mono (OwnCT.chg (S := fun k => k < w.heap.size + 2) ho (by repeat (first | with_reducible exact Chg.refl _ _ | with_reducible assumption | with_reducible refine Chg.alloc ?_ _ | with_reducible refine Chg.drew ?_ | with_reducible refine Chg.drewN ?_ _ | ((with_reducible refine Chg.set ?_ ?_ _); (focus (first | (left; simp; done) | (left; simp; omega) | (right; simp; done) | (right; simp; omega)))))) (fun b arr h1 h2 _ h3 => by omega)) (by omega) (by simp)
  · exact (by repeat (first | with_reducible exact Ext.refl _ | with_reducible assumption | with_reducible refine Ext.alloc ?_ _ | with_reducible refine Ext.drew ?_ | with_reducible refine Ext.drewN ?_ _ | ((with_reducible refine Ext.set ?_ ?_ _); (focus (first | (simp; done) | (simp; omega)))) | with_reducible refine Ext.trans ?_ (by assumption)))
set_option maxHeartbeats 1000000 in
theorem l6Copy_own (nx : Int) (ao : Option Addr) (n ca : Nat) (cs : List Ck) (w : World) (hx : ReadC w ao cs) (hn : cs.length = n) (hl : n ≤ 1048576) :
    Calls Try.prog 37 #[.agg #[.int .i64 nx, .slice ao n ca]] w (NewBufT nx cs w) := by
  have hn' := hide hn
  have hx' := hide hx
  clear hn hx
  have hlen := hide (ckCells_length cs)
  obtain ⟨i0, hi0, hz0, hz1, hz2⟩ := info_parts infoChunk
  go_enter Try.func37, Try.ntmps37
  go_wp2_with fail
  go_region_held3 (fun w' => w'.cell? ⟨w.heap.size, 0, none⟩ = some (.int .i64 nx) ∧ w'.cell? ⟨w.heap.size, 1, none⟩ = some (.slice ao n ca))
    (first
      | go_keep
      | (go_split_ands
         refine ⟨?_, ?_⟩
         · (rw [hgrow.cell_far _ (by simp; omega) (by simp [Value.ownBlock])]; assumption)
         · (rw [hgrow.cell_far _ (by simp; omega) (by simp [Value.ownBlock])]; assumption)))
    ((refine step_append_any (by rfl) _ _ 24 (by rfl) (w.heap.size + 2) 53 i0 (.agg #[.int .i64 0, .string ⟨#[]⟩]) 2 24 Try.underlying24 hi0 hz0 hz1 hz2 rfl (by omega) (.slice (some ⟨w.heap.size + 2, 0, none⟩) 0 0) 0 [] (by rfl) ((own_made (by simp) (by omega)).drew) ao n ca (ckCells cs) (by rfl) (by rw [hlen.out, hn'.out]) (hx'.out.v.ext (by repeat (first | with_reducible exact Ext.refl _ | with_reducible assumption | with_reducible refine Ext.alloc ?_ _ | with_reducible refine Ext.drew ?_ | with_reducible refine Ext.drewN ?_ _ | ((with_reducible refine Ext.set ?_ ?_ _); (focus (first | (simp; done) | (simp; omega)))) | with_reducible refine Ext.trans ?_ (by assumption)))) (ckCells_one cs) (by simp [maxLen]; omega) (by omega) (by simp) ?_; intro v' w1 hown hgrow; obtain ⟨ao', cap', rfl, hxl, ho⟩ := own_chunksT hown; have hg : Chg (fun k => k = w.heap.size + 2) _ w1 := grown_chg hgrow (fun k hk => (Option.some.inj hk).symm); obtain ⟨c2, f2⟩ := hg.row (k := w.heap.size + 1) (by first | assumption | (simp; done) | (simp; omega) | omega) (by omega); have hE : Ext w w1 := (Chg.trans (Ext.chg (S := fun k => k = w.heap.size + 2) (by repeat (first | with_reducible exact Ext.refl _ | with_reducible assumption | with_reducible refine Ext.alloc ?_ _ | with_reducible refine Ext.drew ?_ | with_reducible refine Ext.drewN ?_ _ | ((with_reducible refine Ext.set ?_ ?_ _); (focus (first | (simp; done) | (simp; omega)))) | with_reducible refine Ext.trans ?_ (by assumption)))) hg).ext (fun k hk h => by omega); have g0 : w1.cell? ⟨w.heap.size + 1, 0, none⟩ = some (.int .i64 0) := (by rw [c2]; simp [go_sem]); have g1 : w1.cell? ⟨w.heap.size + 1, 1, none⟩ = some (.slice none 0 0) := (by rw [c2]; simp [go_sem]); clear hown hg c2))
  go_wp2
  refine bodyPost_ret (v := .agg #[.int .i64 nx, .slice ao' cs.length cap']) (by simp [results, Try.results37, go_sem, *]) rfl ⟨ao', cap', rfl, ?_, ?_, hxl.2⟩
  · refine OwnCT.mono (OwnCT.chg (S := fun k => k < w.heap.size + 2) ho (by repeat (first | with_reducible exact Chg.refl _ _ | with_reducible assumption | with_reducible refine Chg.alloc ?_ _ | with_reducible refine Chg.drew ?_ | with_reducible refine Chg.drewN ?_ _ | ((with_reducible refine Chg.set ?_ ?_ _); (focus (first | (left; simp; done) | (left; simp; omega) | (right; simp; done) | (right; simp; omega)))))) (fun b arr h1 h2 _ h3 => by omega)) (by omega) (by simp)
  · exact (by repeat (first | with_reducible exact Ext.refl _ | with_reducible assumption | with_reducible refine Ext.alloc ?_ _ | with_reducible refine Ext.drew ?_ | with_reducible refine Ext.drewN ?_ _ | ((with_reducible refine Ext.set ?_ ?_ _); (focus (first | (simp; done) | (simp; omega)))) | with_reducible refine Ext.trans ?_ (by assumption)))
end Go.Proofs.Ytjnbiacnhimkgaa

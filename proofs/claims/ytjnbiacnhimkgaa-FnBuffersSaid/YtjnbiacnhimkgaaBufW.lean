/-
  Buffers of the reference whose chunks lie in a row of the call's own: l6Copy, InsertData, TakeBytes. Conditions: the chunks can be read.
-/
import Derived.Test.YtjnbiacnhimkgaaInsS
import Derived.Test.YtjnbiacnhimkgaaTake
import Derived.Test.YtjnbiacnhimkgaaDrawD
namespace Go.Proofs.Ytjnbiacnhimkgaa
open Go.ChangeShapes Go.WideShapes Go.ChangeAt Go.RowKit
set_option linter.unusedSimpArgs false
set_option linter.unusedVariables false
/-- A row of chunks of the call's own, in blocks from lo up to hi. -/
def OwnCW (lo hi : Nat) (w : World) (ao : Option Addr) (cap : Nat) (cs : List Ck) : Prop :=
  w.ownsRow lo 53 2 (.slice ao cs.length cap) cs.length (ckCells cs) ∧ ∀ k, (Value.slice ao cs.length cap).ownBlock = some k → k < hi
theorem OwnCW.own {lo hi : Nat} {w : World} {ao : Option Addr} {cap : Nat} {cs : List Ck} (h : OwnCW lo hi w ao cap cs) : OwnC lo hi w ao cs := by
  obtain ⟨h1, h2⟩ := h
  obtain ⟨ao2, cap2, e1, e2, ho⟩ := own_chunks h1
  obtain ⟨rfl, rfl⟩ : ao = ao2 ∧ cap = cap2 := by simpa using e1
  rcases ho with ho | ⟨b, off, e, k1, k2, k3⟩
  · exact Or.inl ho
  · subst e
    exact Or.inr ⟨b, off, rfl, k1, h2 b rfl, k3⟩
theorem OwnCW.cap {lo hi : Nat} {w : World} {ao : Option Addr} {cap : Nat} {cs : List Ck} (h : OwnCW lo hi w ao cap cs) : cs.length ≤ cap := by
  rcases h.1.2 with ⟨_, k⟩ | ⟨g, cap2, cur, e, _, _, h4, _⟩
  · omega
  · injection e with _ _ e3; omega
theorem ownsBlkC {w w' : World} {S : Nat → Prop} {base : Nat} {e : TypeId} {size : Nat} {v : Value} {n : Nat} {xs : List Value} (h : w.ownsRow base e size v n xs) (hx : Chg S w w') (hS : ∀ k, v.ownBlock = some k → ¬ S k) : w'.ownsRow base e size v n xs := by
  refine ⟨h.1, ?_⟩
  rcases h.2 with k | ⟨g, cap, cur, rfl, h2, h3, h4⟩
  · exact Or.inl k
  · exact Or.inr ⟨g, cap, cur, rfl, h2, by rw [hx.block g (Array.getElem?_eq_some_iff.1 h3).1 (hS g rfl)]; exact h3, h4⟩
theorem OwnCW.chg {lo hi : Nat} {S : Nat → Prop} {w w' : World} {ao : Option Addr} {cap : Nat} {cs : List Ck} (h : OwnCW lo hi w ao cap cs) (hx : Chg S w w') (hS : ∀ b, lo ≤ b → b < hi → ¬ S b) : OwnCW lo hi w' ao cap cs :=
  ⟨ownsBlkC h.1 hx (fun k hk => hS k (h.1.lt k hk).1 (h.2 k hk)), h.2⟩
theorem OwnCW.mono {lo hi lo' hi' : Nat} {w : World} {ao : Option Addr} {cap : Nat} {cs : List Ck} (h : OwnCW lo hi w ao cap cs) (h1 : lo' ≤ lo) (h2 : hi ≤ hi') : OwnCW lo' hi' w ao cap cs := by
  refine ⟨⟨h.1.1, ?_⟩, fun k hk => Nat.lt_of_lt_of_le (h.2 k hk) h2⟩
  rcases h.1.2 with k | ⟨g, cap, cur, k1, k2, k3⟩
  · exact Or.inl k
  · exact Or.inr ⟨g, cap, cur, k1, Nat.le_trans h1 k2, k3⟩
theorem OwnCW.read {lo hi : Nat} {w : World} {ao : Option Addr} {cap : Nat} {cs : List Ck} (h : OwnCW lo hi w ao cap cs) : ReadC w ao cs := h.own.read
theorem OwnCW.nil (lo : Nat) (w : World) : OwnCW lo lo w none 0 [] := ⟨World.ownsRow_nil w lo _ 2, fun k hk => by simp [Value.ownBlock] at hk⟩
theorem own_chunksW {w : World} {base : Nat} {v : Value} {n : Nat} {cs : List Ck} (h : w.ownsRow base 53 2 v n (ckCells cs)) :
    ∃ (ao : Option Addr) (cap : Nat), v = .slice ao cs.length cap ∧ cs.length = n ∧ OwnCW base w.heap.size w ao cap cs := by
  obtain ⟨ao, cap, e1, e2, _⟩ := own_chunks h
  subst e1 e2
  exact ⟨ao, cap, rfl, rfl, h, fun k hk => (h.lt k hk).2⟩
theorem own_headW {lo hi b off cap : Nat} {w : World} {cs : List Ck} (h : OwnCW lo hi w (some ⟨b, off, none⟩) cap cs) (hp : 0 < cs.length) (o : Int) (s : ByteArray) :
    OwnCW lo hi ((w.setCell ⟨b, off, none⟩ (.int .i64 o)).setCell ⟨b, off + 1, none⟩ (.string s)) (some ⟨b, off, none⟩) cap ((o, s) :: cs.tail) := by
  rcases cs with _ | ⟨c, cs⟩
  · simp at hp
  obtain ⟨⟨h1, h2⟩, h3⟩ := h
  refine ⟨⟨by simpa [ckCells] using h1, ?_⟩, h3⟩
  rcases h2 with ⟨e, _⟩ | ⟨g, cap2, cur, e, k1, k2, k3, k4, k5, k6⟩
  · cases e
  · obtain ⟨⟨rfl, rfl⟩, rfl⟩ : (b = g ∧ off = 0) ∧ cap = cap2 := by simpa using e
    refine Or.inr ⟨b, cap, _, rfl, k1, block_set (block_set k2 _) _, k3, k4, by simpa using k5, ?_⟩
    rw [Array.toList_setIfInBounds, Array.toList_setIfInBounds, List.take_set, List.take_set]
    have e2 : ((o, s) :: cs).length = (c :: cs).length := rfl
    show ((cur.toList.take ((c :: cs).length * 2)).set 0 _).set (0 + 1) _ = _
    rw [k6]
    simp [ckCells]
/-- A new buffer whose chunks lie in a row of the call's own. -/
def NewBufW (nx : Int) (cs : List Ck) (w : World) (en : Ending) (w' : World) : Prop :=
  ∃ (ao : Option Addr) (cap : Nat), en = .returned (.agg #[.int .i64 nx, .slice ao cs.length cap]) ∧ OwnCW w.heap.size w'.heap.size w' ao cap cs ∧ Ext w w'
/-- Likewise, behind the bytes that were taken. -/
def TakeW (s : ByteArray) (nx : Int) (cs : List Ck) (w : World) (en : Ending) (w' : World) : Prop :=
  ∃ (ao : Option Addr) (cap : Nat), en = .returned (.tuple #[.string s, .agg #[.int .i64 nx, .slice ao cs.length cap]]) ∧ OwnCW w.heap.size w'.heap.size w' ao cap cs ∧ Ext w w'
set_option maxHeartbeats 1000000 in
theorem l6CopyW (nx : Int) (ao : Option Addr) (n ca : Nat) (cs : List Ck) (w : World) (hx : ReadC w ao cs) (hn : cs.length = n) (hl : n ≤ 1048576) :
    Calls Try.prog 37 #[.agg #[.int .i64 nx, .slice ao n ca]] w (NewBufW nx cs w) := by
  have hn' := hide hn
  have hx' := hide hx
  clear hn hx
  have hlen := hide (ckCells_length cs)
  obtain ⟨i0, hi0, hz0, hz1, hz2⟩ := info_parts infoChunk
  go_enter Try.func37, Try.ntmps37
  go_wp2_with fail
  go_region_held3 (fun w' => w'.cell? ⟨w.heap.size, 0, none⟩ = some (.int .i64 nx) ∧ w'.cell? ⟨w.heap.size, 1, none⟩ = some (.slice ao n ca))
    (first
      | go_keep
      | (go_split_ands
         refine ⟨?_, ?_⟩
         · (rw [hgrow.cell_far _ (by simp; omega) (by simp [Value.ownBlock])]; assumption)
         · (rw [hgrow.cell_far _ (by simp; omega) (by simp [Value.ownBlock])]; assumption)))
    ((refine step_append_any (by rfl) _ _ 24 (by rfl) (w.heap.size + 2) 53 i0 (.agg #[.int .i64 0, .string ⟨#[]⟩]) 2 24 Try.underlying24 hi0 hz0 hz1 hz2 rfl (by omega) (.slice (some ⟨w.heap.size + 2, 0, none⟩) 0 0) 0 [] (by rfl) ((own_made (by simp) (by omega)).drew) ao n ca (ckCells cs) (by rfl) (by rw [hlen.out, hn'.out]) (hx'.out.v.ext (by repeat (first | with_reducible exact Ext.refl _ | with_reducible assumption | with_reducible refine Ext.alloc ?_ _ | with_reducible refine Ext.drew ?_ | with_reducible refine Ext.drewN ?_ _ | ((with_reducible refine Ext.set ?_ ?_ _); (focus (first | (simp; done) | (simp; omega)))) | with_reducible refine Ext.trans ?_ (by assumption)))) (ckCells_one cs) (by simp [maxLen]; omega) (by omega) (by simp) ?_; intro v' w1 hown hgrow; obtain ⟨ao', cap', rfl, hxl, ho⟩ := own_chunksW hown; have hg : Chg (fun k => k = w.heap.size + 2) _ w1 := grown_chg hgrow (fun k hk => (Option.some.inj hk).symm); obtain ⟨c2, f2⟩ := hg.row (k := w.heap.size + 1) (by first | assumption | (simp; done) | (simp; omega) | omega) (by omega); have hE : Ext w w1 := (Chg.trans (Ext.chg (S := fun k => k = w.heap.size + 2) (by repeat (first | with_reducible exact Ext.refl _ | with_reducible assumption | with_reducible refine Ext.alloc ?_ _ | with_reducible refine Ext.drew ?_ | with_reducible refine Ext.drewN ?_ _ | ((with_reducible refine Ext.set ?_ ?_ _); (focus (first | (simp; done) | (simp; omega)))) | with_reducible refine Ext.trans ?_ (by assumption)))) hg).ext (fun k hk h => by omega); have g0 : w1.cell? ⟨w.heap.size + 1, 0, none⟩ = some (.int .i64 0) := (by rw [c2]; simp [go_sem]); have g1 : w1.cell? ⟨w.heap.size + 1, 1, none⟩ = some (.slice none 0 0) := (by rw [c2]; simp [go_sem]); clear hxl hown hg c2))
  go_wp2
  refine bodyPost_ret (v := .agg #[.int .i64 nx, .slice ao' cs.length cap']) (by simp [results, Try.results37, go_sem, *]) rfl ⟨ao', cap', rfl, ?_, ?_⟩
  · refine OwnCW.mono (OwnCW.chg (S := fun k => k < w.heap.size + 2) ho (by repeat (first | with_reducible exact Chg.refl _ _ | with_reducible assumption | with_reducible refine Chg.alloc ?_ _ | with_reducible refine Chg.drew ?_ | with_reducible refine Chg.drewN ?_ _ | ((with_reducible refine Chg.set ?_ ?_ _); (focus (first | (left; simp; done) | (left; simp; omega) | (right; simp; done) | (right; simp; omega)))))) (fun b h1 h2 h3 => by omega)) (by omega) (by simp)
  · exact (by repeat (first | with_reducible exact Ext.refl _ | with_reducible assumption | with_reducible refine Ext.alloc ?_ _ | with_reducible refine Ext.drew ?_ | with_reducible refine Ext.drewN ?_ _ | ((with_reducible refine Ext.set ?_ ?_ _); (focus (first | (simp; done) | (simp; omega)))) | with_reducible refine Ext.trans ?_ (by assumption)))
set_option maxHeartbeats 4000000 in
set_option maxRecDepth 100000 in
theorem InsertDataW_yes (nx off : Int) (data : ByteArray) (ao : Option Addr) (n ca : Nat) (cs : List Ck) (w : World) (hx : ReadC w ao cs) (hn : cs.length = n) (hl : n ≤ 1048576) (hw : WfC cs) (hoff : -9223372036854775808 ≤ off ∧ off ≤ 9223372036854775807) (hds : (data.size : Int) ≤ 1048576) (hok : insOk nx cs off data = true) :
    Calls Try.prog 7 #[.agg #[.int .i64 nx, .slice ao n ca], .int .i64 off, .string data] w (NewBufW nx (insS nx cs off data) w) := by
  obtain ⟨hok1, hok2⟩ : isBuf nx cs = true ∧ (0 < data.size ∧ 0 ≤ off ∧ off + (data.size : Int) ≤ 4611686018427387903 ∧ nx < off + (data.size : Int)) := by
    simp only [insOk, Bool.and_eq_true, decide_eq_true_eq] at hok
    exact hok
  obtain ⟨hzz, h0, h1, h2⟩ := hok2
  have he : data.toList.isEmpty = false := by rw [empty_size]; exact decide_eq_false (by omega)
  have wr1 : IntKind.i64.wrap (4611686018427387903 - (data.size : Int)) = 4611686018427387903 - (data.size : Int) := IntWalk.i64_in _ (by omega)
  have wr2 : IntKind.i64.wrap (off + (data.size : Int)) = off + (data.size : Int) := IntWalk.i64_in _ (by omega)
  have d0 : decide (off < 0) = false := decide_eq_false (by omega)
  have d1 : decide (4611686018427387903 - (data.size : Int) < off) = false := decide_eq_false (by omega)
  have hp : max off nx < off + (data.size : Int) := by omega
  have hn' := hide hn
  have hx' := hide hx
  have hw' := hide hw
  have hwb' := hide (isBuf_wb hok1)
  have hok' := hide hok
  obtain ⟨i0, hi0, hz0, hz1, hz2⟩ := info_parts infoChunk
  clear hn hx hw hok
  go_enter Try.func7, Try.ntmps7
  go_wp2_with fail
  refine (IsBuffer_spec nx ao n ca cs _ (hx'.out.ext (by repeat (first | with_reducible exact Ext.refl _ | with_reducible assumption | with_reducible refine Ext.alloc ?_ _ | with_reducible refine Ext.drew ?_ | with_reducible refine Ext.drewN ?_ _ | ((with_reducible refine Ext.set ?_ ?_ _); (focus (first | (simp; done) | (simp; omega)))) | with_reducible refine Ext.trans ?_ (by assumption)))) hn'.out (by omega) hw'.out).mono ?_
  rintro en w1 ⟨rfl, hb1⟩
  rw [hok1]
  have hs1 : w.heap.size + 2 ≤ w1.heap.size := by have := hb1.size; simp at this; omega
  have xw1 : Ext w w1 := (by repeat (first | with_reducible exact Ext.refl _ | with_reducible assumption | with_reducible refine Ext.alloc ?_ _ | with_reducible refine Ext.drew ?_ | with_reducible refine Ext.drewN ?_ _ | ((with_reducible refine Ext.set ?_ ?_ _); (focus (first | (simp; done) | (simp; omega)))) | with_reducible refine Ext.trans ?_ (by assumption)))
  have k1a : w.heap.size < w1.heap.size := by omega
  have k1b : w.heap.size + 1 < w1.heap.size := by omega
  obtain ⟨xb, yb⟩ := hb1.row (k := w.heap.size) (by first | assumption | (simp; done) | (simp; omega) | omega)
  have c30 : w1.cell? ⟨w.heap.size, 0, none⟩ = some (.int .i64 nx) := (by rw [xb]; simp [go_sem])
  have c31 : w1.cell? ⟨w.heap.size, 1, none⟩ = some (.slice ao n ca) := (by rw [xb]; simp [go_sem])
  clear xb yb
  obtain ⟨xb, yb⟩ := hb1.row (k := w.heap.size + 1) (by first | assumption | (simp; done) | (simp; omega) | omega)
  have c60 : w1.cell? ⟨w.heap.size + 1, 0, none⟩ = some (.int .i64 0) := (by rw [xb]; simp [go_sem])
  have c61 : w1.cell? ⟨w.heap.size + 1, 1, none⟩ = some (.slice none 0 0) := (by rw [xb]; simp [go_sem])
  have c6F : ∀ o, w1.frozen? ⟨w.heap.size + 1, o, none⟩ = false := fun o => (by rw [yb]; simp [go_sem])
  clear xb yb hb1
  go_wp2_with fail
  refine (BufferRanges_spec nx ao n ca cs _ (hx'.out.ext (xw1.trans (by repeat (first | with_reducible exact Ext.refl _ | with_reducible assumption | with_reducible refine Ext.alloc ?_ _ | with_reducible refine Ext.drew ?_ | with_reducible refine Ext.drewN ?_ _ | ((with_reducible refine Ext.set ?_ ?_ _); (focus (first | (simp; done) | (simp; omega)))) | with_reducible refine Ext.trans ?_ (by assumption))))) hn'.out hl hw'.out).mono ?_
  rintro en w2 ⟨ao2, cap2, rfl, ho2, hb2⟩
  have hs2 : w1.heap.size + 1 ≤ w2.heap.size := by have := hb2.size; simp at this; omega
  have xw2 : Ext w1 w2 := Ext.trans (by repeat (first | with_reducible exact Ext.refl _ | with_reducible assumption | with_reducible refine Ext.alloc ?_ _ | with_reducible refine Ext.drew ?_ | with_reducible refine Ext.drewN ?_ _ | ((with_reducible refine Ext.set ?_ ?_ _); (focus (first | (simp; done) | (simp; omega)))) | with_reducible refine Ext.trans ?_ (by assumption))) hb2
  have k2a : w.heap.size < w2.heap.size := by omega
  have k2b : w.heap.size + 1 < w2.heap.size := by omega
  have k2c : w1.heap.size < w2.heap.size := by omega
  obtain ⟨xb, yb⟩ := hb2.row (k := w1.heap.size) (by first | assumption | (simp; done) | (simp; omega) | omega)
  have c90 : w2.cell? ⟨w1.heap.size, 0, none⟩ = some (.int .i64 nx) := (by rw [xb]; simp [go_sem])
  have c91 : w2.cell? ⟨w1.heap.size, 1, none⟩ = some (.slice none 0 0) := (by rw [xb]; simp [go_sem])
  have c9F : ∀ o, w2.frozen? ⟨w1.heap.size, o, none⟩ = false := fun o => (by rw [yb]; simp [go_sem])
  clear xb yb
  obtain ⟨xb, yb⟩ := (xw2).row (k := w.heap.size) (by first | assumption | (simp; done) | (simp; omega) | omega)
  replace c30 := (xb 0).trans c30
  replace c31 := (xb 1).trans c31
  clear xb yb
  obtain ⟨xb, yb⟩ := (xw2).row (k := w.heap.size + 1) (by first | assumption | (simp; done) | (simp; omega) | omega)
  replace c60 := (xb 0).trans c60
  replace c61 := (xb 1).trans c61
  replace c6F := fun o => (yb o).trans (c6F o)
  clear xb yb
  clear hb2
  have hR : bufRgs nx cs = ckRgs cs := if_pos hok1
  rw [hR] at ho2 ⊢
  have hrl : (ckRgs cs).length = n := by rw [ckRgs_length, hn'.out]
  have hR' := hide hR
  have hrl' := hide hrl
  clear hR hrl
  go_wp2_with fail
  refine (AddRange_spec (max off nx) (off + (data.size : Int)) ao2 (ckRgs cs).length cap2 (ckRgs cs) _ ho2.read rfl (by rw [hrl'.out]; exact hl)).mono ?_
  rintro en w3 ⟨ao3, cap3, rfl, ho3, hb3⟩
  have hA : addR (ckRgs cs) (max off nx, off + (data.size : Int)) = insR nx cs off data := by
    refine addR_yes (isBuf_rgs hok1) ?_
    simp only [rgFine, Bool.and_eq_true, decide_eq_true_eq]
    omega
  rw [hA] at ho3 ⊢
  clear hA ho2
  obtain ⟨xb, yb⟩ := (hb3).row (k := w.heap.size) (by first | assumption | (simp; done) | (simp; omega) | omega)
  replace c30 := (xb 0).trans c30
  replace c31 := (xb 1).trans c31
  clear xb yb
  obtain ⟨xb, yb⟩ := (hb3).row (k := w.heap.size + 1) (by first | assumption | (simp; done) | (simp; omega) | omega)
  replace c60 := (xb 0).trans c60
  replace c61 := (xb 1).trans c61
  replace c6F := fun o => (yb o).trans (c6F o)
  clear xb yb
  obtain ⟨xb, yb⟩ := (hb3).row (k := w1.heap.size) (by first | assumption | (simp; done) | (simp; omega) | omega)
  replace c90 := (xb 0).trans c90
  replace c91 := (xb 1).trans c91
  replace c9F := fun o => (yb o).trans (c9F o)
  clear xb yb
  have xw3 : Ext w w3 := (xw1.trans xw2).trans hb3
  have hs3 : w2.heap.size ≤ w3.heap.size := hb3.size
  have k3a : w.heap.size < w3.heap.size := by omega
  have k3b : w.heap.size + 1 < w3.heap.size := by omega
  have k3c : w1.heap.size < w3.heap.size := by omega
  have ho3' := hide ho3
  have hcan := insR_can hok1 h0 hp
  have htop := insR_top (nx := nx) (cs := cs) (off := off) (data := data) hok1 h1
  have hlen : (insR nx cs off data).length ≤ n + 1 := by have := addRec_length (ckRgs cs) (max off nx, off + (data.size : Int)); rw [hrl'.out] at this; exact this
  clear ho3 hb3 xw2
  go_wp2_with fail
  go_loopw [11] (fun i wr => ∃ (k : Nat) (ao1 : Option Addr) (ca1 : Nat), i = .int .i64 k ∧ k ≤ (insR nx cs off data).length ∧ wr.cell? ⟨w1.heap.size, 0, none⟩ = some (.int .i64 nx) ∧ wr.cell? ⟨w1.heap.size, 1, none⟩ = some (.slice ao1 k ca1) ∧ (∀ o, wr.frozen? ⟨w1.heap.size, o, none⟩ = false) ∧ Hid (wr.ownsRow w3.heap.size 53 2 (.slice ao1 k ca1) k (ckCells (rgsCk (insB cs off data) ((insR nx cs off data).take k)))) ∧ Chg (fun b => b = w1.heap.size ∨ w3.heap.size ≤ b) w3 wr) (fun i _ => (insR nx cs off data).length - (intOf i).toNat)
  case atStart => exact ⟨0, none, 0, rfl, by omega, c90, c91, c9F, hide (World.ownsRow_nil w3 w3.heap.size 53 2), Chg.refl _ _⟩
  case round =>
    obtain ⟨wo, rfl⟩ : ∃ wo, wo = wr := ⟨_, rfl⟩
    obtain ⟨k, ao1, ca1, rfl, hk, b0, b1, bF, hown, hg⟩ := hrel
    have hgs := hg.size
    have hgx : Chg (fun b => b = w1.heap.size ∨ w3.heap.size ≤ b) w wo := (xw3.chg _).trans hg
    have hxr : Ext w wo := hgx.ext (fun k hk h => by omega)
    obtain ⟨xb, yb⟩ := hg.row (k := w.heap.size) (by omega) (by omega)
    have d30 := (xb 0).trans c30
    have d31 := (xb 1).trans c31
    clear xb yb
    by_cases hlt : k < (insR nx cs off data).length
    · rcases ho3'.out with hnil | ⟨bl, offl, rfl, hbl1, hbl2, _, hxl⟩
      · rw [hnil] at hlt; simp at hlt
      obtain ⟨cx, cx2⟩ := hxl k hlt
      have la : bl < w3.heap.size := hbl2
      have hbl : bl ≠ w1.heap.size := by omega
      obtain ⟨xb, yb⟩ := hg.row (k := bl) la (by omega)
      have dx := (xb _).trans cx
      have dx2 := (xb _).trans cx2
      have i1 : (0 : Int) ≤ (k : Int) := by omega
      have i2 : (k : Int) < ((insR nx cs off data).length : Int) := by omega
      obtain ⟨q1, q2⟩ := can_at hcan hlt
      have q3 := top_at htop hlt
      have hbyte : Hid (∀ a, ((insR nx cs off data).getD k dr).1 ≤ a → a < ((insR nx cs off data).getD k dr).2 → _) := hide (fun a => ins_byte (a := a) hok1 hp hlt)
      have htk := hide (rgsCk_take (insB cs off data) _ hlt)
      have hcl : Hid ((rgsCk (insB cs off data) ((insR nx cs off data).take k)).length = k) := hide (by rw [rgsCk_length, List.length_take]; omega)
      clear xb yb cx cx2 hxl
      obtain ⟨⟨lo, hi⟩, hr0⟩ : ∃ r : Rg, (insR nx cs off data).getD k dr = r := ⟨_, rfl⟩
      rw [hr0] at dx dx2 q1 q2 q3 hbyte htk
      dsimp only at dx dx2 q1 q2 q3 hbyte htk
      clear hr0 hcan htop
      have lw : bl < wo.heap.size := by omega
      go_wp2_with fail
      go_loopw [12, 13] (fun s a wq => ∃ j : Nat, s = .string (bytesOf (insB cs off data) lo j) ∧ a = .int .i64 (lo + (j : Int)) ∧ lo + (j : Int) ≤ hi ∧ Ext wo wq) (fun _ a _ => (hi - intOf a).toNat)
      case atStart => exact ⟨0, rfl, by first | rfl | (congr 1; omega), by omega, Ext.refl _⟩
      case round =>
        obtain ⟨j, rfl, rfl, hj, hgq⟩ := hrel
        obtain ⟨xb, yb⟩ := hgq.row (k := bl) lw
        have ex := (xb _).trans dx
        have ex2 := (xb _).trans dx2
        clear xb yb
        by_cases hjl : lo + (j : Int) < hi
        · obtain ⟨xb, yb⟩ := hgq.row (k := w.heap.size) (by omega)
          have e30 := (xb 0).trans d30
          have e31 := (xb 1).trans d31
          clear xb yb
          have hB := hbyte.out (lo + (j : Int)) (by omega) hjl
          have hbd := bytAt_bd cs (lo + (j : Int))
          have hsucc := hide (bytesOf_succ (insB cs off data) lo j)
          have hsz : (bytesOf (insB cs off data) lo j).size = j := bytesOf_size _ _ _
          have hsz2 : (bytesOf (insB cs off data) lo (j + 1)).size = j + 1 := bytesOf_size _ _ _
          have hkk : ¬ 9223372036854775807 < j + 1 := by omega
          go_wp2_with fail
          refine (ByteAt_spec nx (lo + (j : Int)) ao n ca cs _ (hx'.out.ext (hxr.trans (by repeat (first | with_reducible exact Ext.refl _ | with_reducible assumption | with_reducible refine Ext.alloc ?_ _ | with_reducible refine Ext.drew ?_ | with_reducible refine Ext.drewN ?_ _ | ((with_reducible refine Ext.set ?_ ?_ _); (focus (first | (simp; done) | (simp; omega)))) | with_reducible refine Ext.trans ?_ (by assumption))))) hn'.out hl hwb'.out ⟨by omega, by omega⟩).mono ?_
          rintro en w4 ⟨rfl, hb4⟩
          have hgq4 : Ext wo w4 := hgq.trans hb4
          clear e30 e31 ex ex2
          generalize bytAt cs (lo + (j : Int)) = v at *
          rcases hB with ⟨v0, v1⟩ | ⟨v0, v1, v2, v3⟩
          · rw [← v1] at hsucc
            clear v1
            obtain ⟨v2, v3⟩ := hbd
            have bsz : (byteS v).size = 1 := rfl
            have hss : (bytesOf (insB cs off data) lo j ++ byteS v).size = j + 1 := by rw [hsucc.out]; exact hsz2
            clear hsz2 v2
            go_wp2_with fail
            refine (l2Byte_any v _ v0 v3).mono ?_
            rintro en w5 ⟨rfl, hb5⟩
            go_wp2
            go_roundw
            case rel => exact ⟨j + 1, by rw [hsucc.out], by congr 1; omega, by omega, hgq4.trans hb5⟩
            case measure => simp [intOf]; omega
          · subst v0
            obtain ⟨q, hq⟩ : ∃ q : Nat, lo + (j : Int) - off = (q : Int) := ⟨(lo + (j : Int) - off).toNat, by omega⟩
            have hqs : q < data.size := by omega
            obtain ⟨v, hv⟩ : ∃ v : Int, v = ((insB cs off data (lo + (j : Int))).toNat : Int) := ⟨_, rfl⟩
            have hv0 : 0 ≤ v := by omega
            have hv1 : v ≤ 255 := by have := UInt8.toNat_lt (insB cs off data (lo + (j : Int))); omega
            rw [← hv] at hsucc
            have bsz : (byteS v).size = 1 := rfl
            have hss : (bytesOf (insB cs off data) lo j ++ byteS v).size = j + 1 := by rw [hsucc.out]; exact hsz2
            have hby : IntKind.i64.wrap ((data[q]'hqs).toNat : Int) = v := by
              rw [IntWalk.i64_in _ (by have := UInt8.toNat_lt (data[q]'hqs); omega), hv, v3, hq, Int.toNat_natCast]
              have e : q < data.data.size := hqs
              simp [Array.getD_eq_getD_getElem?, Array.getElem?_eq_getElem e]
              rfl
            have j0 : (0 : Int) ≤ (q : Int) := by omega
            have j1 : (q : Int) < (data.size : Int) := by omega
            clear hv v3 hsz2 hbd
            go_wp2_with fail
            refine (l2Byte_any v _ hv0 hv1).mono ?_
            rintro en w5 ⟨rfl, hb5⟩
            go_wp2
            go_roundw
            case rel => exact ⟨j + 1, by rw [hsucc.out], by congr 1; omega, by omega, hgq4.trans hb5⟩
            case measure => simp [intOf]; omega
        · have hje : (hi - lo).toNat = j := by omega
          rw [hje] at htk
          clear hje hbyte
          obtain ⟨xb, yb⟩ := hgq.row (k := w1.heap.size) (by omega)
          have f0 := (xb 0).trans b0
          have f1 := (xb 1).trans b1
          have fF := fun o => (yb o).trans (bF o)
          clear xb yb d30 d31 dx dx2 b0 b1 bF
          have hownq := hide (ownR_ext hown.out hgq)
          have hgq3 : Chg (fun b => b = w1.heap.size ∨ w3.heap.size ≤ b) w3 wr := hg.trans (hgq.chg _)
          have hqsz := hgq.size
          generalize bytesOf (insB cs off data) lo j = s at *
          have fF1 := fF 1
          have lwq : bl < wr.heap.size := by omega
          have l9q : w1.heap.size < wr.heap.size := by omega
          go_wp2_with fail
          go_region_law ((refine step_append_lies _ (by rfl) _ _ _ (by rfl) w3.heap.size 53 i0 _ 2 24 Try.underlying24 hi0 hz0 hz1 hz2 rfl (by omega) (.slice ao1 k ca1) k _ (by rfl) (((hownq.out).alloc (.cells #[.int .i64 lo, .string s] 53))) ⟨wr.heap.size, 0, none⟩ 1 1 [.int .i64 lo, .string s] (by rfl) (by rfl) (World.news_of_block (cs := #[.int .i64 lo, .string s]) (t := 53) (fr := (0, 0)) (heap_alloc_new wr _)) (by simp [Value.oneCell']) (by omega) (by simp [maxLen] <;> omega) (by omega) (by simp; omega) (wr.heap.size + 1) (by simp) ?_; intro gg cap w6 hown6 hgrow hat hlt6; have hch : Chg (fun b => w3.heap.size ≤ b) wr w6 := Chg.trans (Ext.chg (by repeat (first | with_reducible exact Ext.refl _ | with_reducible assumption | with_reducible refine Ext.alloc ?_ _ | with_reducible refine Ext.drew ?_ | with_reducible refine Ext.drewN ?_ _ | ((with_reducible refine Ext.set ?_ ?_ _); (focus (first | (simp; done) | (simp; omega)))) | with_reducible refine Ext.trans ?_ (by assumption))) _) (grown_chg hgrow (fun k hk => (hownq.out.lt _ hk).1)); obtain ⟨xb, yb⟩ := hch.row (k := w1.heap.size) l9q (by omega); have s1 := (xb 1).trans f1; have s0 := (xb 0).trans f0; have sF := fun o => (yb o).trans (fF o); clear xb yb; obtain ⟨xb, yb⟩ := hch.row (k := bl) lwq (by omega); have s2 := (xb _).trans ex; have sF1 := sF 1; clear xb yb hgrow hat))
          all_goals
            rw [ckCells_app2, ← htk.out] at hown6
            have hset : Chg (fun b => b = w1.heap.size) w6 (w6.setCell ⟨w1.heap.size, 1, none⟩ (.slice (some ⟨gg, 0, none⟩) (k + 1) cap)) := Chg.set (S := fun b => b = w1.heap.size) (p := ⟨w1.heap.size, 1, none⟩) (Or.inl rfl) (Chg.refl _ _) _
            have r0 : (w6.setCell ⟨w1.heap.size, 1, none⟩ (.slice (some ⟨gg, 0, none⟩) (k + 1) cap)).cell? ⟨w1.heap.size, 0, none⟩ = some (.int .i64 nx) := (World.cell?_setCell_other w6 ⟨w1.heap.size, 1, none⟩ ⟨w1.heap.size, 0, none⟩ _ (fun e => by injection e; omega)).trans s0
            have r1 : (w6.setCell ⟨w1.heap.size, 1, none⟩ (.slice (some ⟨gg, 0, none⟩) (k + 1) cap)).cell? ⟨w1.heap.size, 1, none⟩ = some (.slice (some ⟨gg, 0, none⟩) (k + 1) cap) := by rw [World.cell?_setCell_same' _ _ _ (by rw [s1]; rfl)]
            have rF : ∀ o, (w6.setCell ⟨w1.heap.size, 1, none⟩ (.slice (some ⟨gg, 0, none⟩) (k + 1) cap)).frozen? ⟨w1.heap.size, o, none⟩ = false := fun o => by rw [World.frozen?_setCell]; exact sF o
            have hown7 := hide (ownR_chg hown6 hset (fun b h => by (try dsimp only); omega))
            have hg7 : Chg (fun b => b = w1.heap.size ∨ w3.heap.size ≤ b) w3 (w6.setCell ⟨w1.heap.size, 1, none⟩ (.slice (some ⟨gg, 0, none⟩) (k + 1) cap)) := (hgq3.trans (hch.mono (fun b _ h => Or.inr h))).trans (hset.mono (fun b _ h => Or.inl h))
            clear hown6 s0 s1 s2 sF sF1 hset
            go_wp2
            go_roundw
            case rel => exact ⟨k + 1, _, cap, by go_num, by omega, r0, r1, rF, hown7, hg7⟩
            case measure => simp [intOf]; omega
    · obtain rfl : k = (insR nx cs off data).length := by omega
      have hall : Hid ((insS nx cs off data) = rgsCk (insB cs off data) ((insR nx cs off data).take (insR nx cs off data).length)) := hide (by rw [List.take_length]; rfl)
      have hcl : (rgsCk (insB cs off data) ((insR nx cs off data).take (insR nx cs off data).length)).length = (insR nx cs off data).length := by rw [rgsCk_length, List.length_take]; omega
      obtain ⟨xb, yb⟩ := hg.row (k := w.heap.size + 1) (by omega) (by omega)
      have d60 := (xb 0).trans c60
      have d61 := (xb 1).trans c61
      have d6F := fun o => (yb o).trans (c6F o)
      have k6b : w.heap.size + 1 < wo.heap.size := by omega
      have hcl' := hide hcl
      clear xb yb hcl
      go_wp2
      obtain ⟨aoC, capC, e1, e2, ho⟩ := own_chunksW hown.out
      rw [hcl'.out] at e1
      refine bodyPost_ret (v := .agg #[.int .i64 nx, .slice ao1 (insR nx cs off data).length ca1]) (by simp [results, Try.results7, go_sem, *]) rfl ?_
      rw [hall.out]
      refine ⟨ao1, ca1, by rw [hcl'.out], ?_, ?_⟩
      · obtain ⟨rfl, rfl⟩ : ao1 = aoC ∧ ca1 = capC := by simpa using e1
        refine OwnCW.mono (OwnCW.chg (S := fun b => b = w.heap.size + 1) ho (by repeat (first | with_reducible exact Chg.refl _ _ | with_reducible assumption | with_reducible refine Chg.alloc ?_ _ | with_reducible refine Chg.drew ?_ | with_reducible refine Chg.drewN ?_ _ | ((with_reducible refine Chg.set ?_ ?_ _); (focus (first | (left; simp; done) | (left; simp; omega) | (right; simp; done) | (right; simp; omega)))))) (fun b h1 h2 h3 => by omega)) (by omega) (by simp)
      · exact (by repeat (first | with_reducible exact Ext.refl _ | with_reducible assumption | with_reducible refine Ext.alloc ?_ _ | with_reducible refine Ext.drew ?_ | with_reducible refine Ext.drewN ?_ _ | ((with_reducible refine Ext.set ?_ ?_ _); (focus (first | (simp; done) | (simp; omega)))) | with_reducible refine Ext.trans ?_ (by assumption)))
set_option maxHeartbeats 4000000 in
set_option maxRecDepth 100000 in
theorem InsertDataW (nx off : Int) (data : ByteArray) (ao : Option Addr) (n ca : Nat) (cs : List Ck) (w : World) (hx : ReadC w ao cs) (hn : cs.length = n) (hl : n ≤ 1048576) (hw : WfC cs) (hoff : -9223372036854775808 ≤ off ∧ off ≤ 9223372036854775807) (hds : (data.size : Int) ≤ 1048576) :
    Calls Try.prog 7 #[.agg #[.int .i64 nx, .slice ao n ca], .int .i64 off, .string data] w (NewBufW nx (insC nx cs off data) w) := by
  rcases Bool.eq_false_or_eq_true (isBuf nx cs) with hi | hi
  · -- yes
    rcases Bool.eq_false_or_eq_true (data.toList.isEmpty) with he | he
    · -- yes
      have hz0 : data.size = 0 := by rw [empty_size] at he; exact of_decide_eq_true he
      have hC : insC nx cs off data = cs := by rw [insC, if_neg (by simp [insOk, hz0])]
      rw [hC]
      clear hC
      clear hz0
      have hn' := hide hn
      have hx' := hide hx
      have hw' := hide hw
      clear hn hx hw
      go_enter Try.func7, Try.ntmps7
      go_wp2_with fail
      refine (IsBuffer_spec nx ao n ca cs _ (hx'.out.ext (by repeat (first | with_reducible exact Ext.refl _ | with_reducible assumption | with_reducible refine Ext.alloc ?_ _ | with_reducible refine Ext.drew ?_ | with_reducible refine Ext.drewN ?_ _ | ((with_reducible refine Ext.set ?_ ?_ _); (focus (first | (simp; done) | (simp; omega)))) | with_reducible refine Ext.trans ?_ (by assumption)))) hn'.out (by omega) hw'.out).mono ?_
      rintro en w1 ⟨rfl, hb1⟩
      rw [hi]
      have k1_0 := hb1.more (k := w.heap.size) (by first | assumption | (simp; done) | (simp; omega) | omega)
      obtain ⟨c1_0, f1_0⟩ := hb1.row (k := w.heap.size) (by first | assumption | (simp; done) | (simp; omega) | omega)
      have k1_1 := hb1.more (k := w.heap.size + 1) (by first | assumption | (simp; done) | (simp; omega) | omega)
      obtain ⟨c1_1, f1_1⟩ := hb1.row (k := w.heap.size + 1) (by first | assumption | (simp; done) | (simp; omega) | omega)
      go_wp2_with fail
      refine (l6CopyW nx ao n ca cs _ (hx'.out.ext (by repeat (first | with_reducible exact Ext.refl _ | with_reducible assumption | with_reducible refine Ext.alloc ?_ _ | with_reducible refine Ext.drew ?_ | with_reducible refine Ext.drewN ?_ _ | ((with_reducible refine Ext.set ?_ ?_ _); (focus (first | (simp; done) | (simp; omega)))) | with_reducible refine Ext.trans ?_ (by assumption)))) hn'.out hl).mono ?_
      rintro en w2 ⟨ao2, cap2, rfl, ho2, hb2⟩
      have k2_0 := hb2.more (k := w.heap.size) (by first | assumption | (simp; done) | (simp; omega) | omega)
      obtain ⟨c2_0, f2_0⟩ := hb2.row (k := w.heap.size) (by first | assumption | (simp; done) | (simp; omega) | omega)
      have k2_1 := hb2.more (k := w.heap.size + 1) (by first | assumption | (simp; done) | (simp; omega) | omega)
      obtain ⟨c2_1, f2_1⟩ := hb2.row (k := w.heap.size + 1) (by first | assumption | (simp; done) | (simp; omega) | omega)
      go_wp2
      refine bodyPost_ret (v := .agg #[.int .i64 nx, .slice ao2 cs.length cap2]) (by simp [results, Try.results7, go_sem, *]) rfl ⟨ao2, cap2, rfl, ?_, ?_⟩
      · refine OwnCW.mono (OwnCW.chg (S := fun k => k < w1.heap.size) ho2 (by repeat (first | with_reducible exact Chg.refl _ _ | with_reducible assumption | with_reducible refine Chg.alloc ?_ _ | with_reducible refine Chg.drew ?_ | ((with_reducible refine Chg.set ?_ ?_ _); (focus (first | (left; simp; done) | (left; simp; omega) | (left; omega)))))) (fun b h1 h2 h3 => by omega)) (by omega) (by simp)
      · exact (by repeat (first | with_reducible exact Ext.refl _ | with_reducible assumption | with_reducible refine Ext.alloc ?_ _ | with_reducible refine Ext.drew ?_ | with_reducible refine Ext.drewN ?_ _ | ((with_reducible refine Ext.set ?_ ?_ _); (focus (first | (simp; done) | (simp; omega)))) | with_reducible refine Ext.trans ?_ (by assumption)))
    · -- no
      by_cases h0 : off < 0
      · -- yes
        have hz0 : 0 < data.size := by rw [empty_size] at he; have := of_decide_eq_false he; omega
        have hC : insC nx cs off data = cs := by rw [insC, if_neg (by simp [insOk]; omega)]
        rw [hC]
        clear hC
        clear hz0
        have hn' := hide hn
        have hx' := hide hx
        have hw' := hide hw
        clear hn hx hw
        go_enter Try.func7, Try.ntmps7
        go_wp2_with fail
        refine (IsBuffer_spec nx ao n ca cs _ (hx'.out.ext (by repeat (first | with_reducible exact Ext.refl _ | with_reducible assumption | with_reducible refine Ext.alloc ?_ _ | with_reducible refine Ext.drew ?_ | with_reducible refine Ext.drewN ?_ _ | ((with_reducible refine Ext.set ?_ ?_ _); (focus (first | (simp; done) | (simp; omega)))) | with_reducible refine Ext.trans ?_ (by assumption)))) hn'.out (by omega) hw'.out).mono ?_
        rintro en w1 ⟨rfl, hb1⟩
        rw [hi]
        have k1_0 := hb1.more (k := w.heap.size) (by first | assumption | (simp; done) | (simp; omega) | omega)
        obtain ⟨c1_0, f1_0⟩ := hb1.row (k := w.heap.size) (by first | assumption | (simp; done) | (simp; omega) | omega)
        have k1_1 := hb1.more (k := w.heap.size + 1) (by first | assumption | (simp; done) | (simp; omega) | omega)
        obtain ⟨c1_1, f1_1⟩ := hb1.row (k := w.heap.size + 1) (by first | assumption | (simp; done) | (simp; omega) | omega)
        go_wp2_with fail
        refine (l6CopyW nx ao n ca cs _ (hx'.out.ext (by repeat (first | with_reducible exact Ext.refl _ | with_reducible assumption | with_reducible refine Ext.alloc ?_ _ | with_reducible refine Ext.drew ?_ | with_reducible refine Ext.drewN ?_ _ | ((with_reducible refine Ext.set ?_ ?_ _); (focus (first | (simp; done) | (simp; omega)))) | with_reducible refine Ext.trans ?_ (by assumption)))) hn'.out hl).mono ?_
        rintro en w2 ⟨ao2, cap2, rfl, ho2, hb2⟩
        have k2_0 := hb2.more (k := w.heap.size) (by first | assumption | (simp; done) | (simp; omega) | omega)
        obtain ⟨c2_0, f2_0⟩ := hb2.row (k := w.heap.size) (by first | assumption | (simp; done) | (simp; omega) | omega)
        have k2_1 := hb2.more (k := w.heap.size + 1) (by first | assumption | (simp; done) | (simp; omega) | omega)
        obtain ⟨c2_1, f2_1⟩ := hb2.row (k := w.heap.size + 1) (by first | assumption | (simp; done) | (simp; omega) | omega)
        go_wp2
        refine bodyPost_ret (v := .agg #[.int .i64 nx, .slice ao2 cs.length cap2]) (by simp [results, Try.results7, go_sem, *]) rfl ⟨ao2, cap2, rfl, ?_, ?_⟩
        · refine OwnCW.mono (OwnCW.chg (S := fun k => k < w1.heap.size) ho2 (by repeat (first | with_reducible exact Chg.refl _ _ | with_reducible assumption | with_reducible refine Chg.alloc ?_ _ | with_reducible refine Chg.drew ?_ | ((with_reducible refine Chg.set ?_ ?_ _); (focus (first | (left; simp; done) | (left; simp; omega) | (left; omega)))))) (fun b h1 h2 h3 => by omega)) (by omega) (by simp)
        · exact (by repeat (first | with_reducible exact Ext.refl _ | with_reducible assumption | with_reducible refine Ext.alloc ?_ _ | with_reducible refine Ext.drew ?_ | with_reducible refine Ext.drewN ?_ _ | ((with_reducible refine Ext.set ?_ ?_ _); (focus (first | (simp; done) | (simp; omega)))) | with_reducible refine Ext.trans ?_ (by assumption)))
      · -- no
        have h0x : ¬ (off < 0) := h0
        have h0d : decide (off < 0) = false := decide_eq_false h0x
        replace h0 : 0 ≤ off := by omega
        by_cases h1 : 4611686018427387903 - (data.size : Int) < off
        · -- yes
          have hz0 : 0 < data.size := by rw [empty_size] at he; have := of_decide_eq_false he; omega
          have wr1 : IntKind.i64.wrap (4611686018427387903 - (data.size : Int)) = 4611686018427387903 - (data.size : Int) := IntWalk.i64_in _ (by omega)
          have hC : insC nx cs off data = cs := by rw [insC, if_neg (by simp [insOk]; omega)]
          rw [hC]
          clear hC
          clear hz0
          have hn' := hide hn
          have hx' := hide hx
          have hw' := hide hw
          clear hn hx hw
          go_enter Try.func7, Try.ntmps7
          go_wp2_with fail
          refine (IsBuffer_spec nx ao n ca cs _ (hx'.out.ext (by repeat (first | with_reducible exact Ext.refl _ | with_reducible assumption | with_reducible refine Ext.alloc ?_ _ | with_reducible refine Ext.drew ?_ | with_reducible refine Ext.drewN ?_ _ | ((with_reducible refine Ext.set ?_ ?_ _); (focus (first | (simp; done) | (simp; omega)))) | with_reducible refine Ext.trans ?_ (by assumption)))) hn'.out (by omega) hw'.out).mono ?_
          rintro en w1 ⟨rfl, hb1⟩
          rw [hi]
          have k1_0 := hb1.more (k := w.heap.size) (by first | assumption | (simp; done) | (simp; omega) | omega)
          obtain ⟨c1_0, f1_0⟩ := hb1.row (k := w.heap.size) (by first | assumption | (simp; done) | (simp; omega) | omega)
          have k1_1 := hb1.more (k := w.heap.size + 1) (by first | assumption | (simp; done) | (simp; omega) | omega)
          obtain ⟨c1_1, f1_1⟩ := hb1.row (k := w.heap.size + 1) (by first | assumption | (simp; done) | (simp; omega) | omega)
          go_wp2_with fail
          refine (l6CopyW nx ao n ca cs _ (hx'.out.ext (by repeat (first | with_reducible exact Ext.refl _ | with_reducible assumption | with_reducible refine Ext.alloc ?_ _ | with_reducible refine Ext.drew ?_ | with_reducible refine Ext.drewN ?_ _ | ((with_reducible refine Ext.set ?_ ?_ _); (focus (first | (simp; done) | (simp; omega)))) | with_reducible refine Ext.trans ?_ (by assumption)))) hn'.out hl).mono ?_
          rintro en w2 ⟨ao2, cap2, rfl, ho2, hb2⟩
          have k2_0 := hb2.more (k := w.heap.size) (by first | assumption | (simp; done) | (simp; omega) | omega)
          obtain ⟨c2_0, f2_0⟩ := hb2.row (k := w.heap.size) (by first | assumption | (simp; done) | (simp; omega) | omega)
          have k2_1 := hb2.more (k := w.heap.size + 1) (by first | assumption | (simp; done) | (simp; omega) | omega)
          obtain ⟨c2_1, f2_1⟩ := hb2.row (k := w.heap.size + 1) (by first | assumption | (simp; done) | (simp; omega) | omega)
          go_wp2
          refine bodyPost_ret (v := .agg #[.int .i64 nx, .slice ao2 cs.length cap2]) (by simp [results, Try.results7, go_sem, *]) rfl ⟨ao2, cap2, rfl, ?_, ?_⟩
          · refine OwnCW.mono (OwnCW.chg (S := fun k => k < w1.heap.size) ho2 (by repeat (first | with_reducible exact Chg.refl _ _ | with_reducible assumption | with_reducible refine Chg.alloc ?_ _ | with_reducible refine Chg.drew ?_ | ((with_reducible refine Chg.set ?_ ?_ _); (focus (first | (left; simp; done) | (left; simp; omega) | (left; omega)))))) (fun b h1 h2 h3 => by omega)) (by omega) (by simp)
          · exact (by repeat (first | with_reducible exact Ext.refl _ | with_reducible assumption | with_reducible refine Ext.alloc ?_ _ | with_reducible refine Ext.drew ?_ | with_reducible refine Ext.drewN ?_ _ | ((with_reducible refine Ext.set ?_ ?_ _); (focus (first | (simp; done) | (simp; omega)))) | with_reducible refine Ext.trans ?_ (by assumption)))
        · -- no
          have h1x : ¬ (4611686018427387903 - (data.size : Int) < off) := h1
          have h1d : decide (4611686018427387903 - (data.size : Int) < off) = false := decide_eq_false h1x
          replace h1 : off ≤ 4611686018427387903 - (data.size : Int) := by omega
          by_cases h2 : off + (data.size : Int) ≤ nx
          · -- yes
            have hz0 : 0 < data.size := by rw [empty_size] at he; have := of_decide_eq_false he; omega
            have wr1 : IntKind.i64.wrap (4611686018427387903 - (data.size : Int)) = 4611686018427387903 - (data.size : Int) := IntWalk.i64_in _ (by omega)
            have wr2 : IntKind.i64.wrap (off + (data.size : Int)) = off + (data.size : Int) := IntWalk.i64_in _ (by omega)
            have hC : insC nx cs off data = cs := by rw [insC, if_neg (by simp [insOk]; omega)]
            rw [hC]
            clear hC
            clear hz0
            have hge : decide (off + (data.size : Int) ≤ max off nx) = true := decide_eq_true (by omega)
            have hn' := hide hn
            have hx' := hide hx
            have hw' := hide hw
            clear hn hx hw
            go_enter Try.func7, Try.ntmps7
            go_wp2_with fail
            refine (IsBuffer_spec nx ao n ca cs _ (hx'.out.ext (by repeat (first | with_reducible exact Ext.refl _ | with_reducible assumption | with_reducible refine Ext.alloc ?_ _ | with_reducible refine Ext.drew ?_ | with_reducible refine Ext.drewN ?_ _ | ((with_reducible refine Ext.set ?_ ?_ _); (focus (first | (simp; done) | (simp; omega)))) | with_reducible refine Ext.trans ?_ (by assumption)))) hn'.out (by omega) hw'.out).mono ?_
            rintro en w1 ⟨rfl, hb1⟩
            rw [hi]
            have k1_0 := hb1.more (k := w.heap.size) (by first | assumption | (simp; done) | (simp; omega) | omega)
            obtain ⟨c1_0, f1_0⟩ := hb1.row (k := w.heap.size) (by first | assumption | (simp; done) | (simp; omega) | omega)
            have k1_1 := hb1.more (k := w.heap.size + 1) (by first | assumption | (simp; done) | (simp; omega) | omega)
            obtain ⟨c1_1, f1_1⟩ := hb1.row (k := w.heap.size + 1) (by first | assumption | (simp; done) | (simp; omega) | omega)
            go_wp2_with fail
            refine (l6CopyW nx ao n ca cs _ (hx'.out.ext (by repeat (first | with_reducible exact Ext.refl _ | with_reducible assumption | with_reducible refine Ext.alloc ?_ _ | with_reducible refine Ext.drew ?_ | with_reducible refine Ext.drewN ?_ _ | ((with_reducible refine Ext.set ?_ ?_ _); (focus (first | (simp; done) | (simp; omega)))) | with_reducible refine Ext.trans ?_ (by assumption)))) hn'.out hl).mono ?_
            rintro en w2 ⟨ao2, cap2, rfl, ho2, hb2⟩
            have k2_0 := hb2.more (k := w.heap.size) (by first | assumption | (simp; done) | (simp; omega) | omega)
            obtain ⟨c2_0, f2_0⟩ := hb2.row (k := w.heap.size) (by first | assumption | (simp; done) | (simp; omega) | omega)
            have k2_1 := hb2.more (k := w.heap.size + 1) (by first | assumption | (simp; done) | (simp; omega) | omega)
            obtain ⟨c2_1, f2_1⟩ := hb2.row (k := w.heap.size + 1) (by first | assumption | (simp; done) | (simp; omega) | omega)
            go_wp2
            refine bodyPost_ret (v := .agg #[.int .i64 nx, .slice ao2 cs.length cap2]) (by simp [results, Try.results7, go_sem, *]) rfl ⟨ao2, cap2, rfl, ?_, ?_⟩
            · refine OwnCW.mono (OwnCW.chg (S := fun k => k < w1.heap.size) ho2 (by repeat (first | with_reducible exact Chg.refl _ _ | with_reducible assumption | with_reducible refine Chg.alloc ?_ _ | with_reducible refine Chg.drew ?_ | ((with_reducible refine Chg.set ?_ ?_ _); (focus (first | (left; simp; done) | (left; simp; omega) | (left; omega)))))) (fun b h1 h2 h3 => by omega)) (by omega) (by simp)
            · exact (by repeat (first | with_reducible exact Ext.refl _ | with_reducible assumption | with_reducible refine Ext.alloc ?_ _ | with_reducible refine Ext.drew ?_ | with_reducible refine Ext.drewN ?_ _ | ((with_reducible refine Ext.set ?_ ?_ _); (focus (first | (simp; done) | (simp; omega)))) | with_reducible refine Ext.trans ?_ (by assumption)))
          · -- no
            have h2x : ¬ (off + (data.size : Int) ≤ nx) := h2
            have h2d : decide (off + (data.size : Int) ≤ nx) = false := decide_eq_false h2x
            replace h2 : nx < off + (data.size : Int) := by omega
            have hz0 : 0 < data.size := by rw [empty_size] at he; have := of_decide_eq_false he; omega
            have wr1 : IntKind.i64.wrap (4611686018427387903 - (data.size : Int)) = 4611686018427387903 - (data.size : Int) := IntWalk.i64_in _ (by omega)
            have wr2 : IntKind.i64.wrap (off + (data.size : Int)) = off + (data.size : Int) := IntWalk.i64_in _ (by omega)
            have hok : insOk nx cs off data = true := by
              simp only [insOk, hi, Bool.true_and, Bool.and_eq_true, decide_eq_true_eq]
              omega
            have hC : insC nx cs off data = insS nx cs off data := by
              rw [insC, if_pos hok]
              exact ins_same (isBuf_canon hi) (by omega)
            rw [hC]
            exact InsertDataW_yes nx off data ao n ca cs w hx hn hl hw hoff hds hok
  · -- no
    have hC : insC nx cs off data = cs := by rw [insC, if_neg (by simp [insOk, hi])]
    rw [hC]
    clear hC
    have hn' := hide hn
    have hx' := hide hx
    have hw' := hide hw
    clear hn hx hw
    go_enter Try.func7, Try.ntmps7
    go_wp2_with fail
    refine (IsBuffer_spec nx ao n ca cs _ (hx'.out.ext (by repeat (first | with_reducible exact Ext.refl _ | with_reducible assumption | with_reducible refine Ext.alloc ?_ _ | with_reducible refine Ext.drew ?_ | with_reducible refine Ext.drewN ?_ _ | ((with_reducible refine Ext.set ?_ ?_ _); (focus (first | (simp; done) | (simp; omega)))) | with_reducible refine Ext.trans ?_ (by assumption)))) hn'.out (by omega) hw'.out).mono ?_
    rintro en w1 ⟨rfl, hb1⟩
    rw [hi]
    have k1_0 := hb1.more (k := w.heap.size) (by first | assumption | (simp; done) | (simp; omega) | omega)
    obtain ⟨c1_0, f1_0⟩ := hb1.row (k := w.heap.size) (by first | assumption | (simp; done) | (simp; omega) | omega)
    have k1_1 := hb1.more (k := w.heap.size + 1) (by first | assumption | (simp; done) | (simp; omega) | omega)
    obtain ⟨c1_1, f1_1⟩ := hb1.row (k := w.heap.size + 1) (by first | assumption | (simp; done) | (simp; omega) | omega)
    go_wp2_with fail
    refine (l6CopyW nx ao n ca cs _ (hx'.out.ext (by repeat (first | with_reducible exact Ext.refl _ | with_reducible assumption | with_reducible refine Ext.alloc ?_ _ | with_reducible refine Ext.drew ?_ | with_reducible refine Ext.drewN ?_ _ | ((with_reducible refine Ext.set ?_ ?_ _); (focus (first | (simp; done) | (simp; omega)))) | with_reducible refine Ext.trans ?_ (by assumption)))) hn'.out hl).mono ?_
    rintro en w2 ⟨ao2, cap2, rfl, ho2, hb2⟩
    have k2_0 := hb2.more (k := w.heap.size) (by first | assumption | (simp; done) | (simp; omega) | omega)
    obtain ⟨c2_0, f2_0⟩ := hb2.row (k := w.heap.size) (by first | assumption | (simp; done) | (simp; omega) | omega)
    have k2_1 := hb2.more (k := w.heap.size + 1) (by first | assumption | (simp; done) | (simp; omega) | omega)
    obtain ⟨c2_1, f2_1⟩ := hb2.row (k := w.heap.size + 1) (by first | assumption | (simp; done) | (simp; omega) | omega)
    go_wp2
    refine bodyPost_ret (v := .agg #[.int .i64 nx, .slice ao2 cs.length cap2]) (by simp [results, Try.results7, go_sem, *]) rfl ⟨ao2, cap2, rfl, ?_, ?_⟩
    · refine OwnCW.mono (OwnCW.chg (S := fun k => k < w1.heap.size) ho2 (by repeat (first | with_reducible exact Chg.refl _ _ | with_reducible assumption | with_reducible refine Chg.alloc ?_ _ | with_reducible refine Chg.drew ?_ | ((with_reducible refine Chg.set ?_ ?_ _); (focus (first | (left; simp; done) | (left; simp; omega) | (left; omega)))))) (fun b h1 h2 h3 => by omega)) (by omega) (by simp)
    · exact (by repeat (first | with_reducible exact Ext.refl _ | with_reducible assumption | with_reducible refine Ext.alloc ?_ _ | with_reducible refine Ext.drew ?_ | with_reducible refine Ext.drewN ?_ _ | ((with_reducible refine Ext.set ?_ ?_ _); (focus (first | (simp; done) | (simp; omega)))) | with_reducible refine Ext.trans ?_ (by assumption)))
set_option maxHeartbeats 4000000 in
set_option maxRecDepth 100000 in
theorem TakeBytesW_none (nx most : Int) (ao : Option Addr) (n ca : Nat) (cs : List Ck) (w : World) (hx : ReadC w ao cs) (hn : cs.length = n) (hl : n ≤ 1048576) (hw : WfC cs) (q : Int) (hq : q = min (readyB nx cs) (max most 0)) (hk : q = 0) :
    Calls Try.prog 44 #[.agg #[.int .i64 nx, .slice ao n ca], .int .i64 most] w (TakeW ⟨#[]⟩ nx cs w) := by
  have q0 : (q == 0) = true := beq_iff_eq.2 hk
  have hbd := readyB_bd nx cs
  have hn' := hide hn
  have hx' := hide hx
  have hw' := hide hw
  have hq' := hide hq
  have hk' := hide hk
  clear hn hx hw hq hk
  go_enter Try.func44, Try.ntmps44
  go_upto_region 1 with fail
  go_cut [6] (fun v wx => v = .int .i64 q ∧ Ext ((w.alloc (.cells #[.int .i64 nx, .slice ao n ca] 26)).alloc (.cells #[.int .i64 0, .slice none 0 0] 26)) wx)
  case first =>
    go_wp2_with fail
    refine (ReadyBytes_spec nx ao n ca cs _ (hx'.out.ext (by repeat (first | with_reducible exact Ext.refl _ | with_reducible assumption | with_reducible refine Ext.alloc ?_ _ | with_reducible refine Ext.drew ?_ | with_reducible refine Ext.drewN ?_ _ | ((with_reducible refine Ext.set ?_ ?_ _); (focus (first | (simp; done) | (simp; omega)))) | with_reducible refine Ext.trans ?_ (by assumption)))) hn'.out (by omega) hw'.out).mono ?_
    rintro en wo ⟨rfl, hwo⟩
    have hhq := hq'.out
    generalize readyB nx cs = rb at *
    go_wp2
    all_goals (go_meet; exact ⟨by (first | (congr 1; omega) | (simp; omega)), hwo⟩)
  case rest =>
    obtain ⟨rfl, hwx⟩ := hcut
    have xwc : Ext w wc := Ext.trans (by repeat (first | with_reducible exact Ext.refl _ | with_reducible assumption | with_reducible refine Ext.alloc ?_ _ | with_reducible refine Ext.drew ?_ | with_reducible refine Ext.drewN ?_ _ | ((with_reducible refine Ext.set ?_ ?_ _); (focus (first | (simp; done) | (simp; omega)))) | with_reducible refine Ext.trans ?_ (by assumption))) hwx
    obtain ⟨x0, y0⟩ := hwx.row (k := w.heap.size) (by first | assumption | (simp; done) | (simp; omega) | omega)
    obtain ⟨x1, y1⟩ := hwx.row (k := w.heap.size + 1) (by first | assumption | (simp; done) | (simp; omega) | omega)
    have hs0 : w.heap.size + 2 ≤ wc.heap.size := by have := hwx.size; simpa using this
    go_wp2_with fail
    refine (l6CopyW nx ao n ca cs _ (hx'.out.ext (by repeat (first | with_reducible exact Ext.refl _ | with_reducible assumption | with_reducible refine Ext.alloc ?_ _ | with_reducible refine Ext.drew ?_ | ((with_reducible refine Ext.set ?_ ?_ _); (focus (first | (simp; done) | (simp; omega) | omega))) | with_reducible refine Ext.trans ?_ xwc | with_reducible refine Ext.trans ?_ hwx))) hn'.out hl).mono ?_
    rintro en w1 ⟨ao1, cap1, rfl, ho1, hb⟩
    have hcap := ho1.cap
    have ho9 := hide ho1
    have ho2 := ho1.own
    have hs1 : wc.heap.size ≤ w1.heap.size := hb.size
    obtain ⟨c0, f0⟩ := hb.row (k := w.heap.size) (by first | assumption | (simp; done) | (simp; omega) | omega)
    obtain ⟨c1, f1⟩ := hb.row (k := w.heap.size + 1) (by first | assumption | (simp; done) | (simp; omega) | omega)
    have g0 : w1.cell? ⟨w.heap.size + 1, 0, none⟩ = some (.int .i64 0) := (by rw [c1, x1]; simp [go_sem])
    have g1 : w1.cell? ⟨w.heap.size + 1, 1, none⟩ = some (.slice none 0 0) := (by rw [c1, x1]; simp [go_sem])
    have gF : ∀ o, w1.frozen? ⟨w.heap.size + 1, o, none⟩ = false := fun o => (by rw [f1, y1]; simp [go_sem])
    have hk1 : w.heap.size + 1 < w1.heap.size := by omega
    have hB0 : w1.heap.size ≠ w.heap.size + 1 := by omega
    clear c0 f0 c1 f1 x0 y0 x1 y1 ho1
    go_wp2_with fail
    go_region
    go_wp2
    refine bodyPost_ret (v := .tuple #[.string ⟨#[]⟩, .agg #[.int .i64 nx, .slice ao1 cs.length cap1]]) (by simp [results, Try.results44, go_sem, *]) rfl ⟨ao1, cap1, rfl, ?_, ?_⟩
    · refine OwnCW.mono (OwnCW.chg (S := fun k => k < wc.heap.size ∨ w1.heap.size ≤ k) (ho9.out) (by repeat (first | with_reducible exact Chg.refl _ _ | with_reducible assumption | with_reducible refine Chg.alloc ?_ _ | with_reducible refine Chg.drew ?_ | with_reducible refine Chg.drewN ?_ _ | ((with_reducible refine Chg.set ?_ ?_ _); (focus (first | (left; simp; done) | (left; simp; omega) | (right; simp; done) | (right; simp; omega)))))) (fun b h1 h2 h3 => by omega)) (by omega) (by first | omega | (simp; done) | (simp; omega))
    · exact (by repeat (first | with_reducible exact Ext.refl _ | with_reducible assumption | with_reducible refine Ext.alloc ?_ _ | with_reducible refine Ext.drew ?_ | with_reducible refine Ext.drewN ?_ _ | ((with_reducible refine Ext.set ?_ ?_ _); (focus (first | (simp; done) | (simp; omega)))) | with_reducible refine Ext.trans ?_ (by assumption)))
set_option maxHeartbeats 4000000 in
set_option maxRecDepth 100000 in
theorem TakeBytesW_all (nx most : Int) (ao : Option Addr) (n ca : Nat) (cs : List Ck) (w : World) (hx : ReadC w ao cs) (hn : cs.length = n) (hl : n ≤ 1048576) (hw : WfC cs) (q : Int) (hq : q = min (readyB nx cs) (max most 0)) (hk : q = ((cs.getD 0 dk).2.size : Int)) (hk0 : 0 < q) :
    Calls Try.prog 44 #[.agg #[.int .i64 nx, .slice ao n ca], .int .i64 most] w (TakeW (cs.getD 0 dk).2 (nx + q) cs.tail w) := by
  obtain ⟨r1, r2, r3, r4⟩ := readyB_pos (nx := nx) (cs := cs) (by omega)
  have hn0 : 0 < n := by omega
  have q0 : (q == 0) = false := beq_eq_false_iff_ne.2 (by omega)
  have hbd := readyB_bd nx cs
  have hwr : IntKind.i64.wrap (nx + q) = nx + q := IntWalk.i64_in _ (by omega)
  have q1 : (q == ((cs.getD 0 dk).2.size : Int)) = true := beq_iff_eq.2 hk
  have hn' := hide hn
  have hx' := hide hx
  have hw' := hide hw
  have hq' := hide hq
  have hk' := hide hk
  clear hn hx hw hq hk
  have r3' := hide r3
  have r4' := hide r4
  clear r3 r4
  have q3 : q ≤ ((cs.getD 0 dk).2.size : Int) := by have := hk'.out; omega
  generalize hc : cs.getD 0 dk = c at *
  replace hc := hide hc
  obtain ⟨o, s⟩ := c
  dsimp only at q1 q3 hk'
  go_enter Try.func44, Try.ntmps44
  go_upto_region 1 with fail
  go_cut [6] (fun v wx => v = .int .i64 q ∧ Ext ((w.alloc (.cells #[.int .i64 nx, .slice ao n ca] 26)).alloc (.cells #[.int .i64 0, .slice none 0 0] 26)) wx)
  case first =>
    go_wp2_with fail
    refine (ReadyBytes_spec nx ao n ca cs _ (hx'.out.ext (by repeat (first | with_reducible exact Ext.refl _ | with_reducible assumption | with_reducible refine Ext.alloc ?_ _ | with_reducible refine Ext.drew ?_ | with_reducible refine Ext.drewN ?_ _ | ((with_reducible refine Ext.set ?_ ?_ _); (focus (first | (simp; done) | (simp; omega)))) | with_reducible refine Ext.trans ?_ (by assumption)))) hn'.out (by omega) hw'.out).mono ?_
    rintro en wo ⟨rfl, hwo⟩
    have hhq := hq'.out
    generalize readyB nx cs = rb at *
    go_wp2
    all_goals (go_meet; exact ⟨by (first | (congr 1; omega) | (simp; omega)), hwo⟩)
  case rest =>
    obtain ⟨rfl, hwx⟩ := hcut
    have xwc : Ext w wc := Ext.trans (by repeat (first | with_reducible exact Ext.refl _ | with_reducible assumption | with_reducible refine Ext.alloc ?_ _ | with_reducible refine Ext.drew ?_ | with_reducible refine Ext.drewN ?_ _ | ((with_reducible refine Ext.set ?_ ?_ _); (focus (first | (simp; done) | (simp; omega)))) | with_reducible refine Ext.trans ?_ (by assumption))) hwx
    obtain ⟨x0, y0⟩ := hwx.row (k := w.heap.size) (by first | assumption | (simp; done) | (simp; omega) | omega)
    obtain ⟨x1, y1⟩ := hwx.row (k := w.heap.size + 1) (by first | assumption | (simp; done) | (simp; omega) | omega)
    have hs0 : w.heap.size + 2 ≤ wc.heap.size := by have := hwx.size; simpa using this
    go_wp2_with fail
    refine (l6CopyW nx ao n ca cs _ (hx'.out.ext (by repeat (first | with_reducible exact Ext.refl _ | with_reducible assumption | with_reducible refine Ext.alloc ?_ _ | with_reducible refine Ext.drew ?_ | ((with_reducible refine Ext.set ?_ ?_ _); (focus (first | (simp; done) | (simp; omega) | omega))) | with_reducible refine Ext.trans ?_ xwc | with_reducible refine Ext.trans ?_ hwx))) hn'.out hl).mono ?_
    rintro en w1 ⟨ao1, cap1, rfl, ho1, hb⟩
    have hcap := ho1.cap
    have ho9 := hide ho1
    have ho2 := ho1.own
    have hs1 : wc.heap.size ≤ w1.heap.size := hb.size
    obtain ⟨c0, f0⟩ := hb.row (k := w.heap.size) (by first | assumption | (simp; done) | (simp; omega) | omega)
    obtain ⟨c1, f1⟩ := hb.row (k := w.heap.size + 1) (by first | assumption | (simp; done) | (simp; omega) | omega)
    have g0 : w1.cell? ⟨w.heap.size + 1, 0, none⟩ = some (.int .i64 0) := (by rw [c1, x1]; simp [go_sem])
    have g1 : w1.cell? ⟨w.heap.size + 1, 1, none⟩ = some (.slice none 0 0) := (by rw [c1, x1]; simp [go_sem])
    have gF : ∀ o, w1.frozen? ⟨w.heap.size + 1, o, none⟩ = false := fun o => (by rw [f1, y1]; simp [go_sem])
    have hk1 : w.heap.size + 1 < w1.heap.size := by omega
    have hB0 : w1.heap.size ≠ w.heap.size + 1 := by omega
    clear c0 f0 c1 f1 x0 y0 x1 y1 ho1
    obtain ⟨ba, off, rfl⟩ := own_someC ho2 (by have := hn'.out; omega)
    obtain ⟨e0, e1, k1, k2, kF⟩ := own_atC ho2 (j := 0) (by have := hn'.out; omega)
    rw [hc.out] at e0 e1
    simp only [Nat.zero_mul, Nat.add_zero] at e0 e1
    have hb0 : ba ≠ w1.heap.size := by omega
    have hb1 : ba ≠ w.heap.size + 1 := by omega
    have q2 : (0 : Int) ≤ q := by omega
    have n1 : (0 : Int) < (cs.length : Int) := by have := hn'.out; omega
    have n2 : (1 : Int) ≤ (cs.length : Int) := by omega
    try dsimp only at e0 e1
    generalize hN : cs.length = N at *
    replace hN := hide hN
    by_cases hc1 : cap1 = 1
    · subst hc1
      obtain rfl : N = 1 := by have := hN.out; omega
      have hnil : cs.tail = [] := List.eq_nil_of_length_eq_zero (by rw [List.length_tail, hN.out])
      go_wp2_with fail
      refine (l6CopyW (nx + q) (some ⟨ba, off, none⟩) 0 0 [] _ (Or.inl rfl) rfl (by omega)).mono ?_
      rintro en w2 ⟨ao2, cap2, rfl, ho3, hb2⟩
      have hs2 := hb2.size
      obtain ⟨c1, f1⟩ := hb2.row (k := w.heap.size + 1) (by simp; omega)
      have hk2 : w.heap.size + 1 < w2.heap.size := by simp at hs2; omega
      go_wp2
      refine bodyPost_ret (v := .tuple #[.string s, .agg #[.int .i64 (nx + q), .slice ao2 0 cap2]]) (by simp [results, Try.results44, go_sem, *]) rfl ⟨ao2, cap2, by rw [hnil]; rfl, ?_, ?_⟩
      · rw [hnil]
        refine OwnCW.mono (OwnCW.chg (S := fun k => k = w.heap.size + 1) ho3 (by repeat (first | with_reducible exact Chg.refl _ _ | with_reducible assumption | with_reducible refine Chg.alloc ?_ _ | with_reducible refine Chg.drew ?_ | with_reducible refine Chg.drewN ?_ _ | ((with_reducible refine Chg.set ?_ ?_ _); (focus (first | (left; simp; done) | (left; simp; omega) | (right; simp; done) | (right; simp; omega)))))) (fun b h1 h2 h3 => by simp at h1; omega)) (by simp; omega) (by simp)
      · skip
        exact Ext.set (by simp) (Ext.set (by simp) (Ext.trans (by repeat (first | with_reducible exact Ext.refl _ | with_reducible assumption | with_reducible refine Ext.alloc ?_ _ | with_reducible refine Ext.drew ?_ | ((with_reducible refine Ext.set ?_ ?_ _); (focus (first | (simp; done) | (simp; omega) | omega))) | with_reducible refine Ext.trans ?_ hb | with_reducible refine Ext.trans ?_ hwx)) hb2) _) _
    · have hrd := hide (own_tailC ho2)
      go_wp2_with fail
      refine (l6CopyW (nx + q) (some ⟨ba, off + 2, none⟩) (N - 1) (cap1 - 1) cs.tail _ (OwnC.read (OwnC.chg (S := fun k => k < wc.heap.size ∨ w1.heap.size ≤ k) hrd.out (by repeat (first | with_reducible exact Chg.refl _ _ | with_reducible assumption | with_reducible refine Chg.alloc ?_ _ | with_reducible refine Chg.drew ?_ | with_reducible refine Chg.drewN ?_ _ | ((with_reducible refine Chg.set ?_ ?_ _); (focus (first | (left; simp; done) | (left; simp; omega) | (right; simp; done) | (right; simp; omega)))))) (fun b h1 h2 h3 => by omega))) (by rw [List.length_tail, hN.out]) (by have := hn'.out; omega)).mono ?_
      rintro en w2 ⟨ao2, cap2, rfl, ho3, hb2⟩
      have hs2 := hb2.size
      obtain ⟨c1, f1⟩ := hb2.row (k := w.heap.size + 1) (by simp; omega)
      have hk2 : w.heap.size + 1 < w2.heap.size := by simp at hs2; omega
      go_wp2
      refine bodyPost_ret (v := .tuple #[.string s, .agg #[.int .i64 (nx + q), .slice ao2 cs.tail.length cap2]]) (by simp [results, Try.results44, go_sem, *]) rfl ⟨_, _, rfl, ?_, ?_⟩
      · refine OwnCW.mono (OwnCW.chg (S := fun k => k = w.heap.size + 1) ho3 (by repeat (first | with_reducible exact Chg.refl _ _ | with_reducible assumption | with_reducible refine Chg.alloc ?_ _ | with_reducible refine Chg.drew ?_ | with_reducible refine Chg.drewN ?_ _ | ((with_reducible refine Chg.set ?_ ?_ _); (focus (first | (left; simp; done) | (left; simp; omega) | (right; simp; done) | (right; simp; omega)))))) (fun b h1 h2 h3 => by simp at h1; omega)) (by simp; omega) (by simp)
      · exact Ext.set (by simp) (Ext.set (by simp) (Ext.trans (by repeat (first | with_reducible exact Ext.refl _ | with_reducible assumption | with_reducible refine Ext.alloc ?_ _ | with_reducible refine Ext.drew ?_ | ((with_reducible refine Ext.set ?_ ?_ _); (focus (first | (simp; done) | (simp; omega) | omega))) | with_reducible refine Ext.trans ?_ hb | with_reducible refine Ext.trans ?_ hwx)) hb2) _) _
set_option maxHeartbeats 4000000 in
set_option maxRecDepth 100000 in
theorem TakeBytesW_part (nx most : Int) (ao : Option Addr) (n ca : Nat) (cs : List Ck) (w : World) (hx : ReadC w ao cs) (hn : cs.length = n) (hl : n ≤ 1048576) (hw : WfC cs) (q : Int) (hq : q = min (readyB nx cs) (max most 0)) (hk : q < ((cs.getD 0 dk).2.size : Int)) (hk0 : 0 < q) :
    Calls Try.prog 44 #[.agg #[.int .i64 nx, .slice ao n ca], .int .i64 most] w (TakeW ((cs.getD 0 dk).2.extract 0 q.toNat) (nx + q) ((nx + q, (cs.getD 0 dk).2.extract q.toNat (cs.getD 0 dk).2.size) :: cs.tail) w) := by
  obtain ⟨r1, r2, r3, r4⟩ := readyB_pos (nx := nx) (cs := cs) (by omega)
  have hn0 : 0 < n := by omega
  have q0 : (q == 0) = false := beq_eq_false_iff_ne.2 (by omega)
  have hbd := readyB_bd nx cs
  have hwr : IntKind.i64.wrap (nx + q) = nx + q := IntWalk.i64_in _ (by omega)
  have q1 : (q == ((cs.getD 0 dk).2.size : Int)) = false := beq_eq_false_iff_ne.2 (by omega)
  have hn' := hide hn
  have hx' := hide hx
  have hw' := hide hw
  have hq' := hide hq
  have hk' := hide hk
  clear hn hx hw hq hk
  have r3' := hide r3
  have r4' := hide r4
  clear r3 r4
  have q3 : q ≤ ((cs.getD 0 dk).2.size : Int) := by have := hk'.out; omega
  generalize hc : cs.getD 0 dk = c at *
  replace hc := hide hc
  obtain ⟨o, s⟩ := c
  dsimp only at q1 q3 hk'
  go_enter Try.func44, Try.ntmps44
  go_upto_region 1 with fail
  go_cut [6] (fun v wx => v = .int .i64 q ∧ Ext ((w.alloc (.cells #[.int .i64 nx, .slice ao n ca] 26)).alloc (.cells #[.int .i64 0, .slice none 0 0] 26)) wx)
  case first =>
    go_wp2_with fail
    refine (ReadyBytes_spec nx ao n ca cs _ (hx'.out.ext (by repeat (first | with_reducible exact Ext.refl _ | with_reducible assumption | with_reducible refine Ext.alloc ?_ _ | with_reducible refine Ext.drew ?_ | with_reducible refine Ext.drewN ?_ _ | ((with_reducible refine Ext.set ?_ ?_ _); (focus (first | (simp; done) | (simp; omega)))) | with_reducible refine Ext.trans ?_ (by assumption)))) hn'.out (by omega) hw'.out).mono ?_
    rintro en wo ⟨rfl, hwo⟩
    have hhq := hq'.out
    generalize readyB nx cs = rb at *
    go_wp2
    all_goals (go_meet; exact ⟨by (first | (congr 1; omega) | (simp; omega)), hwo⟩)
  case rest =>
    obtain ⟨rfl, hwx⟩ := hcut
    have xwc : Ext w wc := Ext.trans (by repeat (first | with_reducible exact Ext.refl _ | with_reducible assumption | with_reducible refine Ext.alloc ?_ _ | with_reducible refine Ext.drew ?_ | with_reducible refine Ext.drewN ?_ _ | ((with_reducible refine Ext.set ?_ ?_ _); (focus (first | (simp; done) | (simp; omega)))) | with_reducible refine Ext.trans ?_ (by assumption))) hwx
    obtain ⟨x0, y0⟩ := hwx.row (k := w.heap.size) (by first | assumption | (simp; done) | (simp; omega) | omega)
    obtain ⟨x1, y1⟩ := hwx.row (k := w.heap.size + 1) (by first | assumption | (simp; done) | (simp; omega) | omega)
    have hs0 : w.heap.size + 2 ≤ wc.heap.size := by have := hwx.size; simpa using this
    go_wp2_with fail
    refine (l6CopyW nx ao n ca cs _ (hx'.out.ext (by repeat (first | with_reducible exact Ext.refl _ | with_reducible assumption | with_reducible refine Ext.alloc ?_ _ | with_reducible refine Ext.drew ?_ | ((with_reducible refine Ext.set ?_ ?_ _); (focus (first | (simp; done) | (simp; omega) | omega))) | with_reducible refine Ext.trans ?_ xwc | with_reducible refine Ext.trans ?_ hwx))) hn'.out hl).mono ?_
    rintro en w1 ⟨ao1, cap1, rfl, ho1, hb⟩
    have hcap := ho1.cap
    have ho9 := hide ho1
    have ho2 := ho1.own
    have hs1 : wc.heap.size ≤ w1.heap.size := hb.size
    obtain ⟨c0, f0⟩ := hb.row (k := w.heap.size) (by first | assumption | (simp; done) | (simp; omega) | omega)
    obtain ⟨c1, f1⟩ := hb.row (k := w.heap.size + 1) (by first | assumption | (simp; done) | (simp; omega) | omega)
    have g0 : w1.cell? ⟨w.heap.size + 1, 0, none⟩ = some (.int .i64 0) := (by rw [c1, x1]; simp [go_sem])
    have g1 : w1.cell? ⟨w.heap.size + 1, 1, none⟩ = some (.slice none 0 0) := (by rw [c1, x1]; simp [go_sem])
    have gF : ∀ o, w1.frozen? ⟨w.heap.size + 1, o, none⟩ = false := fun o => (by rw [f1, y1]; simp [go_sem])
    have hk1 : w.heap.size + 1 < w1.heap.size := by omega
    have hB0 : w1.heap.size ≠ w.heap.size + 1 := by omega
    clear c0 f0 c1 f1 x0 y0 x1 y1 ho1
    obtain ⟨ba, off, rfl⟩ := own_someC ho2 (by have := hn'.out; omega)
    obtain ⟨e0, e1, k1, k2, kF⟩ := own_atC ho2 (j := 0) (by have := hn'.out; omega)
    rw [hc.out] at e0 e1
    simp only [Nat.zero_mul, Nat.add_zero] at e0 e1
    have hb0 : ba ≠ w1.heap.size := by omega
    have hb1 : ba ≠ w.heap.size + 1 := by omega
    have q2 : (0 : Int) ≤ q := by omega
    have n1 : (0 : Int) < (cs.length : Int) := by have := hn'.out; omega
    have n2 : (1 : Int) ≤ (cs.length : Int) := by omega
    try dsimp only at e0 e1
    generalize hN : cs.length = N at *
    replace hN := hide hN
    have ho4 := hide (own_headW ho9.out (by have := hN.out; omega) (nx + q) (s.extract q.toNat s.size))
    clear ho2 ho9
    go_wp2_with fail
    go_region
    go_wp2_with fail
    go_region
    go_wp2
    refine bodyPost_ret (v := .tuple #[.string (s.extract 0 q.toNat), .agg #[.int .i64 (nx + q), .slice (some ⟨ba, off, none⟩) N cap1]]) (by simp [results, Try.results44, go_sem, *]) rfl ⟨_, _, by rw [List.length_cons, List.length_tail, hN.out, Nat.sub_add_cancel (by omega)], ?_, ?_⟩
    · refine OwnCW.mono (OwnCW.chg (S := fun k => k < wc.heap.size ∨ w1.heap.size ≤ k) (ho4.out) (by repeat (first | with_reducible exact Chg.refl _ _ | with_reducible assumption | with_reducible refine Chg.alloc ?_ _ | with_reducible refine Chg.drew ?_ | with_reducible refine Chg.drewN ?_ _ | ((with_reducible refine Chg.set ?_ ?_ _); (focus (first | (left; simp; done) | (left; simp; omega) | (right; simp; done) | (right; simp; omega)))))) (fun b h1 h2 h3 => by omega)) (by omega) (by first | omega | (simp; done) | (simp; omega))
    · exact (by repeat (first | with_reducible exact Ext.refl _ | with_reducible assumption | with_reducible refine Ext.alloc ?_ _ | with_reducible refine Ext.drew ?_ | with_reducible refine Ext.drewN ?_ _ | ((with_reducible refine Ext.set ?_ ?_ _); (focus (first | (simp; done) | (simp; omega)))) | with_reducible refine Ext.trans ?_ (by assumption)))

theorem TakeBytesW (nx most : Int) (ao : Option Addr) (n ca : Nat) (cs : List Ck) (w : World) (hx : ReadC w ao cs) (hn : cs.length = n) (hl : n ≤ 1048576) (hw : WfC cs) :
    Calls Try.prog 44 #[.agg #[.int .i64 nx, .slice ao n ca], .int .i64 most] w (TakeW (takeS nx most cs) (takeX nx most cs) (takeC nx most cs) w) :=
  take_cases (P := fun a b c => Calls Try.prog 44 #[.agg #[.int .i64 nx, .slice ao n ca], .int .i64 most] w (TakeW a b c w)) (fun h => TakeBytesW_none nx most ao n ca cs w hx hn hl hw _ rfl h)
    (fun h h0 => TakeBytesW_all nx most ao n ca cs w hx hn hl hw _ rfl h h0) (fun h h0 => TakeBytesW_part nx most ao n ca cs w hx hn hl hw _ rfl h h0)
end Go.Proofs.Ytjnbiacnhimkgaa

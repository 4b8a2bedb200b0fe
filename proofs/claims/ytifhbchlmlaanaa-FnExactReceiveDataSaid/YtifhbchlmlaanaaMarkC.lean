/-
  Contracts of the laws' helpers that mark chunks and look whether the marks stand. Conditions: the chunks can be read (written).
-/
import Derived.Test.YtifhbchlmlaanaaRecv
import Derived.Test.YtifhbchlmlaanaaMark
import Derived.Test.YtifhbchlmlaanaaSteady
namespace Go.Proofs.Ytifhbchlmlaanaa
open Go.ChangeShapes Go.WideShapes Go.ChangeAt Go.RowKit
set_option linter.unusedSimpArgs false
set_option linter.unusedVariables false
/-- The marks of n chunks, from number k on. -/
def marksC (k : Int) (n : Nat) : List Ck := (List.range n).map fun (j : Nat) => (k + 2 * (j : Int), mtext (k + 2 * (j : Int) + 1))
theorem marksC_length (k : Int) (n : Nat) : (marksC k n).length = n := by simp [marksC]
theorem marksC_getD (k : Int) (n j : Nat) (h : j < n) : (marksC k n).getD j dk = (k + 2 * (j : Int), mtext (k + 2 * (j : Int) + 1)) := by
  simp [marksC, List.getD, h]
/-- What marking leaves. -/
def MarkedC (lo hi : Nat) (ao : Option Addr) (k0 : Int) (n : Nat) (w : World) (e : Ending) (w' : World) : Prop :=
  e = .returned (.int .i64 (k0 + 2 * (n : Int))) ∧ OwnC lo hi w' ao (marksC k0 n) ∧ Chg (fun b => lo ≤ b ∧ b < hi) w w'
set_option maxHeartbeats 2000000 in
theorem chunkS_mark (lo hi : Nat) (ao : Option Addr) (n cap : Nat) (cs : List Ck) (k0 : Int) (w : World) (hx : OwnC lo hi w ao cs) (hn : cs.length = n) (hl : n ≤ 1048576) (h0 : 0 < k0) (h1 : k0 ≤ 1048576) :
    Calls Try.prog 101 #[.slice ao n cap, .int .i64 k0] w (MarkedC lo hi ao k0 n w) := by
  have hl' : (n : Int) ≤ 1048576 := by omega
  clear hl
  rcases Nat.eq_zero_or_pos n with rfl | hpos
  · clear hx hn
    go_enter Try.func101, Try.ntmps101
    go_wp2
    go_loop [1, 5] (fun q i => i = .int .i64 0 ∧ q = .int .i64 k0) (fun _ _ => 0)
    case atStart => exact ⟨rfl, rfl⟩
    case round =>
      obtain ⟨rfl, rfl⟩ := hrel
      go_wp2
      go_ret
      exact ⟨by simp, Or.inl (by simp [marksC]), Chg.refl _ _⟩
  · rcases hx with rfl | ⟨b, off, rfl, hlo, hhi, hf, hx⟩
    · simp at hn; omega
    rw [hn] at hx
    have hbw := World.block_lt_of_cell? w _ (hx 0 hpos).1
    clear hn
    have hx' := hide hx
    clear hx
    go_enter Try.func101, Try.ntmps101
    go_wp2
    go_loopw [1, 5] (fun q i wr => ∃ k : Nat, i = .int .i64 k ∧ k ≤ n ∧ q = .int .i64 (k0 + 2 * (k : Int)) ∧ (∀ o, wr.frozen? ⟨b, o, none⟩ = false) ∧ Hid (∀ j : Nat, j < n → wr.cell? ⟨b, off + j * 2, none⟩ = some (.int .i64 (if j < k then k0 + 2 * (j : Int) else (cs.getD j dk).1)) ∧ wr.cell? ⟨b, off + j * 2 + 1, none⟩ = some (.string (if j < k then mtext (k0 + 2 * (j : Int) + 1) else (cs.getD j dk).2))) ∧ Chg (fun b' => b' = b) w wr) (fun _ i _ => n - (intOf i).toNat)
    case atStart => exact ⟨0, rfl, by omega, by simp, hf, hide (fun j hj => by rw [if_neg (by omega), if_neg (by omega)]; exact hx'.out j hj), Chg.refl _ _⟩
    case round =>
      obtain ⟨k, rfl, hk, rfl, hfr, hcells, hg⟩ := hrel
      have hsz := hg.size
      by_cases hlt : k < n
      · obtain ⟨cx, cy⟩ := hcells.out k hlt
        have i1 : (0 : Int) ≤ (k : Int) := by omega
        have i2 : (k : Int) < (n : Int) := by omega
        rw [if_neg (by omega)] at cx cy
        have hfb : wr.frozen? ⟨b, off + k * 2 + 1, none⟩ = false := hfr _
        go_wp2_with fail
        refine (markText_any _ _ (by omega) (by omega)).mono ?_
        rintro en w1 ⟨rfl, hb⟩
        have kb := hb.more (k := b) (by simp [World.setCell]; omega)
        obtain ⟨cb, fb⟩ := hb.row (k := b) (by simp [World.setCell]; omega)
        have cy' : w1.cell? ⟨b, off + k * 2 + 1, none⟩ = some (.string (cs.getD k dk).2) := by
          rw [cb, cellC_other (by omega)]; exact cy
        have cx' : w1.cell? ⟨b, off + k * 2, none⟩ = some (.int .i64 (k0 + 2 * (k : Int))) := by
          rw [cb, World.cell?_setCell_same' _ _ _ (by rw [cx]; rfl)]
        have hf1 : ∀ o, w1.frozen? ⟨b, o, none⟩ = false := fun o => by rw [fb, World.frozen?_setCell]; exact hfr o
        have hf1' := hf1 (off + k * 2 + 1)
        have hoth : Hid (∀ o, o ≠ off + k * 2 → w1.cell? ⟨b, o, none⟩ = wr.cell? ⟨b, o, none⟩) := hide fun o ho => by rw [cb, cellC_other (Ne.symm ho)]
        have hgw : Chg (fun b' => b' = b) w w1 := (Chg.set (S := fun b' => b' = b) (p := ⟨b, off + k * 2, none⟩) (Or.inl rfl) hg _).trans (hb.chg _)
        clear cx cy cb fb hfr hfb
        go_wp2
        go_roundw
        case rel =>
          refine ⟨k + 1, by go_num, by omega, by congr 1; omega, fun o => ?_, hide (fun j hj => ?_), Chg.set (S := fun b' => b' = b) (Or.inl rfl) hgw _⟩
          · rw [World.frozen?_setCell]; exact hf1 o
          · by_cases hjk : j = k
            · subst hjk
              rw [World.cell?_setCell_same' _ _ _ (by rw [cy']; rfl), cellC_other (by omega), cx', if_pos (by omega), if_pos (by omega)]
              exact ⟨rfl, rfl⟩
            · rw [cellC_other (by omega), cellC_other (by omega), hoth.out _ (by omega), hoth.out _ (by omega), (hcells.out j hj).1, (hcells.out j hj).2]
              refine ⟨?_, ?_⟩
              · congr 3
                exact propext ⟨fun h => by omega, fun h => by omega⟩
              · congr 3
                exact propext ⟨fun h => by omega, fun h => by omega⟩
        case measure => simp [intOf]; omega
      · obtain rfl : k = n := by omega
        go_wp2
        go_ret
        refine ⟨rfl, Or.inr ⟨b, off, rfl, hlo, hhi, hfr, fun j hj => ?_⟩, hg.mono fun k _ h => by subst h; exact ⟨hlo, hhi⟩⟩
        rw [marksC_length] at hj
        rw [marksC_getD _ _ _ hj]
        have := hcells.out j hj
        rw [if_pos hj, if_pos hj] at this
        exact this
set_option maxHeartbeats 2000000 in
theorem chunkS_held (ao : Option Addr) (n cap : Nat) (k0 : Int) (w : World) (hx : ReadC w ao (marksC k0 n)) (hl : n ≤ 1048576) (h0 : 0 < k0) (h1 : k0 ≤ 1048576) :
    Calls Try.prog 102 #[.slice ao n cap, .int .i64 k0] w fun e w' => e = .returned (.int .i64 (k0 + 2 * (n : Int))) ∧ Ext w w' := by
  have hl' : (n : Int) ≤ 1048576 := by omega
  clear hl
  rcases Nat.eq_zero_or_pos n with rfl | hpos
  · clear hx
    go_enter Try.func102, Try.ntmps102
    go_wp2
    go_loop [1, 5] (fun q i => i = .int .i64 0 ∧ q = .int .i64 k0) (fun _ _ => 0)
    case atStart => exact ⟨rfl, rfl⟩
    case round =>
      obtain ⟨rfl, rfl⟩ := hrel
      go_wp2
      go_ret
      exact ⟨by simp, Ext.refl _⟩
  · rcases hx with hx | ⟨b, off, rfl, hx⟩
    · have := congrArg List.length hx
      rw [marksC_length] at this
      simp at this; omega
    rw [marksC_length] at hx
    have hbw := World.block_lt_of_cell? w _ (hx 0 hpos).1
    have hx' := hide hx
    clear hx
    go_enter Try.func102, Try.ntmps102
    go_wp2
    go_loopw [1, 5] (fun q i wr => ∃ k : Nat, i = .int .i64 k ∧ k ≤ n ∧ q = .int .i64 (k0 + 2 * (k : Int)) ∧ Ext w wr) (fun _ i _ => n - (intOf i).toNat)
    case atStart => exact ⟨0, rfl, by omega, by simp, Ext.refl _⟩
    case round =>
      obtain ⟨k, rfl, hk, rfl, hg⟩ := hrel
      have hsz := hg.size
      by_cases hlt : k < n
      · obtain ⟨cx0, cy0⟩ := hx'.out k hlt
        rw [marksC_getD _ _ _ hlt] at cx0 cy0
        obtain ⟨cb, fb⟩ := hg.row (k := b) (by omega)
        have cx : wr.cell? ⟨b, off + k * 2, none⟩ = some (.int .i64 (k0 + 2 * (k : Int))) := by rw [cb]; exact cx0
        have cy : wr.cell? ⟨b, off + k * 2 + 1, none⟩ = some (.string (mtext (k0 + 2 * (k : Int) + 1))) := by rw [cb]; exact cy0
        have i1 : (0 : Int) ≤ (k : Int) := by omega
        have i2 : (k : Int) < (n : Int) := by omega
        have te : ((mtext (k0 + 2 * (k : Int) + 1)).toList == (mtext (k0 + 2 * (k : Int) + 1)).toList) = true := by rw [text_eq]; simp
        clear cx0 cy0 cb fb
        go_wp2_with fail
        refine wp_region_seq (Ext _) (by kernel_rfl) (by kernel_rfl) ((Ext.refl _).drew) ?_
        iterate 8 (((first | (refine wpSeqS_plain (v := ?_) rfl (by rfl) ?_ ?_; rotate_left; (focus (intro ws hws; obtain ⟨q0, p0⟩ := hws.row (k := b) (by first | assumption | (simp; done) | (simp; omega) | omega); go_simp; (try with_reducible rfl); done))) | (refine wpSeqS_call (v := ?_) 115 ?_ rfl (by rfl) ?_ ?_ ?_; rotate_left; rotate_left; (focus (intro ws hws; skip; go_simp; (try with_reducible rfl); done)); (focus (intro ws hws; refine (markText_any (k0 + 2 * (k : Int) + 1) ws (by omega) (by omega)).mono ?_; rintro e w' ⟨rfl, h2⟩; refine ⟨?_, hws.trans h2⟩; (try simp only [*]); (try with_reducible rfl); done))) | fail)); (try simp only [Act.put, List.getElem_toArray, List.getElem_cons_zero, List.getElem_cons_succ, List.setIfInBounds_toArray, List.set_cons_zero, List.set_cons_succ]))
        refine wpSeqS_done (by kernel_rfl) (fun ws hws => ?_)
        go_wp2
        go_roundw
        case rel => exact ⟨k + 1, by go_num, by omega, by congr 1; omega, hg.trans hws⟩
        case measure => simp [intOf]; omega
      · obtain rfl : k = n := by omega
        go_wp2
        go_ret
        exact ⟨rfl, hg⟩
set_option maxHeartbeats 1000000 in
theorem buffer_mark (lo hi : Nat) (nx : Int) (ao : Option Addr) (n cap : Nat) (cs : List Ck) (k0 : Int) (w : World) (hx : OwnC lo hi w ao cs) (hn : cs.length = n) (hl : n ≤ 1048576) (h0 : 0 < k0) (h1 : k0 ≤ 1048576) :
    Calls Try.prog 66 #[(.agg #[.int .i64 nx, .slice ao n cap]), .int .i64 k0] w (MarkedC lo hi ao k0 n w) := by
  have hn' := hide hn
  have hx' := hide hx
  clear hn hx
  go_enter Try.func66, Try.ntmps66
  go_wp2_with fail
  refine (chunkS_mark lo hi  ao n cap cs k0 _ (hx'.out.chg (((Ext.refl w).alloc _).chg (fun _ => False)) (fun _ _ _ h => h)) hn'.out hl h0 h1).mono ?_
  rintro en w1 ⟨rfl, ho, hg⟩
  go_wp2
  go_ret
  exact ⟨rfl, ho, (((Ext.refl w).alloc _).chg _).trans hg⟩
theorem buffer_held (nx : Int) (ao : Option Addr) (n cap : Nat) (k0 : Int) (w : World) (hx : ReadC w ao (marksC k0 n)) (hl : n ≤ 1048576) (h0 : 0 < k0) (h1 : k0 ≤ 1048576) :
    Calls Try.prog 67 #[(.agg #[.int .i64 nx, .slice ao n cap]), .int .i64 k0] w fun e w' => e = .returned (.int .i64 (k0 + 2 * (n : Int))) ∧ Ext w w' := by
  have h2 : decide (k0 + 2 * (n : Int) < 0) = false := by simp; omega
  have hx' := hide hx
  clear hx
  go_enter Try.func67, Try.ntmps67
  go_wp2_with fail
  refine (chunkS_held  ao n cap k0 _ (hx'.out.ext ((Ext.refl w).alloc _)) hl h0 h1).mono ?_
  rintro en w1 ⟨rfl, hb⟩
  go_wp2
  go_ret
  exact ⟨rfl, (by repeat (first | with_reducible exact Ext.refl _ | with_reducible assumption | with_reducible refine Ext.alloc ?_ _ | with_reducible refine Ext.drew ?_ | with_reducible refine Ext.drewN ?_ _ | ((with_reducible refine Ext.set ?_ ?_ _); (focus (first | (simp; done) | (simp; omega)))) | with_reducible refine Ext.trans ?_ (by assumption)))⟩
set_option maxHeartbeats 1000000 in
theorem receiver_mark (lo hi : Nat) (st nx fi hg co : Int) (ao : Option Addr) (n cap : Nat) (cs : List Ck) (k0 : Int) (w : World) (hx : OwnC lo hi w ao cs) (hn : cs.length = n) (hl : n ≤ 1048576) (h0 : 0 < k0) (h1 : k0 ≤ 1048576) :
    Calls Try.prog 18 #[(.agg #[.int .i64 st, .int .i64 nx, .slice ao n cap, .int .i64 fi, .int .i64 hg, .int .i64 co]), .int .i64 k0] w (MarkedC lo hi ao k0 n w) := by
  have hn' := hide hn
  have hx' := hide hx
  clear hn hx
  go_enter Try.func18, Try.ntmps18
  go_wp2_with fail
  refine (buffer_mark lo hi nx ao n cap cs k0 _ (hx'.out.chg (((Ext.refl w).alloc _).chg (fun _ => False)) (fun _ _ _ h => h)) hn'.out hl h0 h1).mono ?_
  rintro en w1 ⟨rfl, ho, hg⟩
  go_wp2
  go_ret
  exact ⟨rfl, ho, (((Ext.refl w).alloc _).chg _).trans hg⟩
theorem receiver_held (st nx fi hg co : Int) (ao : Option Addr) (n cap : Nat) (k0 : Int) (w : World) (hx : ReadC w ao (marksC k0 n)) (hl : n ≤ 1048576) (h0 : 0 < k0) (h1 : k0 ≤ 1048576) :
    Calls Try.prog 19 #[(.agg #[.int .i64 st, .int .i64 nx, .slice ao n cap, .int .i64 fi, .int .i64 hg, .int .i64 co]), .int .i64 k0] w fun e w' => e = .returned (.int .i64 (k0 + 2 * (n : Int))) ∧ Ext w w' := by
  have h2 : decide (k0 + 2 * (n : Int) < 0) = false := by simp; omega
  have hx' := hide hx
  clear hx
  go_enter Try.func19, Try.ntmps19
  go_wp2_with fail
  refine (buffer_held nx ao n cap k0 _ (hx'.out.ext ((Ext.refl w).alloc _)) hl h0 h1).mono ?_
  rintro en w1 ⟨rfl, hb⟩
  go_wp2
  go_ret
  exact ⟨rfl, (by repeat (first | with_reducible exact Ext.refl _ | with_reducible assumption | with_reducible refine Ext.alloc ?_ _ | with_reducible refine Ext.drew ?_ | with_reducible refine Ext.drewN ?_ _ | ((with_reducible refine Ext.set ?_ ?_ _); (focus (first | (simp; done) | (simp; omega)))) | with_reducible refine Ext.trans ?_ (by assumption)))⟩
end Go.Proofs.Ytifhbchlmlaanaa

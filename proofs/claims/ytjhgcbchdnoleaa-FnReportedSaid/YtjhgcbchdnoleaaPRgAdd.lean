/-
  Part of the proof: RgAdd.
-/
import Derived.Test.YtjhgcbchdnoleaaPG4
namespace Go.Proofs.Ytjhgcbchdnoleaa
section
open Go.ChangeShapes Go.WideShapes Go.ChangeAt Go.RowKit
set_option linter.unusedSimpArgs false
set_option linter.unusedVariables false
def addK (xs : List Rg) (r : Rg) (k : Nat) : Rg × Bool × List Rg := (xs.take k).foldl addStep (r, false, [])
theorem takeR_succ (rs : List Rg) {k : Nat} (hk : k < rs.length) : rs.take (k + 1) = rs.take k ++ [rs.getD k dr] := by
  rw [List.take_succ_eq_append_getElem hk]; simp [List.getD, List.getElem?_eq_getElem hk]
theorem addK_succ {xs : List Rg} {r : Rg} {k : Nat} (hk : k < xs.length) : addK xs r (k + 1) = addStep (addK xs r k) (xs.getD k dr) := by
  unfold addK
  rw [takeR_succ xs hk, List.foldl_append]; rfl
theorem addK_all {xs : List Rg} {r : Rg} (h : isRgs xs = true) (hr : rgFine r = true) : addEnd (addK xs r xs.length) = addRec r xs := by
  unfold addK
  rw [List.take_length, add_fold xs r [] 0 (rgsFrom_can h).1 (rgFine_bd hr).2.1, List.nil_append]
theorem addR_yes {xs : List Rg} {r : Rg} (h : isRgs xs = true) (hr : rgFine r = true) : addR xs r = addRec r xs := if_pos ⟨h, hr⟩
theorem addStep_a {r x : Rg} {q : Bool} {L : List Rg} (c : x.2 < r.1) : addStep (r, q, L) x = (r, q, L ++ [x]) := by
  simp only [addStep]; rw [if_pos c]
theorem addStep_b {r x : Rg} {L : List Rg} (c1 : ¬ x.2 < r.1) (c2 : r.2 < x.1) : addStep (r, true, L) x = (r, true, L ++ [x]) := by
  simp only [addStep]; rw [if_neg c1, if_pos c2]; simp
theorem addStep_b' {r x : Rg} {L : List Rg} (c1 : ¬ x.2 < r.1) (c2 : r.2 < x.1) : addStep (r, false, L) x = (r, true, L ++ [r] ++ [x]) := by
  simp only [addStep]; rw [if_neg c1, if_pos c2]; simp
theorem addStep_c {r x : Rg} {q : Bool} {L : List Rg} (c1 : ¬ x.2 < r.1) (c2 : ¬ r.2 < x.1) : addStep (r, q, L) x = ((min r.1 x.1, max r.2 x.2), q, L) := by
  simp only [addStep]; rw [if_neg c1, if_neg c2]
theorem ownR_ext {w w' : World} {base : Nat} {e : TypeId} {size : Nat} {v : Value} {n : Nat} {xs : List Value} (h : w.ownsRow base e size v n xs) (hx : Ext w w') : w'.ownsRow base e size v n xs :=
  h.kept (row := none) ⟨hx.os, hx.tape, hx.output, hx.size, fun k hk _ => hx.block k hk⟩ (by cases v.ownBlock <;> simp)
theorem ownR_chg {S : Nat → Prop} {w w' : World} {base : Nat} {e : TypeId} {size : Nat} {v : Value} {n : Nat} {xs : List Value} (h : w.ownsRow base e size v n xs) (hx : Chg S w w') (hS : ∀ k, base ≤ k → ¬ S k) : w'.ownsRow base e size v n xs := by
  refine ⟨h.1, ?_⟩
  rcases h.2 with k | ⟨g, cap, cur, rfl, h2, h3, h4⟩
  · exact Or.inl k
  · exact Or.inr ⟨g, cap, cur, rfl, h2, by rw [hx.block g (lt_of_block h3) (hS g h2)]; exact h3, h4⟩
theorem grewR {wc w2 : World} {o : Obj} {base : Nat} {e : TypeId} {size : Nat} {v : Value} {n : Nat} {xs : List Value} (hown : wc.ownsRow base e size v n xs) (hg : (wc.alloc o).grownBy w2 v.ownBlock) : Chg (fun b => base ≤ b) wc w2 :=
  (((Ext.refl wc).alloc o).chg _).trans (grown_chg hg (fun k hk => (hown.lt _ hk).1))
set_option maxHeartbeats 8000000 in
set_option maxRecDepth 100000 in
theorem AddRange_spec (a b : Int) (ao : Option Addr) (n ca : Nat) (rs : List Rg) (w : World) (hx : ReadR w ao rs) (hn : rs.length = n) (hl : n ≤ 1048576) :
    Calls Try.prog 69 #[.slice ao n ca, .agg #[.int .i64 a, .int .i64 b]] w (NewR (addR rs (a, b)) w) := by
  have hn' := hide hn
  have hx' := hide hx
  clear hn hx
  obtain ⟨i0, hi0, hz0, hz1, hz2⟩ := info_parts infoRange
  rcases Bool.eq_false_or_eq_true (isRgs rs) with hi | hi
  · rcases Bool.eq_false_or_eq_true (rgFine (a, b)) with hf | hf
    · go_enter Try.func69, Try.ntmps69
      go_wp2_with fail
      refine (IsRanges_spec ao n ca rs _ (hx'.out.ext (by repeat (first | with_reducible exact Ext.refl _ | with_reducible assumption | with_reducible refine Ext.alloc ?_ _ | with_reducible refine Ext.drew ?_ | with_reducible refine Ext.drewN ?_ _ | ((with_reducible refine Ext.set ?_ ?_ _); (focus (first | (simp; done) | (simp; omega)))) | with_reducible refine Ext.trans ?_ (by assumption)))) hn'.out (by omega)).mono ?_
      rintro en w1 ⟨rfl, hb1⟩
      rw [hi]
      obtain ⟨c1, f1⟩ := hb1.row (k := w.heap.size) (by first | assumption | (simp; done) | (simp; omega) | omega)
      have k1 := hb1.more (k := w.heap.size) (by first | assumption | (simp; done) | (simp; omega) | omega)
      go_wp2_with fail
      refine (fine_spec a b _).mono ?_
      rintro en w2 ⟨rfl, hb2⟩
      rw [hf]
      obtain ⟨c2, f2⟩ := hb2.row (k := w.heap.size) (by first | assumption | (simp; done) | (simp; omega) | omega)
      have k2 := hb2.more (k := w.heap.size) (by first | assumption | (simp; done) | (simp; omega) | omega)
      have q1 : w2.cell? ⟨w.heap.size, 0, none⟩ = some (.int .i64 a) := (by rw [c2, c1]; simp [go_sem])
      have q2 : w2.cell? ⟨w.heap.size, 1, none⟩ = some (.int .i64 b) := (by rw [c2, c1]; simp [go_sem])
      have qF : ∀ o, w2.frozen? ⟨w.heap.size, o, none⟩ = false := fun o => (by rw [f2, f1]; simp [go_sem])
      have hx2 : Ext w w2 := (by repeat (first | with_reducible exact Ext.refl _ | with_reducible assumption | with_reducible refine Ext.alloc ?_ _ | with_reducible refine Ext.drew ?_ | with_reducible refine Ext.drewN ?_ _ | ((with_reducible refine Ext.set ?_ ?_ _); (focus (first | (simp; done) | (simp; omega)))) | with_reducible refine Ext.trans ?_ (by assumption)))
      clear c1 f1 c2 f2 hb1 hb2
      go_wp2_with fail
      go_loopw [5, 6, 7] (fun s p i wr => ∃ (k m : Nat) (r1 r2 : Int) (q : Bool) (L : List Rg) (ao1 : Option Addr) (ca1 : Nat), i = .int .i64 k ∧ k ≤ n ∧ Hid (addK rs (a, b) k = ((r1, r2), q, L)) ∧ p = .bool q ∧ s = .slice ao1 m ca1 ∧ m ≤ 2 * k ∧ Hid (L.length = m ∧ wr.ownsRow (w.heap.size + 1) 61 2 (.slice ao1 m ca1) m (rgCells L)) ∧ wr.cell? ⟨w.heap.size, 0, none⟩ = some (.int .i64 r1) ∧ wr.cell? ⟨w.heap.size, 1, none⟩ = some (.int .i64 r2) ∧ (∀ o, wr.frozen? ⟨w.heap.size, o, none⟩ = false) ∧ w.heap.size + 1 ≤ wr.heap.size ∧ Chg (fun b => w.heap.size ≤ b) w wr) (fun _ _ i _ => n - (intOf i).toNat)
      case atStart =>
        obtain ⟨e1, e2⟩ := ((Ext.refl w2).alloc (.cells #[] 61)).row (k := w.heap.size) k2
        exact ⟨0, 0, a, b, false, [], _, _, rfl, by omega, hide rfl, rfl, rfl, by omega, hide ⟨rfl, World.ownsRow_made w2 #[] 0 (by omega) (by decide) rfl⟩, (e1 0).trans q1, (e1 1).trans q2, fun o => (e2 o).trans (qF o), by simp; omega, (hx2.alloc _).chg _⟩
      case round =>
        obtain ⟨k, m, r1, r2, q, L, ao1, ca1, rfl, hk, hK, rfl, rfl, hm, hLo, b1, b2, bF, hsz, hg⟩ := hrel
        have hL := hide hLo.out.1
        have hown := hide hLo.out.2
        clear hLo q1 q2 qF
        by_cases hlt : k < n
        · have hkx : k < rs.length := by rw [hn'.out]; exact hlt
          rcases hx'.out with hnil | ⟨bx, off, rfl, hx⟩
          · rw [hnil] at hkx; simp at hkx
          obtain ⟨cx, cx2⟩ := hx k hkx
          have la : bx < w.heap.size := World.block_lt_of_cell? w _ cx
          have hr := (hg.row la (by omega)).1
          have dx := (hr _).trans cx
          have dx2 := (hr _).trans cx2
          have i1 : (0 : Int) ≤ (k : Int) := by omega
          have i2 : (k : Int) < (n : Int) := by omega
          obtain ⟨⟨x1, x2⟩, hx0⟩ : ∃ x : Rg, Hid (rs.getD k dr = x) := ⟨_, hide rfl⟩
          rw [hx0.out] at dx dx2
          dsimp only at dx dx2
          clear hx cx cx2 hr
          have bFx := bF
          have hne : bx ≠ w.heap.size := by omega
          have hne2 : w.heap.size ≠ bx := by omega
          by_cases c1 : x2 < r1
          · have hst : Hid (addK rs (a, b) (k + 1) = ((r1, r2), q, L ++ [(x1, x2)])) := hide (by rw [addK_succ hkx, hK.out, hx0.out]; exact addStep_a c1)
            clear hK hx0
            go_wp2_with fail
            refine wp_region_seq (Ext _) (by kernel_rfl) (by kernel_rfl) ((Ext.refl _).drew) ?_
            iterate 9 (((first | (refine wpSeqS_plain (v := ?_) rfl (by rfl) ?_ ?_; rotate_left; (focus (intro ws hws; obtain ⟨q0, p0⟩ := hws.row (k := bx) (by first | assumption | (simp; done) | (simp; omega) | omega); obtain ⟨q1, p1⟩ := hws.row (k := w.heap.size) (by first | assumption | (simp; done) | (simp; omega) | omega); go_simp; (try with_reducible rfl); done))) | fail)); (try simp only [Act.put, List.getElem_toArray, List.getElem_cons_zero, List.getElem_cons_succ, List.setIfInBounds_toArray, List.set_cons_zero, List.set_cons_succ]))
            refine wpSeqS_done (by kernel_rfl) (fun ws hws => ?_)
            obtain ⟨xb, yb⟩ := (hws).row (k := w.heap.size) (by omega)
            replace b1 := (xb 0).trans b1
            replace b2 := (xb 1).trans b2
            replace bF := fun o => (yb o).trans (bF o)
            clear xb yb
            obtain ⟨xb, yb⟩ := (hws).row (k := bx) (by omega)
            replace dx := (xb _).trans dx
            replace dx2 := (xb _).trans dx2
            clear xb yb
            replace hown := hide (ownR_ext hown.out (hws))
            replace hg := hg.trans ((hws).chg _)
            replace hsz : w.heap.size + 1 ≤ ws.heap.size := Nat.le_trans hsz (hws).size
            go_wp2_with (at_builtin; refine wpList_append_lies _ rfl _ _ _ (by rfl) (w.heap.size + 1) 61 i0 _ 2 16 Try.underlying30 hi0 hz0 hz1 hz2 rfl (by omega) (.slice ao1 m ca1) m _ (by rfl) ((hown.out).alloc _) ⟨ws.heap.size, 0, none⟩ 1 1 [.int .i64 x1, .int .i64 x2] (by rfl) (by rfl) (World.news_of_block (cs := #[.int .i64 x1, .int .i64 x2]) (t := 61) (fr := (0, 0)) (heap_alloc_new ws _)) (by simp [Value.oneCell']) (by omega) (by simp [maxLen] <;> omega) (by omega) (by simp; omega) (ws.heap.size + 1) (by simp) ?_)
            intro gg1 cap1 w2 hown1 hgrow1 hat1 hlt1
            have hgc1 := grewR (hown.out) hgrow1
            rw [rgCells_app L (x1, x2)] at hown1
            clear hgrow1 hat1 hlt1
            obtain ⟨xb, yb⟩ := (hgc1).row (k := w.heap.size) (by omega) (by (try dsimp only); omega)
            replace b1 := (xb 0).trans b1
            replace b2 := (xb 1).trans b2
            replace bF := fun o => (yb o).trans (bF o)
            clear xb yb
            obtain ⟨xb, yb⟩ := (hgc1).row (k := bx) (by omega) (by (try dsimp only); omega)
            replace dx := (xb _).trans dx
            replace dx2 := (xb _).trans dx2
            clear xb yb
            replace hg := hg.trans ((hgc1).mono (fun _ _ h => by (try dsimp only at h ⊢); omega))
            replace hsz : w.heap.size + 1 ≤ w2.heap.size := Nat.le_trans hsz (hgc1).size
            go_wp2
            go_roundw
            case rel => exact ⟨k + 1, m + 1, r1, r2, q, _, _, _, by go_num, by omega, hst, rfl, rfl, by omega, hide ⟨by rw [List.length_append, hL.out]; rfl, hown1⟩, b1, b2, bF, hsz, hg⟩
            case measure => simp [intOf]; omega
          · by_cases c2 : r2 < x1
            · cases q
              · have hst : Hid (addK rs (a, b) (k + 1) = ((r1, r2), true, L ++ [(r1, r2)] ++ [(x1, x2)])) := hide (by rw [addK_succ hkx, hK.out, hx0.out]; exact addStep_b' c1 c2)
                clear hK hx0
                go_wp2_with fail
                refine wp_region_seq (Ext _) (by kernel_rfl) (by kernel_rfl) ((Ext.refl _).drew) ?_
                iterate 9 (((first | (refine wpSeqS_plain (v := ?_) rfl (by rfl) ?_ ?_; rotate_left; (focus (intro ws hws; obtain ⟨q0, p0⟩ := hws.row (k := bx) (by first | assumption | (simp; done) | (simp; omega) | omega); obtain ⟨q1, p1⟩ := hws.row (k := w.heap.size) (by first | assumption | (simp; done) | (simp; omega) | omega); go_simp; (try with_reducible rfl); done))) | fail)); (try simp only [Act.put, List.getElem_toArray, List.getElem_cons_zero, List.getElem_cons_succ, List.setIfInBounds_toArray, List.set_cons_zero, List.set_cons_succ]))
                refine wpSeqS_done (by kernel_rfl) (fun ws hws => ?_)
                obtain ⟨xb, yb⟩ := (hws).row (k := w.heap.size) (by omega)
                replace b1 := (xb 0).trans b1
                replace b2 := (xb 1).trans b2
                replace bF := fun o => (yb o).trans (bF o)
                clear xb yb
                obtain ⟨xb, yb⟩ := (hws).row (k := bx) (by omega)
                replace dx := (xb _).trans dx
                replace dx2 := (xb _).trans dx2
                clear xb yb
                replace hown := hide (ownR_ext hown.out (hws))
                replace hg := hg.trans ((hws).chg _)
                replace hsz : w.heap.size + 1 ≤ ws.heap.size := Nat.le_trans hsz (hws).size
                go_wp2_with fail
                refine wp_region_seq (Ext _) (by kernel_rfl) (by kernel_rfl) ((Ext.refl _).drew) ?_
                iterate 9 (((first | (refine wpSeqS_plain (v := ?_) rfl (by rfl) ?_ ?_; rotate_left; (focus (intro wt hwt; obtain ⟨q0, p0⟩ := hwt.row (k := bx) (by first | assumption | (simp; done) | (simp; omega) | omega); obtain ⟨q1, p1⟩ := hwt.row (k := w.heap.size) (by first | assumption | (simp; done) | (simp; omega) | omega); go_simp; (try with_reducible rfl); done))) | fail)); (try simp only [Act.put, List.getElem_toArray, List.getElem_cons_zero, List.getElem_cons_succ, List.setIfInBounds_toArray, List.set_cons_zero, List.set_cons_succ]))
                refine wpSeqS_done (by kernel_rfl) (fun wt hwt => ?_)
                obtain ⟨xb, yb⟩ := (hwt).row (k := w.heap.size) (by omega)
                replace b1 := (xb 0).trans b1
                replace b2 := (xb 1).trans b2
                replace bF := fun o => (yb o).trans (bF o)
                clear xb yb
                obtain ⟨xb, yb⟩ := (hwt).row (k := bx) (by omega)
                replace dx := (xb _).trans dx
                replace dx2 := (xb _).trans dx2
                clear xb yb
                replace hown := hide (ownR_ext hown.out (hwt))
                replace hg := hg.trans ((hwt).chg _)
                replace hsz : w.heap.size + 1 ≤ wt.heap.size := Nat.le_trans hsz (hwt).size
                go_wp2_with (at_builtin; refine wpList_append_lies _ rfl _ _ _ (by rfl) (w.heap.size + 1) 61 i0 _ 2 16 Try.underlying30 hi0 hz0 hz1 hz2 rfl (by omega) (.slice ao1 m ca1) m _ (by rfl) ((hown.out).alloc _) ⟨wt.heap.size, 0, none⟩ 1 1 [.int .i64 r1, .int .i64 r2] (by rfl) (by rfl) (World.news_of_block (cs := #[.int .i64 r1, .int .i64 r2]) (t := 61) (fr := (0, 0)) (heap_alloc_new wt _)) (by simp [Value.oneCell']) (by omega) (by simp [maxLen] <;> omega) (by omega) (by simp; omega) (wt.heap.size + 1) (by simp) ?_)
                intro gg1 cap1 w2 hown1 hgrow1 hat1 hlt1
                have hgc1 := grewR (hown.out) hgrow1
                rw [rgCells_app L (r1, r2)] at hown1
                clear hgrow1 hat1 hlt1
                obtain ⟨xb, yb⟩ := (hgc1).row (k := w.heap.size) (by omega) (by (try dsimp only); omega)
                replace b1 := (xb 0).trans b1
                replace b2 := (xb 1).trans b2
                replace bF := fun o => (yb o).trans (bF o)
                clear xb yb
                obtain ⟨xb, yb⟩ := (hgc1).row (k := bx) (by omega) (by (try dsimp only); omega)
                replace dx := (xb _).trans dx
                replace dx2 := (xb _).trans dx2
                clear xb yb
                replace hg := hg.trans ((hgc1).mono (fun _ _ h => by (try dsimp only at h ⊢); omega))
                replace hsz : w.heap.size + 1 ≤ w2.heap.size := Nat.le_trans hsz (hgc1).size
                replace hown1 := hide hown1
                go_wp2_with (at_builtin; refine wpList_append_lies _ rfl _ _ _ (by rfl) (w.heap.size + 1) 61 i0 _ 2 16 Try.underlying30 hi0 hz0 hz1 hz2 rfl (by omega) (.slice (some ⟨gg1, 0, none⟩) (m + 1) cap1) (m + 1) _ (by rfl) ((hown1.out).alloc _) ⟨w2.heap.size, 0, none⟩ 1 1 [.int .i64 x1, .int .i64 x2] (by rfl) (by rfl) (World.news_of_block (cs := #[.int .i64 x1, .int .i64 x2]) (t := 61) (fr := (0, 0)) (heap_alloc_new w2 _)) (by simp [Value.oneCell']) (by omega) (by simp [maxLen] <;> omega) (by omega) (by simp; omega) (w2.heap.size + 1) (by simp) ?_)
                intro gg2 cap2 w3 hown2 hgrow2 hat2 hlt2
                have hgc2 := grewR (hown1.out) hgrow2
                rw [rgCells_app (L ++ [(r1, r2)]) (x1, x2)] at hown2
                clear hgrow2 hat2 hlt2
                obtain ⟨xb, yb⟩ := (hgc2).row (k := w.heap.size) (by omega) (by (try dsimp only); omega)
                replace b1 := (xb 0).trans b1
                replace b2 := (xb 1).trans b2
                replace bF := fun o => (yb o).trans (bF o)
                clear xb yb
                obtain ⟨xb, yb⟩ := (hgc2).row (k := bx) (by omega) (by (try dsimp only); omega)
                replace dx := (xb _).trans dx
                replace dx2 := (xb _).trans dx2
                clear xb yb
                replace hg := hg.trans ((hgc2).mono (fun _ _ h => by (try dsimp only at h ⊢); omega))
                replace hsz : w.heap.size + 1 ≤ w3.heap.size := Nat.le_trans hsz (hgc2).size
                go_wp2
                go_roundw
                case rel => exact ⟨k + 1, m + 1 + 1, r1, r2, true, _, _, _, by go_num, by omega, hst, rfl, rfl, by omega, hide ⟨by rw [List.length_append, List.length_append, hL.out]; rfl, hown2⟩, b1, b2, bF, hsz, hg⟩
                case measure => simp [intOf]; omega
              · have hst : Hid (addK rs (a, b) (k + 1) = ((r1, r2), true, L ++ [(x1, x2)])) := hide (by rw [addK_succ hkx, hK.out, hx0.out]; exact addStep_b c1 c2)
                clear hK hx0
                go_wp2_with fail
                refine wp_region_seq (Ext _) (by kernel_rfl) (by kernel_rfl) ((Ext.refl _).drew) ?_
                iterate 9 (((first | (refine wpSeqS_plain (v := ?_) rfl (by rfl) ?_ ?_; rotate_left; (focus (intro ws hws; obtain ⟨q0, p0⟩ := hws.row (k := bx) (by first | assumption | (simp; done) | (simp; omega) | omega); obtain ⟨q1, p1⟩ := hws.row (k := w.heap.size) (by first | assumption | (simp; done) | (simp; omega) | omega); go_simp; (try with_reducible rfl); done))) | fail)); (try simp only [Act.put, List.getElem_toArray, List.getElem_cons_zero, List.getElem_cons_succ, List.setIfInBounds_toArray, List.set_cons_zero, List.set_cons_succ]))
                refine wpSeqS_done (by kernel_rfl) (fun ws hws => ?_)
                obtain ⟨xb, yb⟩ := (hws).row (k := w.heap.size) (by omega)
                replace b1 := (xb 0).trans b1
                replace b2 := (xb 1).trans b2
                replace bF := fun o => (yb o).trans (bF o)
                clear xb yb
                obtain ⟨xb, yb⟩ := (hws).row (k := bx) (by omega)
                replace dx := (xb _).trans dx
                replace dx2 := (xb _).trans dx2
                clear xb yb
                replace hown := hide (ownR_ext hown.out (hws))
                replace hg := hg.trans ((hws).chg _)
                replace hsz : w.heap.size + 1 ≤ ws.heap.size := Nat.le_trans hsz (hws).size
                go_wp2_with fail
                refine wp_region_seq (Ext _) (by kernel_rfl) (by kernel_rfl) ((Ext.refl _).drew) ?_
                iterate 9 (((first | (refine wpSeqS_plain (v := ?_) rfl (by rfl) ?_ ?_; rotate_left; (focus (intro wt hwt; obtain ⟨q0, p0⟩ := hwt.row (k := bx) (by first | assumption | (simp; done) | (simp; omega) | omega); obtain ⟨q1, p1⟩ := hwt.row (k := w.heap.size) (by first | assumption | (simp; done) | (simp; omega) | omega); go_simp; (try with_reducible rfl); done))) | fail)); (try simp only [Act.put, List.getElem_toArray, List.getElem_cons_zero, List.getElem_cons_succ, List.setIfInBounds_toArray, List.set_cons_zero, List.set_cons_succ]))
                refine wpSeqS_done (by kernel_rfl) (fun wt hwt => ?_)
                obtain ⟨xb, yb⟩ := (hwt).row (k := w.heap.size) (by omega)
                replace b1 := (xb 0).trans b1
                replace b2 := (xb 1).trans b2
                replace bF := fun o => (yb o).trans (bF o)
                clear xb yb
                obtain ⟨xb, yb⟩ := (hwt).row (k := bx) (by omega)
                replace dx := (xb _).trans dx
                replace dx2 := (xb _).trans dx2
                clear xb yb
                replace hown := hide (ownR_ext hown.out (hwt))
                replace hg := hg.trans ((hwt).chg _)
                replace hsz : w.heap.size + 1 ≤ wt.heap.size := Nat.le_trans hsz (hwt).size
                go_wp2_with (at_builtin; refine wpList_append_lies _ rfl _ _ _ (by rfl) (w.heap.size + 1) 61 i0 _ 2 16 Try.underlying30 hi0 hz0 hz1 hz2 rfl (by omega) (.slice ao1 m ca1) m _ (by rfl) ((hown.out).alloc _) ⟨wt.heap.size, 0, none⟩ 1 1 [.int .i64 x1, .int .i64 x2] (by rfl) (by rfl) (World.news_of_block (cs := #[.int .i64 x1, .int .i64 x2]) (t := 61) (fr := (0, 0)) (heap_alloc_new wt _)) (by simp [Value.oneCell']) (by omega) (by simp [maxLen] <;> omega) (by omega) (by simp; omega) (wt.heap.size + 1) (by simp) ?_)
                intro gg1 cap1 w2 hown1 hgrow1 hat1 hlt1
                have hgc1 := grewR (hown.out) hgrow1
                rw [rgCells_app L (x1, x2)] at hown1
                clear hgrow1 hat1 hlt1
                obtain ⟨xb, yb⟩ := (hgc1).row (k := w.heap.size) (by omega) (by (try dsimp only); omega)
                replace b1 := (xb 0).trans b1
                replace b2 := (xb 1).trans b2
                replace bF := fun o => (yb o).trans (bF o)
                clear xb yb
                obtain ⟨xb, yb⟩ := (hgc1).row (k := bx) (by omega) (by (try dsimp only); omega)
                replace dx := (xb _).trans dx
                replace dx2 := (xb _).trans dx2
                clear xb yb
                replace hg := hg.trans ((hgc1).mono (fun _ _ h => by (try dsimp only at h ⊢); omega))
                replace hsz : w.heap.size + 1 ≤ w2.heap.size := Nat.le_trans hsz (hgc1).size
                go_wp2
                go_roundw
                case rel => exact ⟨k + 1, m + 1, r1, r2, true, _, _, _, by go_num, by omega, hst, rfl, rfl, by omega, hide ⟨by rw [List.length_append, hL.out]; rfl, hown1⟩, b1, b2, bF, hsz, hg⟩
                case measure => simp [intOf]; omega
            · have hst : Hid (addK rs (a, b) (k + 1) = ((min r1 x1, max r2 x2), q, L)) := hide (by rw [addK_succ hkx, hK.out, hx0.out]; exact addStep_c c1 c2)
              clear hK hx0
              obtain ⟨m1, hm1⟩ : ∃ m1 : Int, m1 = min r1 x1 := ⟨_, rfl⟩
              obtain ⟨m2, hm2⟩ : ∃ m2 : Int, m2 = max r2 x2 := ⟨_, rfl⟩
              rw [← hm1, ← hm2] at hst
              replace hm1 := hide hm1
              replace hm2 := hide hm2
              go_wp2_with fail
              refine wp_region_seq (Ext _) (by kernel_rfl) (by kernel_rfl) ((Ext.refl _).drew) ?_
              iterate 9 (((first | (refine wpSeqS_plain (v := ?_) rfl (by rfl) ?_ ?_; rotate_left; (focus (intro ws hws; obtain ⟨q0, p0⟩ := hws.row (k := bx) (by first | assumption | (simp; done) | (simp; omega) | omega); obtain ⟨q1, p1⟩ := hws.row (k := w.heap.size) (by first | assumption | (simp; done) | (simp; omega) | omega); go_simp; (try with_reducible rfl); done))) | fail)); (try simp only [Act.put, List.getElem_toArray, List.getElem_cons_zero, List.getElem_cons_succ, List.setIfInBounds_toArray, List.set_cons_zero, List.set_cons_succ]))
              refine wpSeqS_done (by kernel_rfl) (fun ws hws => ?_)
              obtain ⟨xb, yb⟩ := (hws).row (k := w.heap.size) (by omega)
              replace b1 := (xb 0).trans b1
              replace b2 := (xb 1).trans b2
              replace bF := fun o => (yb o).trans (bF o)
              clear xb yb
              obtain ⟨xb, yb⟩ := (hws).row (k := bx) (by omega)
              replace dx := (xb _).trans dx
              replace dx2 := (xb _).trans dx2
              clear xb yb
              replace hown := hide (ownR_ext hown.out (hws))
              replace hg := hg.trans ((hws).chg _)
              replace hsz : w.heap.size + 1 ≤ ws.heap.size := Nat.le_trans hsz (hws).size
              go_wp2_with fail
              refine wp_region_seq (Ext _) (by kernel_rfl) (by kernel_rfl) ((Ext.refl _).drew) ?_
              iterate 9 (((first | (refine wpSeqS_plain (v := ?_) rfl (by rfl) ?_ ?_; rotate_left; (focus (intro wt hwt; obtain ⟨q0, p0⟩ := hwt.row (k := bx) (by first | assumption | (simp; done) | (simp; omega) | omega); obtain ⟨q1, p1⟩ := hwt.row (k := w.heap.size) (by first | assumption | (simp; done) | (simp; omega) | omega); go_simp; (try with_reducible rfl); done))) | fail)); (try simp only [Act.put, List.getElem_toArray, List.getElem_cons_zero, List.getElem_cons_succ, List.setIfInBounds_toArray, List.set_cons_zero, List.set_cons_succ]))
              refine wpSeqS_done (by kernel_rfl) (fun wt hwt => ?_)
              obtain ⟨xb, yb⟩ := (hwt).row (k := w.heap.size) (by omega)
              replace b1 := (xb 0).trans b1
              replace b2 := (xb 1).trans b2
              replace bF := fun o => (yb o).trans (bF o)
              clear xb yb
              obtain ⟨xb, yb⟩ := (hwt).row (k := bx) (by omega)
              replace dx := (xb _).trans dx
              replace dx2 := (xb _).trans dx2
              clear xb yb
              replace hown := hide (ownR_ext hown.out (hwt))
              replace hg := hg.trans ((hwt).chg _)
              replace hsz : w.heap.size + 1 ≤ wt.heap.size := Nat.le_trans hsz (hwt).size
              go_wp2_with fail
              refine wp_region_tail 9 [Line.is (.pointer (some ⟨w.heap.size, 0, none⟩)), Line.is (.int .i64 r1), Line.is (.slice (some ⟨bx, off, none⟩) n ca), Line.is (.int .i64 (k : Int)), Line.is (.pointer (some ⟨bx, off + k * 2, none⟩)), Line.is (.pointer (some ⟨bx, off + k * 2, none⟩)), Line.is (.int .i64 x1), Line.is (.int .i64 m1), Line.is (.pointer (some ⟨w.heap.size, 0, none⟩))] [25, 26, 27, 28, 29, 30, 31, 32, 33] (by kernel_rfl) (by kernel_rfl) (by kernel_rfl) (by kernel_rfl) (by kernel_rfl) (by kernel_rfl) (by kernel_rfl) ?_ ?_
              · refine Each.cons ?_ (Each.cons ?_ (Each.cons ?_ (Each.cons ?_ (Each.cons ?_ (Each.cons ?_ (Each.cons ?_ (Each.cons ?_ (Each.cons ?_ (Each.nil)))))))))
                · intro g ws hws hl
                  simp only [fillAt, List.foldl_cons, List.foldl_nil, Act.put, List.setIfInBounds_toArray, List.set_cons_zero, List.set_cons_succ]
                  refine Stays.plain ?_ (by rfl) ?_ ?_
                  rotate_left
                  · go_simp
                    try with_reducible rfl
                  · exact rfl
                · intro g ws hws hl
                  have ln0 : g 25 = _ := (show (Line.is (.pointer (some ⟨w.heap.size, 0, none⟩))).p (g 25) ws from linesOf_get 0 hl (by kernel_rfl))
                  simp only [fillAt, List.foldl_cons, List.foldl_nil, Act.put, List.setIfInBounds_toArray, List.set_cons_zero, List.set_cons_succ, ln0]
                  obtain ⟨q0, p0⟩ := hws.row (k := w.heap.size) (by first | assumption | (simp; done) | (simp; omega) | omega)
                  obtain ⟨q1, p1⟩ := hws.row (k := bx) (by first | assumption | (simp; done) | (simp; omega) | omega)
                  refine Stays.plain ?_ (by rfl) ?_ ?_
                  rotate_left
                  · go_simp
                    try with_reducible rfl
                  · exact rfl
                · intro g ws hws hl
                  simp only [fillAt, List.foldl_cons, List.foldl_nil, Act.put, List.setIfInBounds_toArray, List.set_cons_zero, List.set_cons_succ]
                  refine Stays.plain ?_ (by rfl) ?_ ?_
                  rotate_left
                  · go_simp
                    try with_reducible rfl
                  · exact rfl
                · intro g ws hws hl
                  simp only [fillAt, List.foldl_cons, List.foldl_nil, Act.put, List.setIfInBounds_toArray, List.set_cons_zero, List.set_cons_succ]
                  refine Stays.plain ?_ (by rfl) ?_ ?_
                  rotate_left
                  · go_simp
                    try with_reducible rfl
                  · exact rfl
                · intro g ws hws hl
                  have ln2 : g 27 = _ := (show (Line.is (.slice (some ⟨bx, off, none⟩) n ca)).p (g 27) ws from linesOf_get 2 hl (by kernel_rfl))
                  have ln3 : g 28 = _ := (show (Line.is (.int .i64 (k : Int))).p (g 28) ws from linesOf_get 3 hl (by kernel_rfl))
                  simp only [fillAt, List.foldl_cons, List.foldl_nil, Act.put, List.setIfInBounds_toArray, List.set_cons_zero, List.set_cons_succ, ln2, ln3]
                  refine Stays.plain ?_ (by rfl) ?_ ?_
                  rotate_left
                  · go_simp
                    try with_reducible rfl
                  · exact rfl
                · intro g ws hws hl
                  have ln4 : g 29 = _ := (show (Line.is (.pointer (some ⟨bx, off + k * 2, none⟩))).p (g 29) ws from linesOf_get 4 hl (by kernel_rfl))
                  simp only [fillAt, List.foldl_cons, List.foldl_nil, Act.put, List.setIfInBounds_toArray, List.set_cons_zero, List.set_cons_succ, ln4]
                  refine Stays.plain ?_ (by rfl) ?_ ?_
                  rotate_left
                  · go_simp
                    try with_reducible rfl
                  · exact rfl
                · intro g ws hws hl
                  have ln5 : g 30 = _ := (show (Line.is (.pointer (some ⟨bx, off + k * 2, none⟩))).p (g 30) ws from linesOf_get 5 hl (by kernel_rfl))
                  simp only [fillAt, List.foldl_cons, List.foldl_nil, Act.put, List.setIfInBounds_toArray, List.set_cons_zero, List.set_cons_succ, ln5]
                  obtain ⟨q0, p0⟩ := hws.row (k := w.heap.size) (by first | assumption | (simp; done) | (simp; omega) | omega)
                  obtain ⟨q1, p1⟩ := hws.row (k := bx) (by first | assumption | (simp; done) | (simp; omega) | omega)
                  refine Stays.plain ?_ (by rfl) ?_ ?_
                  rotate_left
                  · go_simp
                    try with_reducible rfl
                  · exact rfl
                · intro g ws hws hl
                  have ln1 : g 26 = _ := (show (Line.is (.int .i64 r1)).p (g 26) ws from linesOf_get 1 hl (by kernel_rfl))
                  have ln6 : g 31 = _ := (show (Line.is (.int .i64 x1)).p (g 31) ws from linesOf_get 6 hl (by kernel_rfl))
                  simp only [fillAt, List.foldl_cons, List.foldl_nil, Act.put, List.setIfInBounds_toArray, List.set_cons_zero, List.set_cons_succ, ln1, ln6]
                  refine Stays.plain (.int .i64 m1) (by rfl) ?_ rfl
                  rcases Int.le_total r1 x1 with hle | hle
                  · have hm2 : m1 = r1 := by rw [hm1.out]; omega
                    rw [hm2]
                    go_simp
                    try omega
                  · have hm2 : m1 = x1 := by rw [hm1.out]; omega
                    rw [hm2]
                    go_simp
                    try omega
                · intro g ws hws hl
                  simp only [fillAt, List.foldl_cons, List.foldl_nil, Act.put, List.setIfInBounds_toArray, List.set_cons_zero, List.set_cons_succ]
                  refine Stays.plain ?_ (by rfl) ?_ ?_
                  rotate_left
                  · go_simp
                    try with_reducible rfl
                  · exact rfl
              · intro g wu hwu hl
                have ln0 : g 25 = _ := (show (Line.is (.pointer (some ⟨w.heap.size, 0, none⟩))).p (g 25) wu from (allLines_get 25 0 0 hl rfl))
                have ln1 : g 26 = _ := (show (Line.is (.int .i64 r1)).p (g 26) wu from (allLines_get 26 1 0 hl rfl))
                have ln2 : g 27 = _ := (show (Line.is (.slice (some ⟨bx, off, none⟩) n ca)).p (g 27) wu from (allLines_get 27 2 0 hl rfl))
                have ln3 : g 28 = _ := (show (Line.is (.int .i64 (k : Int))).p (g 28) wu from (allLines_get 28 3 0 hl rfl))
                have ln4 : g 29 = _ := (show (Line.is (.pointer (some ⟨bx, off + k * 2, none⟩))).p (g 29) wu from (allLines_get 29 4 0 hl rfl))
                have ln5 : g 30 = _ := (show (Line.is (.pointer (some ⟨bx, off + k * 2, none⟩))).p (g 30) wu from (allLines_get 30 5 0 hl rfl))
                have ln6 : g 31 = _ := (show (Line.is (.int .i64 x1)).p (g 31) wu from (allLines_get 31 6 0 hl rfl))
                have ln7 : g 32 = _ := (show (Line.is (.int .i64 m1)).p (g 32) wu from (allLines_get 32 7 0 hl rfl))
                have ln8 : g 33 = _ := (show (Line.is (.pointer (some ⟨w.heap.size, 0, none⟩))).p (g 33) wu from (allLines_get 33 8 0 hl rfl))
                clear hl
                simp only [fillAt, List.foldl_cons, List.foldl_nil, Act.put, List.setIfInBounds_toArray, List.set_cons_zero, List.set_cons_succ, ln0, ln1, ln2, ln3, ln4, ln5, ln6, ln7, ln8]
                simp only [List.drop_succ_cons, List.drop_zero]
                have xwu : Ext wt wu := (Ext.refl wt).drew.trans hwu
                obtain ⟨xb, yb⟩ := (xwu).row (k := w.heap.size) (by omega)
                replace b1 := (xb 0).trans b1
                replace b2 := (xb 1).trans b2
                replace bF := fun o => (yb o).trans (bF o)
                clear xb yb
                obtain ⟨xb, yb⟩ := (xwu).row (k := bx) (by omega)
                replace dx := (xb _).trans dx
                replace dx2 := (xb _).trans dx2
                clear xb yb
                replace hown := hide (ownR_ext hown.out (xwu))
                replace hg := hg.trans ((xwu).chg _)
                replace hsz : w.heap.size + 1 ≤ wu.heap.size := Nat.le_trans hsz (xwu).size
                have f0 := bF 0
                go_wp2_with fail
                have hset : Chg (fun j => j = w.heap.size) wu (wu.setCell ⟨w.heap.size, 0, none⟩ (.int .i64 m1)) := Chg.set (S := fun j => j = w.heap.size) (p := ⟨w.heap.size, 0, none⟩) (Or.inl rfl) (Chg.refl _ _) _
                replace hown := hide (ownR_chg hown.out hset (fun j h => by (try dsimp only); omega))
                obtain ⟨xb, yb⟩ := hset.row (k := bx) (by omega) (by (try dsimp only); omega)
                replace dx := (xb _).trans dx
                replace dx2 := (xb _).trans dx2
                have b1' : (wu.setCell ⟨w.heap.size, 0, none⟩ (.int .i64 m1)).cell? ⟨w.heap.size, 0, none⟩ = some (.int .i64 m1) := by rw [World.cell?_setCell_same' _ _ _ (by rw [b1]; rfl)]
                have b2' : (wu.setCell ⟨w.heap.size, 0, none⟩ (.int .i64 m1)).cell? ⟨w.heap.size, 1, none⟩ = some (.int .i64 r2) := (World.cell?_setCell_other wu ⟨w.heap.size, 0, none⟩ ⟨w.heap.size, 1, none⟩ _ (fun e => by injection e; omega)).trans b2
                have bF' : ∀ o, (wu.setCell ⟨w.heap.size, 0, none⟩ (.int .i64 m1)).frozen? ⟨w.heap.size, o, none⟩ = false := fun o => by rw [World.frozen?_setCell]; exact bF o
                replace hg := hg.trans (hset.mono (fun j _ h => by (try dsimp only at h ⊢); omega))
                replace hsz : w.heap.size + 1 ≤ (wu.setCell ⟨w.heap.size, 0, none⟩ (.int .i64 m1)).heap.size := Nat.le_trans hsz hset.size
                clear xb yb b1 b2 bF f0 hset
                generalize (wu.setCell ⟨w.heap.size, 0, none⟩ (.int .i64 m1)) = wu2 at *
                have b1 := b1'
                have b2 := b2'
                have bF := bF'
                clear b1' b2' bF'
                refine wp_region_tail 9 [Line.is (.pointer (some ⟨w.heap.size, 1, none⟩)), Line.is (.int .i64 r2), Line.is (.slice (some ⟨bx, off, none⟩) n ca), Line.is (.int .i64 (k : Int)), Line.is (.pointer (some ⟨bx, off + k * 2, none⟩)), Line.is (.pointer (some ⟨bx, off + k * 2 + 1, none⟩)), Line.is (.int .i64 x2), Line.is (.int .i64 m2), Line.is (.pointer (some ⟨w.heap.size, 1, none⟩))] [34, 35, 36, 37, 38, 39, 40, 41, 42] (by kernel_rfl) (by kernel_rfl) (by kernel_rfl) (by kernel_rfl) (by kernel_rfl) (by kernel_rfl) (by kernel_rfl) ?_ ?_
                · refine Each.cons ?_ (Each.cons ?_ (Each.cons ?_ (Each.cons ?_ (Each.cons ?_ (Each.cons ?_ (Each.cons ?_ (Each.cons ?_ (Each.cons ?_ (Each.nil)))))))))
                  · intro g ws hws hl
                    simp only [fillAt, List.foldl_cons, List.foldl_nil, Act.put, List.setIfInBounds_toArray, List.set_cons_zero, List.set_cons_succ]
                    refine Stays.plain ?_ (by rfl) ?_ ?_
                    rotate_left
                    · go_simp
                      try with_reducible rfl
                    · exact rfl
                  · intro g ws hws hl
                    have ln0 : g 34 = _ := (show (Line.is (.pointer (some ⟨w.heap.size, 1, none⟩))).p (g 34) ws from linesOf_get 0 hl (by kernel_rfl))
                    simp only [fillAt, List.foldl_cons, List.foldl_nil, Act.put, List.setIfInBounds_toArray, List.set_cons_zero, List.set_cons_succ, ln0]
                    obtain ⟨q0, p0⟩ := hws.row (k := w.heap.size) (by first | assumption | (simp; done) | (simp; omega) | omega)
                    obtain ⟨q1, p1⟩ := hws.row (k := bx) (by first | assumption | (simp; done) | (simp; omega) | omega)
                    refine Stays.plain ?_ (by rfl) ?_ ?_
                    rotate_left
                    · go_simp
                      try with_reducible rfl
                    · exact rfl
                  · intro g ws hws hl
                    simp only [fillAt, List.foldl_cons, List.foldl_nil, Act.put, List.setIfInBounds_toArray, List.set_cons_zero, List.set_cons_succ]
                    refine Stays.plain ?_ (by rfl) ?_ ?_
                    rotate_left
                    · go_simp
                      try with_reducible rfl
                    · exact rfl
                  · intro g ws hws hl
                    simp only [fillAt, List.foldl_cons, List.foldl_nil, Act.put, List.setIfInBounds_toArray, List.set_cons_zero, List.set_cons_succ]
                    refine Stays.plain ?_ (by rfl) ?_ ?_
                    rotate_left
                    · go_simp
                      try with_reducible rfl
                    · exact rfl
                  · intro g ws hws hl
                    have ln2 : g 36 = _ := (show (Line.is (.slice (some ⟨bx, off, none⟩) n ca)).p (g 36) ws from linesOf_get 2 hl (by kernel_rfl))
                    have ln3 : g 37 = _ := (show (Line.is (.int .i64 (k : Int))).p (g 37) ws from linesOf_get 3 hl (by kernel_rfl))
                    simp only [fillAt, List.foldl_cons, List.foldl_nil, Act.put, List.setIfInBounds_toArray, List.set_cons_zero, List.set_cons_succ, ln2, ln3]
                    refine Stays.plain ?_ (by rfl) ?_ ?_
                    rotate_left
                    · go_simp
                      try with_reducible rfl
                    · exact rfl
                  · intro g ws hws hl
                    have ln4 : g 38 = _ := (show (Line.is (.pointer (some ⟨bx, off + k * 2, none⟩))).p (g 38) ws from linesOf_get 4 hl (by kernel_rfl))
                    simp only [fillAt, List.foldl_cons, List.foldl_nil, Act.put, List.setIfInBounds_toArray, List.set_cons_zero, List.set_cons_succ, ln4]
                    refine Stays.plain ?_ (by rfl) ?_ ?_
                    rotate_left
                    · go_simp
                      try with_reducible rfl
                    · exact rfl
                  · intro g ws hws hl
                    have ln5 : g 39 = _ := (show (Line.is (.pointer (some ⟨bx, off + k * 2 + 1, none⟩))).p (g 39) ws from linesOf_get 5 hl (by kernel_rfl))
                    simp only [fillAt, List.foldl_cons, List.foldl_nil, Act.put, List.setIfInBounds_toArray, List.set_cons_zero, List.set_cons_succ, ln5]
                    obtain ⟨q0, p0⟩ := hws.row (k := w.heap.size) (by first | assumption | (simp; done) | (simp; omega) | omega)
                    obtain ⟨q1, p1⟩ := hws.row (k := bx) (by first | assumption | (simp; done) | (simp; omega) | omega)
                    refine Stays.plain ?_ (by rfl) ?_ ?_
                    rotate_left
                    · go_simp
                      try with_reducible rfl
                    · exact rfl
                  · intro g ws hws hl
                    have ln1 : g 35 = _ := (show (Line.is (.int .i64 r2)).p (g 35) ws from linesOf_get 1 hl (by kernel_rfl))
                    have ln6 : g 40 = _ := (show (Line.is (.int .i64 x2)).p (g 40) ws from linesOf_get 6 hl (by kernel_rfl))
                    simp only [fillAt, List.foldl_cons, List.foldl_nil, Act.put, List.setIfInBounds_toArray, List.set_cons_zero, List.set_cons_succ, ln1, ln6]
                    refine Stays.plain (.int .i64 m2) (by rfl) ?_ rfl
                    rcases Int.le_total r2 x2 with hle | hle
                    · have hm2 : m2 = x2 := by rw [hm2.out]; omega
                      rw [hm2]
                      go_simp
                      try omega
                    · have hm2 : m2 = r2 := by rw [hm2.out]; omega
                      rw [hm2]
                      go_simp
                      try omega
                  · intro g ws hws hl
                    simp only [fillAt, List.foldl_cons, List.foldl_nil, Act.put, List.setIfInBounds_toArray, List.set_cons_zero, List.set_cons_succ]
                    refine Stays.plain ?_ (by rfl) ?_ ?_
                    rotate_left
                    · go_simp
                      try with_reducible rfl
                    · exact rfl
                · intro g wv hwv hl
                  have ln0 : g 34 = _ := (show (Line.is (.pointer (some ⟨w.heap.size, 1, none⟩))).p (g 34) wv from (allLines_get 34 0 0 hl rfl))
                  have ln1 : g 35 = _ := (show (Line.is (.int .i64 r2)).p (g 35) wv from (allLines_get 35 1 0 hl rfl))
                  have ln2 : g 36 = _ := (show (Line.is (.slice (some ⟨bx, off, none⟩) n ca)).p (g 36) wv from (allLines_get 36 2 0 hl rfl))
                  have ln3 : g 37 = _ := (show (Line.is (.int .i64 (k : Int))).p (g 37) wv from (allLines_get 37 3 0 hl rfl))
                  have ln4 : g 38 = _ := (show (Line.is (.pointer (some ⟨bx, off + k * 2, none⟩))).p (g 38) wv from (allLines_get 38 4 0 hl rfl))
                  have ln5 : g 39 = _ := (show (Line.is (.pointer (some ⟨bx, off + k * 2 + 1, none⟩))).p (g 39) wv from (allLines_get 39 5 0 hl rfl))
                  have ln6 : g 40 = _ := (show (Line.is (.int .i64 x2)).p (g 40) wv from (allLines_get 40 6 0 hl rfl))
                  have ln7 : g 41 = _ := (show (Line.is (.int .i64 m2)).p (g 41) wv from (allLines_get 41 7 0 hl rfl))
                  have ln8 : g 42 = _ := (show (Line.is (.pointer (some ⟨w.heap.size, 1, none⟩))).p (g 42) wv from (allLines_get 42 8 0 hl rfl))
                  clear hl
                  simp only [fillAt, List.foldl_cons, List.foldl_nil, Act.put, List.setIfInBounds_toArray, List.set_cons_zero, List.set_cons_succ, ln0, ln1, ln2, ln3, ln4, ln5, ln6, ln7, ln8]
                  simp only [List.drop_succ_cons, List.drop_zero]
                  have xwv : Ext wu2 wv := (Ext.refl wu2).drew.trans hwv
                  obtain ⟨xb, yb⟩ := (xwv).row (k := w.heap.size) (by omega)
                  replace b1 := (xb 0).trans b1
                  replace b2 := (xb 1).trans b2
                  replace bF := fun o => (yb o).trans (bF o)
                  clear xb yb
                  obtain ⟨xb, yb⟩ := (xwv).row (k := bx) (by omega)
                  replace dx := (xb _).trans dx
                  replace dx2 := (xb _).trans dx2
                  clear xb yb
                  replace hown := hide (ownR_ext hown.out (xwv))
                  replace hg := hg.trans ((xwv).chg _)
                  replace hsz : w.heap.size + 1 ≤ wv.heap.size := Nat.le_trans hsz (xwv).size
                  have f0 := bF 1
                  go_wp2_with fail
                  have hset : Chg (fun j => j = w.heap.size) wv (wv.setCell ⟨w.heap.size, 1, none⟩ (.int .i64 m2)) := Chg.set (S := fun j => j = w.heap.size) (p := ⟨w.heap.size, 1, none⟩) (Or.inl rfl) (Chg.refl _ _) _
                  replace hown := hide (ownR_chg hown.out hset (fun j h => by (try dsimp only); omega))
                  have b2' : (wv.setCell ⟨w.heap.size, 1, none⟩ (.int .i64 m2)).cell? ⟨w.heap.size, 1, none⟩ = some (.int .i64 m2) := by rw [World.cell?_setCell_same' _ _ _ (by rw [b2]; rfl)]
                  have b1' : (wv.setCell ⟨w.heap.size, 1, none⟩ (.int .i64 m2)).cell? ⟨w.heap.size, 0, none⟩ = some (.int .i64 m1) := (World.cell?_setCell_other wv ⟨w.heap.size, 1, none⟩ ⟨w.heap.size, 0, none⟩ _ (fun e => by injection e; omega)).trans b1
                  have bF' : ∀ o, (wv.setCell ⟨w.heap.size, 1, none⟩ (.int .i64 m2)).frozen? ⟨w.heap.size, o, none⟩ = false := fun o => by rw [World.frozen?_setCell]; exact bF o
                  replace hg := hg.trans (hset.mono (fun j _ h => by (try dsimp only at h ⊢); omega))
                  replace hsz : w.heap.size + 1 ≤ (wv.setCell ⟨w.heap.size, 1, none⟩ (.int .i64 m2)).heap.size := Nat.le_trans hsz hset.size
                  clear b1 b2 bF f0 hset
                  have b1 := b1'
                  have b2 := b2'
                  have bF := bF'
                  clear b1' b2' bF'
                  go_wp2
                  go_roundw
                  case rel => exact ⟨k + 1, m, m1, m2, q, _, _, _, by go_num, by omega, hst, rfl, rfl, by omega, hide ⟨hL.out, hown.out⟩, b1, b2, bF, hsz, hg⟩
                  case measure => simp [intOf]; omega
        · obtain rfl : k = n := by omega
          have hK2 : Hid (addR rs (a, b) = addEnd ((r1, r2), q, L)) := hide (by rw [addR_yes hi hf, ← addK_all hi hf, hn'.out, hK.out])
          clear hK
          cases q
          · have hK3 : Hid (addR rs (a, b) = L ++ [(r1, r2)]) := hide (hK2.out)
            clear hK2
            go_wp2_with (at_builtin; refine wpList_append_lies _ rfl _ _ _ (by rfl) (w.heap.size + 1) 61 i0 _ 2 16 Try.underlying30 hi0 hz0 hz1 hz2 rfl (by omega) (.slice ao1 m ca1) m _ (by rfl) ((hown.out).alloc _) ⟨wr.heap.size, 0, none⟩ 1 1 [.int .i64 r1, .int .i64 r2] (by rfl) (by rfl) (World.news_of_block (cs := #[.int .i64 r1, .int .i64 r2]) (t := 61) (fr := (0, 0)) (heap_alloc_new wr _)) (by simp [Value.oneCell']) (by omega) (by simp [maxLen] <;> omega) (by omega) (by simp; omega) (wr.heap.size + 1) (by simp) ?_)
            intro gg1 cap1 w3 hown1 hgrow1 hat1 hlt1
            have hgc1 := grewR (hown.out) hgrow1
            rw [rgCells_app L (r1, r2)] at hown1
            clear hgrow1 hat1 hlt1
            have hL2 : (L ++ [(r1, r2)]).length = m + 1 := by rw [List.length_append, hL.out]; rfl
            replace hL2 := hide hL2
            go_wp2
            obtain ⟨ao2, cap2, e2, e3, ho⟩ := own_ranges hown1
            refine bodyPost_ret (v := .slice (some ⟨gg1, 0, none⟩) (m + 1) cap1) (by simp [results, Try.results69, go_sem]) rfl ?_
            rw [hK3.out]
            rw [hL2.out] at e2
            refine ⟨ao2, cap2, by rw [e2, hL2.out], ho.mono (by omega) (Nat.le_refl _), (hg.trans (hgc1.mono (fun _ _ h => by (try dsimp only at h ⊢); omega))).ext (fun k hk h => by omega)⟩
          · have hK3 : Hid (addR rs (a, b) = L) := hide (hK2.out)
            clear hK2
            go_wp2
            obtain ⟨ao2, cap2, e2, e3, ho⟩ := own_ranges hown.out
            obtain ⟨rfl, rfl⟩ : ao1 = ao2 ∧ ca1 = cap2 := by simpa using (And.intro (by injection e2) (by injection e2) : ao1 = ao2 ∧ ca1 = cap2)
            refine bodyPost_ret (v := .slice ao1 m ca1) (by simp [results, Try.results69, go_sem]) rfl ?_
            rw [hK3.out]
            exact ⟨ao1, ca1, by rw [e3], ho.mono (by omega) (Nat.le_refl _), hg.ext (fun k hk h => by omega)⟩
    · have hA : addR rs (a, b) = rs := if_neg (by simp [hf])
      rw [hA]
      clear hA
      go_enter Try.func69, Try.ntmps69
      go_wp2_with fail
      refine (IsRanges_spec ao n ca rs _ (hx'.out.ext (by repeat (first | with_reducible exact Ext.refl _ | with_reducible assumption | with_reducible refine Ext.alloc ?_ _ | with_reducible refine Ext.drew ?_ | with_reducible refine Ext.drewN ?_ _ | ((with_reducible refine Ext.set ?_ ?_ _); (focus (first | (simp; done) | (simp; omega)))) | with_reducible refine Ext.trans ?_ (by assumption)))) hn'.out (by omega)).mono ?_
      rintro en w1 ⟨rfl, hb1⟩
      rw [hi]
      obtain ⟨c1, f1⟩ := hb1.row (k := w.heap.size) (by first | assumption | (simp; done) | (simp; omega) | omega)
      have k1 := hb1.more (k := w.heap.size) (by first | assumption | (simp; done) | (simp; omega) | omega)
      go_wp2_with fail
      refine (fine_spec a b _).mono ?_
      rintro en w2 ⟨rfl, hb2⟩
      rw [hf]
      go_wp2_with fail
      refine (copyR_spec ao n ca rs _ (hx'.out.ext (by repeat (first | with_reducible exact Ext.refl _ | with_reducible assumption | with_reducible refine Ext.alloc ?_ _ | with_reducible refine Ext.drew ?_ | with_reducible refine Ext.drewN ?_ _ | ((with_reducible refine Ext.set ?_ ?_ _); (focus (first | (simp; done) | (simp; omega)))) | with_reducible refine Ext.trans ?_ (by assumption)))) hn'.out (by omega)).mono ?_
      rintro en w3 ⟨ao3, cap3, rfl, ho, hb3⟩
      have hs1 := hb1.size
      have hs2 := hb2.size
      go_wp2
      refine bodyPost_ret (v := .slice ao3 rs.length cap3) (by simp [results, Try.results69, go_sem]) rfl ⟨ao3, cap3, rfl, ho.mono (by simp at hs1 ⊢; omega) (Nat.le_refl _), (by repeat (first | with_reducible exact Ext.refl _ | with_reducible assumption | with_reducible refine Ext.alloc ?_ _ | with_reducible refine Ext.drew ?_ | with_reducible refine Ext.drewN ?_ _ | ((with_reducible refine Ext.set ?_ ?_ _); (focus (first | (simp; done) | (simp; omega)))) | with_reducible refine Ext.trans ?_ (by assumption)))⟩
  · have hA : addR rs (a, b) = rs := if_neg (by simp [hi])
    rw [hA]
    clear hA
    go_enter Try.func69, Try.ntmps69
    go_wp2_with fail
    refine (IsRanges_spec ao n ca rs _ (hx'.out.ext (by repeat (first | with_reducible exact Ext.refl _ | with_reducible assumption | with_reducible refine Ext.alloc ?_ _ | with_reducible refine Ext.drew ?_ | with_reducible refine Ext.drewN ?_ _ | ((with_reducible refine Ext.set ?_ ?_ _); (focus (first | (simp; done) | (simp; omega)))) | with_reducible refine Ext.trans ?_ (by assumption)))) hn'.out (by omega)).mono ?_
    rintro en w1 ⟨rfl, hb1⟩
    rw [hi]
    obtain ⟨c1, f1⟩ := hb1.row (k := w.heap.size) (by first | assumption | (simp; done) | (simp; omega) | omega)
    have k1 := hb1.more (k := w.heap.size) (by first | assumption | (simp; done) | (simp; omega) | omega)
    go_wp2_with fail
    refine (copyR_spec ao n ca rs _ (hx'.out.ext (by repeat (first | with_reducible exact Ext.refl _ | with_reducible assumption | with_reducible refine Ext.alloc ?_ _ | with_reducible refine Ext.drew ?_ | with_reducible refine Ext.drewN ?_ _ | ((with_reducible refine Ext.set ?_ ?_ _); (focus (first | (simp; done) | (simp; omega)))) | with_reducible refine Ext.trans ?_ (by assumption)))) hn'.out (by omega)).mono ?_
    rintro en w3 ⟨ao3, cap3, rfl, ho, hb3⟩
    have hs1 := hb1.size
    go_wp2
    refine bodyPost_ret (v := .slice ao3 rs.length cap3) (by simp [results, Try.results69, go_sem]) rfl ⟨ao3, cap3, rfl, ho.mono (by simp at hs1 ⊢; omega) (Nat.le_refl _), (by repeat (first | with_reducible exact Ext.refl _ | with_reducible assumption | with_reducible refine Ext.alloc ?_ _ | with_reducible refine Ext.drew ?_ | with_reducible refine Ext.drewN ?_ _ | ((with_reducible refine Ext.set ?_ ?_ _); (focus (first | (simp; done) | (simp; omega)))) | with_reducible refine Ext.trans ?_ (by assumption)))⟩
end
end Go.Proofs.Ytjhgcbchdnoleaa

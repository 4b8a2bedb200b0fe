/-
  Part of the proof: RgC.
-/
import Derived.Test.YtjhgcbchdnoleaaPNrg
import Derived.Test.YtjhgcbchdnoleaaPG8
namespace Go.Proofs.Ytjhgcbchdnoleaa
section
open Go.ChangeShapes Go.WideShapes Go.ChangeAt Go.RowKit
set_option linter.unusedSimpArgs false
set_option linter.unusedVariables false
/-- A row of ranges of the call's own, in blocks from lo up to hi. -/
def RowAt (lo hi : Nat) (w : World) (v : Value) (m : Nat) (L : List Rg) : Prop := w.ownsRow lo 61 2 v m (rgCells L) ∧ ∀ k, v.ownBlock = some k → k < hi
theorem RowAt.of {lo : Nat} {w : World} {v : Value} {m : Nat} {L : List Rg} (h : w.ownsRow lo 61 2 v m (rgCells L)) : RowAt lo w.heap.size w v m L := ⟨h, fun k hk => (h.lt k hk).2⟩
theorem RowAt.chg {lo hi m : Nat} {S : Nat → Prop} {w w' : World} {v : Value} {L : List Rg} (h : RowAt lo hi w v m L) (hx : Chg S w w') (hS : ∀ b, lo ≤ b → b < hi → ¬ S b) : RowAt lo hi w' v m L :=
  ⟨ownsBlk h.1 hx (fun k hk => hS k (h.1.lt k hk).1 (h.2 k hk)), h.2⟩
set_option maxHeartbeats 8000000 in
set_option maxRecDepth 100000 in
theorem RemoveRange_spec (a b : Int) (ao : Option Addr) (n ca : Nat) (rs : List Rg) (w : World) (hx : ReadR w ao rs) (hn : rs.length = n) (hl : n ≤ 1048576) :
    Calls Try.prog 99 #[.slice ao n ca, .agg #[.int .i64 a, .int .i64 b]] w (NewRW (remR rs (a, b)) w) := by
  have hn' := hide hn
  have hx' := hide hx
  clear hn hx
  obtain ⟨i0, hi0, hz0, hz1, hz2⟩ := info_parts infoRange
  rcases Bool.eq_false_or_eq_true (isRgs rs) with hi | hi
  · rcases Bool.eq_false_or_eq_true (rgFine (a, b)) with hf | hf
    · go_enter Try.func99, Try.ntmps99
      go_wp2_with fail
      refine (IsRanges_spec ao n ca rs _ (hx'.out.ext Ext.go) hn'.out (by omega)).mono ?_
      rintro en w1 ⟨rfl, hb1⟩
      rw [hi]
      have hB1 := BoxV.ext (BoxV.new w [.int .i64 a, .int .i64 b] 61) hb1
      obtain ⟨q1, q2, qF⟩ : w1.cell? ⟨w.heap.size, 0, none⟩ = some (.int .i64 a) ∧ w1.cell? ⟨w.heap.size, 1, none⟩ = some (.int .i64 b) ∧ ∀ o, w1.frozen? ⟨w.heap.size, o, none⟩ = false := ⟨hB1.c 0 _ rfl, hB1.c 1 _ rfl, hB1.fr⟩
      have k1 := hb1.more (k := w.heap.size) xpf
      go_wp2_with fail
      refine (fine_spec a b _).mono ?_
      rintro en w2 ⟨rfl, hb2⟩
      rw [hf]
      have hB2 := hB1.ext hb2
      have k2 := hb2.more (k := w.heap.size) xpf
      clear q1 q2 qF
      have q1 := hB2.c 0 _ rfl
      have q2 := hB2.c 1 _ rfl
      have qF := hB2.fr
      have hx2 : Ext w w2 := Ext.go
      clear hb1 hb2
      replace hB2 := hide hB2
      clear hB1
      go_wp2_with fail
      go_loopw [5, 6] (fun s i wr => ∃ (k m : Nat) (L : List Rg) (ao1 : Option Addr) (ca1 : Nat), i = .int .i64 k ∧ k ≤ n ∧ Hid (remRec (a, b) (rs.take k) = L) ∧ s = .slice ao1 m ca1 ∧ m ≤ 2 * k ∧ Hid (L.length = m ∧ wr.ownsRow (w.heap.size + 1) 61 2 (.slice ao1 m ca1) m (rgCells L)) ∧ BoxV w.heap.size wr [.int .i64 a, .int .i64 b] ∧ w.heap.size + 1 ≤ wr.heap.size ∧ Chg (fun b => w.heap.size ≤ b) w wr) (fun _ i _ => n - (intOf i).toNat)
      case atStart =>
        have hEm : Ext w2 (w2.alloc (.cells #[] 61)) := (Ext.refl w2).alloc _
        exact ⟨0, 0, [], _, _, rfl, by omega, hide rfl, rfl, by omega, hide ⟨rfl, World.ownsRow_made w2 #[] 0 (by omega) (by decide) rfl⟩, hB2.out.ext hEm, by simp; omega, (hx2.trans hEm).chg _⟩
      case round =>
        obtain ⟨k, m, L, ao1, ca1, rfl, hk, hK, rfl, hm, hLo, hB0, hsz, hg⟩ := hrel
        have hL := hide hLo.out.1
        have hown := hide hLo.out.2
        have hB := hide hB0
        clear hLo q1 q2 qF hB0
        have b1 := hB.out.c 0 _ rfl
        have b2 := hB.out.c 1 _ rfl
        have bF := hB.out.fr
        have hfb := rgFine_bd hf
        dsimp only at hfb
        by_cases hlt : k < n
        · have hkx : k < rs.length := by rw [hn'.out]; exact hlt
          rcases hx'.out with hnil | ⟨bx, off, rfl, hx⟩
          · rw [hnil] at hkx; simp at hkx
          obtain ⟨cx, cx2⟩ := hx k hkx
          have la : bx < w.heap.size := World.block_lt_of_cell? w _ cx
          have hr := (hg.row la (by omega)).1
          have dx := (hr _).trans cx
          have dx2 := (hr _).trans cx2
          have i1 : (0 : Int) ≤ (k : Int) := by omega
          have i2 : (k : Int) < (n : Int) := by omega
          have hxb := rgs_at hi hkx
          obtain ⟨⟨x1, x2⟩, hx0⟩ : ∃ x : Rg, Hid (rs.getD k dr = x) := ⟨_, hide rfl⟩
          rw [hx0.out] at dx dx2 hxb
          dsimp only at dx dx2 hxb
          clear hx cx cx2 hr
          have lw : bx < wr.heap.size := by omega
          have ⟨hne, hne2⟩ := ne2 (show bx ≠ w.heap.size by omega)
          have ⟨hne3, hne4⟩ := ne2 (show w.heap.size ≠ wr.heap.size by omega)
          have ksz : w.heap.size < wr.heap.size := by omega
          obtain ⟨hx00, h12, hxm⟩ := hxb
          obtain ⟨ha0, hab, hbm⟩ := hfb
          by_cases d1 : x2 ≤ a
          · have d1e : decide (b < x2) = false := decide_eq_false (by omega)
            have d3 : ¬ (b ≤ x1) := by omega
            have d4 : x1 ≤ b := by omega
            have hst : Hid (remRec (a, b) (rs.take (k + 1)) = L ++ [(x1, x2)]) := hide (by
              rw [remK_succ hkx, hK.out, hx0.out]
              simp only [remOne]
              have h1 : x1 < min x2 a := by omega
              have h2 : ¬ max x1 b < x2 := by omega
              have hv : min x2 a = x2 := by omega
              rw [if_pos h1, if_neg h2, hv]
              simp)
            clear hK hx0
            replace hown := hide (RowAt.of hown.out)
            clear b1 b2 bF
            obtain ⟨br0, br1, brF, kbr⟩ := BoxV.a2 hB.out
            go_wp2_with fail
            refine wp_region_flowC (fun _ => False) 14 [(0, 1), (1, 1), (2, 1), (3, 1), (4, 1), (5, 1), (6, 1), (7, 1), (8, 1), (9, 1), (10, 1), (11, 1), (12, 1), (13, 1)] (by kernel_rfl) (by kernel_rfl) ?_
            iterate 4 ((refine wpC_pure (v := ?_) rfl rfl (by rfl) ?_ ?_; rotate_left; (focus (intro ws hws; go_simp; (try with_reducible rfl); done))); try simp only [nrm, nrg])
            (refine wpC_pure (v := ?_) rfl rfl (by rfl) ?_ ?_; rotate_left; (focus (intro ws hws; obtain ⟨q0, p0⟩ := hws.row (k := bx) xpf xom; go_simp; (try with_reducible rfl); done)))
            try simp only [nrm, nrg]
            iterate 4 ((refine wpC_pure (v := ?_) rfl rfl (by rfl) ?_ ?_; rotate_left; (focus (intro ws hws; go_simp; (try with_reducible rfl); done))); try simp only [nrm, nrg])
            (refine wpC_pure (v := ?_) rfl rfl (by rfl) ?_ ?_; rotate_left; (focus (intro ws hws; obtain ⟨q0, p0⟩ := hws.row (k := bx) xpf xom; go_simp; (try with_reducible rfl); done)))
            try simp only [nrm, nrg]
            (refine wpC_pure (v := ?_) rfl rfl (by rfl) ?_ ?_; rotate_left; (focus (intro ws hws; go_simp; (try with_reducible rfl); done)))
            try simp only [nrm, nrg]
            (refine wpC_pure (v := ?_) rfl rfl (by rfl) ?_ ?_; rotate_left; (focus (intro ws hws; obtain ⟨q0, p0⟩ := hws.row (k := w.heap.size) xpf xom; go_simp; (try with_reducible rfl); done)))
            try simp only [nrm, nrg]
            refine wpC_pure (v := (.int .i64 x2)) rfl rfl (by rfl) ?_ ?_
            focus (intro ws hws; go_simp; (try omega))
            try simp only [nrm, nrg]
            (refine wpC_pure (v := ?_) rfl rfl (by rfl) ?_ ?_; rotate_left; (focus (intro ws hws; go_simp; (try with_reducible rfl); done)))
            try simp only [nrm, nrg]
            refine wpF_done rfl ?_
            simp only [List.drop_succ_cons, List.drop_zero, List.drop_nil]
            go_wp2_with fail
            refine wp_region_flowC (fun _ => False) 16 [(0, 1), (1, 1), (2, 1), (3, 1), (4, 1), (5, 1), (6, 1), (7, 1), (8, 1), (9, 1), (10, 1), (11, 1), (12, 1), (13, 1), (14, 1), (15, 0)] (by kernel_rfl) (by kernel_rfl) ?_
            obtain ⟨u1, h0u1⟩ : ∃ u, u = wr.drew.drew := ⟨_, rfl⟩
            rw [← h0u1]
            have hu1 : Ext wr.drew.drew u1 := h0u1 ▸ Ext.go
            have gu1 : Chg (fun b => False) wr u1 := Chg.trans (by repeat (first | with_reducible exact Chg.refl _ _ | with_reducible refine Chg.alloc ?_ _ | with_reducible refine Chg.drew ?_ | ((with_reducible refine Chg.set ?_ ?_ _); (focus (first | (left; first | rfl | (simp; done) | ((try dsimp only); omega) | (simp; omega)) | (right; simp; done) | (right; simp; omega) | (right; omega)))))) (Ext.chg hu1 _)
            have zu1 := hu1.size
            (try simp at zu1)
            have yu1 : wr.heap.size ≤ u1.heap.size := gu1.size
            obtain ⟨qo, po⟩ := gu1.row (k := bx) (by omega) xom
            replace dx := (qo _).trans dx
            replace dx2 := (qo _).trans dx2
            clear qo po
            have hr_u1 := hide (hB.out.chg gu1 xom)
            have oo_u1 := hide (RowAt.chg hown.out gu1 (fun b h1 h2 h3 => by first | exact False.elim h3 | ((try dsimp only at h3); omega)))
            have hgwu1 : Chg (fun b => w.heap.size ≤ b) w u1 := Chg.trans hg (Chg.mono (T := fun b => w.heap.size ≤ b) gu1 (fun b _ h => by first | exact False.elim h | ((try dsimp only at h ⊢); omega)))
            clear hB hown hg br0 br1 brF kbr
            clear gu1 hu1
            obtain ⟨br0, br1, brF, kbr⟩ := BoxV.a2 hr_u1.out
            clear h0u1
            iterate 5 ((refine wpC_pure (v := ?_) rfl rfl (by rfl) ?_ ?_; rotate_left; (focus (intro ws hws; go_simp; (try with_reducible rfl); done))); try simp only [nrm, nrg])
            (refine wpC_pure (v := ?_) rfl rfl (by rfl) ?_ ?_; rotate_left; (focus (intro ws hws; obtain ⟨q0, p0⟩ := hws.row (k := bx) xpf xom; go_simp; (try with_reducible rfl); done)))
            try simp only [nrm, nrg]
            iterate 4 ((refine wpC_pure (v := ?_) rfl rfl (by rfl) ?_ ?_; rotate_left; (focus (intro ws hws; go_simp; (try with_reducible rfl); done))); try simp only [nrm, nrg])
            (refine wpC_pure (v := ?_) rfl rfl (by rfl) ?_ ?_; rotate_left; (focus (intro ws hws; obtain ⟨q0, p0⟩ := hws.row (k := bx) xpf xom; go_simp; (try with_reducible rfl); done)))
            try simp only [nrm, nrg]
            (refine wpC_pure (v := ?_) rfl rfl (by rfl) ?_ ?_; rotate_left; (focus (intro ws hws; go_simp; (try with_reducible rfl); done)))
            try simp only [nrm, nrg]
            (refine wpC_pure (v := ?_) rfl rfl (by rfl) ?_ ?_; rotate_left; (focus (intro ws hws; obtain ⟨q0, p0⟩ := hws.row (k := w.heap.size) xpf xom; go_simp; (try with_reducible rfl); done)))
            try simp only [nrm, nrg]
            refine wpC_pure (v := (.int .i64 x2)) rfl rfl (by rfl) ?_ ?_
            focus (intro ws hws; go_simp; (try omega))
            try simp only [nrm, nrg]
            (refine wpC_pure (v := ?_) rfl rfl (by rfl) ?_ ?_; rotate_left; (focus (intro ws hws; go_simp; (try with_reducible rfl); done)))
            try simp only [nrm, nrg]
            refine wpC_made (.slice (some ⟨u1.heap.size, 0, none⟩) 1 1) (u1.alloc (.cells #[.int .i64 x1, .int .i64 x2] 61)) rfl rfl (by rfl) (by go_simp) (Chg.alloc (Chg.refl _ _) _) ?_
            try simp only [nrm, nrg]
            refine wpF_done rfl ?_
            simp only [List.drop_succ_cons, List.drop_zero, List.drop_nil]
            go_wp2_with (at_builtin; refine wpList_append_lies _ rfl _ _ _ (by rfl) (w.heap.size + 1) 61 i0 _ 2 16 Try.underlying30 hi0 hz0 hz1 hz2 rfl (by omega) (.slice ao1 m ca1) m _ (by rfl) (oo_u1.out.1.alloc _) ⟨u1.heap.size, 0, none⟩ 1 1 [.int .i64 x1, .int .i64 x2] (by rfl) (by rfl) (World.news_of_block (cs := #[.int .i64 x1, .int .i64 x2]) (t := 61) (fr := (0, 0)) (heap_alloc_new u1 _)) (by simp [Value.oneCell']) (by omega) (by simp [maxLen] <;> omega) (by omega) (by simp; omega) (u1.heap.size + 1) (by simp) ?_)
            intro gg1 cap1 ua1 hown1 hgrow1 hat1 hlt1
            have hgc1 : Chg (fun b => ((.slice ao1 m ca1) : Value).ownBlock = some b) u1 ua1 := (((Ext.refl u1).alloc _).chg _).trans (grown_chg hgrow1 (fun k hk => hk))
            have hlb : ∀ b, ((.slice ao1 m ca1) : Value).ownBlock = some b → (w.heap.size + 1) ≤ b ∧ b < u1.heap.size := fun b hb => oo_u1.out.1.lt _ hb
            rw [rgCells_app L (x1, x2)] at hown1
            replace hown1 := hide (RowAt.of hown1)
            have zz1 := hgc1.size
            clear hgrow1 hat1 hlt1
            obtain ⟨qo, po⟩ := hgc1.row (k := bx) (by omega) (fun h => by have := hlb _ h; omega)
            replace dx := (qo _).trans dx
            replace dx2 := (qo _).trans dx2
            clear qo po
            have hr_ua1 := hide (hr_u1.out.chg hgc1 (fun h => by have := hlb _ h; omega))
            have hgwua1 := hgwu1.trans (hgc1.mono (T := fun b => w.heap.size ≤ b) (fun b _ h => by have := hlb b h; (try dsimp only); omega))
            clear br0 br1 brF kbr hr_u1 hgwu1 oo_u1 hlb hgc1
            obtain ⟨br0, br1, brF, kbr⟩ := BoxV.a2 hr_ua1.out
            go_wp2_with fail
            refine wp_region_flowC (fun _ => False) 14 [(0, 1), (1, 1), (2, 1), (3, 1), (4, 1), (5, 1), (6, 1), (7, 1), (8, 1), (9, 1), (10, 1), (11, 1), (12, 1), (13, 1)] (by kernel_rfl) (by kernel_rfl) ?_
            iterate 4 ((refine wpC_pure (v := ?_) rfl rfl (by rfl) ?_ ?_; rotate_left; (focus (intro ws hws; go_simp; (try with_reducible rfl); done))); try simp only [nrm, nrg])
            (refine wpC_pure (v := ?_) rfl rfl (by rfl) ?_ ?_; rotate_left; (focus (intro ws hws; obtain ⟨q0, p0⟩ := hws.row (k := bx) xpf xom; go_simp; (try with_reducible rfl); done)))
            try simp only [nrm, nrg]
            (refine wpC_pure (v := ?_) rfl rfl (by rfl) ?_ ?_; rotate_left; (focus (intro ws hws; go_simp; (try with_reducible rfl); done)))
            try simp only [nrm, nrg]
            (refine wpC_pure (v := ?_) rfl rfl (by rfl) ?_ ?_; rotate_left; (focus (intro ws hws; obtain ⟨q0, p0⟩ := hws.row (k := w.heap.size) xpf xom; go_simp; (try with_reducible rfl); done)))
            try simp only [nrm, nrg]
            refine wpC_pure (v := (.int .i64 b)) rfl rfl (by rfl) ?_ ?_
            focus (intro ws hws; go_simp; (try omega))
            try simp only [nrm, nrg]
            iterate 4 ((refine wpC_pure (v := ?_) rfl rfl (by rfl) ?_ ?_; rotate_left; (focus (intro ws hws; go_simp; (try with_reducible rfl); done))); try simp only [nrm, nrg])
            (refine wpC_pure (v := ?_) rfl rfl (by rfl) ?_ ?_; rotate_left; (focus (intro ws hws; obtain ⟨q0, p0⟩ := hws.row (k := bx) xpf xom; go_simp; (try with_reducible rfl); done)))
            try simp only [nrm, nrg]
            (refine wpC_pure (v := ?_) rfl rfl (by rfl) ?_ ?_; rotate_left; (focus (intro ws hws; go_simp; (try with_reducible rfl); done)))
            try simp only [nrm, nrg]
            refine wpF_done rfl ?_
            simp only [List.drop_succ_cons, List.drop_zero, List.drop_nil]
            go_wp2
            go_roundw
            case rel => exact ⟨k + 1, m + 1, _, _, _, by go_num, by omega, hst, rfl, by omega, hide ⟨by rw [List.length_append, hL.out]; rfl, (show World.ownsRow _ _ _ _ _ _ _ from ownR_ext hown1.out.1 Ext.go)⟩, hr_ua1.out.ext Ext.go, by (try simp only [World.size_drew]); omega, (hgwua1.trans (Ext.chg Ext.go _))⟩
            case measure => simp [intOf]; omega
          · have d1n : a ≤ x2 := by omega
            by_cases d2 : b ≤ x1
            · have d2e : decide (x1 < a) = false := decide_eq_false (by omega)
              have hst : Hid (remRec (a, b) (rs.take (k + 1)) = L ++ [(x1, x2)]) := hide (by
                rw [remK_succ hkx, hK.out, hx0.out]
                simp only [remOne]
                have h1 : ¬ x1 < min x2 a := by omega
                have h2 : max x1 b < x2 := by omega
                have hv : max x1 b = x1 := by omega
                rw [if_neg h1, if_pos h2, hv]
                simp)
              clear hK hx0
              replace hown := hide (RowAt.of hown.out)
              clear b1 b2 bF
              obtain ⟨br0, br1, brF, kbr⟩ := BoxV.a2 hB.out
              go_wp2_with fail
              refine wp_region_flowC (fun _ => False) 14 [(0, 1), (1, 1), (2, 1), (3, 1), (4, 1), (5, 1), (6, 1), (7, 1), (8, 1), (9, 1), (10, 1), (11, 1), (12, 1), (13, 1)] (by kernel_rfl) (by kernel_rfl) ?_
              iterate 4 ((refine wpC_pure (v := ?_) rfl rfl (by rfl) ?_ ?_; rotate_left; (focus (intro ws hws; go_simp; (try with_reducible rfl); done))); try simp only [nrm, nrg])
              (refine wpC_pure (v := ?_) rfl rfl (by rfl) ?_ ?_; rotate_left; (focus (intro ws hws; obtain ⟨q0, p0⟩ := hws.row (k := bx) xpf xom; go_simp; (try with_reducible rfl); done)))
              try simp only [nrm, nrg]
              iterate 4 ((refine wpC_pure (v := ?_) rfl rfl (by rfl) ?_ ?_; rotate_left; (focus (intro ws hws; go_simp; (try with_reducible rfl); done))); try simp only [nrm, nrg])
              (refine wpC_pure (v := ?_) rfl rfl (by rfl) ?_ ?_; rotate_left; (focus (intro ws hws; obtain ⟨q0, p0⟩ := hws.row (k := bx) xpf xom; go_simp; (try with_reducible rfl); done)))
              try simp only [nrm, nrg]
              (refine wpC_pure (v := ?_) rfl rfl (by rfl) ?_ ?_; rotate_left; (focus (intro ws hws; go_simp; (try with_reducible rfl); done)))
              try simp only [nrm, nrg]
              (refine wpC_pure (v := ?_) rfl rfl (by rfl) ?_ ?_; rotate_left; (focus (intro ws hws; obtain ⟨q0, p0⟩ := hws.row (k := w.heap.size) xpf xom; go_simp; (try with_reducible rfl); done)))
              try simp only [nrm, nrg]
              refine wpC_pure (v := (.int .i64 a)) rfl rfl (by rfl) ?_ ?_
              focus (intro ws hws; go_simp; (try omega))
              try simp only [nrm, nrg]
              (refine wpC_pure (v := ?_) rfl rfl (by rfl) ?_ ?_; rotate_left; (focus (intro ws hws; go_simp; (try with_reducible rfl); done)))
              try simp only [nrm, nrg]
              refine wpF_done rfl ?_
              simp only [List.drop_succ_cons, List.drop_zero, List.drop_nil]
              go_wp2_with fail
              refine wp_region_flowC (fun _ => False) 14 [(0, 1), (1, 1), (2, 1), (3, 1), (4, 1), (5, 1), (6, 1), (7, 1), (8, 1), (9, 1), (10, 1), (11, 1), (12, 1), (13, 1)] (by kernel_rfl) (by kernel_rfl) ?_
              iterate 4 ((refine wpC_pure (v := ?_) rfl rfl (by rfl) ?_ ?_; rotate_left; (focus (intro ws hws; go_simp; (try with_reducible rfl); done))); try simp only [nrm, nrg])
              (refine wpC_pure (v := ?_) rfl rfl (by rfl) ?_ ?_; rotate_left; (focus (intro ws hws; obtain ⟨q0, p0⟩ := hws.row (k := bx) xpf xom; go_simp; (try with_reducible rfl); done)))
              try simp only [nrm, nrg]
              (refine wpC_pure (v := ?_) rfl rfl (by rfl) ?_ ?_; rotate_left; (focus (intro ws hws; go_simp; (try with_reducible rfl); done)))
              try simp only [nrm, nrg]
              (refine wpC_pure (v := ?_) rfl rfl (by rfl) ?_ ?_; rotate_left; (focus (intro ws hws; obtain ⟨q0, p0⟩ := hws.row (k := w.heap.size) xpf xom; go_simp; (try with_reducible rfl); done)))
              try simp only [nrm, nrg]
              refine wpC_pure (v := (.int .i64 x1)) rfl rfl (by rfl) ?_ ?_
              focus (intro ws hws; go_simp; (try omega))
              try simp only [nrm, nrg]
              iterate 4 ((refine wpC_pure (v := ?_) rfl rfl (by rfl) ?_ ?_; rotate_left; (focus (intro ws hws; go_simp; (try with_reducible rfl); done))); try simp only [nrm, nrg])
              (refine wpC_pure (v := ?_) rfl rfl (by rfl) ?_ ?_; rotate_left; (focus (intro ws hws; obtain ⟨q0, p0⟩ := hws.row (k := bx) xpf xom; go_simp; (try with_reducible rfl); done)))
              try simp only [nrm, nrg]
              (refine wpC_pure (v := ?_) rfl rfl (by rfl) ?_ ?_; rotate_left; (focus (intro ws hws; go_simp; (try with_reducible rfl); done)))
              try simp only [nrm, nrg]
              refine wpF_done rfl ?_
              simp only [List.drop_succ_cons, List.drop_zero, List.drop_nil]
              go_wp2_with fail
              refine wp_region_flowC (fun _ => False) 16 [(0, 1), (1, 1), (2, 1), (3, 1), (4, 1), (5, 1), (6, 1), (7, 1), (8, 1), (9, 1), (10, 1), (11, 1), (12, 1), (13, 1), (14, 1), (15, 0)] (by kernel_rfl) (by kernel_rfl) ?_
              obtain ⟨u1, h0u1⟩ : ∃ u, u = wr.drew.drew.drew := ⟨_, rfl⟩
              rw [← h0u1]
              have hu1 : Ext wr.drew.drew.drew u1 := h0u1 ▸ Ext.go
              have gu1 : Chg (fun b => False) wr u1 := Chg.trans (by repeat (first | with_reducible exact Chg.refl _ _ | with_reducible refine Chg.alloc ?_ _ | with_reducible refine Chg.drew ?_ | ((with_reducible refine Chg.set ?_ ?_ _); (focus (first | (left; first | rfl | (simp; done) | ((try dsimp only); omega) | (simp; omega)) | (right; simp; done) | (right; simp; omega) | (right; omega)))))) (Ext.chg hu1 _)
              have zu1 := hu1.size
              (try simp at zu1)
              have yu1 : wr.heap.size ≤ u1.heap.size := gu1.size
              obtain ⟨qo, po⟩ := gu1.row (k := bx) (by omega) xom
              replace dx := (qo _).trans dx
              replace dx2 := (qo _).trans dx2
              clear qo po
              have hr_u1 := hide (hB.out.chg gu1 xom)
              have oo_u1 := hide (RowAt.chg hown.out gu1 (fun b h1 h2 h3 => by first | exact False.elim h3 | ((try dsimp only at h3); omega)))
              have hgwu1 : Chg (fun b => w.heap.size ≤ b) w u1 := Chg.trans hg (Chg.mono (T := fun b => w.heap.size ≤ b) gu1 (fun b _ h => by first | exact False.elim h | ((try dsimp only at h ⊢); omega)))
              clear hB hown hg br0 br1 brF kbr
              clear gu1 hu1
              obtain ⟨br0, br1, brF, kbr⟩ := BoxV.a2 hr_u1.out
              clear h0u1
              iterate 5 ((refine wpC_pure (v := ?_) rfl rfl (by rfl) ?_ ?_; rotate_left; (focus (intro ws hws; go_simp; (try with_reducible rfl); done))); try simp only [nrm, nrg])
              (refine wpC_pure (v := ?_) rfl rfl (by rfl) ?_ ?_; rotate_left; (focus (intro ws hws; obtain ⟨q0, p0⟩ := hws.row (k := bx) xpf xom; go_simp; (try with_reducible rfl); done)))
              try simp only [nrm, nrg]
              (refine wpC_pure (v := ?_) rfl rfl (by rfl) ?_ ?_; rotate_left; (focus (intro ws hws; go_simp; (try with_reducible rfl); done)))
              try simp only [nrm, nrg]
              (refine wpC_pure (v := ?_) rfl rfl (by rfl) ?_ ?_; rotate_left; (focus (intro ws hws; obtain ⟨q0, p0⟩ := hws.row (k := w.heap.size) xpf xom; go_simp; (try with_reducible rfl); done)))
              try simp only [nrm, nrg]
              refine wpC_pure (v := (.int .i64 x1)) rfl rfl (by rfl) ?_ ?_
              focus (intro ws hws; go_simp; (try omega))
              try simp only [nrm, nrg]
              iterate 4 ((refine wpC_pure (v := ?_) rfl rfl (by rfl) ?_ ?_; rotate_left; (focus (intro ws hws; go_simp; (try with_reducible rfl); done))); try simp only [nrm, nrg])
              (refine wpC_pure (v := ?_) rfl rfl (by rfl) ?_ ?_; rotate_left; (focus (intro ws hws; obtain ⟨q0, p0⟩ := hws.row (k := bx) xpf xom; go_simp; (try with_reducible rfl); done)))
              try simp only [nrm, nrg]
              (refine wpC_pure (v := ?_) rfl rfl (by rfl) ?_ ?_; rotate_left; (focus (intro ws hws; go_simp; (try with_reducible rfl); done)))
              try simp only [nrm, nrg]
              refine wpC_made (.slice (some ⟨u1.heap.size, 0, none⟩) 1 1) (u1.alloc (.cells #[.int .i64 x1, .int .i64 x2] 61)) rfl rfl (by rfl) (by go_simp) (Chg.alloc (Chg.refl _ _) _) ?_
              try simp only [nrm, nrg]
              refine wpF_done rfl ?_
              simp only [List.drop_succ_cons, List.drop_zero, List.drop_nil]
              go_wp2_with (at_builtin; refine wpList_append_lies _ rfl _ _ _ (by rfl) (w.heap.size + 1) 61 i0 _ 2 16 Try.underlying30 hi0 hz0 hz1 hz2 rfl (by omega) (.slice ao1 m ca1) m _ (by rfl) (oo_u1.out.1.alloc _) ⟨u1.heap.size, 0, none⟩ 1 1 [.int .i64 x1, .int .i64 x2] (by rfl) (by rfl) (World.news_of_block (cs := #[.int .i64 x1, .int .i64 x2]) (t := 61) (fr := (0, 0)) (heap_alloc_new u1 _)) (by simp [Value.oneCell']) (by omega) (by simp [maxLen] <;> omega) (by omega) (by simp; omega) (u1.heap.size + 1) (by simp) ?_)
              intro gg1 cap1 ua1 hown1 hgrow1 hat1 hlt1
              have hgc1 : Chg (fun b => ((.slice ao1 m ca1) : Value).ownBlock = some b) u1 ua1 := (((Ext.refl u1).alloc _).chg _).trans (grown_chg hgrow1 (fun k hk => hk))
              have hlb : ∀ b, ((.slice ao1 m ca1) : Value).ownBlock = some b → (w.heap.size + 1) ≤ b ∧ b < u1.heap.size := fun b hb => oo_u1.out.1.lt _ hb
              rw [rgCells_app L (x1, x2)] at hown1
              replace hown1 := hide (RowAt.of hown1)
              have zz1 := hgc1.size
              clear hgrow1 hat1 hlt1
              obtain ⟨qo, po⟩ := hgc1.row (k := bx) (by omega) (fun h => by have := hlb _ h; omega)
              replace dx := (qo _).trans dx
              replace dx2 := (qo _).trans dx2
              clear qo po
              have hr_ua1 := hide (hr_u1.out.chg hgc1 (fun h => by have := hlb _ h; omega))
              have hgwua1 := hgwu1.trans (hgc1.mono (T := fun b => w.heap.size ≤ b) (fun b _ h => by have := hlb b h; (try dsimp only); omega))
              clear br0 br1 brF kbr hr_u1 hgwu1 oo_u1 hlb hgc1
              obtain ⟨br0, br1, brF, kbr⟩ := BoxV.a2 hr_ua1.out
              go_wp2
              go_roundw
              case rel => exact ⟨k + 1, m + 1, _, _, _, by go_num, by omega, hst, rfl, by omega, hide ⟨by rw [List.length_append, hL.out]; rfl, hown1.out.1⟩, hr_ua1.out, by (try simp only [World.size_drew]); omega, hgwua1⟩
              case measure => simp [intOf]; omega
            · have d2n : x1 ≤ b := by omega
              by_cases c1 : x1 < a
              · by_cases c2 : b < x2
                · have hst : Hid (remRec (a, b) (rs.take (k + 1)) = L ++ [(x1, a)] ++ [(b, x2)]) := hide (by
                    rw [remK_succ hkx, hK.out, hx0.out]
                    simp only [remOne]
                    have h1 : x1 < min x2 a := by omega
                    have h2 : max x1 b < x2 := by omega
                    have hv : min x2 a = a := by omega
                    have hu : max x1 b = b := by omega
                    rw [if_pos h1, if_pos h2, hv, hu]
                    simp)
                  clear hK hx0
                  replace hown := hide (RowAt.of hown.out)
                  clear b1 b2 bF
                  obtain ⟨br0, br1, brF, kbr⟩ := BoxV.a2 hB.out
                  go_wp2_with fail
                  refine wp_region_flowC (fun _ => False) 14 [(0, 1), (1, 1), (2, 1), (3, 1), (4, 1), (5, 1), (6, 1), (7, 1), (8, 1), (9, 1), (10, 1), (11, 1), (12, 1), (13, 1)] (by kernel_rfl) (by kernel_rfl) ?_
                  iterate 4 ((refine wpC_pure (v := ?_) rfl rfl (by rfl) ?_ ?_; rotate_left; (focus (intro ws hws; go_simp; (try with_reducible rfl); done))); try simp only [nrm, nrg])
                  (refine wpC_pure (v := ?_) rfl rfl (by rfl) ?_ ?_; rotate_left; (focus (intro ws hws; obtain ⟨q0, p0⟩ := hws.row (k := bx) xpf xom; go_simp; (try with_reducible rfl); done)))
                  try simp only [nrm, nrg]
                  iterate 4 ((refine wpC_pure (v := ?_) rfl rfl (by rfl) ?_ ?_; rotate_left; (focus (intro ws hws; go_simp; (try with_reducible rfl); done))); try simp only [nrm, nrg])
                  (refine wpC_pure (v := ?_) rfl rfl (by rfl) ?_ ?_; rotate_left; (focus (intro ws hws; obtain ⟨q0, p0⟩ := hws.row (k := bx) xpf xom; go_simp; (try with_reducible rfl); done)))
                  try simp only [nrm, nrg]
                  (refine wpC_pure (v := ?_) rfl rfl (by rfl) ?_ ?_; rotate_left; (focus (intro ws hws; go_simp; (try with_reducible rfl); done)))
                  try simp only [nrm, nrg]
                  (refine wpC_pure (v := ?_) rfl rfl (by rfl) ?_ ?_; rotate_left; (focus (intro ws hws; obtain ⟨q0, p0⟩ := hws.row (k := w.heap.size) xpf xom; go_simp; (try with_reducible rfl); done)))
                  try simp only [nrm, nrg]
                  refine wpC_pure (v := (.int .i64 a)) rfl rfl (by rfl) ?_ ?_
                  focus (intro ws hws; go_simp; (try omega))
                  try simp only [nrm, nrg]
                  (refine wpC_pure (v := ?_) rfl rfl (by rfl) ?_ ?_; rotate_left; (focus (intro ws hws; go_simp; (try with_reducible rfl); done)))
                  try simp only [nrm, nrg]
                  refine wpF_done rfl ?_
                  simp only [List.drop_succ_cons, List.drop_zero, List.drop_nil]
                  go_wp2_with fail
                  refine wp_region_flowC (fun _ => False) 16 [(0, 1), (1, 1), (2, 1), (3, 1), (4, 1), (5, 1), (6, 1), (7, 1), (8, 1), (9, 1), (10, 1), (11, 1), (12, 1), (13, 1), (14, 1), (15, 0)] (by kernel_rfl) (by kernel_rfl) ?_
                  obtain ⟨u1, h0u1⟩ : ∃ u, u = wr.drew.drew := ⟨_, rfl⟩
                  rw [← h0u1]
                  have hu1 : Ext wr.drew.drew u1 := h0u1 ▸ Ext.go
                  have gu1 : Chg (fun b => False) wr u1 := Chg.trans (by repeat (first | with_reducible exact Chg.refl _ _ | with_reducible refine Chg.alloc ?_ _ | with_reducible refine Chg.drew ?_ | ((with_reducible refine Chg.set ?_ ?_ _); (focus (first | (left; first | rfl | (simp; done) | ((try dsimp only); omega) | (simp; omega)) | (right; simp; done) | (right; simp; omega) | (right; omega)))))) (Ext.chg hu1 _)
                  have zu1 := hu1.size
                  (try simp at zu1)
                  have yu1 : wr.heap.size ≤ u1.heap.size := gu1.size
                  obtain ⟨qo, po⟩ := gu1.row (k := bx) (by omega) xom
                  replace dx := (qo _).trans dx
                  replace dx2 := (qo _).trans dx2
                  clear qo po
                  have hr_u1 := hide (hB.out.chg gu1 xom)
                  have oo_u1 := hide (RowAt.chg hown.out gu1 (fun b h1 h2 h3 => by first | exact False.elim h3 | ((try dsimp only at h3); omega)))
                  have hgwu1 : Chg (fun b => w.heap.size ≤ b) w u1 := Chg.trans hg (Chg.mono (T := fun b => w.heap.size ≤ b) gu1 (fun b _ h => by first | exact False.elim h | ((try dsimp only at h ⊢); omega)))
                  clear hB hown hg br0 br1 brF kbr
                  clear gu1 hu1
                  obtain ⟨br0, br1, brF, kbr⟩ := BoxV.a2 hr_u1.out
                  clear h0u1
                  iterate 5 ((refine wpC_pure (v := ?_) rfl rfl (by rfl) ?_ ?_; rotate_left; (focus (intro ws hws; go_simp; (try with_reducible rfl); done))); try simp only [nrm, nrg])
                  (refine wpC_pure (v := ?_) rfl rfl (by rfl) ?_ ?_; rotate_left; (focus (intro ws hws; obtain ⟨q0, p0⟩ := hws.row (k := bx) xpf xom; go_simp; (try with_reducible rfl); done)))
                  try simp only [nrm, nrg]
                  iterate 4 ((refine wpC_pure (v := ?_) rfl rfl (by rfl) ?_ ?_; rotate_left; (focus (intro ws hws; go_simp; (try with_reducible rfl); done))); try simp only [nrm, nrg])
                  (refine wpC_pure (v := ?_) rfl rfl (by rfl) ?_ ?_; rotate_left; (focus (intro ws hws; obtain ⟨q0, p0⟩ := hws.row (k := bx) xpf xom; go_simp; (try with_reducible rfl); done)))
                  try simp only [nrm, nrg]
                  (refine wpC_pure (v := ?_) rfl rfl (by rfl) ?_ ?_; rotate_left; (focus (intro ws hws; go_simp; (try with_reducible rfl); done)))
                  try simp only [nrm, nrg]
                  (refine wpC_pure (v := ?_) rfl rfl (by rfl) ?_ ?_; rotate_left; (focus (intro ws hws; obtain ⟨q0, p0⟩ := hws.row (k := w.heap.size) xpf xom; go_simp; (try with_reducible rfl); done)))
                  try simp only [nrm, nrg]
                  refine wpC_pure (v := (.int .i64 a)) rfl rfl (by rfl) ?_ ?_
                  focus (intro ws hws; go_simp; (try omega))
                  try simp only [nrm, nrg]
                  (refine wpC_pure (v := ?_) rfl rfl (by rfl) ?_ ?_; rotate_left; (focus (intro ws hws; go_simp; (try with_reducible rfl); done)))
                  try simp only [nrm, nrg]
                  refine wpC_made (.slice (some ⟨u1.heap.size, 0, none⟩) 1 1) (u1.alloc (.cells #[.int .i64 x1, .int .i64 a] 61)) rfl rfl (by rfl) (by go_simp) (Chg.alloc (Chg.refl _ _) _) ?_
                  try simp only [nrm, nrg]
                  refine wpF_done rfl ?_
                  simp only [List.drop_succ_cons, List.drop_zero, List.drop_nil]
                  go_wp2_with (at_builtin; refine wpList_append_lies _ rfl _ _ _ (by rfl) (w.heap.size + 1) 61 i0 _ 2 16 Try.underlying30 hi0 hz0 hz1 hz2 rfl (by omega) (.slice ao1 m ca1) m _ (by rfl) (oo_u1.out.1.alloc _) ⟨u1.heap.size, 0, none⟩ 1 1 [.int .i64 x1, .int .i64 a] (by rfl) (by rfl) (World.news_of_block (cs := #[.int .i64 x1, .int .i64 a]) (t := 61) (fr := (0, 0)) (heap_alloc_new u1 _)) (by simp [Value.oneCell']) (by omega) (by simp [maxLen] <;> omega) (by omega) (by simp; omega) (u1.heap.size + 1) (by simp) ?_)
                  intro gg1 cap1 ua1 hown1 hgrow1 hat1 hlt1
                  have hgc1 : Chg (fun b => ((.slice ao1 m ca1) : Value).ownBlock = some b) u1 ua1 := (((Ext.refl u1).alloc _).chg _).trans (grown_chg hgrow1 (fun k hk => hk))
                  have hlb : ∀ b, ((.slice ao1 m ca1) : Value).ownBlock = some b → (w.heap.size + 1) ≤ b ∧ b < u1.heap.size := fun b hb => oo_u1.out.1.lt _ hb
                  rw [rgCells_app L (x1, a)] at hown1
                  replace hown1 := hide (RowAt.of hown1)
                  have zz1 := hgc1.size
                  clear hgrow1 hat1 hlt1
                  obtain ⟨qo, po⟩ := hgc1.row (k := bx) (by omega) (fun h => by have := hlb _ h; omega)
                  replace dx := (qo _).trans dx
                  replace dx2 := (qo _).trans dx2
                  clear qo po
                  have hr_ua1 := hide (hr_u1.out.chg hgc1 (fun h => by have := hlb _ h; omega))
                  have hgwua1 := hgwu1.trans (hgc1.mono (T := fun b => w.heap.size ≤ b) (fun b _ h => by have := hlb b h; (try dsimp only); omega))
                  clear br0 br1 brF kbr hr_u1 hgwu1 oo_u1 hlb hgc1
                  obtain ⟨br0, br1, brF, kbr⟩ := BoxV.a2 hr_ua1.out
                  go_wp2_with fail
                  refine wp_region_flowC (fun _ => False) 14 [(0, 1), (1, 1), (2, 1), (3, 1), (4, 1), (5, 1), (6, 1), (7, 1), (8, 1), (9, 1), (10, 1), (11, 1), (12, 1), (13, 1)] (by kernel_rfl) (by kernel_rfl) ?_
                  iterate 4 ((refine wpC_pure (v := ?_) rfl rfl (by rfl) ?_ ?_; rotate_left; (focus (intro ws hws; go_simp; (try with_reducible rfl); done))); try simp only [nrm, nrg])
                  (refine wpC_pure (v := ?_) rfl rfl (by rfl) ?_ ?_; rotate_left; (focus (intro ws hws; obtain ⟨q0, p0⟩ := hws.row (k := bx) xpf xom; go_simp; (try with_reducible rfl); done)))
                  try simp only [nrm, nrg]
                  (refine wpC_pure (v := ?_) rfl rfl (by rfl) ?_ ?_; rotate_left; (focus (intro ws hws; go_simp; (try with_reducible rfl); done)))
                  try simp only [nrm, nrg]
                  (refine wpC_pure (v := ?_) rfl rfl (by rfl) ?_ ?_; rotate_left; (focus (intro ws hws; obtain ⟨q0, p0⟩ := hws.row (k := w.heap.size) xpf xom; go_simp; (try with_reducible rfl); done)))
                  try simp only [nrm, nrg]
                  refine wpC_pure (v := (.int .i64 b)) rfl rfl (by rfl) ?_ ?_
                  focus (intro ws hws; go_simp; (try omega))
                  try simp only [nrm, nrg]
                  iterate 4 ((refine wpC_pure (v := ?_) rfl rfl (by rfl) ?_ ?_; rotate_left; (focus (intro ws hws; go_simp; (try with_reducible rfl); done))); try simp only [nrm, nrg])
                  (refine wpC_pure (v := ?_) rfl rfl (by rfl) ?_ ?_; rotate_left; (focus (intro ws hws; obtain ⟨q0, p0⟩ := hws.row (k := bx) xpf xom; go_simp; (try with_reducible rfl); done)))
                  try simp only [nrm, nrg]
                  (refine wpC_pure (v := ?_) rfl rfl (by rfl) ?_ ?_; rotate_left; (focus (intro ws hws; go_simp; (try with_reducible rfl); done)))
                  try simp only [nrm, nrg]
                  refine wpF_done rfl ?_
                  simp only [List.drop_succ_cons, List.drop_zero, List.drop_nil]
                  go_wp2_with fail
                  refine wp_region_flowC (fun _ => False) 16 [(0, 1), (1, 1), (2, 1), (3, 1), (4, 1), (5, 1), (6, 1), (7, 1), (8, 1), (9, 1), (10, 1), (11, 1), (12, 1), (13, 1), (14, 1), (15, 0)] (by kernel_rfl) (by kernel_rfl) ?_
                  obtain ⟨u2, h0u2⟩ : ∃ u, u = ua1.drew.drew := ⟨_, rfl⟩
                  rw [← h0u2]
                  have hu2 : Ext ua1.drew.drew u2 := h0u2 ▸ Ext.go
                  have gu2 : Chg (fun b => False) ua1 u2 := Chg.trans (by repeat (first | with_reducible exact Chg.refl _ _ | with_reducible refine Chg.alloc ?_ _ | with_reducible refine Chg.drew ?_ | ((with_reducible refine Chg.set ?_ ?_ _); (focus (first | (left; first | rfl | (simp; done) | ((try dsimp only); omega) | (simp; omega)) | (right; simp; done) | (right; simp; omega) | (right; omega)))))) (Ext.chg hu2 _)
                  have zu2 := hu2.size
                  (try simp at zu2)
                  have yu2 : ua1.heap.size ≤ u2.heap.size := gu2.size
                  obtain ⟨qo, po⟩ := gu2.row (k := bx) (by omega) xom
                  replace dx := (qo _).trans dx
                  replace dx2 := (qo _).trans dx2
                  clear qo po
                  have hr_u2 := hide (hr_ua1.out.chg gu2 xom)
                  have oo_u2 := hide (RowAt.chg hown1.out gu2 (fun b h1 h2 h3 => by first | exact False.elim h3 | ((try dsimp only at h3); omega)))
                  have hgwu2 : Chg (fun b => w.heap.size ≤ b) w u2 := Chg.trans hgwua1 (Chg.mono (T := fun b => w.heap.size ≤ b) gu2 (fun b _ h => by first | exact False.elim h | ((try dsimp only at h ⊢); omega)))
                  clear hr_ua1 hown1 hgwua1 br0 br1 brF kbr
                  clear gu2 hu2
                  obtain ⟨br0, br1, brF, kbr⟩ := BoxV.a2 hr_u2.out
                  clear h0u2
                  iterate 5 ((refine wpC_pure (v := ?_) rfl rfl (by rfl) ?_ ?_; rotate_left; (focus (intro ws hws; go_simp; (try with_reducible rfl); done))); try simp only [nrm, nrg])
                  (refine wpC_pure (v := ?_) rfl rfl (by rfl) ?_ ?_; rotate_left; (focus (intro ws hws; obtain ⟨q0, p0⟩ := hws.row (k := bx) xpf xom; go_simp; (try with_reducible rfl); done)))
                  try simp only [nrm, nrg]
                  (refine wpC_pure (v := ?_) rfl rfl (by rfl) ?_ ?_; rotate_left; (focus (intro ws hws; go_simp; (try with_reducible rfl); done)))
                  try simp only [nrm, nrg]
                  (refine wpC_pure (v := ?_) rfl rfl (by rfl) ?_ ?_; rotate_left; (focus (intro ws hws; obtain ⟨q0, p0⟩ := hws.row (k := w.heap.size) xpf xom; go_simp; (try with_reducible rfl); done)))
                  try simp only [nrm, nrg]
                  refine wpC_pure (v := (.int .i64 b)) rfl rfl (by rfl) ?_ ?_
                  focus (intro ws hws; go_simp; (try omega))
                  try simp only [nrm, nrg]
                  iterate 4 ((refine wpC_pure (v := ?_) rfl rfl (by rfl) ?_ ?_; rotate_left; (focus (intro ws hws; go_simp; (try with_reducible rfl); done))); try simp only [nrm, nrg])
                  (refine wpC_pure (v := ?_) rfl rfl (by rfl) ?_ ?_; rotate_left; (focus (intro ws hws; obtain ⟨q0, p0⟩ := hws.row (k := bx) xpf xom; go_simp; (try with_reducible rfl); done)))
                  try simp only [nrm, nrg]
                  (refine wpC_pure (v := ?_) rfl rfl (by rfl) ?_ ?_; rotate_left; (focus (intro ws hws; go_simp; (try with_reducible rfl); done)))
                  try simp only [nrm, nrg]
                  refine wpC_made (.slice (some ⟨u2.heap.size, 0, none⟩) 1 1) (u2.alloc (.cells #[.int .i64 b, .int .i64 x2] 61)) rfl rfl (by rfl) (by go_simp) (Chg.alloc (Chg.refl _ _) _) ?_
                  try simp only [nrm, nrg]
                  refine wpF_done rfl ?_
                  simp only [List.drop_succ_cons, List.drop_zero, List.drop_nil]
                  go_wp2_with (at_builtin; refine wpList_append_lies _ rfl _ _ _ (by rfl) (w.heap.size + 1) 61 i0 _ 2 16 Try.underlying30 hi0 hz0 hz1 hz2 rfl (by omega) (.slice (some ⟨gg1, 0, none⟩) (m + 1) cap1) (m + 1) _ (by rfl) (oo_u2.out.1.alloc _) ⟨u2.heap.size, 0, none⟩ 1 1 [.int .i64 b, .int .i64 x2] (by rfl) (by rfl) (World.news_of_block (cs := #[.int .i64 b, .int .i64 x2]) (t := 61) (fr := (0, 0)) (heap_alloc_new u2 _)) (by simp [Value.oneCell']) (by omega) (by simp [maxLen] <;> omega) (by omega) (by simp; omega) (u2.heap.size + 1) (by simp) ?_)
                  intro gg2 cap2 ua2 hown2 hgrow2 hat2 hlt2
                  have hgc2 : Chg (fun b => ((.slice (some ⟨gg1, 0, none⟩) (m + 1) cap1) : Value).ownBlock = some b) u2 ua2 := (((Ext.refl u2).alloc _).chg _).trans (grown_chg hgrow2 (fun k hk => hk))
                  have hlb : ∀ b, ((.slice (some ⟨gg1, 0, none⟩) (m + 1) cap1) : Value).ownBlock = some b → (w.heap.size + 1) ≤ b ∧ b < u2.heap.size := fun b hb => oo_u2.out.1.lt _ hb
                  rw [rgCells_app (L ++ [(x1, a)]) (b, x2)] at hown2
                  replace hown2 := hide (RowAt.of hown2)
                  have zz2 := hgc2.size
                  clear hgrow2 hat2 hlt2
                  obtain ⟨qo, po⟩ := hgc2.row (k := bx) (by omega) (fun h => by have := hlb _ h; omega)
                  replace dx := (qo _).trans dx
                  replace dx2 := (qo _).trans dx2
                  clear qo po
                  have hr_ua2 := hide (hr_u2.out.chg hgc2 (fun h => by have := hlb _ h; omega))
                  have hgwua2 := hgwu2.trans (hgc2.mono (T := fun b => w.heap.size ≤ b) (fun b _ h => by have := hlb b h; (try dsimp only); omega))
                  clear br0 br1 brF kbr hr_u2 hgwu2 oo_u2 hlb hgc2
                  obtain ⟨br0, br1, brF, kbr⟩ := BoxV.a2 hr_ua2.out
                  go_wp2
                  go_roundw
                  case rel => exact ⟨k + 1, m + 1 + 1, _, _, _, by go_num, by omega, hst, rfl, by omega, hide ⟨by rw [List.length_append, List.length_append, hL.out]; rfl, hown2.out.1⟩, hr_ua2.out, by (try simp only [World.size_drew]); omega, hgwua2⟩
                  case measure => simp [intOf]; omega
                · have c2e : decide (b < x2) = false := decide_eq_false c2
                  have hst : Hid (remRec (a, b) (rs.take (k + 1)) = L ++ [(x1, a)]) := hide (by
                    rw [remK_succ hkx, hK.out, hx0.out]
                    simp only [remOne]
                    have h1 : x1 < min x2 a := by omega
                    have h2 : ¬ max x1 b < x2 := by omega
                    have hv : min x2 a = a := by omega
                    rw [if_pos h1, if_neg h2, hv]
                    simp)
                  clear hK hx0
                  replace hown := hide (RowAt.of hown.out)
                  clear b1 b2 bF
                  obtain ⟨br0, br1, brF, kbr⟩ := BoxV.a2 hB.out
                  go_wp2_with fail
                  refine wp_region_flowC (fun _ => False) 14 [(0, 1), (1, 1), (2, 1), (3, 1), (4, 1), (5, 1), (6, 1), (7, 1), (8, 1), (9, 1), (10, 1), (11, 1), (12, 1), (13, 1)] (by kernel_rfl) (by kernel_rfl) ?_
                  iterate 4 ((refine wpC_pure (v := ?_) rfl rfl (by rfl) ?_ ?_; rotate_left; (focus (intro ws hws; go_simp; (try with_reducible rfl); done))); try simp only [nrm, nrg])
                  (refine wpC_pure (v := ?_) rfl rfl (by rfl) ?_ ?_; rotate_left; (focus (intro ws hws; obtain ⟨q0, p0⟩ := hws.row (k := bx) xpf xom; go_simp; (try with_reducible rfl); done)))
                  try simp only [nrm, nrg]
                  iterate 4 ((refine wpC_pure (v := ?_) rfl rfl (by rfl) ?_ ?_; rotate_left; (focus (intro ws hws; go_simp; (try with_reducible rfl); done))); try simp only [nrm, nrg])
                  (refine wpC_pure (v := ?_) rfl rfl (by rfl) ?_ ?_; rotate_left; (focus (intro ws hws; obtain ⟨q0, p0⟩ := hws.row (k := bx) xpf xom; go_simp; (try with_reducible rfl); done)))
                  try simp only [nrm, nrg]
                  (refine wpC_pure (v := ?_) rfl rfl (by rfl) ?_ ?_; rotate_left; (focus (intro ws hws; go_simp; (try with_reducible rfl); done)))
                  try simp only [nrm, nrg]
                  (refine wpC_pure (v := ?_) rfl rfl (by rfl) ?_ ?_; rotate_left; (focus (intro ws hws; obtain ⟨q0, p0⟩ := hws.row (k := w.heap.size) xpf xom; go_simp; (try with_reducible rfl); done)))
                  try simp only [nrm, nrg]
                  refine wpC_pure (v := (.int .i64 a)) rfl rfl (by rfl) ?_ ?_
                  focus (intro ws hws; go_simp; (try omega))
                  try simp only [nrm, nrg]
                  (refine wpC_pure (v := ?_) rfl rfl (by rfl) ?_ ?_; rotate_left; (focus (intro ws hws; go_simp; (try with_reducible rfl); done)))
                  try simp only [nrm, nrg]
                  refine wpF_done rfl ?_
                  simp only [List.drop_succ_cons, List.drop_zero, List.drop_nil]
                  go_wp2_with fail
                  refine wp_region_flowC (fun _ => False) 16 [(0, 1), (1, 1), (2, 1), (3, 1), (4, 1), (5, 1), (6, 1), (7, 1), (8, 1), (9, 1), (10, 1), (11, 1), (12, 1), (13, 1), (14, 1), (15, 0)] (by kernel_rfl) (by kernel_rfl) ?_
                  obtain ⟨u1, h0u1⟩ : ∃ u, u = wr.drew.drew := ⟨_, rfl⟩
                  rw [← h0u1]
                  have hu1 : Ext wr.drew.drew u1 := h0u1 ▸ Ext.go
                  have gu1 : Chg (fun b => False) wr u1 := Chg.trans (by repeat (first | with_reducible exact Chg.refl _ _ | with_reducible refine Chg.alloc ?_ _ | with_reducible refine Chg.drew ?_ | ((with_reducible refine Chg.set ?_ ?_ _); (focus (first | (left; first | rfl | (simp; done) | ((try dsimp only); omega) | (simp; omega)) | (right; simp; done) | (right; simp; omega) | (right; omega)))))) (Ext.chg hu1 _)
                  have zu1 := hu1.size
                  (try simp at zu1)
                  have yu1 : wr.heap.size ≤ u1.heap.size := gu1.size
                  obtain ⟨qo, po⟩ := gu1.row (k := bx) (by omega) xom
                  replace dx := (qo _).trans dx
                  replace dx2 := (qo _).trans dx2
                  clear qo po
                  have hr_u1 := hide (hB.out.chg gu1 xom)
                  have oo_u1 := hide (RowAt.chg hown.out gu1 (fun b h1 h2 h3 => by first | exact False.elim h3 | ((try dsimp only at h3); omega)))
                  have hgwu1 : Chg (fun b => w.heap.size ≤ b) w u1 := Chg.trans hg (Chg.mono (T := fun b => w.heap.size ≤ b) gu1 (fun b _ h => by first | exact False.elim h | ((try dsimp only at h ⊢); omega)))
                  clear hB hown hg br0 br1 brF kbr
                  clear gu1 hu1
                  obtain ⟨br0, br1, brF, kbr⟩ := BoxV.a2 hr_u1.out
                  clear h0u1
                  iterate 5 ((refine wpC_pure (v := ?_) rfl rfl (by rfl) ?_ ?_; rotate_left; (focus (intro ws hws; go_simp; (try with_reducible rfl); done))); try simp only [nrm, nrg])
                  (refine wpC_pure (v := ?_) rfl rfl (by rfl) ?_ ?_; rotate_left; (focus (intro ws hws; obtain ⟨q0, p0⟩ := hws.row (k := bx) xpf xom; go_simp; (try with_reducible rfl); done)))
                  try simp only [nrm, nrg]
                  iterate 4 ((refine wpC_pure (v := ?_) rfl rfl (by rfl) ?_ ?_; rotate_left; (focus (intro ws hws; go_simp; (try with_reducible rfl); done))); try simp only [nrm, nrg])
                  (refine wpC_pure (v := ?_) rfl rfl (by rfl) ?_ ?_; rotate_left; (focus (intro ws hws; obtain ⟨q0, p0⟩ := hws.row (k := bx) xpf xom; go_simp; (try with_reducible rfl); done)))
                  try simp only [nrm, nrg]
                  (refine wpC_pure (v := ?_) rfl rfl (by rfl) ?_ ?_; rotate_left; (focus (intro ws hws; go_simp; (try with_reducible rfl); done)))
                  try simp only [nrm, nrg]
                  (refine wpC_pure (v := ?_) rfl rfl (by rfl) ?_ ?_; rotate_left; (focus (intro ws hws; obtain ⟨q0, p0⟩ := hws.row (k := w.heap.size) xpf xom; go_simp; (try with_reducible rfl); done)))
                  try simp only [nrm, nrg]
                  refine wpC_pure (v := (.int .i64 a)) rfl rfl (by rfl) ?_ ?_
                  focus (intro ws hws; go_simp; (try omega))
                  try simp only [nrm, nrg]
                  (refine wpC_pure (v := ?_) rfl rfl (by rfl) ?_ ?_; rotate_left; (focus (intro ws hws; go_simp; (try with_reducible rfl); done)))
                  try simp only [nrm, nrg]
                  refine wpC_made (.slice (some ⟨u1.heap.size, 0, none⟩) 1 1) (u1.alloc (.cells #[.int .i64 x1, .int .i64 a] 61)) rfl rfl (by rfl) (by go_simp) (Chg.alloc (Chg.refl _ _) _) ?_
                  try simp only [nrm, nrg]
                  refine wpF_done rfl ?_
                  simp only [List.drop_succ_cons, List.drop_zero, List.drop_nil]
                  go_wp2_with (at_builtin; refine wpList_append_lies _ rfl _ _ _ (by rfl) (w.heap.size + 1) 61 i0 _ 2 16 Try.underlying30 hi0 hz0 hz1 hz2 rfl (by omega) (.slice ao1 m ca1) m _ (by rfl) (oo_u1.out.1.alloc _) ⟨u1.heap.size, 0, none⟩ 1 1 [.int .i64 x1, .int .i64 a] (by rfl) (by rfl) (World.news_of_block (cs := #[.int .i64 x1, .int .i64 a]) (t := 61) (fr := (0, 0)) (heap_alloc_new u1 _)) (by simp [Value.oneCell']) (by omega) (by simp [maxLen] <;> omega) (by omega) (by simp; omega) (u1.heap.size + 1) (by simp) ?_)
                  intro gg1 cap1 ua1 hown1 hgrow1 hat1 hlt1
                  have hgc1 : Chg (fun b => ((.slice ao1 m ca1) : Value).ownBlock = some b) u1 ua1 := (((Ext.refl u1).alloc _).chg _).trans (grown_chg hgrow1 (fun k hk => hk))
                  have hlb : ∀ b, ((.slice ao1 m ca1) : Value).ownBlock = some b → (w.heap.size + 1) ≤ b ∧ b < u1.heap.size := fun b hb => oo_u1.out.1.lt _ hb
                  rw [rgCells_app L (x1, a)] at hown1
                  replace hown1 := hide (RowAt.of hown1)
                  have zz1 := hgc1.size
                  clear hgrow1 hat1 hlt1
                  obtain ⟨qo, po⟩ := hgc1.row (k := bx) (by omega) (fun h => by have := hlb _ h; omega)
                  replace dx := (qo _).trans dx
                  replace dx2 := (qo _).trans dx2
                  clear qo po
                  have hr_ua1 := hide (hr_u1.out.chg hgc1 (fun h => by have := hlb _ h; omega))
                  have hgwua1 := hgwu1.trans (hgc1.mono (T := fun b => w.heap.size ≤ b) (fun b _ h => by have := hlb b h; (try dsimp only); omega))
                  clear br0 br1 brF kbr hr_u1 hgwu1 oo_u1 hlb hgc1
                  obtain ⟨br0, br1, brF, kbr⟩ := BoxV.a2 hr_ua1.out
                  go_wp2_with fail
                  refine wp_region_flowC (fun _ => False) 14 [(0, 1), (1, 1), (2, 1), (3, 1), (4, 1), (5, 1), (6, 1), (7, 1), (8, 1), (9, 1), (10, 1), (11, 1), (12, 1), (13, 1)] (by kernel_rfl) (by kernel_rfl) ?_
                  iterate 4 ((refine wpC_pure (v := ?_) rfl rfl (by rfl) ?_ ?_; rotate_left; (focus (intro ws hws; go_simp; (try with_reducible rfl); done))); try simp only [nrm, nrg])
                  (refine wpC_pure (v := ?_) rfl rfl (by rfl) ?_ ?_; rotate_left; (focus (intro ws hws; obtain ⟨q0, p0⟩ := hws.row (k := bx) xpf xom; go_simp; (try with_reducible rfl); done)))
                  try simp only [nrm, nrg]
                  (refine wpC_pure (v := ?_) rfl rfl (by rfl) ?_ ?_; rotate_left; (focus (intro ws hws; go_simp; (try with_reducible rfl); done)))
                  try simp only [nrm, nrg]
                  (refine wpC_pure (v := ?_) rfl rfl (by rfl) ?_ ?_; rotate_left; (focus (intro ws hws; obtain ⟨q0, p0⟩ := hws.row (k := w.heap.size) xpf xom; go_simp; (try with_reducible rfl); done)))
                  try simp only [nrm, nrg]
                  refine wpC_pure (v := (.int .i64 b)) rfl rfl (by rfl) ?_ ?_
                  focus (intro ws hws; go_simp; (try omega))
                  try simp only [nrm, nrg]
                  iterate 4 ((refine wpC_pure (v := ?_) rfl rfl (by rfl) ?_ ?_; rotate_left; (focus (intro ws hws; go_simp; (try with_reducible rfl); done))); try simp only [nrm, nrg])
                  (refine wpC_pure (v := ?_) rfl rfl (by rfl) ?_ ?_; rotate_left; (focus (intro ws hws; obtain ⟨q0, p0⟩ := hws.row (k := bx) xpf xom; go_simp; (try with_reducible rfl); done)))
                  try simp only [nrm, nrg]
                  (refine wpC_pure (v := ?_) rfl rfl (by rfl) ?_ ?_; rotate_left; (focus (intro ws hws; go_simp; (try with_reducible rfl); done)))
                  try simp only [nrm, nrg]
                  refine wpF_done rfl ?_
                  simp only [List.drop_succ_cons, List.drop_zero, List.drop_nil]
                  go_wp2
                  go_roundw
                  case rel => exact ⟨k + 1, m + 1, _, _, _, by go_num, by omega, hst, rfl, by omega, hide ⟨by rw [List.length_append, hL.out]; rfl, (show World.ownsRow _ _ _ _ _ _ _ from ownR_ext hown1.out.1 Ext.go)⟩, hr_ua1.out.ext Ext.go, by (try simp only [World.size_drew]); omega, (hgwua1.trans (Ext.chg Ext.go _))⟩
                  case measure => simp [intOf]; omega
              · have c1e : decide (x1 < a) = false := decide_eq_false c1
                by_cases c2 : b < x2
                · have hst : Hid (remRec (a, b) (rs.take (k + 1)) = L ++ [(b, x2)]) := hide (by
                    rw [remK_succ hkx, hK.out, hx0.out]
                    simp only [remOne]
                    have h1 : ¬ x1 < min x2 a := by omega
                    have h2 : max x1 b < x2 := by omega
                    have hu : max x1 b = b := by omega
                    rw [if_neg h1, if_pos h2, hu]
                    simp)
                  clear hK hx0
                  replace hown := hide (RowAt.of hown.out)
                  clear b1 b2 bF
                  obtain ⟨br0, br1, brF, kbr⟩ := BoxV.a2 hB.out
                  go_wp2_with fail
                  refine wp_region_flowC (fun _ => False) 14 [(0, 1), (1, 1), (2, 1), (3, 1), (4, 1), (5, 1), (6, 1), (7, 1), (8, 1), (9, 1), (10, 1), (11, 1), (12, 1), (13, 1)] (by kernel_rfl) (by kernel_rfl) ?_
                  iterate 4 ((refine wpC_pure (v := ?_) rfl rfl (by rfl) ?_ ?_; rotate_left; (focus (intro ws hws; go_simp; (try with_reducible rfl); done))); try simp only [nrm, nrg])
                  (refine wpC_pure (v := ?_) rfl rfl (by rfl) ?_ ?_; rotate_left; (focus (intro ws hws; obtain ⟨q0, p0⟩ := hws.row (k := bx) xpf xom; go_simp; (try with_reducible rfl); done)))
                  try simp only [nrm, nrg]
                  iterate 4 ((refine wpC_pure (v := ?_) rfl rfl (by rfl) ?_ ?_; rotate_left; (focus (intro ws hws; go_simp; (try with_reducible rfl); done))); try simp only [nrm, nrg])
                  (refine wpC_pure (v := ?_) rfl rfl (by rfl) ?_ ?_; rotate_left; (focus (intro ws hws; obtain ⟨q0, p0⟩ := hws.row (k := bx) xpf xom; go_simp; (try with_reducible rfl); done)))
                  try simp only [nrm, nrg]
                  (refine wpC_pure (v := ?_) rfl rfl (by rfl) ?_ ?_; rotate_left; (focus (intro ws hws; go_simp; (try with_reducible rfl); done)))
                  try simp only [nrm, nrg]
                  (refine wpC_pure (v := ?_) rfl rfl (by rfl) ?_ ?_; rotate_left; (focus (intro ws hws; obtain ⟨q0, p0⟩ := hws.row (k := w.heap.size) xpf xom; go_simp; (try with_reducible rfl); done)))
                  try simp only [nrm, nrg]
                  refine wpC_pure (v := (.int .i64 a)) rfl rfl (by rfl) ?_ ?_
                  focus (intro ws hws; go_simp; (try omega))
                  try simp only [nrm, nrg]
                  (refine wpC_pure (v := ?_) rfl rfl (by rfl) ?_ ?_; rotate_left; (focus (intro ws hws; go_simp; (try with_reducible rfl); done)))
                  try simp only [nrm, nrg]
                  refine wpF_done rfl ?_
                  simp only [List.drop_succ_cons, List.drop_zero, List.drop_nil]
                  go_wp2_with fail
                  refine wp_region_flowC (fun _ => False) 14 [(0, 1), (1, 1), (2, 1), (3, 1), (4, 1), (5, 1), (6, 1), (7, 1), (8, 1), (9, 1), (10, 1), (11, 1), (12, 1), (13, 1)] (by kernel_rfl) (by kernel_rfl) ?_
                  iterate 4 ((refine wpC_pure (v := ?_) rfl rfl (by rfl) ?_ ?_; rotate_left; (focus (intro ws hws; go_simp; (try with_reducible rfl); done))); try simp only [nrm, nrg])
                  (refine wpC_pure (v := ?_) rfl rfl (by rfl) ?_ ?_; rotate_left; (focus (intro ws hws; obtain ⟨q0, p0⟩ := hws.row (k := bx) xpf xom; go_simp; (try with_reducible rfl); done)))
                  try simp only [nrm, nrg]
                  (refine wpC_pure (v := ?_) rfl rfl (by rfl) ?_ ?_; rotate_left; (focus (intro ws hws; go_simp; (try with_reducible rfl); done)))
                  try simp only [nrm, nrg]
                  (refine wpC_pure (v := ?_) rfl rfl (by rfl) ?_ ?_; rotate_left; (focus (intro ws hws; obtain ⟨q0, p0⟩ := hws.row (k := w.heap.size) xpf xom; go_simp; (try with_reducible rfl); done)))
                  try simp only [nrm, nrg]
                  refine wpC_pure (v := (.int .i64 b)) rfl rfl (by rfl) ?_ ?_
                  focus (intro ws hws; go_simp; (try omega))
                  try simp only [nrm, nrg]
                  iterate 4 ((refine wpC_pure (v := ?_) rfl rfl (by rfl) ?_ ?_; rotate_left; (focus (intro ws hws; go_simp; (try with_reducible rfl); done))); try simp only [nrm, nrg])
                  (refine wpC_pure (v := ?_) rfl rfl (by rfl) ?_ ?_; rotate_left; (focus (intro ws hws; obtain ⟨q0, p0⟩ := hws.row (k := bx) xpf xom; go_simp; (try with_reducible rfl); done)))
                  try simp only [nrm, nrg]
                  (refine wpC_pure (v := ?_) rfl rfl (by rfl) ?_ ?_; rotate_left; (focus (intro ws hws; go_simp; (try with_reducible rfl); done)))
                  try simp only [nrm, nrg]
                  refine wpF_done rfl ?_
                  simp only [List.drop_succ_cons, List.drop_zero, List.drop_nil]
                  go_wp2_with fail
                  refine wp_region_flowC (fun _ => False) 16 [(0, 1), (1, 1), (2, 1), (3, 1), (4, 1), (5, 1), (6, 1), (7, 1), (8, 1), (9, 1), (10, 1), (11, 1), (12, 1), (13, 1), (14, 1), (15, 0)] (by kernel_rfl) (by kernel_rfl) ?_
                  obtain ⟨u1, h0u1⟩ : ∃ u, u = wr.drew.drew.drew := ⟨_, rfl⟩
                  rw [← h0u1]
                  have hu1 : Ext wr.drew.drew.drew u1 := h0u1 ▸ Ext.go
                  have gu1 : Chg (fun b => False) wr u1 := Chg.trans (by repeat (first | with_reducible exact Chg.refl _ _ | with_reducible refine Chg.alloc ?_ _ | with_reducible refine Chg.drew ?_ | ((with_reducible refine Chg.set ?_ ?_ _); (focus (first | (left; first | rfl | (simp; done) | ((try dsimp only); omega) | (simp; omega)) | (right; simp; done) | (right; simp; omega) | (right; omega)))))) (Ext.chg hu1 _)
                  have zu1 := hu1.size
                  (try simp at zu1)
                  have yu1 : wr.heap.size ≤ u1.heap.size := gu1.size
                  obtain ⟨qo, po⟩ := gu1.row (k := bx) (by omega) xom
                  replace dx := (qo _).trans dx
                  replace dx2 := (qo _).trans dx2
                  clear qo po
                  have hr_u1 := hide (hB.out.chg gu1 xom)
                  have oo_u1 := hide (RowAt.chg hown.out gu1 (fun b h1 h2 h3 => by first | exact False.elim h3 | ((try dsimp only at h3); omega)))
                  have hgwu1 : Chg (fun b => w.heap.size ≤ b) w u1 := Chg.trans hg (Chg.mono (T := fun b => w.heap.size ≤ b) gu1 (fun b _ h => by first | exact False.elim h | ((try dsimp only at h ⊢); omega)))
                  clear hB hown hg br0 br1 brF kbr
                  clear gu1 hu1
                  obtain ⟨br0, br1, brF, kbr⟩ := BoxV.a2 hr_u1.out
                  clear h0u1
                  iterate 5 ((refine wpC_pure (v := ?_) rfl rfl (by rfl) ?_ ?_; rotate_left; (focus (intro ws hws; go_simp; (try with_reducible rfl); done))); try simp only [nrm, nrg])
                  (refine wpC_pure (v := ?_) rfl rfl (by rfl) ?_ ?_; rotate_left; (focus (intro ws hws; obtain ⟨q0, p0⟩ := hws.row (k := bx) xpf xom; go_simp; (try with_reducible rfl); done)))
                  try simp only [nrm, nrg]
                  (refine wpC_pure (v := ?_) rfl rfl (by rfl) ?_ ?_; rotate_left; (focus (intro ws hws; go_simp; (try with_reducible rfl); done)))
                  try simp only [nrm, nrg]
                  (refine wpC_pure (v := ?_) rfl rfl (by rfl) ?_ ?_; rotate_left; (focus (intro ws hws; obtain ⟨q0, p0⟩ := hws.row (k := w.heap.size) xpf xom; go_simp; (try with_reducible rfl); done)))
                  try simp only [nrm, nrg]
                  refine wpC_pure (v := (.int .i64 b)) rfl rfl (by rfl) ?_ ?_
                  focus (intro ws hws; go_simp; (try omega))
                  try simp only [nrm, nrg]
                  iterate 4 ((refine wpC_pure (v := ?_) rfl rfl (by rfl) ?_ ?_; rotate_left; (focus (intro ws hws; go_simp; (try with_reducible rfl); done))); try simp only [nrm, nrg])
                  (refine wpC_pure (v := ?_) rfl rfl (by rfl) ?_ ?_; rotate_left; (focus (intro ws hws; obtain ⟨q0, p0⟩ := hws.row (k := bx) xpf xom; go_simp; (try with_reducible rfl); done)))
                  try simp only [nrm, nrg]
                  (refine wpC_pure (v := ?_) rfl rfl (by rfl) ?_ ?_; rotate_left; (focus (intro ws hws; go_simp; (try with_reducible rfl); done)))
                  try simp only [nrm, nrg]
                  refine wpC_made (.slice (some ⟨u1.heap.size, 0, none⟩) 1 1) (u1.alloc (.cells #[.int .i64 b, .int .i64 x2] 61)) rfl rfl (by rfl) (by go_simp) (Chg.alloc (Chg.refl _ _) _) ?_
                  try simp only [nrm, nrg]
                  refine wpF_done rfl ?_
                  simp only [List.drop_succ_cons, List.drop_zero, List.drop_nil]
                  go_wp2_with (at_builtin; refine wpList_append_lies _ rfl _ _ _ (by rfl) (w.heap.size + 1) 61 i0 _ 2 16 Try.underlying30 hi0 hz0 hz1 hz2 rfl (by omega) (.slice ao1 m ca1) m _ (by rfl) (oo_u1.out.1.alloc _) ⟨u1.heap.size, 0, none⟩ 1 1 [.int .i64 b, .int .i64 x2] (by rfl) (by rfl) (World.news_of_block (cs := #[.int .i64 b, .int .i64 x2]) (t := 61) (fr := (0, 0)) (heap_alloc_new u1 _)) (by simp [Value.oneCell']) (by omega) (by simp [maxLen] <;> omega) (by omega) (by simp; omega) (u1.heap.size + 1) (by simp) ?_)
                  intro gg1 cap1 ua1 hown1 hgrow1 hat1 hlt1
                  have hgc1 : Chg (fun b => ((.slice ao1 m ca1) : Value).ownBlock = some b) u1 ua1 := (((Ext.refl u1).alloc _).chg _).trans (grown_chg hgrow1 (fun k hk => hk))
                  have hlb : ∀ b, ((.slice ao1 m ca1) : Value).ownBlock = some b → (w.heap.size + 1) ≤ b ∧ b < u1.heap.size := fun b hb => oo_u1.out.1.lt _ hb
                  rw [rgCells_app L (b, x2)] at hown1
                  replace hown1 := hide (RowAt.of hown1)
                  have zz1 := hgc1.size
                  clear hgrow1 hat1 hlt1
                  obtain ⟨qo, po⟩ := hgc1.row (k := bx) (by omega) (fun h => by have := hlb _ h; omega)
                  replace dx := (qo _).trans dx
                  replace dx2 := (qo _).trans dx2
                  clear qo po
                  have hr_ua1 := hide (hr_u1.out.chg hgc1 (fun h => by have := hlb _ h; omega))
                  have hgwua1 := hgwu1.trans (hgc1.mono (T := fun b => w.heap.size ≤ b) (fun b _ h => by have := hlb b h; (try dsimp only); omega))
                  clear br0 br1 brF kbr hr_u1 hgwu1 oo_u1 hlb hgc1
                  obtain ⟨br0, br1, brF, kbr⟩ := BoxV.a2 hr_ua1.out
                  go_wp2
                  go_roundw
                  case rel => exact ⟨k + 1, m + 1, _, _, _, by go_num, by omega, hst, rfl, by omega, hide ⟨by rw [List.length_append, hL.out]; rfl, hown1.out.1⟩, hr_ua1.out, by (try simp only [World.size_drew]); omega, hgwua1⟩
                  case measure => simp [intOf]; omega
                · have c2e : decide (b < x2) = false := decide_eq_false c2
                  have hst : Hid (remRec (a, b) (rs.take (k + 1)) = L ++ []) := hide (by
                    rw [remK_succ hkx, hK.out, hx0.out]
                    simp only [remOne]
                    have h1 : ¬ x1 < min x2 a := by omega
                    have h2 : ¬ max x1 b < x2 := by omega
                    rw [if_neg h1, if_neg h2]
                    simp)
                  clear hK hx0
                  replace hown := hide (RowAt.of hown.out)
                  clear b1 b2 bF
                  obtain ⟨br0, br1, brF, kbr⟩ := BoxV.a2 hB.out
                  go_wp2_with fail
                  refine wp_region_flowC (fun _ => False) 14 [(0, 1), (1, 1), (2, 1), (3, 1), (4, 1), (5, 1), (6, 1), (7, 1), (8, 1), (9, 1), (10, 1), (11, 1), (12, 1), (13, 1)] (by kernel_rfl) (by kernel_rfl) ?_
                  iterate 4 ((refine wpC_pure (v := ?_) rfl rfl (by rfl) ?_ ?_; rotate_left; (focus (intro ws hws; go_simp; (try with_reducible rfl); done))); try simp only [nrm, nrg])
                  (refine wpC_pure (v := ?_) rfl rfl (by rfl) ?_ ?_; rotate_left; (focus (intro ws hws; obtain ⟨q0, p0⟩ := hws.row (k := bx) xpf xom; go_simp; (try with_reducible rfl); done)))
                  try simp only [nrm, nrg]
                  iterate 4 ((refine wpC_pure (v := ?_) rfl rfl (by rfl) ?_ ?_; rotate_left; (focus (intro ws hws; go_simp; (try with_reducible rfl); done))); try simp only [nrm, nrg])
                  (refine wpC_pure (v := ?_) rfl rfl (by rfl) ?_ ?_; rotate_left; (focus (intro ws hws; obtain ⟨q0, p0⟩ := hws.row (k := bx) xpf xom; go_simp; (try with_reducible rfl); done)))
                  try simp only [nrm, nrg]
                  (refine wpC_pure (v := ?_) rfl rfl (by rfl) ?_ ?_; rotate_left; (focus (intro ws hws; go_simp; (try with_reducible rfl); done)))
                  try simp only [nrm, nrg]
                  (refine wpC_pure (v := ?_) rfl rfl (by rfl) ?_ ?_; rotate_left; (focus (intro ws hws; obtain ⟨q0, p0⟩ := hws.row (k := w.heap.size) xpf xom; go_simp; (try with_reducible rfl); done)))
                  try simp only [nrm, nrg]
                  refine wpC_pure (v := (.int .i64 a)) rfl rfl (by rfl) ?_ ?_
                  focus (intro ws hws; go_simp; (try omega))
                  try simp only [nrm, nrg]
                  (refine wpC_pure (v := ?_) rfl rfl (by rfl) ?_ ?_; rotate_left; (focus (intro ws hws; go_simp; (try with_reducible rfl); done)))
                  try simp only [nrm, nrg]
                  refine wpF_done rfl ?_
                  simp only [List.drop_succ_cons, List.drop_zero, List.drop_nil]
                  go_wp2_with fail
                  refine wp_region_flowC (fun _ => False) 14 [(0, 1), (1, 1), (2, 1), (3, 1), (4, 1), (5, 1), (6, 1), (7, 1), (8, 1), (9, 1), (10, 1), (11, 1), (12, 1), (13, 1)] (by kernel_rfl) (by kernel_rfl) ?_
                  iterate 4 ((refine wpC_pure (v := ?_) rfl rfl (by rfl) ?_ ?_; rotate_left; (focus (intro ws hws; go_simp; (try with_reducible rfl); done))); try simp only [nrm, nrg])
                  (refine wpC_pure (v := ?_) rfl rfl (by rfl) ?_ ?_; rotate_left; (focus (intro ws hws; obtain ⟨q0, p0⟩ := hws.row (k := bx) xpf xom; go_simp; (try with_reducible rfl); done)))
                  try simp only [nrm, nrg]
                  (refine wpC_pure (v := ?_) rfl rfl (by rfl) ?_ ?_; rotate_left; (focus (intro ws hws; go_simp; (try with_reducible rfl); done)))
                  try simp only [nrm, nrg]
                  (refine wpC_pure (v := ?_) rfl rfl (by rfl) ?_ ?_; rotate_left; (focus (intro ws hws; obtain ⟨q0, p0⟩ := hws.row (k := w.heap.size) xpf xom; go_simp; (try with_reducible rfl); done)))
                  try simp only [nrm, nrg]
                  refine wpC_pure (v := (.int .i64 b)) rfl rfl (by rfl) ?_ ?_
                  focus (intro ws hws; go_simp; (try omega))
                  try simp only [nrm, nrg]
                  iterate 4 ((refine wpC_pure (v := ?_) rfl rfl (by rfl) ?_ ?_; rotate_left; (focus (intro ws hws; go_simp; (try with_reducible rfl); done))); try simp only [nrm, nrg])
                  (refine wpC_pure (v := ?_) rfl rfl (by rfl) ?_ ?_; rotate_left; (focus (intro ws hws; obtain ⟨q0, p0⟩ := hws.row (k := bx) xpf xom; go_simp; (try with_reducible rfl); done)))
                  try simp only [nrm, nrg]
                  (refine wpC_pure (v := ?_) rfl rfl (by rfl) ?_ ?_; rotate_left; (focus (intro ws hws; go_simp; (try with_reducible rfl); done)))
                  try simp only [nrm, nrg]
                  refine wpF_done rfl ?_
                  simp only [List.drop_succ_cons, List.drop_zero, List.drop_nil]
                  go_wp2
                  go_roundw
                  case rel => exact ⟨k + 1, m, _, _, _, by go_num, by omega, hst, rfl, by omega, hide ⟨by rw [List.append_nil]; exact hL.out, (show World.ownsRow _ _ _ _ _ _ _ from ownR_ext (show World.ownsRow _ (w.heap.size + 1) _ 2 (.slice ao1 m ca1) m (rgCells (L ++ [])) from by rw [List.append_nil]; exact hown.out.1) Ext.go)⟩, hB.out.ext Ext.go, by (try simp only [World.size_drew]); omega, (hg.trans (Ext.chg Ext.go _))⟩
                  case measure => simp [intOf]; omega
        · obtain rfl : k = n := by omega
          have hK2 : Hid (remR rs (a, b) = L) := hide (by rw [remR_yes hi hf, ← hK.out, ← hn'.out, List.take_length])
          clear hK
          go_wp2
          refine bodyPost_ret (v := .slice ao1 m ca1) (by simp [results, Try.results99, go_sem]) rfl ?_
          rw [hK2.out]
          exact ⟨ao1, ca1, by rw [hL.out], by rw [hL.out]; exact ownsBase hown.out (by omega), hg.ext (fun k hk h => by omega)⟩
    · have hA : remR rs (a, b) = rs := if_neg (by simp [hf])
      rw [hA]
      clear hA
      go_enter Try.func99, Try.ntmps99
      go_wp2_with fail
      refine (IsRanges_spec ao n ca rs _ (hx'.out.ext Ext.go) hn'.out (by omega)).mono ?_
      rintro en w1 ⟨rfl, hb1⟩
      rw [hi]
      have hB1 := BoxV.ext (BoxV.new w [.int .i64 a, .int .i64 b] 61) hb1
      have q1 := hB1.c 0 _ rfl
      have q2 := hB1.c 1 _ rfl
      have qF := hB1.fr
      have k1 := hb1.more (k := w.heap.size) xpf
      go_wp2_with fail
      refine (fine_spec a b _).mono ?_
      rintro en w2 ⟨rfl, hb2⟩
      rw [hf]
      go_wp2_with fail
      refine (copyW_spec ao n ca rs _ (hx'.out.ext Ext.go) hn'.out (by omega)).mono ?_
      rintro en w3 ⟨ao3, cap3, rfl, ho, hb3⟩
      have hs1 := hb1.size
      have hs2 := hb2.size
      have hE3 : Ext w w3 := Ext.go
      go_wp2
      refine bodyPost_ret (v := .slice ao3 rs.length cap3) (by simp [results, Try.results99, go_sem]) rfl ⟨ao3, cap3, rfl, ownsBase ho (by simp at hs1 ⊢; omega), hE3⟩
  · have hA : remR rs (a, b) = rs := if_neg (by simp [hi])
    rw [hA]
    clear hA
    go_enter Try.func99, Try.ntmps99
    go_wp2_with fail
    refine (IsRanges_spec ao n ca rs _ (hx'.out.ext Ext.go) hn'.out (by omega)).mono ?_
    rintro en w1 ⟨rfl, hb1⟩
    rw [hi]
    have hB1 := BoxV.ext (BoxV.new w [.int .i64 a, .int .i64 b] 61) hb1
    have q1 := hB1.c 0 _ rfl
    have q2 := hB1.c 1 _ rfl
    have qF := hB1.fr
    have k1 := hb1.more (k := w.heap.size) xpf
    go_wp2_with fail
    refine (copyW_spec ao n ca rs _ (hx'.out.ext Ext.go) hn'.out (by omega)).mono ?_
    rintro en w3 ⟨ao3, cap3, rfl, ho, hb3⟩
    have hs1 := hb1.size
    have hE3 : Ext w w3 := Ext.go
    go_wp2
    refine bodyPost_ret (v := .slice ao3 rs.length cap3) (by simp [results, Try.results99, go_sem]) rfl ⟨ao3, cap3, rfl, ownsBase ho (by simp at hs1 ⊢; omega), hE3⟩
theorem comK_succ {xs : List Rg} {r : Rg} {k : Nat} (hk : k < xs.length) : comRec r (xs.take (k + 1)) = comRec r (xs.take k) ++ comOne r (xs.getD k dr) := by
  rw [takeR_succ xs hk]
  simp [comRec]
theorem comR_yes {xs : List Rg} {r : Rg} (h : isRgs xs = true) (hr : rgFine r = true) : comR xs r = comRec r xs := if_pos ⟨h, hr⟩
theorem isRgs_one (r : Rg) : isRgs [r] = rgFine r := by
  rcases Bool.eq_false_or_eq_true (rgFine r) with h | h
  · have := rgFine_bd h
    simp [isRgs, rgsFrom, h]
    try omega
  · simp [isRgs, rgsFrom, h]
set_option maxHeartbeats 8000000 in
set_option maxRecDepth 100000 in
theorem CommonRanges_spec (c d : Int) (ao bo : Option Addr) (n ca cb : Nat) (rs : List Rg) (w : World) (hx : ReadR w ao rs) (hy : ReadR w bo [(c, d)]) (hn : rs.length = n) (hl : n ≤ 1048576) :
    Calls Try.prog 41 #[.slice ao n ca, .slice bo 1 cb] w (NewRW (comR rs (c, d)) w) := by
  have hn' := hide hn
  have hx' := hide hx
  have hy' := hide hy
  clear hn hx hy
  obtain ⟨i0, hi0, hz0, hz1, hz2⟩ := info_parts infoRange
  have hown0 : (w.alloc (.cells #[] 61)).ownsRow w.heap.size 61 2 (.slice (some ⟨w.heap.size, 0, none⟩) 0 0) 0 (rgCells []) := World.ownsRow_made w #[] 0 (Nat.le_refl _) (by decide) rfl
  replace hown0 := hide hown0
  rcases Bool.eq_false_or_eq_true (isRgs rs) with hi | hi
  · rcases Bool.eq_false_or_eq_true (rgFine (c, d)) with hf | hf
    · go_enter Try.func41, Try.ntmps41
      go_wp2_with fail
      go_loopw [5, 6] (fun s i wr => ∃ (k m : Nat) (L : List Rg) (ao1 : Option Addr) (ca1 : Nat), i = .int .i64 k ∧ k ≤ n ∧ Hid (comRec (c, d) (rs.take k) = L) ∧ s = .slice ao1 m ca1 ∧ m ≤ k ∧ Hid (L.length = m ∧ wr.ownsRow w.heap.size 61 2 (.slice ao1 m ca1) m (rgCells L)) ∧ w.heap.size + 1 ≤ wr.heap.size ∧ Chg (fun b => w.heap.size ≤ b) w wr) (fun _ i _ => n - (intOf i).toNat)
      case atStart => exact ⟨0, 0, [], _, _, rfl, by omega, hide rfl, rfl, by omega, hide ⟨rfl, hown0.out⟩, by simp, ((Ext.refl w).alloc _).chg _⟩
      case round =>
        obtain ⟨wo, hwo⟩ : ∃ u, u = wr := ⟨_, rfl⟩
        subst hwo
        obtain ⟨k, m, L, ao1, ca1, rfl, hk, hK, rfl, hm, hLo, hsz, hg⟩ := hrel
        have hL := hide hLo.out.1
        have hown := hide (RowAt.of hLo.out.2)
        clear hLo hown0
        have hxr : Ext w wo := hg.ext (fun b h1 h2 => by (try dsimp only at h2); omega)
        by_cases hlt : k < n
        · have hkx : k < rs.length := by rw [hn'.out]; exact hlt
          have i1 : (0 : Int) ≤ (k : Int) := by omega
          have i2 : (k : Int) < (n : Int) := by omega
          go_wp2_with fail
          refine (IsRanges_spec ao n ca rs _ (hx'.out.ext hxr) hn'.out (by omega)).mono ?_
          rintro en u1 ⟨rfl, hu1⟩
          rw [hi]
          have gu1 : Chg (fun b => False) wo u1 := Chg.trans (by repeat (first | with_reducible exact Chg.refl _ _ | with_reducible refine Chg.alloc ?_ _ | with_reducible refine Chg.drew ?_ | ((with_reducible refine Chg.set ?_ ?_ _); (focus (first | (left; first | rfl | (simp; done) | ((try dsimp only); omega) | (simp; omega)) | (right; simp; done) | (right; simp; omega) | (right; omega)))))) (Ext.chg hu1 _)
          have zu1 := hu1.size
          (try simp at zu1)
          have yu1 : wo.heap.size ≤ u1.heap.size := gu1.size
          have oo_u1 := hide (RowAt.chg hown.out gu1 (fun b h1 h2 h3 => by first | exact False.elim h3 | ((try dsimp only at h3); omega)))
          have hgwu1 : Chg (fun b => w.heap.size ≤ b) w u1 := Chg.trans hg (Chg.mono (T := fun b => w.heap.size ≤ b) gu1 (fun b _ h => by first | exact False.elim h | ((try dsimp only at h ⊢); omega)))
          clear hown hg
          go_wp2_with fail
          refine (IsRanges_spec bo 1 cb [(c, d)] _ (hy'.out.ext (hxr.trans hu1)) rfl (by omega)).mono ?_
          rintro en u2 ⟨rfl, hu2⟩
          rw [isRgs_one, hf]
          have gu2 : Chg (fun b => False) u1 u2 := Chg.trans (by repeat (first | with_reducible exact Chg.refl _ _ | with_reducible refine Chg.alloc ?_ _ | with_reducible refine Chg.drew ?_ | ((with_reducible refine Chg.set ?_ ?_ _); (focus (first | (left; first | rfl | (simp; done) | ((try dsimp only); omega) | (simp; omega)) | (right; simp; done) | (right; simp; omega) | (right; omega)))))) (Ext.chg hu2 _)
          have zu2 := hu2.size
          (try simp at zu2)
          have yu2 : u1.heap.size ≤ u2.heap.size := gu2.size
          have oo_u2 := hide (RowAt.chg oo_u1.out gu2 (fun b h1 h2 h3 => by first | exact False.elim h3 | ((try dsimp only at h3); omega)))
          have hgwu2 : Chg (fun b => w.heap.size ≤ b) w u2 := Chg.trans hgwu1 (Chg.mono (T := fun b => w.heap.size ≤ b) gu2 (fun b _ h => by first | exact False.elim h | ((try dsimp only at h ⊢); omega)))
          clear oo_u1 hgwu1
          clear hu1 hu2 hxr
          rcases hx'.out with hnil | ⟨bx, off, rfl, hx⟩
          · rw [hnil] at hkx; simp at hkx
          rcases hy'.out with hnil | ⟨bz, off2, rfl, hy⟩
          · simp at hnil
          obtain ⟨cx, cx2⟩ := hx k hkx
          obtain ⟨cy, cy2⟩ := hy 0 (by simp)
          have la : bx < w.heap.size := World.block_lt_of_cell? w _ cx
          have lb : bz < w.heap.size := World.block_lt_of_cell? w _ cy
          obtain ⟨⟨x1, x2⟩, hx0⟩ : ∃ x : Rg, Hid (rs.getD k dr = x) := ⟨_, hide rfl⟩
          rw [hx0.out] at cx cx2
          simp only [Nat.zero_mul, Nat.add_zero, List.getD_cons_zero] at cy cy2
          dsimp only at cx cx2 cy cy2
          have hxb := rgs_at hi hkx
          rw [hx0.out] at hxb
          dsimp only at hxb
          have hfb := rgFine_bd hf
          dsimp only at hfb
          clear hx hy
          obtain ⟨lo, hlo⟩ : ∃ lo : Int, Hid (lo = max x1 c) := ⟨_, hide rfl⟩
          obtain ⟨hh, hhi⟩ : ∃ hh : Int, Hid (hh = min x2 d) := ⟨_, hide rfl⟩
          skip
          skip
          go_wp2_with fail
          go_loopw [5, 7] (fun s2 j wr => ∃ (q m2 : Nat) (L2 : List Rg) (ao2 : Option Addr) (ca2 : Nat), j = .int .i64 q ∧ q ≤ 1 ∧ Hid (comRec (c, d) (rs.take (k + q)) = L2) ∧ s2 = .slice ao2 m2 ca2 ∧ m2 ≤ k + q ∧ Hid (L2.length = m2 ∧ wr.ownsRow w.heap.size 61 2 (.slice ao2 m2 ca2) m2 (rgCells L2)) ∧ w.heap.size + 1 ≤ wr.heap.size ∧ Chg (fun b => w.heap.size ≤ b) w wr) (fun _ j _ => 1 - (intOf j).toNat)
          case atStart => exact ⟨0, m, L, _, _, rfl, by omega, hide hK.out, rfl, by omega, hide ⟨hL.out, oo_u2.out.1⟩, by omega, hgwu2⟩
          case round =>
            clear hK hL oo_u2 hgwu2
            obtain ⟨q, m2, L2, ao2, ca2, rfl, hq, hK2, rfl, hm2, hLo, hsz2, hg2⟩ := hrel
            have hL := hide hLo.out.1
            have hown := hide (RowAt.of hLo.out.2)
            clear hLo
            have hxr : Ext w wr := hg2.ext (fun b h1 h2 => by (try dsimp only at h2); omega)
            rcases Nat.eq_zero_or_pos q with rfl | hq1
            · skip
              simp only [Nat.add_zero] at *
              have i3 : (0 : Int) < ((1 : Nat) : Int) := by decide
              have hry := (hxr.row lb).1
              have dy := (hry _).trans cy
              have dy2 := (hry _).trans cy2
              clear hry
              have hst : comRec (c, d) (rs.take (k + 1)) = L2 ++ comOne (c, d) (x1, x2) := by rw [comK_succ hkx, hK2.out, hx0.out]
              replace hst := hide hst
              have hrx := (hxr.row la).1
              have dx := (hrx _).trans cx
              have dx2 := (hrx _).trans cx2
              clear hrx hxr
              have lw : bx ≠ wr.heap.size := by omega
              have lwz : bz ≠ wr.heap.size := by omega
              go_wp2_with fail
              refine wp_region_flowC (fun b => b = wr.heap.size) 25 [(0, 1), (1, 1), (2, 1), (3, 1), (4, 1), (5, 1), (6, 1), (7, 1), (8, 1), (9, 1), (10, 1), (11, 1), (12, 1), (13, 1), (14, 1), (15, 1), (16, 1), (17, 1), (18, 1), (19, 1), (20, 1), (21, 1), (22, 1), (23, 0), (24, 0)] (by kernel_rfl) (by kernel_rfl) ?_
              iterate 4 ((refine wpC_pure (v := ?_) rfl rfl (by rfl) ?_ ?_; rotate_left; (focus (intro ws hws; go_simp; (try with_reducible rfl); done))); try simp only [nrm, nrg])
              (refine wpC_pure (v := ?_) rfl rfl (by rfl) ?_ ?_; rotate_left; (focus (intro ws hws; obtain ⟨q0, p0⟩ := hws.row (k := bx) xpf xom; go_simp; (try with_reducible rfl); done)))
              try simp only [nrm, nrg]
              iterate 4 ((refine wpC_pure (v := ?_) rfl rfl (by rfl) ?_ ?_; rotate_left; (focus (intro ws hws; go_simp; (try with_reducible rfl); done))); try simp only [nrm, nrg])
              (refine wpC_pure (v := ?_) rfl rfl (by rfl) ?_ ?_; rotate_left; (focus (intro ws hws; obtain ⟨q0, p0⟩ := hws.row (k := bz) xpf xom; go_simp; (try with_reducible rfl); done)))
              try simp only [nrm, nrg]
              refine wpC_pure (v := (.int .i64 lo)) rfl rfl (by rfl) ?_ ?_
              focus (intro ws hws; (rcases Int.le_total x1 c with hle | hle <;> first | (have hmm : lo = c := (by rw [hlo.out]; omega); rw [hmm]; go_simp; (try omega); done) | (have hmm : lo = x1 := (by rw [hlo.out]; omega); rw [hmm]; go_simp; (try omega); done)))
              try simp only [nrm, nrg]
              iterate 4 ((refine wpC_pure (v := ?_) rfl rfl (by rfl) ?_ ?_; rotate_left; (focus (intro ws hws; go_simp; (try with_reducible rfl); done))); try simp only [nrm, nrg])
              (refine wpC_pure (v := ?_) rfl rfl (by rfl) ?_ ?_; rotate_left; (focus (intro ws hws; obtain ⟨q0, p0⟩ := hws.row (k := bx) xpf xom; go_simp; (try with_reducible rfl); done)))
              try simp only [nrm, nrg]
              iterate 4 ((refine wpC_pure (v := ?_) rfl rfl (by rfl) ?_ ?_; rotate_left; (focus (intro ws hws; go_simp; (try with_reducible rfl); done))); try simp only [nrm, nrg])
              (refine wpC_pure (v := ?_) rfl rfl (by rfl) ?_ ?_; rotate_left; (focus (intro ws hws; obtain ⟨q0, p0⟩ := hws.row (k := bz) xpf xom; go_simp; (try with_reducible rfl); done)))
              try simp only [nrm, nrg]
              refine wpC_pure (v := (.int .i64 hh)) rfl rfl (by rfl) ?_ ?_
              focus (intro ws hws; (rcases Int.le_total x2 d with hle | hle <;> first | (have hmm : hh = x2 := (by rw [hhi.out]; omega); rw [hmm]; go_simp; (try omega); done) | (have hmm : hh = d := (by rw [hhi.out]; omega); rw [hmm]; go_simp; (try omega); done)))
              try simp only [nrm, nrg]
              (refine wpC_pure (v := ?_) rfl rfl (by rfl) ?_ ?_; rotate_left; (focus (intro ws hws; go_simp; (try with_reducible rfl); done)))
              try simp only [nrm, nrg]
              refine wpC_made (.pointer (some ⟨wr.heap.size, 0, none⟩)) (wr.drew.alloc (.cells #[.int .i64 0, .int .i64 0] 61)) rfl rfl (by rfl) (by go_simp) (Chg.alloc (Chg.refl _ _) _) ?_
              try simp only [nrm, nrg]
              obtain ⟨v1, h0v1⟩ : ∃ u, u = (wr.drew.alloc (.cells #[.int .i64 0, .int .i64 0] 61)) := ⟨_, rfl⟩
              rw [← h0v1]
              have hv1 : Ext (wr.drew.alloc (.cells #[.int .i64 0, .int .i64 0] 61)) v1 := h0v1 ▸ Ext.go
              have gv1 : Chg (fun b => False) wr v1 := Chg.trans (by repeat (first | with_reducible exact Chg.refl _ _ | with_reducible refine Chg.alloc ?_ _ | with_reducible refine Chg.drew ?_ | ((with_reducible refine Chg.set ?_ ?_ _); (focus (first | (left; first | rfl | (simp; done) | ((try dsimp only); omega) | (simp; omega)) | (right; simp; done) | (right; simp; omega) | (right; omega)))))) (Ext.chg hv1 _)
              have zv1 := hv1.size
              (try simp at zv1)
              have yv1 : wr.heap.size ≤ v1.heap.size := gv1.size
              obtain ⟨qo, po⟩ := gv1.row (k := bz) (by omega) xom
              replace dy := (qo _).trans dy
              replace dy2 := (qo _).trans dy2
              clear qo po
              obtain ⟨qo, po⟩ := gv1.row (k := bx) (by omega) xom
              replace dx := (qo _).trans dx
              replace dx2 := (qo _).trans dx2
              clear qo po
              have hy_v1 := hide (BoxV.chg (show BoxV (wr.heap.size) _ [.int .i64 0, .int .i64 0] from by have h := (BoxV.new wr.drew [.int .i64 0, .int .i64 0] 61); simpa only [World.size_alloc, World.size_drew] using h) (S := fun b => False) (Chg.trans (by repeat (first | with_reducible exact Chg.refl _ _ | with_reducible refine Chg.alloc ?_ _ | with_reducible refine Chg.drew ?_ | ((with_reducible refine Chg.set ?_ ?_ _); (focus (first | (left; first | rfl | (simp; done) | ((try dsimp only); omega) | (simp; omega)) | (right; simp; done) | (right; simp; omega) | (right; omega)))))) (Ext.chg hv1 _)) xom)
              have oo_v1 := hide (RowAt.chg hown.out gv1 (fun b h1 h2 h3 => by first | exact False.elim h3 | ((try dsimp only at h3); omega)))
              have hgwv1 : Chg (fun b => w.heap.size ≤ b) w v1 := Chg.trans hg2 (Chg.mono (T := fun b => w.heap.size ≤ b) gv1 (fun b _ h => by first | exact False.elim h | ((try dsimp only at h ⊢); omega)))
              clear hown hg2
              clear gv1 hv1
              obtain ⟨by0, by1, byF, kby⟩ := BoxV.a2 hy_v1.out
              clear h0v1
              (refine wpC_store ?_ rfl rfl (by rfl) ?_ ?_ ?_; rotate_left; (focus (go_simp; (try with_reducible rfl); done)))
              · exact (by repeat (first | with_reducible exact Chg.refl _ _ | with_reducible refine Chg.alloc ?_ _ | with_reducible refine Chg.drew ?_ | ((with_reducible refine Chg.set ?_ ?_ _); (focus (first | (left; first | rfl | (simp; done) | ((try dsimp only); omega) | (simp; omega)) | (right; simp; done) | (right; simp; omega) | (right; omega))))))
              try simp only [nrm, nrg]
              have hset := BoxV.set hy_v1.out [.int .i64 lo, .int .i64 hh] rfl
              simp only [setFrom, Nat.zero_add, Nat.reduceAdd] at hset
              obtain ⟨v2, h0v2⟩ : ∃ u, u = ((v1.setCell ⟨wr.heap.size, 0, none⟩ (.int .i64 lo)).setCell ⟨wr.heap.size, 1, none⟩ (.int .i64 hh)) := ⟨_, rfl⟩
              rw [← h0v2] at hset
              obtain ⟨hset1, hv2⟩ := hset
              replace hset1 := hide hset1
              rw [← h0v2]
              clear h0v2
              have zv2 := hv2.size
              have oo_v2 := hide (RowAt.chg oo_v1.out hv2 (fun b h1 h2 h3 => by first | exact False.elim h3 | ((try dsimp only at h3); omega)))
              obtain ⟨qo, po⟩ := hv2.row (k := bz) (by omega) xom
              replace dy := (qo _).trans dy
              replace dy2 := (qo _).trans dy2
              clear qo po
              obtain ⟨qo, po⟩ := hv2.row (k := bx) (by omega) xom
              replace dx := (qo _).trans dx
              replace dx2 := (qo _).trans dx2
              clear qo po
              have hgwv2 : Chg (fun b => w.heap.size ≤ b) w v2 := Chg.trans hgwv1 (Chg.mono (T := fun b => w.heap.size ≤ b) hv2 (fun b _ h => by (try dsimp only at h ⊢); omega))
              clear oo_v1 hgwv1 by0 by1 byF kby hv2
              have hy_v2 := hset1
              clear hset1 hy_v1
              have byF := hy_v2.out.fr
              have kby : wr.heap.size < v2.heap.size := hy_v2.out.lt
              have by0 := hy_v2.out.c 0 _ rfl
              have by1 := hy_v2.out.c 1 _ rfl
              refine wpF_done rfl ?_
              simp only [List.drop_succ_cons, List.drop_zero, List.drop_nil]
              by_cases hlt2 : lo < hh
              · skip
                have hlt2e : decide (lo < hh) = true := decide_eq_true hlt2
                have hcom : comOne (c, d) (x1, x2) = [(lo, hh)] := by
                  unfold comOne
                  rw [if_pos (by rw [← hlo.out, ← hhi.out]; exact hlt2), ← hlo.out, ← hhi.out]
                rw [hcom] at hst
                clear hcom
                go_wp2_with (at_builtin; refine wpList_append_lies _ rfl _ _ _ (by rfl) w.heap.size 61 i0 _ 2 16 Try.underlying30 hi0 hz0 hz1 hz2 rfl (by omega) (.slice ao2 m2 ca2) m2 _ (by rfl) (oo_v2.out.1.alloc _) ⟨v2.heap.size, 0, none⟩ 1 1 [.int .i64 lo, .int .i64 hh] (by rfl) (by rfl) (World.news_of_block (cs := #[.int .i64 lo, .int .i64 hh]) (t := 61) (fr := (0, 0)) (heap_alloc_new v2 _)) (by simp [Value.oneCell']) (by omega) (by simp [maxLen] <;> omega) (by omega) (by simp; omega) (v2.heap.size + 1) (by simp) ?_)
                intro gg1 cap1 va1 hown1 hgrow1 hat1 hlt1
                have hgc1 : Chg (fun b => ((.slice ao2 m2 ca2) : Value).ownBlock = some b) v2 va1 := (((Ext.refl v2).alloc _).chg _).trans (grown_chg hgrow1 (fun k hk => hk))
                have hlb : ∀ b, ((.slice ao2 m2 ca2) : Value).ownBlock = some b → w.heap.size ≤ b ∧ b < v2.heap.size := fun b hb => oo_v2.out.1.lt _ hb
                rw [rgCells_app L2 (lo, hh)] at hown1
                replace hown1 := hide (RowAt.of hown1)
                have zz1 := hgc1.size
                clear hgrow1 hat1 hlt1
                obtain ⟨qo, po⟩ := hgc1.row (k := bz) (by omega) (fun h => by have := hlb _ h; omega)
                replace dy := (qo _).trans dy
                replace dy2 := (qo _).trans dy2
                clear qo po
                obtain ⟨qo, po⟩ := hgc1.row (k := bx) (by omega) (fun h => by have := hlb _ h; omega)
                replace dx := (qo _).trans dx
                replace dx2 := (qo _).trans dx2
                clear qo po
                have hgwva1 := hgwv2.trans (hgc1.mono (T := fun b => w.heap.size ≤ b) (fun b _ h => by have := hlb b h; (try dsimp only); omega))
                clear byF kby by0 by1 hy_v2 hgwv2 oo_v2 hlb hgc1
                go_wp2
                go_roundw
                case rel => exact ⟨1, m2 + 1, _, _, _, rfl, by omega, hst, rfl, by omega, hide ⟨by rw [List.length_append, hL.out]; rfl, hown1.out.1⟩, by omega, hgwva1⟩
                case measure => simp [intOf]
              · have hlt2e : decide (lo < hh) = false := decide_eq_false hlt2
                have hcom : comOne (c, d) (x1, x2) = [] := by
                  unfold comOne
                  rw [if_neg (by rw [← hlo.out, ← hhi.out]; exact hlt2)]
                rw [hcom, List.append_nil] at hst
                clear hcom
                go_wp2
                go_roundw
                case rel => exact ⟨1, m2, _, _, _, rfl, by omega, hst, rfl, by omega, hide ⟨hL.out, oo_v2.out.1⟩, by omega, hgwv2⟩
                case measure => simp [intOf]
            · obtain rfl : q = 1 := by omega
              go_wp2
              go_roundw
              case rel => exact ⟨k + 1, m2, L2, _, _, by go_num, by omega, hK2, rfl, by omega, hide ⟨hL.out, hown.out.1⟩, by omega, hg2⟩
              case measure => simp [intOf]; omega
        · obtain rfl : k = n := by omega
          have hK2 : Hid (comR rs (c, d) = L) := hide (by rw [comR_yes hi hf, ← hK.out, ← hn'.out, List.take_length])
          clear hK
          go_wp2
          refine bodyPost_ret (v := .slice ao1 m ca1) (by simp [results, Try.results41, go_sem]) rfl ?_
          rw [hK2.out]
          exact ⟨ao1, ca1, by rw [hL.out], by rw [hL.out]; exact hown.out.1, hxr⟩
    · have hA : comR rs (c, d) = [] := if_neg (by simp [hf])
      rw [hA]
      clear hA
      go_enter Try.func41, Try.ntmps41
      go_wp2_with fail
      go_loopw [5, 6] (fun s i wr => i = .int .i64 0 ∧ s = .slice (some ⟨w.heap.size, 0, none⟩) 0 0 ∧ Ext (w.alloc (.cells #[] 61)) wr) (fun _ _ _ => 0)
      case atStart => exact ⟨rfl, rfl, Ext.refl _⟩
      case round =>
        obtain ⟨rfl, rfl, hwr⟩ := hrel
        have hE0 : Ext w (w.alloc (.cells #[] 61)) := (Ext.refl w).alloc _
        by_cases h0 : 0 < n
        · have i2 : (0 : Int) < (n : Int) := by omega
          go_wp2_with fail
          refine (IsRanges_spec ao n ca rs _ (hx'.out.ext (hE0.trans hwr)) hn'.out (by omega)).mono ?_
          rintro en w1 ⟨rfl, hb1⟩
          rw [hi]
          go_wp2_with fail
          refine (IsRanges_spec bo 1 cb [(c, d)] _ (hy'.out.ext ((hE0.trans hwr).trans hb1)) rfl (by omega)).mono ?_
          rintro en w2 ⟨rfl, hb2⟩
          rw [isRgs_one, hf]
          go_wp2
          refine bodyPost_ret (v := .slice (some ⟨w.heap.size, 0, none⟩) 0 0) (by simp [results, Try.results41, go_sem]) rfl ⟨some ⟨w.heap.size, 0, none⟩, 0, rfl, ownR_ext hown0.out ((hwr.trans hb1).trans hb2), (hE0.trans ((hwr.trans hb1).trans hb2))⟩
        · obtain rfl : n = 0 := by omega
          go_wp2
          refine bodyPost_ret (v := .slice (some ⟨w.heap.size, 0, none⟩) 0 0) (by simp [results, Try.results41, go_sem]) rfl ⟨some ⟨w.heap.size, 0, none⟩, 0, rfl, ownR_ext hown0.out hwr, (hE0.trans hwr)⟩
  · have hA : comR rs (c, d) = [] := if_neg (by simp [hi])
    rw [hA]
    clear hA
    go_enter Try.func41, Try.ntmps41
    go_wp2_with fail
    go_loopw [5, 6] (fun s i wr => i = .int .i64 0 ∧ s = .slice (some ⟨w.heap.size, 0, none⟩) 0 0 ∧ Ext (w.alloc (.cells #[] 61)) wr) (fun _ _ _ => 0)
    case atStart => exact ⟨rfl, rfl, Ext.refl _⟩
    case round =>
      obtain ⟨rfl, rfl, hwr⟩ := hrel
      have hE0 : Ext w (w.alloc (.cells #[] 61)) := (Ext.refl w).alloc _
      by_cases h0 : 0 < n
      · have i2 : (0 : Int) < (n : Int) := by omega
        go_wp2_with fail
        refine (IsRanges_spec ao n ca rs _ (hx'.out.ext (hE0.trans hwr)) hn'.out (by omega)).mono ?_
        rintro en w1 ⟨rfl, hb1⟩
        rw [hi]
        go_wp2
        refine bodyPost_ret (v := .slice (some ⟨w.heap.size, 0, none⟩) 0 0) (by simp [results, Try.results41, go_sem]) rfl ⟨some ⟨w.heap.size, 0, none⟩, 0, rfl, ownR_ext hown0.out (hwr.trans hb1), (hE0.trans (hwr.trans hb1))⟩
      · obtain rfl : n = 0 := by omega
        go_wp2
        refine bodyPost_ret (v := .slice (some ⟨w.heap.size, 0, none⟩) 0 0) (by simp [results, Try.results41, go_sem]) rfl ⟨some ⟨w.heap.size, 0, none⟩, 0, rfl, ownR_ext hown0.out hwr, (hE0.trans hwr)⟩
end
end Go.Proofs.Ytjhgcbchdnoleaa

/-
  Part of the proof: RgC.
-/
import Derived.Test.YtjhgcbchdnoleaaPRgRmqPR
import Derived.Test.YtjhgcbchdnoleaaPRgC
namespace Go.Proofs.Ytjhgcbchdnoleaa
section
open Go.ChangeShapes Go.WideShapes Go.ChangeAt Go.RowKit
set_option linter.unusedSimpArgs false
set_option linter.unusedVariables false
set_option maxHeartbeats 8000000 in
set_option maxRecDepth 100000 in
theorem CommonRanges_impl (c d : Int) (ao bo : Option Addr) (n ca cb : Nat) (rs : List Rg) (w : World) (hx : ReadR w ao rs) (hy : ReadR w bo [(c, d)]) (hn : rs.length = n) (hl : n ≤ 1048576) :
    Calls Try.prog 106 #[.slice ao n ca, .slice bo 1 cb] w (NewRW (comR rs (c, d)) w) := by
  have hn' := hide hn
  have hx' := hide hx
  have hy' := hide hy
  clear hn hx hy
  obtain ⟨i0, hi0, hz0, hz1, hz2⟩ := info_parts infoRange
  have hown0 : (w.alloc (.cells #[] 61)).ownsRow w.heap.size 61 2 (.slice (some ⟨w.heap.size, 0, none⟩) 0 0) 0 (rgCells []) := World.ownsRow_made w #[] 0 (Nat.le_refl _) (by decide) rfl
  replace hown0 := hide hown0
  rcases Bool.eq_false_or_eq_true (isRgs rs) with hi | hi
  · rcases Bool.eq_false_or_eq_true (rgFine (c, d)) with hf | hf
    · go_enter Try.func106, Try.ntmps106
      have hE0 : Ext w (w.alloc (.cells #[] 61)) := (Ext.refl w).alloc _
      go_wp2_with fail
      refine (IsRanges_impl ao n ca rs _ (hx'.out.ext hE0) hn'.out (by omega)).mono ?_
      rintro en w1 ⟨rfl, hb1⟩
      rw [hi]
      go_wp2_with fail
      refine (IsRanges_impl bo 1 cb [(c, d)] _ (hy'.out.ext (hE0.trans hb1)) rfl (by omega)).mono ?_
      rintro en w2 ⟨rfl, hb2⟩
      rw [isRgs_one, hf]
      have hzz := (hb1.trans hb2).size
      simp only [World.size_alloc] at hzz
      go_wp2_with fail
      go_loopw [5, 24] (fun s i wr => ∃ (k m : Nat) (L : List Rg) (ao1 : Option Addr) (ca1 : Nat), i = .int .i64 k ∧ k ≤ n ∧ Hid (comRec (c, d) (rs.take k) = L) ∧ s = .slice ao1 m ca1 ∧ m ≤ k ∧ Hid (L.length = m ∧ wr.ownsRow w.heap.size 61 2 (.slice ao1 m ca1) m (rgCells L)) ∧ w.heap.size + 1 ≤ wr.heap.size ∧ Chg (fun b => w.heap.size ≤ b) w wr) (fun _ i _ => n - (intOf i).toNat)
      case atStart => exact ⟨0, 0, [], _, _, rfl, by omega, hide rfl, rfl, by omega, hide ⟨rfl, ownR_ext hown0.out (hb1.trans hb2)⟩, hzz, (hE0.trans (hb1.trans hb2)).chg _⟩
      case round =>
        obtain ⟨wo, hwo⟩ : ∃ u, u = wr := ⟨_, rfl⟩
        subst hwo
        obtain ⟨k, m, L, ao1, ca1, rfl, hk, hK, rfl, hm, hLo, hsz, hg⟩ := hrel
        have hL := hide hLo.out.1
        have hown := hide (RowAt.of hLo.out.2)
        clear hLo hown0
        have hxr : Ext w wo := hg.ext (fun b h1 h2 => by (try dsimp only at h2); omega)
        by_cases hlt : k < n
        · have hkx : k < rs.length := by rw [hn'.out]; exact hlt
          have i1 : (0 : Int) ≤ (k : Int) := by omega
          have i2 : (k : Int) < (n : Int) := by omega
          rcases hx'.out with hnil | ⟨bx, off, rfl, hx⟩
          · rw [hnil] at hkx; simp at hkx
          rcases hy'.out with hnil | ⟨bz, off2, rfl, hy⟩
          · simp at hnil
          obtain ⟨cx, cx2⟩ := hx k hkx
          obtain ⟨cy, cy2⟩ := hy 0 (by simp)
          have la : bx < w.heap.size := World.block_lt_of_cell? w _ cx
          have lb : bz < w.heap.size := World.block_lt_of_cell? w _ cy
          obtain ⟨⟨x1, x2⟩, hx0⟩ : ∃ x : Rg, Hid (rs.getD k dr = x) := ⟨_, hide rfl⟩
          rw [hx0.out] at cx cx2
          simp only [Nat.zero_mul, Nat.add_zero, List.getD_cons_zero] at cy cy2
          dsimp only at cx cx2 cy cy2
          have hxb := rgs_at hi hkx
          rw [hx0.out] at hxb
          dsimp only at hxb
          have hfb := rgFine_bd hf
          dsimp only at hfb
          clear hx hy
          obtain ⟨lo, hlo⟩ : ∃ lo : Int, Hid (lo = max x1 c) := ⟨_, hide rfl⟩
          obtain ⟨hh, hhi⟩ : ∃ hh : Int, Hid (hh = min x2 d) := ⟨_, hide rfl⟩
          have hrx := (hxr.row la).1
          have dx := (hrx _).trans cx
          have dx2 := (hrx _).trans cx2
          clear hrx
          have lw : bx ≠ wo.heap.size := by omega
          have lwz : bz ≠ wo.heap.size := by omega
          clear hxr
          skip
          go_wp2_with fail
          go_loopw [5, 30] (fun s2 j wr => ∃ (q m2 : Nat) (L2 : List Rg) (ao2 : Option Addr) (ca2 : Nat), j = .int .i64 q ∧ q ≤ 1 ∧ Hid (comRec (c, d) (rs.take (k + q)) = L2) ∧ s2 = .slice ao2 m2 ca2 ∧ m2 ≤ k + q ∧ Hid (L2.length = m2 ∧ wr.ownsRow w.heap.size 61 2 (.slice ao2 m2 ca2) m2 (rgCells L2)) ∧ w.heap.size + 1 ≤ wr.heap.size ∧ Chg (fun b => w.heap.size ≤ b) w wr ∧ (q = 0 → BoxV wo.heap.size wr [.int .i64 x1, .int .i64 x2]) ∧ wo.heap.size + 1 ≤ wr.heap.size) (fun _ j _ => 1 - (intOf j).toNat)
          case atStart => exact ⟨0, m, L, _, _, rfl, by omega, hide hK.out, rfl, by omega, hide ⟨hL.out, ownR_ext hown.out.1 ((Ext.refl _).alloc _)⟩, by simp; omega, hg.alloc _, fun _ => BoxV.new wo [.int .i64 x1, .int .i64 x2] 61, by simp⟩
          case round =>
            clear hK hL hown hg
            obtain ⟨q, m2, L2, ao2, ca2, rfl, hq, hK2, rfl, hm2, hLo, hsz2, hg2, hBx, hsz3⟩ := hrel
            have hL := hide hLo.out.1
            have hown := hide (RowAt.of hLo.out.2)
            clear hLo
            have hxr : Ext w wr := hg2.ext (fun b h1 h2 => by (try dsimp only at h2); omega)
            rcases Nat.eq_zero_or_pos q with rfl | hq1
            · skip
              simp only [Nat.add_zero] at *
              have i3 : (0 : Int) < ((1 : Nat) : Int) := by decide
              have hry := (hxr.row lb).1
              have dy := (hry _).trans cy
              have dy2 := (hry _).trans cy2
              clear hry
              have hst : comRec (c, d) (rs.take (k + 1)) = L2 ++ comOne (c, d) (x1, x2) := by rw [comK_succ hkx, hK2.out, hx0.out]
              replace hst := hide hst
              replace hBx := hide (hBx (by simp))
              clear hxr
              obtain ⟨bx0, bx1, bxF, kbx⟩ := BoxV.a2 hBx.out
              have lwq : bz ≠ wr.heap.size := by omega
              skip
              go_wp2_with fail
              refine wp_region_flowC (fun _ => False) 12 [(0, 1), (1, 1), (2, 1), (3, 1), (4, 1), (5, 1), (6, 1), (7, 1), (8, 1), (9, 1), (10, 1), (11, 1)] (by kernel_rfl) (by kernel_rfl) ?_
              obtain ⟨v1, h0v1⟩ : ∃ u, u = (wr.alloc (.cells #[.int .i64 c, .int .i64 d] 61)).drew := ⟨_, rfl⟩
              rw [← h0v1]
              have hv1 : Ext (wr.alloc (.cells #[.int .i64 c, .int .i64 d] 61)).drew v1 := h0v1 ▸ Ext.go
              have gv1 : Chg (fun b => False) wr v1 := Chg.trans (by repeat (first | with_reducible exact Chg.refl _ _ | with_reducible refine Chg.alloc ?_ _ | with_reducible refine Chg.drew ?_ | ((with_reducible refine Chg.set ?_ ?_ _); (focus (first | (left; first | rfl | (simp; done) | ((try dsimp only); omega) | (simp; omega)) | (right; simp; done) | (right; simp; omega) | (right; omega)))))) (Ext.chg hv1 _)
              have zv1 := hv1.size
              (try simp at zv1)
              have yv1 : wr.heap.size ≤ v1.heap.size := gv1.size
              obtain ⟨qo, po⟩ := gv1.row (k := bz) (by omega) xom
              replace dy := (qo _).trans dy
              replace dy2 := (qo _).trans dy2
              clear qo po
              have hx_v1 := hide (hBx.out.chg gv1 xom)
              have hy_v1 := hide (BoxV.chg (BoxV.new wr [.int .i64 c, .int .i64 d] 61) (S := fun b => False) (Chg.trans (by repeat (first | with_reducible exact Chg.refl _ _ | with_reducible refine Chg.alloc ?_ _ | with_reducible refine Chg.drew ?_ | ((with_reducible refine Chg.set ?_ ?_ _); (focus (first | (left; first | rfl | (simp; done) | ((try dsimp only); omega) | (simp; omega)) | (right; simp; done) | (right; simp; omega) | (right; omega)))))) (Ext.chg hv1 _)) xom)
              have oo_v1 := hide (RowAt.chg hown.out gv1 (fun b h1 h2 h3 => by first | exact False.elim h3 | ((try dsimp only at h3); omega)))
              have hgwv1 : Chg (fun b => w.heap.size ≤ b) w v1 := Chg.trans hg2 (Chg.mono (T := fun b => w.heap.size ≤ b) gv1 (fun b _ h => by first | exact False.elim h | ((try dsimp only at h ⊢); omega)))
              clear hBx hown hg2 bx0 bx1 bxF kbx
              clear gv1 hv1
              obtain ⟨bx0, bx1, bxF, kbx⟩ := BoxV.a2 hx_v1.out
              obtain ⟨by0, by1, byF, kby⟩ := BoxV.a2 hy_v1.out
              have ⟨nexy, neyx⟩ := ne2 (show wo.heap.size ≠ wr.heap.size by omega)
              clear h0v1
              (refine wpC_pure (v := ?_) rfl rfl (by rfl) ?_ ?_; rotate_left; (focus (intro ws hws; go_simp; (try with_reducible rfl); done)))
              try simp only [nrm, nrg]
              (refine wpC_pure (v := ?_) rfl rfl (by rfl) ?_ ?_; rotate_left; (focus (intro ws hws; obtain ⟨q0, p0⟩ := hws.row (k := wo.heap.size) xpf xom; go_simp; (try with_reducible rfl); done)))
              try simp only [nrm, nrg]
              (refine wpC_pure (v := ?_) rfl rfl (by rfl) ?_ ?_; rotate_left; (focus (intro ws hws; go_simp; (try with_reducible rfl); done)))
              try simp only [nrm, nrg]
              (refine wpC_pure (v := ?_) rfl rfl (by rfl) ?_ ?_; rotate_left; (focus (intro ws hws; obtain ⟨q0, p0⟩ := hws.row (k := wr.heap.size) xpf xom; go_simp; (try with_reducible rfl); done)))
              try simp only [nrm, nrg]
              refine wpC_pure (v := (.int .i64 lo)) rfl rfl (by rfl) ?_ ?_
              focus (intro ws hws; (rcases Int.le_total x1 c with hle | hle <;> first | (have hmm : lo = c := (by rw [hlo.out]; omega); rw [hmm]; go_simp; (try omega); done) | (have hmm : lo = x1 := (by rw [hlo.out]; omega); rw [hmm]; go_simp; (try omega); done)))
              try simp only [nrm, nrg]
              (refine wpC_pure (v := ?_) rfl rfl (by rfl) ?_ ?_; rotate_left; (focus (intro ws hws; go_simp; (try with_reducible rfl); done)))
              try simp only [nrm, nrg]
              (refine wpC_pure (v := ?_) rfl rfl (by rfl) ?_ ?_; rotate_left; (focus (intro ws hws; obtain ⟨q0, p0⟩ := hws.row (k := wo.heap.size) xpf xom; go_simp; (try with_reducible rfl); done)))
              try simp only [nrm, nrg]
              (refine wpC_pure (v := ?_) rfl rfl (by rfl) ?_ ?_; rotate_left; (focus (intro ws hws; go_simp; (try with_reducible rfl); done)))
              try simp only [nrm, nrg]
              (refine wpC_pure (v := ?_) rfl rfl (by rfl) ?_ ?_; rotate_left; (focus (intro ws hws; obtain ⟨q0, p0⟩ := hws.row (k := wr.heap.size) xpf xom; go_simp; (try with_reducible rfl); done)))
              try simp only [nrm, nrg]
              refine wpC_pure (v := (.int .i64 hh)) rfl rfl (by rfl) ?_ ?_
              focus (intro ws hws; (rcases Int.le_total x2 d with hle | hle <;> first | (have hmm : hh = x2 := (by rw [hhi.out]; omega); rw [hmm]; go_simp; (try omega); done) | (have hmm : hh = d := (by rw [hhi.out]; omega); rw [hmm]; go_simp; (try omega); done)))
              try simp only [nrm, nrg]
              iterate 2 ((refine wpC_pure (v := ?_) rfl rfl (by rfl) ?_ ?_; rotate_left; (focus (intro ws hws; go_simp; (try with_reducible rfl); done))); try simp only [nrm, nrg])
              refine wpF_done rfl ?_
              simp only [List.drop_succ_cons, List.drop_zero, List.drop_nil]
              by_cases hlt2 : lo < hh
              · skip
                have hlt2e : decide (lo < hh) = true := decide_eq_true hlt2
                have hcom : comOne (c, d) (x1, x2) = [(lo, hh)] := by
                  unfold comOne
                  rw [if_pos (by rw [← hlo.out, ← hhi.out]; exact hlt2), ← hlo.out, ← hhi.out]
                rw [hcom] at hst
                clear hcom
                go_wp2_with (at_builtin; refine wpList_append_lies _ rfl _ _ _ (by rfl) w.heap.size 61 i0 _ 2 16 Try.underlying30 hi0 hz0 hz1 hz2 rfl (by omega) (.slice ao2 m2 ca2) m2 _ (by rfl) (oo_v1.out.1.alloc _) ⟨v1.heap.size, 0, none⟩ 1 1 [.int .i64 lo, .int .i64 hh] (by rfl) (by rfl) (World.news_of_block (cs := #[.int .i64 lo, .int .i64 hh]) (t := 61) (fr := (0, 0)) (heap_alloc_new v1 _)) (by simp [Value.oneCell']) (by omega) (by simp [maxLen] <;> omega) (by omega) (by simp; omega) (v1.heap.size + 1) (by simp) ?_)
                intro gg1 cap1 va1 hown1 hgrow1 hat1 hlt1
                have hgc1 : Chg (fun b => ((.slice ao2 m2 ca2) : Value).ownBlock = some b) v1 va1 := (((Ext.refl v1).alloc _).chg _).trans (grown_chg hgrow1 (fun k hk => hk))
                have hlb : ∀ b, ((.slice ao2 m2 ca2) : Value).ownBlock = some b → w.heap.size ≤ b ∧ b < v1.heap.size := fun b hb => oo_v1.out.1.lt _ hb
                rw [rgCells_app L2 (lo, hh)] at hown1
                replace hown1 := hide (RowAt.of hown1)
                have zz1 := hgc1.size
                clear hgrow1 hat1 hlt1
                obtain ⟨qo, po⟩ := hgc1.row (k := bz) (by omega) (fun h => by have := hlb _ h; omega)
                replace dy := (qo _).trans dy
                replace dy2 := (qo _).trans dy2
                clear qo po
                have hgwva1 := hgwv1.trans (hgc1.mono (T := fun b => w.heap.size ≤ b) (fun b _ h => by have := hlb b h; (try dsimp only); omega))
                clear bx0 bx1 bxF kbx by0 by1 byF kby nexy neyx hx_v1 hy_v1 hgwv1 oo_v1 hlb hgc1
                go_wp2
                go_roundw
                case rel => exact ⟨1, m2 + 1, _, _, _, rfl, by omega, hst, rfl, by omega, hide ⟨by rw [List.length_append, hL.out]; rfl, hown1.out.1⟩, by omega, hgwva1, fun h => absurd h (by decide), by omega⟩
                case measure => simp [intOf]
              · have hlt2e : decide (lo < hh) = false := decide_eq_false hlt2
                have hcom : comOne (c, d) (x1, x2) = [] := by
                  unfold comOne
                  rw [if_neg (by rw [← hlo.out, ← hhi.out]; exact hlt2)]
                rw [hcom, List.append_nil] at hst
                clear hcom
                go_wp2
                go_roundw
                case rel => exact ⟨1, m2, _, _, _, rfl, by omega, hst, rfl, by omega, hide ⟨hL.out, oo_v1.out.1⟩, by omega, hgwv1, fun h => absurd h (by decide), by omega⟩
                case measure => simp [intOf]
            · obtain rfl : q = 1 := by omega
              go_wp2
              go_roundw
              case rel => exact ⟨k + 1, m2, L2, _, _, by go_num, by omega, hK2, rfl, by omega, hide ⟨hL.out, hown.out.1⟩, by omega, hg2⟩
              case measure => simp [intOf]; omega
        · obtain rfl : k = n := by omega
          have hK2 : Hid (comR rs (c, d) = L) := hide (by rw [comR_yes hi hf, ← hK.out, ← hn'.out, List.take_length])
          clear hK
          go_wp2
          refine bodyPost_ret (v := .slice ao1 m ca1) (by simp [results, Try.results106, go_sem]) rfl ?_
          rw [hK2.out]
          exact ⟨ao1, ca1, by rw [hL.out], by rw [hL.out]; exact hown.out.1, hxr⟩
    · have hA : comR rs (c, d) = [] := if_neg (by simp [hf])
      rw [hA]
      clear hA
      go_enter Try.func106, Try.ntmps106
      have hE0 : Ext w (w.alloc (.cells #[] 61)) := (Ext.refl w).alloc _
      go_wp2_with fail
      refine (IsRanges_impl ao n ca rs _ (hx'.out.ext hE0) hn'.out (by omega)).mono ?_
      rintro en w1 ⟨rfl, hb1⟩
      rw [hi]
      go_wp2_with fail
      refine (IsRanges_impl bo 1 cb [(c, d)] _ (hy'.out.ext (hE0.trans hb1)) rfl (by omega)).mono ?_
      rintro en w2 ⟨rfl, hb2⟩
      rw [isRgs_one, hf]
      go_wp2
      refine bodyPost_ret (v := .slice (some ⟨w.heap.size, 0, none⟩) 0 0) (by simp [results, Try.results106, go_sem]) rfl ⟨some ⟨w.heap.size, 0, none⟩, 0, rfl, ownR_ext hown0.out (hb1.trans hb2), (hE0.trans (hb1.trans hb2))⟩
  · have hA : comR rs (c, d) = [] := if_neg (by simp [hi])
    rw [hA]
    clear hA
    go_enter Try.func106, Try.ntmps106
    have hE0 : Ext w (w.alloc (.cells #[] 61)) := (Ext.refl w).alloc _
    go_wp2_with fail
    refine (IsRanges_impl ao n ca rs _ (hx'.out.ext hE0) hn'.out (by omega)).mono ?_
    rintro en w1 ⟨rfl, hb1⟩
    rw [hi]
    go_wp2
    refine bodyPost_ret (v := .slice (some ⟨w.heap.size, 0, none⟩) 0 0) (by simp [results, Try.results106, go_sem]) rfl ⟨some ⟨w.heap.size, 0, none⟩, 0, rfl, ownR_ext hown0.out hb1, (hE0.trans hb1)⟩
end
end Go.Proofs.Ytjhgcbchdnoleaa

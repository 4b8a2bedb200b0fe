/-
  Part of the proof: RgRm.
-/
import Derived.Test.YtjhgcbchdnoleaaPG8
namespace Go.Proofs.Ytjhgcbchdnoleaa
section
open Go.ChangeShapes Go.WideShapes Go.ChangeAt Go.RowKit
set_option linter.unusedSimpArgs false
set_option linter.unusedVariables false
set_option maxHeartbeats 8000000 in
set_option maxRecDepth 100000 in
theorem RemoveRange_impl (a b : Int) (ao : Option Addr) (n ca : Nat) (rs : List Rg) (w : World) (hx : ReadR w ao rs) (hn : rs.length = n) (hl : n ≤ 1048576) :
    Calls Try.prog 107 #[.slice ao n ca, .agg #[.int .i64 a, .int .i64 b]] w (NewRW (remR rs (a, b)) w) := by
  have hn' := hide hn
  have hx' := hide hx
  clear hn hx
  obtain ⟨i0, hi0, hz0, hz1, hz2⟩ := info_parts infoRange
  rcases Bool.eq_false_or_eq_true (isRgs rs) with hi | hi
  · rcases Bool.eq_false_or_eq_true (rgFine (a, b)) with hf | hf
    · go_enter Try.func107, Try.ntmps107
      go_wp2_with fail
      refine (IsRanges_impl ao n ca rs _ (hx'.out.ext (by repeat (first | with_reducible exact Ext.refl _ | with_reducible assumption | with_reducible refine Ext.alloc ?_ _ | with_reducible refine Ext.drew ?_ | with_reducible refine Ext.drewN ?_ _ | ((with_reducible refine Ext.set ?_ ?_ _); (focus (first | (simp; done) | (simp; omega)))) | with_reducible refine Ext.trans ?_ (by assumption)))) hn'.out (by omega)).mono ?_
      rintro en w1 ⟨rfl, hb1⟩
      rw [hi]
      have hB1 := BoxV.ext (BoxV.new w [.int .i64 a, .int .i64 b] 61) hb1
      obtain ⟨q1, q2, qF⟩ : w1.cell? ⟨w.heap.size, 0, none⟩ = some (.int .i64 a) ∧ w1.cell? ⟨w.heap.size, 1, none⟩ = some (.int .i64 b) ∧ ∀ o, w1.frozen? ⟨w.heap.size, o, none⟩ = false := ⟨hB1.c 0 _ rfl, hB1.c 1 _ rfl, hB1.fr⟩
      have k1 := hb1.more (k := w.heap.size) (by first | assumption | (simp; done) | (simp; omega) | omega)
      go_wp2_with fail
      refine (fine_impl a b _).mono ?_
      rintro en w2 ⟨rfl, hb2⟩
      rw [hf]
      have hB2 := hB1.ext hb2
      have k2 := hb2.more (k := w.heap.size) (by first | assumption | (simp; done) | (simp; omega) | omega)
      clear q1 q2 qF
      have q1 := hB2.c 0 _ rfl
      have q2 := hB2.c 1 _ rfl
      have qF := hB2.fr
      have hx2 : Ext w w2 := (by repeat (first | with_reducible exact Ext.refl _ | with_reducible assumption | with_reducible refine Ext.alloc ?_ _ | with_reducible refine Ext.drew ?_ | with_reducible refine Ext.drewN ?_ _ | ((with_reducible refine Ext.set ?_ ?_ _); (focus (first | (simp; done) | (simp; omega)))) | with_reducible refine Ext.trans ?_ (by assumption)))
      clear hb1 hb2
      replace hB2 := hide hB2
      clear hB1
      go_wp2_with fail
      go_loopw [5, 21] (fun s i wr => ∃ (k m : Nat) (L : List Rg) (ao1 : Option Addr) (ca1 : Nat), i = .int .i64 k ∧ k ≤ n ∧ Hid (remRec (a, b) (rs.take k) = L) ∧ s = .slice ao1 m ca1 ∧ m ≤ 2 * k ∧ Hid (L.length = m ∧ wr.ownsRow (w.heap.size + 1) 61 2 (.slice ao1 m ca1) m (rgCells L)) ∧ BoxV w.heap.size wr [.int .i64 a, .int .i64 b] ∧ w.heap.size + 1 ≤ wr.heap.size ∧ Chg (fun b => w.heap.size ≤ b) w wr) (fun _ i _ => n - (intOf i).toNat)
      case atStart =>
        have hEm : Ext w2 (w2.alloc (.cells #[] 61)) := (Ext.refl w2).alloc _
        exact ⟨0, 0, [], _, _, rfl, by omega, hide rfl, rfl, by omega, hide ⟨rfl, World.ownsRow_made w2 #[] 0 (by omega) (by decide) rfl⟩, hB2.out.ext hEm, by simp; omega, (hx2.trans hEm).chg _⟩
      case round =>
        obtain ⟨k, m, L, ao1, ca1, rfl, hk, hK, rfl, hm, hLo, hB0, hsz, hg⟩ := hrel
        have hL := hide hLo.out.1
        have hown := hide hLo.out.2
        have hB := hide hB0
        clear hLo q1 q2 qF hB0
        have b1 := hB.out.c 0 _ rfl
        have b2 := hB.out.c 1 _ rfl
        have bF := hB.out.fr
        have hfb := rgFine_bd hf
        dsimp only at hfb
        by_cases hlt : k < n
        · have hkx : k < rs.length := by rw [hn'.out]; exact hlt
          rcases hx'.out with hnil | ⟨bx, off, rfl, hx⟩
          · rw [hnil] at hkx; simp at hkx
          obtain ⟨cx, cx2⟩ := hx k hkx
          have la : bx < w.heap.size := World.block_lt_of_cell? w _ cx
          have hr := (hg.row la (by omega)).1
          have dx := (hr _).trans cx
          have dx2 := (hr _).trans cx2
          have i1 : (0 : Int) ≤ (k : Int) := by omega
          have i2 : (k : Int) < (n : Int) := by omega
          have hxb := rgs_at hi hkx
          obtain ⟨⟨x1, x2⟩, hx0⟩ : ∃ x : Rg, Hid (rs.getD k dr = x) := ⟨_, hide rfl⟩
          rw [hx0.out] at dx dx2 hxb
          dsimp only at dx dx2 hxb
          clear hx cx cx2 hr
          have lw : bx < wr.heap.size := by omega
          have hne : bx ≠ w.heap.size := by omega
          have hne2 : w.heap.size ≠ bx := by omega
          have hne3 : w.heap.size ≠ wr.heap.size := by omega
          have hne4 : wr.heap.size ≠ w.heap.size := by omega
          have ksz : w.heap.size < wr.heap.size := by omega
          obtain ⟨hx00, h12, hxm⟩ := hxb
          obtain ⟨ha0, hab, hbm⟩ := hfb
          by_cases d1 : x2 ≤ a
          · have d1e : decide (b < x2) = false := decide_eq_false (by omega)
            have d3 : ¬ (b ≤ x1) := by omega
            have d4 : x1 ≤ b := by omega
            have hst : Hid (remRec (a, b) (rs.take (k + 1)) = L ++ [(x1, x2)]) := hide (by
              rw [remK_succ hkx, hK.out, hx0.out]
              simp only [remOne]
              have h1 : x1 < min x2 a := by omega
              have h2 : ¬ max x1 b < x2 := by omega
              have hv : min x2 a = x2 := by omega
              rw [if_pos h1, if_neg h2, hv]
              simp)
            clear hK hx0
            have hE : Ext wr (wr.alloc (.cells #[.int .i64 x1, .int .i64 x2] 61)) := (Ext.refl wr).alloc _
            have hsx : (wr.alloc (.cells #[.int .i64 x1, .int .i64 x2] 61)).heap.size = wr.heap.size + 1 := by simp
            have hBx := hide (BoxV.new wr [.int .i64 x1, .int .i64 x2] 61)
            have hBr := hide (hB.out.ext hE)
            have hownx := hide (ownR_ext hown.out hE)
            have hgx := hg.trans (hE.chg _)
            go_wp2_with (at_builtin; (generalize hWx : wr.alloc (.cells #[.int .i64 x1, .int .i64 x2] 61) = wx at *); clear hWx; rw [← hsx]; refine wpList_append_lies _ rfl _ _ _ (by rfl) (w.heap.size + 1) 61 i0 _ 2 16 Try.underlying30 hi0 hz0 hz1 hz2 rfl (by omega) (.slice ao1 m ca1) m _ (by rfl) ((hownx.out).alloc _) ⟨wx.heap.size, 0, none⟩ 1 1 [.int .i64 x1, .int .i64 x2] (by rfl) (by rfl) (World.news_of_block (cs := #[.int .i64 x1, .int .i64 x2]) (t := 61) (fr := (0, 0)) (heap_alloc_new wx _)) (by simp [Value.oneCell']) (by omega) (by simp [maxLen] <;> omega) (by omega) (by simp; omega) (wx.heap.size + 1) (by simp) ?_)
            intro gg1 cap1 w2 hown1 hgrow1 hat1 hlt1
            have hgc1 : Chg (fun b => ((.slice ao1 m ca1) : Value).ownBlock = some b) wx w2 := (((Ext.refl wx).alloc _).chg _).trans (grown_chg hgrow1 (fun k hk => hk))
            have hlb1 : ∀ b, ((.slice ao1 m ca1) : Value).ownBlock = some b → w.heap.size + 1 ≤ b ∧ b < wx.heap.size := fun b hb => (hownx.out).lt _ hb
            rw [rgCells_app L (x1, x2)] at hown1
            clear hgrow1 hat1 hlt1
            have hB2 := hide (hBr.out.chg hgc1 (fun h => by have := hlb1 _ h; omega))
            have hzw := hgc1.size
            have hg2 := hgx.trans (Chg.mono (T := fun b => w.heap.size ≤ b) hgc1 (fun b _ h => by have := hlb1 b h; (try dsimp only); omega))
            have hBx2 := hide (hBx.out.chg hgc1 (fun h => by have := (hown.out).lt _ h; omega))
            replace hown1 := hide hown1
            clear b1 b2 bF
            have b1 := hB2.out.c 0 _ rfl
            have b2 := hB2.out.c 1 _ rfl
            have bF := hB2.out.fr
            have y1 := hBx2.out.c 0 _ rfl
            have y2 := hBx2.out.c 1 _ rfl
            have yF := hBx2.out.fr
            go_wp2
            go_roundw
            case rel => exact ⟨k + 1, m + 1, _, _, _, by go_num, by omega, hst, rfl, by omega, hide ⟨by rw [List.length_append, hL.out]; rfl, hown1.out⟩, hB2.out, by omega, hg2⟩
            case measure => simp [intOf]; omega
          · have d1n : a ≤ x2 := by omega
            by_cases d2 : b ≤ x1
            · have d2e : decide (x1 < a) = false := decide_eq_false (by omega)
              have hst : Hid (remRec (a, b) (rs.take (k + 1)) = L ++ [(x1, x2)]) := hide (by
                rw [remK_succ hkx, hK.out, hx0.out]
                simp only [remOne]
                have h1 : ¬ x1 < min x2 a := by omega
                have h2 : max x1 b < x2 := by omega
                have hv : max x1 b = x1 := by omega
                rw [if_neg h1, if_pos h2, hv]
                simp)
              clear hK hx0
              have hE : Ext wr (wr.alloc (.cells #[.int .i64 x1, .int .i64 x2] 61)) := (Ext.refl wr).alloc _
              have hsx : (wr.alloc (.cells #[.int .i64 x1, .int .i64 x2] 61)).heap.size = wr.heap.size + 1 := by simp
              have hBx := hide (BoxV.new wr [.int .i64 x1, .int .i64 x2] 61)
              have hBr := hide (hB.out.ext hE)
              have hownx := hide (ownR_ext hown.out hE)
              have hgx := hg.trans (hE.chg _)
              go_wp2_with (at_builtin; (generalize hWx : wr.alloc (.cells #[.int .i64 x1, .int .i64 x2] 61) = wx at *); clear hWx; rw [← hsx]; refine wpList_append_lies _ rfl _ _ _ (by rfl) (w.heap.size + 1) 61 i0 _ 2 16 Try.underlying30 hi0 hz0 hz1 hz2 rfl (by omega) (.slice ao1 m ca1) m _ (by rfl) ((hownx.out).alloc _) ⟨wx.heap.size, 0, none⟩ 1 1 [.int .i64 x1, .int .i64 x2] (by rfl) (by rfl) (World.news_of_block (cs := #[.int .i64 x1, .int .i64 x2]) (t := 61) (fr := (0, 0)) (heap_alloc_new wx _)) (by simp [Value.oneCell']) (by omega) (by simp [maxLen] <;> omega) (by omega) (by simp; omega) (wx.heap.size + 1) (by simp) ?_)
              intro gg1 cap1 w2 hown1 hgrow1 hat1 hlt1
              have hgc1 : Chg (fun b => ((.slice ao1 m ca1) : Value).ownBlock = some b) wx w2 := (((Ext.refl wx).alloc _).chg _).trans (grown_chg hgrow1 (fun k hk => hk))
              have hlb1 : ∀ b, ((.slice ao1 m ca1) : Value).ownBlock = some b → w.heap.size + 1 ≤ b ∧ b < wx.heap.size := fun b hb => (hownx.out).lt _ hb
              rw [rgCells_app L (x1, x2)] at hown1
              clear hgrow1 hat1 hlt1
              have hB2 := hide (hBr.out.chg hgc1 (fun h => by have := hlb1 _ h; omega))
              have hzw := hgc1.size
              have hg2 := hgx.trans (Chg.mono (T := fun b => w.heap.size ≤ b) hgc1 (fun b _ h => by have := hlb1 b h; (try dsimp only); omega))
              have hBx2 := hide (hBx.out.chg hgc1 (fun h => by have := (hown.out).lt _ h; omega))
              replace hown1 := hide hown1
              clear b1 b2 bF
              have b1 := hB2.out.c 0 _ rfl
              have b2 := hB2.out.c 1 _ rfl
              have bF := hB2.out.fr
              have y1 := hBx2.out.c 0 _ rfl
              have y2 := hBx2.out.c 1 _ rfl
              have yF := hBx2.out.fr
              go_wp2
              go_roundw
              case rel => exact ⟨k + 1, m + 1, _, _, _, by go_num, by omega, hst, rfl, by omega, hide ⟨by rw [List.length_append, hL.out]; rfl, hown1.out⟩, hB2.out, by omega, hg2⟩
              case measure => simp [intOf]; omega
            · have d2n : x1 ≤ b := by omega
              by_cases c1 : x1 < a
              · by_cases c2 : b < x2
                · have hst : Hid (remRec (a, b) (rs.take (k + 1)) = L ++ [(x1, a)] ++ [(b, x2)]) := hide (by
                    rw [remK_succ hkx, hK.out, hx0.out]
                    simp only [remOne]
                    have h1 : x1 < min x2 a := by omega
                    have h2 : max x1 b < x2 := by omega
                    have hv : min x2 a = a := by omega
                    have hu : max x1 b = b := by omega
                    rw [if_pos h1, if_pos h2, hv, hu]
                    simp)
                  clear hK hx0
                  have hE : Ext wr (wr.alloc (.cells #[.int .i64 x1, .int .i64 x2] 61)) := (Ext.refl wr).alloc _
                  have hsx : (wr.alloc (.cells #[.int .i64 x1, .int .i64 x2] 61)).heap.size = wr.heap.size + 1 := by simp
                  have hBx := hide (BoxV.new wr [.int .i64 x1, .int .i64 x2] 61)
                  have hBr := hide (hB.out.ext hE)
                  have hownx := hide (ownR_ext hown.out hE)
                  have hgx := hg.trans (hE.chg _)
                  go_wp2_with (at_builtin; (generalize hWx : wr.alloc (.cells #[.int .i64 x1, .int .i64 x2] 61) = wx at *); clear hWx; rw [← hsx]; refine wpList_append_lies _ rfl _ _ _ (by rfl) (w.heap.size + 1) 61 i0 _ 2 16 Try.underlying30 hi0 hz0 hz1 hz2 rfl (by omega) (.slice ao1 m ca1) m _ (by rfl) ((hownx.out).alloc _) ⟨wx.heap.size, 0, none⟩ 1 1 [.int .i64 x1, .int .i64 a] (by rfl) (by rfl) (World.news_of_block (cs := #[.int .i64 x1, .int .i64 a]) (t := 61) (fr := (0, 0)) (heap_alloc_new wx _)) (by simp [Value.oneCell']) (by omega) (by simp [maxLen] <;> omega) (by omega) (by simp; omega) (wx.heap.size + 1) (by simp) ?_)
                  intro gg1 cap1 w2 hown1 hgrow1 hat1 hlt1
                  have hgc1 : Chg (fun b => ((.slice ao1 m ca1) : Value).ownBlock = some b) wx w2 := (((Ext.refl wx).alloc _).chg _).trans (grown_chg hgrow1 (fun k hk => hk))
                  have hlb1 : ∀ b, ((.slice ao1 m ca1) : Value).ownBlock = some b → w.heap.size + 1 ≤ b ∧ b < wx.heap.size := fun b hb => (hownx.out).lt _ hb
                  rw [rgCells_app L (x1, a)] at hown1
                  clear hgrow1 hat1 hlt1
                  have hB2 := hide (hBr.out.chg hgc1 (fun h => by have := hlb1 _ h; omega))
                  have hzw := hgc1.size
                  have hg2 := hgx.trans (Chg.mono (T := fun b => w.heap.size ≤ b) hgc1 (fun b _ h => by have := hlb1 b h; (try dsimp only); omega))
                  have hBx2 := hide (hBx.out.chg hgc1 (fun h => by have := (hown.out).lt _ h; omega))
                  replace hown1 := hide hown1
                  clear b1 b2 bF
                  have b1 := hB2.out.c 0 _ rfl
                  have b2 := hB2.out.c 1 _ rfl
                  have bF := hB2.out.fr
                  have y1 := hBx2.out.c 0 _ rfl
                  have y2 := hBx2.out.c 1 _ rfl
                  have yF := hBx2.out.fr
                  go_wp2_with (at_builtin; refine wpList_append_lies _ rfl _ _ _ (by rfl) (w.heap.size + 1) 61 i0 _ 2 16 Try.underlying30 hi0 hz0 hz1 hz2 rfl (by omega) (.slice (some ⟨gg1, 0, none⟩) (m + 1) cap1) (m + 1) _ (by rfl) ((hown1.out).alloc _) ⟨w2.heap.size, 0, none⟩ 1 1 [.int .i64 b, .int .i64 x2] (by rfl) (by rfl) (World.news_of_block (cs := #[.int .i64 b, .int .i64 x2]) (t := 61) (fr := (0, 0)) (heap_alloc_new w2 _)) (by simp [Value.oneCell']) (by omega) (by simp [maxLen] <;> omega) (by omega) (by simp; omega) (w2.heap.size + 1) (by simp) ?_)
                  intro gg2 cap2 w3 hown2 hgrow2 hat2 hlt2
                  have hgc2 : Chg (fun b => ((.slice (some ⟨gg1, 0, none⟩) (m + 1) cap1) : Value).ownBlock = some b) w2 w3 := (((Ext.refl w2).alloc _).chg _).trans (grown_chg hgrow2 (fun k hk => hk))
                  have hlb2 : ∀ b, ((.slice (some ⟨gg1, 0, none⟩) (m + 1) cap1) : Value).ownBlock = some b → w.heap.size + 1 ≤ b ∧ b < w2.heap.size := fun b hb => (hown1.out).lt _ hb
                  rw [rgCells_app (L ++ [(x1, a)]) (b, x2)] at hown2
                  clear hgrow2 hat2 hlt2
                  have hB3 := hB2.out.chg hgc2 (fun h => by have := hlb2 _ h; omega)
                  have hzw3 := hgc2.size
                  have hg3 := hg2.trans (Chg.mono (T := fun b => w.heap.size ≤ b) hgc2 (fun b _ h => by have := hlb2 b h; (try dsimp only); omega))
                  go_wp2
                  go_roundw
                  case rel => exact ⟨k + 1, m + 1 + 1, _, _, _, by go_num, by omega, hst, rfl, by omega, hide ⟨by rw [List.length_append, List.length_append, hL.out]; rfl, hown2⟩, hB3, by omega, hg3⟩
                  case measure => simp [intOf]; omega
                · have c2e : decide (b < x2) = false := decide_eq_false c2
                  have hst : Hid (remRec (a, b) (rs.take (k + 1)) = L ++ [(x1, a)]) := hide (by
                    rw [remK_succ hkx, hK.out, hx0.out]
                    simp only [remOne]
                    have h1 : x1 < min x2 a := by omega
                    have h2 : ¬ max x1 b < x2 := by omega
                    have hv : min x2 a = a := by omega
                    rw [if_pos h1, if_neg h2, hv]
                    simp)
                  clear hK hx0
                  have hE : Ext wr (wr.alloc (.cells #[.int .i64 x1, .int .i64 x2] 61)) := (Ext.refl wr).alloc _
                  have hsx : (wr.alloc (.cells #[.int .i64 x1, .int .i64 x2] 61)).heap.size = wr.heap.size + 1 := by simp
                  have hBx := hide (BoxV.new wr [.int .i64 x1, .int .i64 x2] 61)
                  have hBr := hide (hB.out.ext hE)
                  have hownx := hide (ownR_ext hown.out hE)
                  have hgx := hg.trans (hE.chg _)
                  go_wp2_with (at_builtin; (generalize hWx : wr.alloc (.cells #[.int .i64 x1, .int .i64 x2] 61) = wx at *); clear hWx; rw [← hsx]; refine wpList_append_lies _ rfl _ _ _ (by rfl) (w.heap.size + 1) 61 i0 _ 2 16 Try.underlying30 hi0 hz0 hz1 hz2 rfl (by omega) (.slice ao1 m ca1) m _ (by rfl) ((hownx.out).alloc _) ⟨wx.heap.size, 0, none⟩ 1 1 [.int .i64 x1, .int .i64 a] (by rfl) (by rfl) (World.news_of_block (cs := #[.int .i64 x1, .int .i64 a]) (t := 61) (fr := (0, 0)) (heap_alloc_new wx _)) (by simp [Value.oneCell']) (by omega) (by simp [maxLen] <;> omega) (by omega) (by simp; omega) (wx.heap.size + 1) (by simp) ?_)
                  intro gg1 cap1 w2 hown1 hgrow1 hat1 hlt1
                  have hgc1 : Chg (fun b => ((.slice ao1 m ca1) : Value).ownBlock = some b) wx w2 := (((Ext.refl wx).alloc _).chg _).trans (grown_chg hgrow1 (fun k hk => hk))
                  have hlb1 : ∀ b, ((.slice ao1 m ca1) : Value).ownBlock = some b → w.heap.size + 1 ≤ b ∧ b < wx.heap.size := fun b hb => (hownx.out).lt _ hb
                  rw [rgCells_app L (x1, a)] at hown1
                  clear hgrow1 hat1 hlt1
                  have hB2 := hide (hBr.out.chg hgc1 (fun h => by have := hlb1 _ h; omega))
                  have hzw := hgc1.size
                  have hg2 := hgx.trans (Chg.mono (T := fun b => w.heap.size ≤ b) hgc1 (fun b _ h => by have := hlb1 b h; (try dsimp only); omega))
                  have hBx2 := hide (hBx.out.chg hgc1 (fun h => by have := (hown.out).lt _ h; omega))
                  replace hown1 := hide hown1
                  clear b1 b2 bF
                  have b1 := hB2.out.c 0 _ rfl
                  have b2 := hB2.out.c 1 _ rfl
                  have bF := hB2.out.fr
                  have y1 := hBx2.out.c 0 _ rfl
                  have y2 := hBx2.out.c 1 _ rfl
                  have yF := hBx2.out.fr
                  go_wp2
                  go_roundw
                  case rel => exact ⟨k + 1, m + 1, _, _, _, by go_num, by omega, hst, rfl, by omega, hide ⟨by rw [List.length_append, hL.out]; rfl, hown1.out⟩, hB2.out, by omega, hg2⟩
                  case measure => simp [intOf]; omega
              · have c1e : decide (x1 < a) = false := decide_eq_false c1
                by_cases c2 : b < x2
                · have hst : Hid (remRec (a, b) (rs.take (k + 1)) = L ++ [(b, x2)]) := hide (by
                    rw [remK_succ hkx, hK.out, hx0.out]
                    simp only [remOne]
                    have h1 : ¬ x1 < min x2 a := by omega
                    have h2 : max x1 b < x2 := by omega
                    have hu : max x1 b = b := by omega
                    rw [if_neg h1, if_pos h2, hu]
                    simp)
                  clear hK hx0
                  have hE : Ext wr (wr.alloc (.cells #[.int .i64 x1, .int .i64 x2] 61)) := (Ext.refl wr).alloc _
                  have hsx : (wr.alloc (.cells #[.int .i64 x1, .int .i64 x2] 61)).heap.size = wr.heap.size + 1 := by simp
                  have hBx := hide (BoxV.new wr [.int .i64 x1, .int .i64 x2] 61)
                  have hBr := hide (hB.out.ext hE)
                  have hownx := hide (ownR_ext hown.out hE)
                  have hgx := hg.trans (hE.chg _)
                  go_wp2_with (at_builtin; (generalize hWx : wr.alloc (.cells #[.int .i64 x1, .int .i64 x2] 61) = wx at *); clear hWx; rw [← hsx]; refine wpList_append_lies _ rfl _ _ _ (by rfl) (w.heap.size + 1) 61 i0 _ 2 16 Try.underlying30 hi0 hz0 hz1 hz2 rfl (by omega) (.slice ao1 m ca1) m _ (by rfl) ((hownx.out).alloc _) ⟨wx.heap.size, 0, none⟩ 1 1 [.int .i64 b, .int .i64 x2] (by rfl) (by rfl) (World.news_of_block (cs := #[.int .i64 b, .int .i64 x2]) (t := 61) (fr := (0, 0)) (heap_alloc_new wx _)) (by simp [Value.oneCell']) (by omega) (by simp [maxLen] <;> omega) (by omega) (by simp; omega) (wx.heap.size + 1) (by simp) ?_)
                  intro gg1 cap1 w2 hown1 hgrow1 hat1 hlt1
                  have hgc1 : Chg (fun b => ((.slice ao1 m ca1) : Value).ownBlock = some b) wx w2 := (((Ext.refl wx).alloc _).chg _).trans (grown_chg hgrow1 (fun k hk => hk))
                  have hlb1 : ∀ b, ((.slice ao1 m ca1) : Value).ownBlock = some b → w.heap.size + 1 ≤ b ∧ b < wx.heap.size := fun b hb => (hownx.out).lt _ hb
                  rw [rgCells_app L (b, x2)] at hown1
                  clear hgrow1 hat1 hlt1
                  have hB2 := hide (hBr.out.chg hgc1 (fun h => by have := hlb1 _ h; omega))
                  have hzw := hgc1.size
                  have hg2 := hgx.trans (Chg.mono (T := fun b => w.heap.size ≤ b) hgc1 (fun b _ h => by have := hlb1 b h; (try dsimp only); omega))
                  have hBx2 := hide (hBx.out.chg hgc1 (fun h => by have := (hown.out).lt _ h; omega))
                  replace hown1 := hide hown1
                  clear b1 b2 bF
                  have b1 := hB2.out.c 0 _ rfl
                  have b2 := hB2.out.c 1 _ rfl
                  have bF := hB2.out.fr
                  have y1 := hBx2.out.c 0 _ rfl
                  have y2 := hBx2.out.c 1 _ rfl
                  have yF := hBx2.out.fr
                  go_wp2
                  go_roundw
                  case rel => exact ⟨k + 1, m + 1, _, _, _, by go_num, by omega, hst, rfl, by omega, hide ⟨by rw [List.length_append, hL.out]; rfl, hown1.out⟩, hB2.out, by omega, hg2⟩
                  case measure => simp [intOf]; omega
                · have c2e : decide (b < x2) = false := decide_eq_false c2
                  have hst : Hid (remRec (a, b) (rs.take (k + 1)) = L ++ []) := hide (by
                    rw [remK_succ hkx, hK.out, hx0.out]
                    simp only [remOne]
                    have h1 : ¬ x1 < min x2 a := by omega
                    have h2 : ¬ max x1 b < x2 := by omega
                    rw [if_neg h1, if_neg h2]
                    simp)
                  clear hK hx0
                  have hE : Ext wr (wr.alloc (.cells #[.int .i64 x1, .int .i64 x2] 61)) := (Ext.refl wr).alloc _
                  have hsx : (wr.alloc (.cells #[.int .i64 x1, .int .i64 x2] 61)).heap.size = wr.heap.size + 1 := by simp
                  have hBx := hide (BoxV.new wr [.int .i64 x1, .int .i64 x2] 61)
                  have hBr := hide (hB.out.ext hE)
                  have hownx := hide (ownR_ext hown.out hE)
                  have hgx := hg.trans (hE.chg _)
                  go_wp2
                  go_roundw
                  case rel => exact ⟨k + 1, m, _, _, _, by go_num, by omega, hst, rfl, by omega, hide ⟨by rw [List.append_nil]; exact hL.out, by rw [List.append_nil]; exact hownx.out⟩, hBr.out, by omega, hgx⟩
                  case measure => simp [intOf]; omega
        · obtain rfl : k = n := by omega
          have hK2 : Hid (remR rs (a, b) = L) := hide (by rw [remR_yes hi hf, ← hK.out, ← hn'.out, List.take_length])
          clear hK
          go_wp2
          refine bodyPost_ret (v := .slice ao1 m ca1) (by simp [results, Try.results107, go_sem]) rfl ?_
          rw [hK2.out]
          exact ⟨ao1, ca1, by rw [hL.out], by rw [hL.out]; exact ownsBase hown.out (by omega), hg.ext (fun k hk h => by omega)⟩
    · have hA : remR rs (a, b) = rs := if_neg (by simp [hf])
      rw [hA]
      clear hA
      go_enter Try.func107, Try.ntmps107
      go_wp2_with fail
      refine (IsRanges_impl ao n ca rs _ (hx'.out.ext (by repeat (first | with_reducible exact Ext.refl _ | with_reducible assumption | with_reducible refine Ext.alloc ?_ _ | with_reducible refine Ext.drew ?_ | with_reducible refine Ext.drewN ?_ _ | ((with_reducible refine Ext.set ?_ ?_ _); (focus (first | (simp; done) | (simp; omega)))) | with_reducible refine Ext.trans ?_ (by assumption)))) hn'.out (by omega)).mono ?_
      rintro en w1 ⟨rfl, hb1⟩
      rw [hi]
      have hB1 := BoxV.ext (BoxV.new w [.int .i64 a, .int .i64 b] 61) hb1
      have q1 := hB1.c 0 _ rfl
      have q2 := hB1.c 1 _ rfl
      have qF := hB1.fr
      have k1 := hb1.more (k := w.heap.size) (by first | assumption | (simp; done) | (simp; omega) | omega)
      go_wp2_with fail
      refine (fine_impl a b _).mono ?_
      rintro en w2 ⟨rfl, hb2⟩
      rw [hf]
      go_wp2_with fail
      refine (copyW_impl ao n ca rs _ (hx'.out.ext (by repeat (first | with_reducible exact Ext.refl _ | with_reducible assumption | with_reducible refine Ext.alloc ?_ _ | with_reducible refine Ext.drew ?_ | with_reducible refine Ext.drewN ?_ _ | ((with_reducible refine Ext.set ?_ ?_ _); (focus (first | (simp; done) | (simp; omega)))) | with_reducible refine Ext.trans ?_ (by assumption)))) hn'.out (by omega)).mono ?_
      rintro en w3 ⟨ao3, cap3, rfl, ho, hb3⟩
      have hs1 := hb1.size
      have hs2 := hb2.size
      have hE3 : Ext w w3 := (by repeat (first | with_reducible exact Ext.refl _ | with_reducible assumption | with_reducible refine Ext.alloc ?_ _ | with_reducible refine Ext.drew ?_ | with_reducible refine Ext.drewN ?_ _ | ((with_reducible refine Ext.set ?_ ?_ _); (focus (first | (simp; done) | (simp; omega)))) | with_reducible refine Ext.trans ?_ (by assumption)))
      go_wp2
      refine bodyPost_ret (v := .slice ao3 rs.length cap3) (by simp [results, Try.results107, go_sem]) rfl ⟨ao3, cap3, rfl, ownsBase ho (by simp at hs1 ⊢; omega), hE3⟩
  · have hA : remR rs (a, b) = rs := if_neg (by simp [hi])
    rw [hA]
    clear hA
    go_enter Try.func107, Try.ntmps107
    go_wp2_with fail
    refine (IsRanges_impl ao n ca rs _ (hx'.out.ext (by repeat (first | with_reducible exact Ext.refl _ | with_reducible assumption | with_reducible refine Ext.alloc ?_ _ | with_reducible refine Ext.drew ?_ | with_reducible refine Ext.drewN ?_ _ | ((with_reducible refine Ext.set ?_ ?_ _); (focus (first | (simp; done) | (simp; omega)))) | with_reducible refine Ext.trans ?_ (by assumption)))) hn'.out (by omega)).mono ?_
    rintro en w1 ⟨rfl, hb1⟩
    rw [hi]
    have hB1 := BoxV.ext (BoxV.new w [.int .i64 a, .int .i64 b] 61) hb1
    have q1 := hB1.c 0 _ rfl
    have q2 := hB1.c 1 _ rfl
    have qF := hB1.fr
    have k1 := hb1.more (k := w.heap.size) (by first | assumption | (simp; done) | (simp; omega) | omega)
    go_wp2_with fail
    refine (copyW_impl ao n ca rs _ (hx'.out.ext (by repeat (first | with_reducible exact Ext.refl _ | with_reducible assumption | with_reducible refine Ext.alloc ?_ _ | with_reducible refine Ext.drew ?_ | with_reducible refine Ext.drewN ?_ _ | ((with_reducible refine Ext.set ?_ ?_ _); (focus (first | (simp; done) | (simp; omega)))) | with_reducible refine Ext.trans ?_ (by assumption)))) hn'.out (by omega)).mono ?_
    rintro en w3 ⟨ao3, cap3, rfl, ho, hb3⟩
    have hs1 := hb1.size
    have hE3 : Ext w w3 := (by repeat (first | with_reducible exact Ext.refl _ | with_reducible assumption | with_reducible refine Ext.alloc ?_ _ | with_reducible refine Ext.drew ?_ | with_reducible refine Ext.drewN ?_ _ | ((with_reducible refine Ext.set ?_ ?_ _); (focus (first | (simp; done) | (simp; omega)))) | with_reducible refine Ext.trans ?_ (by assumption)))
    go_wp2
    refine bodyPost_ret (v := .slice ao3 rs.length cap3) (by simp [results, Try.results107, go_sem]) rfl ⟨ao3, cap3, rfl, ownsBase ho (by simp at hs1 ⊢; omega), hE3⟩
end
end Go.Proofs.Ytjhgcbchdnoleaa

/-
  Part of the proof: RgW, RgGap.
-/
import Derived.Test.YtjhgcbchdnoleaaPRgAdd
namespace Go.Proofs.Ytjhgcbchdnoleaa
section
open Go.ChangeShapes Go.WideShapes Go.ChangeAt Go.RowKit
set_option linter.unusedSimpArgs false
set_option linter.unusedVariables false
/-- A new slice that holds rs: a row of the call's own. -/
def NewRW (rs : List Rg) (w : World) (e : Ending) (w' : World) : Prop :=
  ∃ (ao : Option Addr) (cap : Nat), e = .returned (.slice ao rs.length cap) ∧ w'.ownsRow w.heap.size 61 2 (.slice ao rs.length cap) rs.length (rgCells rs) ∧ Ext w w'
theorem ownsBase {w : World} {base lo : Nat} {e : TypeId} {size : Nat} {v : Value} {n : Nat} {xs : List Value} (h : w.ownsRow base e size v n xs) (hl : lo ≤ base) : w.ownsRow lo e size v n xs := by
  refine ⟨h.1, ?_⟩
  rcases h.2 with k | ⟨g, cap, cur, h1, h2, h3, h4⟩
  · exact Or.inl k
  · exact Or.inr ⟨g, cap, cur, h1, Nat.le_trans hl h2, h3, h4⟩
theorem ownsBlk {w w' : World} {S : Nat → Prop} {base : Nat} {e : TypeId} {size : Nat} {v : Value} {n : Nat} {xs : List Value} (h : w.ownsRow base e size v n xs) (hx : Chg S w w') (hS : ∀ k, v.ownBlock = some k → ¬ S k) : w'.ownsRow base e size v n xs := by
  refine ⟨h.1, ?_⟩
  rcases h.2 with k | ⟨g, cap, cur, rfl, h2, h3, h4⟩
  · exact Or.inl k
  · exact Or.inr ⟨g, cap, cur, rfl, h2, by rw [hx.block g (lt_of_block h3) (hS g rfl)]; exact h3, h4⟩
theorem own_ranges' {w : World} {base : Nat} {ao : Option Addr} {cap n : Nat} {rs : List Rg} (h : w.ownsRow base 61 2 (.slice ao n cap) n (rgCells rs)) : OwnR base w.heap.size w ao rs := by
  obtain ⟨ao2, cap2, e1, e2, ho⟩ := own_ranges h
  obtain rfl : ao = ao2 := by injection e1
  exact ho
theorem NewRW.own {rs : List Rg} {w : World} {e : Ending} {w' : World} (h : NewRW rs w e w') : NewR rs w e w' := by
  obtain ⟨ao, cap, h1, h2, h3⟩ := h
  exact ⟨ao, cap, h1, own_ranges' h2, h3⟩
set_option maxHeartbeats 1000000 in
theorem copyW_spec (ao : Option Addr) (n ca : Nat) (rs : List Rg) (w : World) (hx : ReadR w ao rs) (hn : rs.length = n) (hl : n ≤ 4194304) :
    Calls Try.prog 110 #[.slice ao n ca] w (NewRW rs w) := by
  have hn' := hide hn
  have hx' := hide hx
  clear hn hx
  have hlen := hide (rgCells_length rs)
  obtain ⟨i0, hi0, hz0, hz1, hz2⟩ := info_parts infoRange
  go_enter Try.func110, Try.ntmps110
  go_wp2_with (at_builtin; refine wpList_append_any (by rfl) _ _ 30 (by rfl) w.heap.size 61 i0 (.agg #[.int .i64 0, .int .i64 0]) 2 16 Try.underlying30 hi0 hz0 hz1 hz2 rfl (by omega) (.slice (some ⟨w.heap.size, 0, none⟩) 0 0) 0 [] (by rfl) (own_made (by simp) (by omega)) ao n ca (rgCells rs) (by rfl) (by rw [hlen.out, hn'.out]) (hx'.out.v.ext (by repeat (first | with_reducible exact Ext.refl _ | with_reducible assumption | with_reducible refine Ext.alloc ?_ _ | with_reducible refine Ext.drew ?_ | with_reducible refine Ext.drewN ?_ _ | ((with_reducible refine Ext.set ?_ ?_ _); (focus (first | (simp; done) | (simp; omega)))) | with_reducible refine Ext.trans ?_ (by assumption)))) (rgCells_one rs) (by simp [maxLen]; omega) (by omega) (by simp) ?_)
  intro v' w1 hown hgrow
  obtain ⟨ao', cap', rfl, hxl, ho⟩ := own_ranges hown
  have hown' := hide hown
  have hg : Chg (fun k => k = w.heap.size) _ w1 := grown_chg hgrow (fun k hk => (Option.some.inj hk).symm)
  have hE : Ext w w1 := (Chg.trans (Ext.chg (S := fun k => k = w.heap.size) (by repeat (first | with_reducible exact Ext.refl _ | with_reducible assumption | with_reducible refine Ext.alloc ?_ _ | with_reducible refine Ext.drew ?_ | with_reducible refine Ext.drewN ?_ _ | ((with_reducible refine Ext.set ?_ ?_ _); (focus (first | (simp; done) | (simp; omega)))) | with_reducible refine Ext.trans ?_ (by assumption)))) hg).ext (fun k hk h => by omega)
  have hxl' := hide hxl
  clear hxl hown hg
  go_wp2
  refine bodyPost_ret (v := .slice ao' rs.length cap') (by simp [results, Try.results110, go_sem]) rfl ⟨ao', cap', rfl, by rw [← hxl'.out] at hown'; exact hown'.out, hE⟩
set_option maxHeartbeats 1000000 in
theorem copyW_impl (ao : Option Addr) (n ca : Nat) (rs : List Rg) (w : World) (hx : ReadR w ao rs) (hn : rs.length = n) (hl : n ≤ 4194304) :
    Calls Try.prog 114 #[.slice ao n ca] w (NewRW rs w) := by
  have hn' := hide hn
  have hx' := hide hx
  clear hn hx
  have hlen := hide (rgCells_length rs)
  obtain ⟨i0, hi0, hz0, hz1, hz2⟩ := info_parts infoRange
  go_enter Try.func114, Try.ntmps114
  go_wp2_with (at_builtin; refine wpList_append_any (by rfl) _ _ 30 (by rfl) w.heap.size 61 i0 (.agg #[.int .i64 0, .int .i64 0]) 2 16 Try.underlying30 hi0 hz0 hz1 hz2 rfl (by omega) (.slice (some ⟨w.heap.size, 0, none⟩) 0 0) 0 [] (by rfl) (own_made (by simp) (by omega)) ao n ca (rgCells rs) (by rfl) (by rw [hlen.out, hn'.out]) (hx'.out.v.ext (by repeat (first | with_reducible exact Ext.refl _ | with_reducible assumption | with_reducible refine Ext.alloc ?_ _ | with_reducible refine Ext.drew ?_ | with_reducible refine Ext.drewN ?_ _ | ((with_reducible refine Ext.set ?_ ?_ _); (focus (first | (simp; done) | (simp; omega)))) | with_reducible refine Ext.trans ?_ (by assumption)))) (rgCells_one rs) (by simp [maxLen]; omega) (by omega) (by simp) ?_)
  intro v' w1 hown hgrow
  obtain ⟨ao', cap', rfl, hxl, ho⟩ := own_ranges hown
  have hown' := hide hown
  have hg : Chg (fun k => k = w.heap.size) _ w1 := grown_chg hgrow (fun k hk => (Option.some.inj hk).symm)
  have hE : Ext w w1 := (Chg.trans (Ext.chg (S := fun k => k = w.heap.size) (by repeat (first | with_reducible exact Ext.refl _ | with_reducible assumption | with_reducible refine Ext.alloc ?_ _ | with_reducible refine Ext.drew ?_ | with_reducible refine Ext.drewN ?_ _ | ((with_reducible refine Ext.set ?_ ?_ _); (focus (first | (simp; done) | (simp; omega)))) | with_reducible refine Ext.trans ?_ (by assumption)))) hg).ext (fun k hk h => by omega)
  have hxl' := hide hxl
  clear hxl hown hg
  go_wp2
  refine bodyPost_ret (v := .slice ao' rs.length cap') (by simp [results, Try.results114, go_sem]) rfl ⟨ao', cap', rfl, by rw [← hxl'.out] at hown'; exact hown'.out, hE⟩
set_option maxHeartbeats 8000000 in
set_option maxRecDepth 100000 in
theorem AddRange_impl (a b : Int) (ao : Option Addr) (n ca : Nat) (rs : List Rg) (w : World) (hx : ReadR w ao rs) (hn : rs.length = n) (hl : n ≤ 1048576) :
    Calls Try.prog 67 #[.slice ao n ca, .agg #[.int .i64 a, .int .i64 b]] w (NewRW (addR rs (a, b)) w) := by
  have hn' := hide hn
  have hx' := hide hx
  clear hn hx
  obtain ⟨i0, hi0, hz0, hz1, hz2⟩ := info_parts infoRange
  rcases Bool.eq_false_or_eq_true (isRgs rs) with hi | hi
  · rcases Bool.eq_false_or_eq_true (rgFine (a, b)) with hf | hf
    · go_enter Try.func67, Try.ntmps67
      go_wp2_with fail
      refine (IsRanges_impl ao n ca rs _ (hx'.out.ext (by repeat (first | with_reducible exact Ext.refl _ | with_reducible assumption | with_reducible refine Ext.alloc ?_ _ | with_reducible refine Ext.drew ?_ | with_reducible refine Ext.drewN ?_ _ | ((with_reducible refine Ext.set ?_ ?_ _); (focus (first | (simp; done) | (simp; omega)))) | with_reducible refine Ext.trans ?_ (by assumption)))) hn'.out (by omega)).mono ?_
      rintro en w1 ⟨rfl, hb1⟩
      rw [hi]
      have hB1 := BoxV.ext (BoxV.new w [.int .i64 a, .int .i64 b] 61) hb1
      obtain ⟨q1, q2, qF⟩ : w1.cell? ⟨w.heap.size, 0, none⟩ = some (.int .i64 a) ∧ w1.cell? ⟨w.heap.size, 1, none⟩ = some (.int .i64 b) ∧ ∀ o, w1.frozen? ⟨w.heap.size, o, none⟩ = false := ⟨hB1.c 0 _ rfl, hB1.c 1 _ rfl, hB1.fr⟩
      have k1 := hb1.more (k := w.heap.size) (by first | assumption | (simp; done) | (simp; omega) | omega)
      go_wp2_with fail
      refine (fine_impl a b _).mono ?_
      rintro en w2 ⟨rfl, hb2⟩
      rw [hf]
      have hB2 := hB1.ext hb2
      have k2 := hb2.more (k := w.heap.size) (by first | assumption | (simp; done) | (simp; omega) | omega)
      clear q1 q2 qF
      have q1 := hB2.c 0 _ rfl
      have q2 := hB2.c 1 _ rfl
      have qF := hB2.fr
      have hx2 : Ext w w2 := (by repeat (first | with_reducible exact Ext.refl _ | with_reducible assumption | with_reducible refine Ext.alloc ?_ _ | with_reducible refine Ext.drew ?_ | with_reducible refine Ext.drewN ?_ _ | ((with_reducible refine Ext.set ?_ ?_ _); (focus (first | (simp; done) | (simp; omega)))) | with_reducible refine Ext.trans ?_ (by assumption)))
      clear hb1 hb2
      replace hB2 := hide hB2
      clear hB1
      go_wp2_with fail
      go_loopw [5, 6, 22] (fun s p i wr => ∃ (k m : Nat) (r1 r2 : Int) (q : Bool) (L : List Rg) (ao1 : Option Addr) (ca1 : Nat), i = .int .i64 k ∧ k ≤ n ∧ Hid (addK rs (a, b) k = ((r1, r2), q, L)) ∧ p = .bool q ∧ s = .slice ao1 m ca1 ∧ m ≤ 2 * k ∧ Hid (L.length = m ∧ wr.ownsRow (w.heap.size + 1) 61 2 (.slice ao1 m ca1) m (rgCells L)) ∧ BoxV w.heap.size wr [.int .i64 r1, .int .i64 r2] ∧ w.heap.size + 1 ≤ wr.heap.size ∧ Chg (fun b => w.heap.size ≤ b) w wr) (fun _ _ i _ => n - (intOf i).toNat)
      case atStart =>
        have hEm : Ext w2 (w2.alloc (.cells #[] 61)) := (Ext.refl w2).alloc _
        exact ⟨0, 0, a, b, false, [], _, _, rfl, by omega, hide rfl, rfl, rfl, by omega, hide ⟨rfl, World.ownsRow_made w2 #[] 0 (by omega) (by decide) rfl⟩, hB2.out.ext hEm, by simp; omega, (hx2.trans hEm).chg _⟩
      case round =>
        obtain ⟨k, m, r1, r2, q, L, ao1, ca1, rfl, hk, hK, rfl, rfl, hm, hLo, hB0, hsz, hg⟩ := hrel
        have hL := hide hLo.out.1
        have hown := hide hLo.out.2
        have hB := hide hB0
        clear hLo q1 q2 qF hB0
        obtain ⟨b1, b2⟩ : wr.cell? ⟨w.heap.size, 0, none⟩ = some (.int .i64 r1) ∧ wr.cell? ⟨w.heap.size, 1, none⟩ = some (.int .i64 r2) := ⟨hB.out.c 0 _ rfl, hB.out.c 1 _ rfl⟩
        have bF := hB.out.fr
        by_cases hlt : k < n
        · have hkx : k < rs.length := by rw [hn'.out]; exact hlt
          rcases hx'.out with hnil | ⟨bx, off, rfl, hx⟩
          · rw [hnil] at hkx; simp at hkx
          obtain ⟨cx, cx2⟩ := hx k hkx
          have la : bx < w.heap.size := World.block_lt_of_cell? w _ cx
          have hr := (hg.row la (by omega)).1
          have dx := (hr _).trans cx
          have dx2 := (hr _).trans cx2
          have i1 : (0 : Int) ≤ (k : Int) := by omega
          have i2 : (k : Int) < (n : Int) := by omega
          obtain ⟨⟨x1, x2⟩, hx0⟩ : ∃ x : Rg, Hid (rs.getD k dr = x) := ⟨_, hide rfl⟩
          rw [hx0.out] at dx dx2
          dsimp only at dx dx2
          clear hx cx cx2 hr
          have lw : bx < wr.heap.size := by omega
          have hne : bx ≠ w.heap.size := by omega
          have hne2 : w.heap.size ≠ bx := by omega
          have hne3 : w.heap.size ≠ wr.heap.size := by omega
          have hne4 : wr.heap.size ≠ w.heap.size := by omega
          have ksz : w.heap.size < wr.heap.size := by omega
          by_cases c1 : x2 < r1
          · have hst : Hid (addK rs (a, b) (k + 1) = ((r1, r2), q, L ++ [(x1, x2)])) := hide (by rw [addK_succ hkx, hK.out, hx0.out]; exact addStep_a c1)
            clear hK hx0
            have hE : Ext wr (wr.alloc (.cells #[.int .i64 x1, .int .i64 x2] 61)) := (Ext.refl wr).alloc _
            have hsx : (wr.alloc (.cells #[.int .i64 x1, .int .i64 x2] 61)).heap.size = wr.heap.size + 1 := by simp
            have hBx := hide (BoxV.new wr [.int .i64 x1, .int .i64 x2] 61)
            have hBr := hide (hB.out.ext hE)
            have hownx := hide (ownR_ext hown.out hE)
            have hgx := hg.trans (hE.chg _)
            go_wp2_with (at_builtin; (generalize hWx : wr.alloc (.cells #[.int .i64 x1, .int .i64 x2] 61) = wx at *); clear hWx; rw [← hsx]; refine wpList_append_lies _ rfl _ _ _ (by rfl) (w.heap.size + 1) 61 i0 _ 2 16 Try.underlying30 hi0 hz0 hz1 hz2 rfl (by omega) (.slice ao1 m ca1) m _ (by rfl) ((hownx.out).alloc _) ⟨wx.heap.size, 0, none⟩ 1 1 [.int .i64 x1, .int .i64 x2] (by rfl) (by rfl) (World.news_of_block (cs := #[.int .i64 x1, .int .i64 x2]) (t := 61) (fr := (0, 0)) (heap_alloc_new wx _)) (by simp [Value.oneCell']) (by omega) (by simp [maxLen] <;> omega) (by omega) (by simp; omega) (wx.heap.size + 1) (by simp) ?_)
            intro gg1 cap1 w2 hown1 hgrow1 hat1 hlt1
            have hgc1 : Chg (fun b => ((.slice ao1 m ca1) : Value).ownBlock = some b) wx w2 := (((Ext.refl wx).alloc _).chg _).trans (grown_chg hgrow1 (fun k hk => hk))
            have hlb1 : ∀ b, ((.slice ao1 m ca1) : Value).ownBlock = some b → w.heap.size + 1 ≤ b ∧ b < wx.heap.size := fun b hb => (hownx.out).lt _ hb
            rw [rgCells_app L (x1, x2)] at hown1
            clear hgrow1 hat1 hlt1
            have hB2 := hBr.out.chg hgc1 (fun h => by have := hlb1 _ h; omega)
            have hzw := hgc1.size
            have hg2 := hgx.trans (Chg.mono (T := fun b => w.heap.size ≤ b) hgc1 (fun b _ h => by have := hlb1 b h; (try dsimp only); omega))
            go_wp2
            go_roundw
            case rel => exact ⟨k + 1, m + 1, r1, r2, q, _, _, _, by go_num, by omega, hst, rfl, rfl, by omega, hide ⟨by rw [List.length_append, hL.out]; rfl, hown1⟩, hB2, by omega, hg2⟩
            case measure => simp [intOf]; omega
          · have c1e : decide (x2 < r1) = false := decide_eq_false c1
            by_cases c2 : r2 < x1
            · cases q
              · have hst : Hid (addK rs (a, b) (k + 1) = ((r1, r2), true, L ++ [(r1, r2)] ++ [(x1, x2)])) := hide (by rw [addK_succ hkx, hK.out, hx0.out]; exact addStep_b' c1 c2)
                clear hK hx0
                have hE : Ext wr (wr.alloc (.cells #[.int .i64 x1, .int .i64 x2] 61)) := (Ext.refl wr).alloc _
                have hsx : (wr.alloc (.cells #[.int .i64 x1, .int .i64 x2] 61)).heap.size = wr.heap.size + 1 := by simp
                have hBx := hide (BoxV.new wr [.int .i64 x1, .int .i64 x2] 61)
                have hBr := hide (hB.out.ext hE)
                have hownx := hide (ownR_ext hown.out hE)
                have hgx := hg.trans (hE.chg _)
                go_wp2_with (at_builtin; (generalize hWx : wr.alloc (.cells #[.int .i64 x1, .int .i64 x2] 61) = wx at *); clear hWx; rw [← hsx]; refine wpList_append_lies _ rfl _ _ _ (by rfl) (w.heap.size + 1) 61 i0 _ 2 16 Try.underlying30 hi0 hz0 hz1 hz2 rfl (by omega) (.slice ao1 m ca1) m _ (by rfl) ((hownx.out).alloc _) ⟨wx.heap.size, 0, none⟩ 1 1 [.int .i64 r1, .int .i64 r2] (by rfl) (by rfl) (World.news_of_block (cs := #[.int .i64 r1, .int .i64 r2]) (t := 61) (fr := (0, 0)) (heap_alloc_new wx _)) (by simp [Value.oneCell']) (by omega) (by simp [maxLen] <;> omega) (by omega) (by simp; omega) (wx.heap.size + 1) (by simp) ?_)
                intro gg1 cap1 w2 hown1 hgrow1 hat1 hlt1
                have hgc1 : Chg (fun b => ((.slice ao1 m ca1) : Value).ownBlock = some b) wx w2 := (((Ext.refl wx).alloc _).chg _).trans (grown_chg hgrow1 (fun k hk => hk))
                have hlb1 : ∀ b, ((.slice ao1 m ca1) : Value).ownBlock = some b → w.heap.size + 1 ≤ b ∧ b < wx.heap.size := fun b hb => (hownx.out).lt _ hb
                rw [rgCells_app L (r1, r2)] at hown1
                clear hgrow1 hat1 hlt1
                have hB2 := hide (hBr.out.chg hgc1 (fun h => by have := hlb1 _ h; omega))
                have hBx2 := hide (hBx.out.chg hgc1 (fun h => by have := (hown.out).lt _ h; omega))
                have hzw := hgc1.size
                have hg2 := hgx.trans (Chg.mono (T := fun b => w.heap.size ≤ b) hgc1 (fun b _ h => by have := hlb1 b h; (try dsimp only); omega))
                replace hown1 := hide hown1
                clear b1 b2 bF
                have b1 := hB2.out.c 0 _ rfl
                have b2 := hB2.out.c 1 _ rfl
                have bF := hB2.out.fr
                have y1 := hBx2.out.c 0 _ rfl
                have y2 := hBx2.out.c 1 _ rfl
                have yF := hBx2.out.fr
                go_wp2_with (at_builtin; refine wpList_append_lies _ rfl _ _ _ (by rfl) (w.heap.size + 1) 61 i0 _ 2 16 Try.underlying30 hi0 hz0 hz1 hz2 rfl (by omega) (.slice (some ⟨gg1, 0, none⟩) (m + 1) cap1) (m + 1) _ (by rfl) ((hown1.out).alloc _) ⟨w2.heap.size, 0, none⟩ 1 1 [.int .i64 x1, .int .i64 x2] (by rfl) (by rfl) (World.news_of_block (cs := #[.int .i64 x1, .int .i64 x2]) (t := 61) (fr := (0, 0)) (heap_alloc_new w2 _)) (by simp [Value.oneCell']) (by omega) (by simp [maxLen] <;> omega) (by omega) (by simp; omega) (w2.heap.size + 1) (by simp) ?_)
                intro gg2 cap2 w3 hown2 hgrow2 hat2 hlt2
                have hgc2 : Chg (fun b => ((.slice (some ⟨gg1, 0, none⟩) (m + 1) cap1) : Value).ownBlock = some b) w2 w3 := (((Ext.refl w2).alloc _).chg _).trans (grown_chg hgrow2 (fun k hk => hk))
                have hlb2 : ∀ b, ((.slice (some ⟨gg1, 0, none⟩) (m + 1) cap1) : Value).ownBlock = some b → w.heap.size + 1 ≤ b ∧ b < w2.heap.size := fun b hb => (hown1.out).lt _ hb
                rw [rgCells_app (L ++ [(r1, r2)]) (x1, x2)] at hown2
                clear hgrow2 hat2 hlt2
                have hB3 := hB2.out.chg hgc2 (fun h => by have := hlb2 _ h; omega)
                have hz3 := hgc2.size
                have hg3 := hg2.trans (Chg.mono (T := fun b => w.heap.size ≤ b) hgc2 (fun b _ h => by have := hlb2 b h; (try dsimp only); omega))
                go_wp2
                go_roundw
                case rel => exact ⟨k + 1, m + 1 + 1, r1, r2, true, _, _, _, by go_num, by omega, hst, rfl, rfl, by omega, hide ⟨by rw [List.length_append, List.length_append, hL.out]; rfl, hown2⟩, hB3, by omega, hg3⟩
                case measure => simp [intOf]; omega
              · have hst : Hid (addK rs (a, b) (k + 1) = ((r1, r2), true, L ++ [(x1, x2)])) := hide (by rw [addK_succ hkx, hK.out, hx0.out]; exact addStep_b c1 c2)
                clear hK hx0
                have hE : Ext wr (wr.alloc (.cells #[.int .i64 x1, .int .i64 x2] 61)) := (Ext.refl wr).alloc _
                have hsx : (wr.alloc (.cells #[.int .i64 x1, .int .i64 x2] 61)).heap.size = wr.heap.size + 1 := by simp
                have hBx := hide (BoxV.new wr [.int .i64 x1, .int .i64 x2] 61)
                have hBr := hide (hB.out.ext hE)
                have hownx := hide (ownR_ext hown.out hE)
                have hgx := hg.trans (hE.chg _)
                go_wp2_with (at_builtin; (generalize hWx : wr.alloc (.cells #[.int .i64 x1, .int .i64 x2] 61) = wx at *); clear hWx; rw [← hsx]; refine wpList_append_lies _ rfl _ _ _ (by rfl) (w.heap.size + 1) 61 i0 _ 2 16 Try.underlying30 hi0 hz0 hz1 hz2 rfl (by omega) (.slice ao1 m ca1) m _ (by rfl) ((hownx.out).alloc _) ⟨wx.heap.size, 0, none⟩ 1 1 [.int .i64 x1, .int .i64 x2] (by rfl) (by rfl) (World.news_of_block (cs := #[.int .i64 x1, .int .i64 x2]) (t := 61) (fr := (0, 0)) (heap_alloc_new wx _)) (by simp [Value.oneCell']) (by omega) (by simp [maxLen] <;> omega) (by omega) (by simp; omega) (wx.heap.size + 1) (by simp) ?_)
                intro gg1 cap1 w2 hown1 hgrow1 hat1 hlt1
                have hgc1 : Chg (fun b => ((.slice ao1 m ca1) : Value).ownBlock = some b) wx w2 := (((Ext.refl wx).alloc _).chg _).trans (grown_chg hgrow1 (fun k hk => hk))
                have hlb1 : ∀ b, ((.slice ao1 m ca1) : Value).ownBlock = some b → w.heap.size + 1 ≤ b ∧ b < wx.heap.size := fun b hb => (hownx.out).lt _ hb
                rw [rgCells_app L (x1, x2)] at hown1
                clear hgrow1 hat1 hlt1
                have hB2 := hBr.out.chg hgc1 (fun h => by have := hlb1 _ h; omega)
                have hzw := hgc1.size
                have hg2 := hgx.trans (Chg.mono (T := fun b => w.heap.size ≤ b) hgc1 (fun b _ h => by have := hlb1 b h; (try dsimp only); omega))
                go_wp2
                go_roundw
                case rel => exact ⟨k + 1, m + 1, r1, r2, true, _, _, _, by go_num, by omega, hst, rfl, rfl, by omega, hide ⟨by rw [List.length_append, hL.out]; rfl, hown1⟩, hB2, by omega, hg2⟩
                case measure => simp [intOf]; omega
            · have c2e : decide (r2 < x1) = false := decide_eq_false c2
              by_cases d1 : r1 ≤ x1
              · by_cases d2 : x2 ≤ r2
                · have hst : Hid (addK rs (a, b) (k + 1) = ((r1, r2), q, L)) := hide (by rw [addK_succ hkx, hK.out, hx0.out, addStep_c c1 c2]; dsimp only; rw [show min r1 x1 = r1 from by omega, show max r2 x2 = r2 from by omega])
                  clear hK hx0
                  have hset := BoxV.set hB.out [.int .i64 r1, .int .i64 r2] rfl
                  simp only [setFrom, Nat.zero_add, Nat.reduceAdd] at hset
                  have hzw := hset.2.size
                  have hown2 := hide (ownR_chg hown.out hset.2 (fun k hk => by (try dsimp only); omega))
                  have hg2 := hg.trans (hset.2.mono (T := fun b => w.heap.size ≤ b) (fun b _ h => by (try dsimp only at h ⊢); omega))
                  go_wp2
                  go_roundw
                  case rel => exact ⟨k + 1, m, r1, r2, q, _, _, _, by go_num, by omega, hst, rfl, rfl, by omega, hide ⟨hL.out, ownR_ext hown2.out ((Ext.refl _).alloc _)⟩, hset.1.ext ((Ext.refl _).alloc _), by simp; omega, hg2.alloc _⟩
                  case measure => simp [intOf]; omega
                · have hst : Hid (addK rs (a, b) (k + 1) = ((r1, x2), q, L)) := hide (by rw [addK_succ hkx, hK.out, hx0.out, addStep_c c1 c2]; dsimp only; rw [show min r1 x1 = r1 from by omega, show max r2 x2 = x2 from by omega])
                  clear hK hx0
                  have hset := BoxV.set hB.out [.int .i64 r1, .int .i64 x2] rfl
                  simp only [setFrom, Nat.zero_add, Nat.reduceAdd] at hset
                  have hzw := hset.2.size
                  have hown2 := hide (ownR_chg hown.out hset.2 (fun k hk => by (try dsimp only); omega))
                  have hg2 := hg.trans (hset.2.mono (T := fun b => w.heap.size ≤ b) (fun b _ h => by (try dsimp only at h ⊢); omega))
                  go_wp2
                  go_roundw
                  case rel => exact ⟨k + 1, m, r1, x2, q, _, _, _, by go_num, by omega, hst, rfl, rfl, by omega, hide ⟨hL.out, ownR_ext hown2.out ((Ext.refl _).alloc _)⟩, hset.1.ext ((Ext.refl _).alloc _), by simp; omega, hg2.alloc _⟩
                  case measure => simp [intOf]; omega
              · by_cases d2 : x2 ≤ r2
                · have hst : Hid (addK rs (a, b) (k + 1) = ((x1, r2), q, L)) := hide (by rw [addK_succ hkx, hK.out, hx0.out, addStep_c c1 c2]; dsimp only; rw [show min r1 x1 = x1 from by omega, show max r2 x2 = r2 from by omega])
                  clear hK hx0
                  have hset := BoxV.set hB.out [.int .i64 x1, .int .i64 r2] rfl
                  simp only [setFrom, Nat.zero_add, Nat.reduceAdd] at hset
                  have hzw := hset.2.size
                  have hown2 := hide (ownR_chg hown.out hset.2 (fun k hk => by (try dsimp only); omega))
                  have hg2 := hg.trans (hset.2.mono (T := fun b => w.heap.size ≤ b) (fun b _ h => by (try dsimp only at h ⊢); omega))
                  go_wp2
                  go_roundw
                  case rel => exact ⟨k + 1, m, x1, r2, q, _, _, _, by go_num, by omega, hst, rfl, rfl, by omega, hide ⟨hL.out, ownR_ext hown2.out ((Ext.refl _).alloc _)⟩, hset.1.ext ((Ext.refl _).alloc _), by simp; omega, hg2.alloc _⟩
                  case measure => simp [intOf]; omega
                · have hst : Hid (addK rs (a, b) (k + 1) = ((x1, x2), q, L)) := hide (by rw [addK_succ hkx, hK.out, hx0.out, addStep_c c1 c2]; dsimp only; rw [show min r1 x1 = x1 from by omega, show max r2 x2 = x2 from by omega])
                  clear hK hx0
                  have hset := BoxV.set hB.out [.int .i64 x1, .int .i64 x2] rfl
                  simp only [setFrom, Nat.zero_add, Nat.reduceAdd] at hset
                  have hzw := hset.2.size
                  have hown2 := hide (ownR_chg hown.out hset.2 (fun k hk => by (try dsimp only); omega))
                  have hg2 := hg.trans (hset.2.mono (T := fun b => w.heap.size ≤ b) (fun b _ h => by (try dsimp only at h ⊢); omega))
                  go_wp2
                  go_roundw
                  case rel => exact ⟨k + 1, m, x1, x2, q, _, _, _, by go_num, by omega, hst, rfl, rfl, by omega, hide ⟨hL.out, ownR_ext hown2.out ((Ext.refl _).alloc _)⟩, hset.1.ext ((Ext.refl _).alloc _), by simp; omega, hg2.alloc _⟩
                  case measure => simp [intOf]; omega
        · obtain rfl : k = n := by omega
          have hK2 : Hid (addR rs (a, b) = addEnd ((r1, r2), q, L)) := hide (by rw [addR_yes hi hf, ← addK_all hi hf, hn'.out, hK.out])
          clear hK
          cases q
          · have hK3 : Hid (addR rs (a, b) = L ++ [(r1, r2)]) := hide (hK2.out)
            clear hK2
            go_wp2_with (at_builtin; refine wpList_append_lies _ rfl _ _ _ (by rfl) (w.heap.size + 1) 61 i0 _ 2 16 Try.underlying30 hi0 hz0 hz1 hz2 rfl (by omega) (.slice ao1 m ca1) m _ (by rfl) ((hown.out).alloc _) ⟨wr.heap.size, 0, none⟩ 1 1 [.int .i64 r1, .int .i64 r2] (by rfl) (by rfl) (World.news_of_block (cs := #[.int .i64 r1, .int .i64 r2]) (t := 61) (fr := (0, 0)) (heap_alloc_new wr _)) (by simp [Value.oneCell']) (by omega) (by simp [maxLen] <;> omega) (by omega) (by simp; omega) (wr.heap.size + 1) (by simp) ?_)
            intro gg1 cap1 w3 hown1 hgrow1 hat1 hlt1
            have hgc1 : Chg (fun b => ((.slice ao1 m ca1) : Value).ownBlock = some b) wr w3 := (((Ext.refl wr).alloc _).chg _).trans (grown_chg hgrow1 (fun k hk => hk))
            have hlb1 : ∀ b, ((.slice ao1 m ca1) : Value).ownBlock = some b → w.heap.size + 1 ≤ b ∧ b < wr.heap.size := fun b hb => (hown.out).lt _ hb
            rw [rgCells_app L (r1, r2)] at hown1
            clear hgrow1 hat1 hlt1
            have hL2 : (L ++ [(r1, r2)]).length = m + 1 := by rw [List.length_append, hL.out]; rfl
            replace hL2 := hide hL2
            have hg3 := hg.trans (Chg.mono (T := fun b => w.heap.size ≤ b) hgc1 (fun b _ h => by have := hlb1 b h; (try dsimp only); omega))
            go_wp2
            refine bodyPost_ret (v := .slice (some ⟨gg1, 0, none⟩) (m + 1) cap1) (by simp [results, Try.results67, go_sem]) rfl ?_
            rw [hK3.out]
            exact ⟨_, cap1, by rw [hL2.out], by rw [hL2.out]; exact ownsBase hown1 (by omega), hg3.ext (fun k hk h => by omega)⟩
          · have hK3 : Hid (addR rs (a, b) = L) := hide (hK2.out)
            clear hK2
            go_wp2
            refine bodyPost_ret (v := .slice ao1 m ca1) (by simp [results, Try.results67, go_sem]) rfl ?_
            rw [hK3.out]
            exact ⟨ao1, ca1, by rw [hL.out], by rw [hL.out]; exact ownsBase hown.out (by omega), hg.ext (fun k hk h => by omega)⟩
    · have hA : addR rs (a, b) = rs := if_neg (by simp [hf])
      rw [hA]
      clear hA
      go_enter Try.func67, Try.ntmps67
      go_wp2_with fail
      refine (IsRanges_impl ao n ca rs _ (hx'.out.ext (by repeat (first | with_reducible exact Ext.refl _ | with_reducible assumption | with_reducible refine Ext.alloc ?_ _ | with_reducible refine Ext.drew ?_ | with_reducible refine Ext.drewN ?_ _ | ((with_reducible refine Ext.set ?_ ?_ _); (focus (first | (simp; done) | (simp; omega)))) | with_reducible refine Ext.trans ?_ (by assumption)))) hn'.out (by omega)).mono ?_
      rintro en w1 ⟨rfl, hb1⟩
      rw [hi]
      have hB1 := BoxV.ext (BoxV.new w [.int .i64 a, .int .i64 b] 61) hb1
      have q1 := hB1.c 0 _ rfl
      have q2 := hB1.c 1 _ rfl
      have qF := hB1.fr
      have k1 := hb1.more (k := w.heap.size) (by first | assumption | (simp; done) | (simp; omega) | omega)
      go_wp2_with fail
      refine (fine_impl a b _).mono ?_
      rintro en w2 ⟨rfl, hb2⟩
      rw [hf]
      go_wp2_with fail
      refine (copyW_impl ao n ca rs _ (hx'.out.ext (by repeat (first | with_reducible exact Ext.refl _ | with_reducible assumption | with_reducible refine Ext.alloc ?_ _ | with_reducible refine Ext.drew ?_ | with_reducible refine Ext.drewN ?_ _ | ((with_reducible refine Ext.set ?_ ?_ _); (focus (first | (simp; done) | (simp; omega)))) | with_reducible refine Ext.trans ?_ (by assumption)))) hn'.out (by omega)).mono ?_
      rintro en w3 ⟨ao3, cap3, rfl, ho, hb3⟩
      have hs1 := hb1.size
      have hs2 := hb2.size
      have hE3 : Ext w w3 := (by repeat (first | with_reducible exact Ext.refl _ | with_reducible assumption | with_reducible refine Ext.alloc ?_ _ | with_reducible refine Ext.drew ?_ | with_reducible refine Ext.drewN ?_ _ | ((with_reducible refine Ext.set ?_ ?_ _); (focus (first | (simp; done) | (simp; omega)))) | with_reducible refine Ext.trans ?_ (by assumption)))
      go_wp2
      refine bodyPost_ret (v := .slice ao3 rs.length cap3) (by simp [results, Try.results67, go_sem]) rfl ⟨ao3, cap3, rfl, ownsBase ho (by simp at hs1 ⊢; omega), hE3⟩
  · have hA : addR rs (a, b) = rs := if_neg (by simp [hi])
    rw [hA]
    clear hA
    go_enter Try.func67, Try.ntmps67
    go_wp2_with fail
    refine (IsRanges_impl ao n ca rs _ (hx'.out.ext (by repeat (first | with_reducible exact Ext.refl _ | with_reducible assumption | with_reducible refine Ext.alloc ?_ _ | with_reducible refine Ext.drew ?_ | with_reducible refine Ext.drewN ?_ _ | ((with_reducible refine Ext.set ?_ ?_ _); (focus (first | (simp; done) | (simp; omega)))) | with_reducible refine Ext.trans ?_ (by assumption)))) hn'.out (by omega)).mono ?_
    rintro en w1 ⟨rfl, hb1⟩
    rw [hi]
    have hB1 := BoxV.ext (BoxV.new w [.int .i64 a, .int .i64 b] 61) hb1
    have q1 := hB1.c 0 _ rfl
    have q2 := hB1.c 1 _ rfl
    have qF := hB1.fr
    have k1 := hb1.more (k := w.heap.size) (by first | assumption | (simp; done) | (simp; omega) | omega)
    go_wp2_with fail
    refine (copyW_impl ao n ca rs _ (hx'.out.ext (by repeat (first | with_reducible exact Ext.refl _ | with_reducible assumption | with_reducible refine Ext.alloc ?_ _ | with_reducible refine Ext.drew ?_ | with_reducible refine Ext.drewN ?_ _ | ((with_reducible refine Ext.set ?_ ?_ _); (focus (first | (simp; done) | (simp; omega)))) | with_reducible refine Ext.trans ?_ (by assumption)))) hn'.out (by omega)).mono ?_
    rintro en w3 ⟨ao3, cap3, rfl, ho, hb3⟩
    have hs1 := hb1.size
    have hE3 : Ext w w3 := (by repeat (first | with_reducible exact Ext.refl _ | with_reducible assumption | with_reducible refine Ext.alloc ?_ _ | with_reducible refine Ext.drew ?_ | with_reducible refine Ext.drewN ?_ _ | ((with_reducible refine Ext.set ?_ ?_ _); (focus (first | (simp; done) | (simp; omega)))) | with_reducible refine Ext.trans ?_ (by assumption)))
    go_wp2
    refine bodyPost_ret (v := .slice ao3 rs.length cap3) (by simp [results, Try.results67, go_sem]) rfl ⟨ao3, cap3, rfl, ownsBase ho (by simp at hs1 ⊢; omega), hE3⟩
end
section
open Go.ChangeShapes Go.WideShapes Go.ChangeAt Go.RowKit
set_option linter.unusedSimpArgs false
set_option linter.unusedVariables false
theorem sum_take_succ : ∀ (xs : List Rg) {k : Nat}, k < xs.length → rgSum (xs.take (k + 1)) = rgSum (xs.take k) + ((xs.getD k dr).2 - (xs.getD k dr).1)
  | [], _, h => absurd h (by simp)
  | x :: xs, 0, _ => by simp [rgSum, List.getD]
  | x :: xs, k + 1, h => by
    have := sum_take_succ xs (k := k) (by simpa using h)
    simp only [List.take_succ_cons, rgSum] at this ⊢
    have e : (x :: xs).getD (k + 1) dr = xs.getD k dr := rfl
    rw [e]
    omega
theorem sum_take_bd : ∀ {xs : List Rg} {lo : Int}, CanR lo xs → ∀ k, 0 ≤ rgSum (xs.take k) ∧ rgSum (xs.take k) ≤ rgSum xs
  | [], _, _, k => by simp [rgSum]
  | x :: xs, lo, h, 0 => by
    have := rgSum_nonneg h
    simpa [rgSum] using this
  | x :: xs, lo, h, k + 1 => by
    have := sum_take_bd h.2.2 k
    have := h.2.1
    simp only [List.take_succ_cons, rgSum]
    omega
theorem sum_bd {xs : List Rg} (h : isRgs xs = true) (k : Nat) : 0 ≤ rgSum (xs.take k) ∧ rgSum (xs.take k) ≤ 4611686018427387903 := by
  obtain ⟨c, t⟩ := rgsFrom_can h
  have h1 := sum_take_bd c k
  have h2 := rgSum_top c t (by omega)
  omega
theorem rgs_at' {xs : List Rg} (h : isRgs xs = true) {k : Nat} (hk : k < xs.length) : 0 ≤ (xs.getD k dr).1 ∧ (xs.getD k dr).1 < (xs.getD k dr).2 ∧ (xs.getD k dr).2 ≤ 4611686018427387903 := by
  refine rgFine_bd (rgs_fine h _ ?_)
  rw [List.getD, List.getElem?_eq_getElem hk]
  exact List.getElem_mem hk
theorem gap_take_succ {xs : List Rg} {g : Int} {k : Nat} (hk : k < xs.length) : (xs.take (k + 1)).foldl gapStep g = gapStep ((xs.take k).foldl gapStep g) (xs.getD k dr) := by
  rw [takeR_succ xs hk, List.foldl_append]; rfl
set_option maxHeartbeats 4000000 in
set_option maxRecDepth 100000 in
theorem CountNumbers_impl (ao : Option Addr) (n ca : Nat) (rs : List Rg) (w : World) (hx : ReadR w ao rs) (hn : rs.length = n) (hl : (n : Int) ≤ 9223372036854775807) :
    Calls Try.prog 128 #[.slice ao n ca] w fun e w' => e = .returned (.int .i64 (cntR rs)) ∧ Ext w w' := by
  have hn' := hide hn
  have hx' := hide hx
  clear hn hx
  rcases Bool.eq_false_or_eq_true (isRgs rs) with hi | hi
  · have hA : cntR rs = rgSum rs := if_pos hi
    rw [hA]
    clear hA
    go_enter Try.func128, Try.ntmps128
    go_wp2_with fail
    refine (IsRanges_impl ao n ca rs _ (hx'.out.ext (by repeat (first | with_reducible exact Ext.refl _ | with_reducible assumption | with_reducible refine Ext.alloc ?_ _ | with_reducible refine Ext.drew ?_ | with_reducible refine Ext.drewN ?_ _ | ((with_reducible refine Ext.set ?_ ?_ _); (focus (first | (simp; done) | (simp; omega)))) | with_reducible refine Ext.trans ?_ (by assumption)))) hn'.out (by omega)).mono ?_
    rintro en w1 ⟨rfl, hb1⟩
    rw [hi]
    go_wp2_with fail
    go_loopw [3, 11] (fun s i wr => ∃ (k : Nat) (c : Int), i = .int .i64 k ∧ k ≤ n ∧ s = .int .i64 c ∧ Hid (rgSum (rs.take k) = c) ∧ Ext w wr) (fun _ i _ => n - (intOf i).toNat)
    case atStart => exact ⟨0, 0, rfl, by omega, rfl, hide (by simp [rgSum]), (by repeat (first | with_reducible exact Ext.refl _ | with_reducible assumption | with_reducible refine Ext.alloc ?_ _ | with_reducible refine Ext.drew ?_ | with_reducible refine Ext.drewN ?_ _ | ((with_reducible refine Ext.set ?_ ?_ _); (focus (first | (simp; done) | (simp; omega)))) | with_reducible refine Ext.trans ?_ (by assumption)))⟩
    case round =>
      obtain ⟨k, c, rfl, hk, rfl, hc, hg⟩ := hrel
      by_cases hlt : k < n
      · skip
        have hkx : k < rs.length := by rw [hn'.out]; exact hlt
        rcases hx'.out with hnil | ⟨bx, off, rfl, hx⟩
        · rw [hnil] at hkx; simp at hkx
        obtain ⟨cx, cx2⟩ := hx k hkx
        have la : bx < w.heap.size := World.block_lt_of_cell? w _ cx
        have hr := (hg.row la).1
        have dx := (hr _).trans cx
        have dx2 := (hr _).trans cx2
        have i1 : (0 : Int) ≤ (k : Int) := by omega
        have i2 : (k : Int) < (n : Int) := by omega
        have lw : bx < wr.heap.size := hg.more la
        have hxb := rgs_at' hi hkx
        obtain ⟨⟨x1, x2⟩, hx0⟩ : ∃ x : Rg, Hid (rs.getD k dr = x) := ⟨_, hide rfl⟩
        rw [hx0.out] at dx dx2 hxb
        dsimp only at dx dx2 hxb
        clear hx cx cx2 hr
        obtain ⟨hx00, h12, hxm⟩ := hxb
        have hcb := sum_bd hi k
        obtain ⟨c2, hc2⟩ : ∃ c2, Hid (rgSum (rs.take (k + 1)) = c2) := ⟨_, hide rfl⟩
        have hstep := sum_take_succ rs hkx
        have hcb2 := sum_bd hi (k + 1)
        rw [hc2.out, hc.out, hx0.out] at hstep
        rw [hc2.out] at hcb2
        rw [hc.out] at hcb
        dsimp only at hstep
        clear hc hx0
        have hwa : IntKind.i64.wrap (x2 - x1) = x2 - x1 := IntWalk.i64_in _ (by omega)
        have hwb : IntKind.i64.wrap (c + (x2 - x1)) = c2 := (IntWalk.i64_in _ (by omega)).trans (by omega)
        clear hstep
        go_wp2
        go_roundw
        case rel => exact ⟨k + 1, c2, by go_num, by omega, by first | rfl | assumption, hc2, hg.trans ((Ext.refl _).alloc _)⟩
        case measure => simp [intOf]; omega
      · obtain rfl : k = n := by omega
        have hall : Hid (rgSum rs = c) := hide (by rw [← hc.out, ← hn'.out, List.take_length])
        clear hc
        go_wp2
        go_ret
        exact ⟨by (rw [hall.out]) <;> rfl, hg⟩
  · have hA : cntR rs = -1 := if_neg (by simp [hi])
    rw [hA]
    clear hA
    go_enter Try.func128, Try.ntmps128
    go_wp2_with fail
    refine (IsRanges_impl ao n ca rs _ (hx'.out.ext (by repeat (first | with_reducible exact Ext.refl _ | with_reducible assumption | with_reducible refine Ext.alloc ?_ _ | with_reducible refine Ext.drew ?_ | with_reducible refine Ext.drewN ?_ _ | ((with_reducible refine Ext.set ?_ ?_ _); (focus (first | (simp; done) | (simp; omega)))) | with_reducible refine Ext.trans ?_ (by assumption)))) hn'.out (by omega)).mono ?_
    rintro en w1 ⟨rfl, hb1⟩
    rw [hi]
    go_wp2
    go_ret
    exact ⟨rfl, (by repeat (first | with_reducible exact Ext.refl _ | with_reducible assumption | with_reducible refine Ext.alloc ?_ _ | with_reducible refine Ext.drew ?_ | with_reducible refine Ext.drewN ?_ _ | ((with_reducible refine Ext.set ?_ ?_ _); (focus (first | (simp; done) | (simp; omega)))) | with_reducible refine Ext.trans ?_ (by assumption)))⟩
set_option maxHeartbeats 4000000 in
set_option maxRecDepth 100000 in
theorem CountNumbers_spec (ao : Option Addr) (n ca : Nat) (rs : List Rg) (w : World) (hx : ReadR w ao rs) (hn : rs.length = n) (hl : (n : Int) ≤ 9223372036854775807) :
    Calls Try.prog 84 #[.slice ao n ca] w fun e w' => e = .returned (.int .i64 (cntR rs)) ∧ Ext w w' := by
  have hn' := hide hn
  have hx' := hide hx
  clear hn hx
  rcases Bool.eq_false_or_eq_true (isRgs rs) with hi | hi
  · have hA : cntR rs = rgSum rs := if_pos hi
    rw [hA]
    clear hA
    go_enter Try.func84, Try.ntmps84
    go_wp2_with fail
    refine (IsRanges_spec ao n ca rs _ (hx'.out.ext (by repeat (first | with_reducible exact Ext.refl _ | with_reducible assumption | with_reducible refine Ext.alloc ?_ _ | with_reducible refine Ext.drew ?_ | with_reducible refine Ext.drewN ?_ _ | ((with_reducible refine Ext.set ?_ ?_ _); (focus (first | (simp; done) | (simp; omega)))) | with_reducible refine Ext.trans ?_ (by assumption)))) hn'.out (by omega)).mono ?_
    rintro en w1 ⟨rfl, hb1⟩
    rw [hi]
    go_wp2_with fail
    go_loopw [3, 4] (fun s i wr => ∃ (k : Nat) (c : Int), i = .int .i64 k ∧ k ≤ n ∧ s = .int .i64 c ∧ Hid (rgSum (rs.take k) = c) ∧ Ext w wr) (fun _ i _ => n - (intOf i).toNat)
    case atStart => exact ⟨0, 0, rfl, by omega, rfl, hide (by simp [rgSum]), (by repeat (first | with_reducible exact Ext.refl _ | with_reducible assumption | with_reducible refine Ext.alloc ?_ _ | with_reducible refine Ext.drew ?_ | with_reducible refine Ext.drewN ?_ _ | ((with_reducible refine Ext.set ?_ ?_ _); (focus (first | (simp; done) | (simp; omega)))) | with_reducible refine Ext.trans ?_ (by assumption)))⟩
    case round =>
      obtain ⟨k, c, rfl, hk, rfl, hc, hg⟩ := hrel
      by_cases hlt : k < n
      · skip
        have hkx : k < rs.length := by rw [hn'.out]; exact hlt
        rcases hx'.out with hnil | ⟨bx, off, rfl, hx⟩
        · rw [hnil] at hkx; simp at hkx
        obtain ⟨cx, cx2⟩ := hx k hkx
        have la : bx < w.heap.size := World.block_lt_of_cell? w _ cx
        have hr := (hg.row la).1
        have dx := (hr _).trans cx
        have dx2 := (hr _).trans cx2
        have i1 : (0 : Int) ≤ (k : Int) := by omega
        have i2 : (k : Int) < (n : Int) := by omega
        have lw : bx < wr.heap.size := hg.more la
        have hxb := rgs_at' hi hkx
        obtain ⟨⟨x1, x2⟩, hx0⟩ : ∃ x : Rg, Hid (rs.getD k dr = x) := ⟨_, hide rfl⟩
        rw [hx0.out] at dx dx2 hxb
        dsimp only at dx dx2 hxb
        clear hx cx cx2 hr
        obtain ⟨hx00, h12, hxm⟩ := hxb
        have hcb := sum_bd hi k
        obtain ⟨c2, hc2⟩ : ∃ c2, Hid (rgSum (rs.take (k + 1)) = c2) := ⟨_, hide rfl⟩
        have hstep := sum_take_succ rs hkx
        have hcb2 := sum_bd hi (k + 1)
        rw [hc2.out, hc.out, hx0.out] at hstep
        rw [hc2.out] at hcb2
        rw [hc.out] at hcb
        dsimp only at hstep
        clear hc hx0
        have hwa : IntKind.i64.wrap (c + x2) = c + x2 := IntWalk.i64_in _ (by omega)
        have hwb : IntKind.i64.wrap (c + x2 - x1) = c2 := (IntWalk.i64_in _ (by omega)).trans (by omega)
        have hwb2 : IntKind.i64.wrap (c + (x2 - x1)) = c2 := (IntWalk.i64_in _ (by omega)).trans (by omega)
        clear hstep
        go_wp2_with fail
        refine wp_region_seq (Ext _) (by kernel_rfl) (by kernel_rfl) ((Ext.refl _).drew) ?_
        iterate 14 (((first | (refine wpSeqS_plain (v := ?_) rfl (by rfl) ?_ ?_; rotate_left; (focus (intro ws hws; obtain ⟨q0, p0⟩ := hws.row (k := bx) (by first | assumption | (simp; done) | (simp; omega) | omega); go_simp; (try with_reducible rfl); done))) | fail)); (try simp only [Act.put, List.getElem_toArray, List.getElem_cons_zero, List.getElem_cons_succ, List.setIfInBounds_toArray, List.set_cons_zero, List.set_cons_succ]))
        refine wpSeqS_done (by kernel_rfl) (fun ws hws => ?_)
        go_wp2
        go_roundw
        case rel => exact ⟨k + 1, c2, by go_num, by omega, by first | rfl | assumption, hc2, hg.trans hws⟩
        case measure => simp [intOf]; omega
      · obtain rfl : k = n := by omega
        have hall : Hid (rgSum rs = c) := hide (by rw [← hc.out, ← hn'.out, List.take_length])
        clear hc
        go_wp2
        go_ret
        exact ⟨by (rw [hall.out]) <;> rfl, hg⟩
  · have hA : cntR rs = -1 := if_neg (by simp [hi])
    rw [hA]
    clear hA
    go_enter Try.func84, Try.ntmps84
    go_wp2_with fail
    refine (IsRanges_spec ao n ca rs _ (hx'.out.ext (by repeat (first | with_reducible exact Ext.refl _ | with_reducible assumption | with_reducible refine Ext.alloc ?_ _ | with_reducible refine Ext.drew ?_ | with_reducible refine Ext.drewN ?_ _ | ((with_reducible refine Ext.set ?_ ?_ _); (focus (first | (simp; done) | (simp; omega)))) | with_reducible refine Ext.trans ?_ (by assumption)))) hn'.out (by omega)).mono ?_
    rintro en w1 ⟨rfl, hb1⟩
    rw [hi]
    go_wp2
    go_ret
    exact ⟨rfl, (by repeat (first | with_reducible exact Ext.refl _ | with_reducible assumption | with_reducible refine Ext.alloc ?_ _ | with_reducible refine Ext.drew ?_ | with_reducible refine Ext.drewN ?_ _ | ((with_reducible refine Ext.set ?_ ?_ _); (focus (first | (simp; done) | (simp; omega)))) | with_reducible refine Ext.trans ?_ (by assumption)))⟩
set_option maxHeartbeats 4000000 in
set_option maxRecDepth 100000 in
theorem FirstGap_impl (frm : Int) (ao : Option Addr) (n ca : Nat) (rs : List Rg) (w : World) (hx : ReadR w ao rs) (hn : rs.length = n) (hl : (n : Int) ≤ 9223372036854775807) :
    Calls Try.prog 77 #[.slice ao n ca, .int .i64 frm] w fun e w' => e = .returned (.int .i64 (gapR rs frm)) ∧ Ext w w' := by
  have hn' := hide hn
  have hx' := hide hx
  clear hn hx
  rcases Bool.eq_false_or_eq_true (isRgs rs) with hi | hi
  · by_cases h0 : 0 ≤ frm
    · have h0e : decide (frm < 0) = false := decide_eq_false (by omega)
      have hA : gapR rs frm = rs.foldl gapStep frm := if_pos ⟨hi, h0⟩
      rw [hA]
      clear hA
      go_enter Try.func77, Try.ntmps77
      go_wp2_with fail
      refine (IsRanges_impl ao n ca rs _ (hx'.out.ext (by repeat (first | with_reducible exact Ext.refl _ | with_reducible assumption | with_reducible refine Ext.alloc ?_ _ | with_reducible refine Ext.drew ?_ | with_reducible refine Ext.drewN ?_ _ | ((with_reducible refine Ext.set ?_ ?_ _); (focus (first | (simp; done) | (simp; omega)))) | with_reducible refine Ext.trans ?_ (by assumption)))) hn'.out (by omega)).mono ?_
      rintro en w1 ⟨rfl, hb1⟩
      rw [hi]
      go_wp2_with fail
      go_loopw [1, 16] (fun s i wr => ∃ (k : Nat) (g : Int), i = .int .i64 k ∧ k ≤ n ∧ s = .int .i64 g ∧ Hid ((rs.take k).foldl gapStep frm = g) ∧ Ext w wr) (fun _ i _ => n - (intOf i).toNat)
      case atStart => exact ⟨0, frm, rfl, by omega, rfl, hide rfl, (by repeat (first | with_reducible exact Ext.refl _ | with_reducible assumption | with_reducible refine Ext.alloc ?_ _ | with_reducible refine Ext.drew ?_ | with_reducible refine Ext.drewN ?_ _ | ((with_reducible refine Ext.set ?_ ?_ _); (focus (first | (simp; done) | (simp; omega)))) | with_reducible refine Ext.trans ?_ (by assumption)))⟩
      case round =>
        obtain ⟨k, g, rfl, hk, rfl, hc, hg⟩ := hrel
        by_cases hlt : k < n
        · skip
          have hkx : k < rs.length := by rw [hn'.out]; exact hlt
          rcases hx'.out with hnil | ⟨bx, off, rfl, hx⟩
          · rw [hnil] at hkx; simp at hkx
          obtain ⟨cx, cx2⟩ := hx k hkx
          have la : bx < w.heap.size := World.block_lt_of_cell? w _ cx
          have hr := (hg.row la).1
          have dx := (hr _).trans cx
          have dx2 := (hr _).trans cx2
          have i1 : (0 : Int) ≤ (k : Int) := by omega
          have i2 : (k : Int) < (n : Int) := by omega
          have lw : bx < wr.heap.size := hg.more la
          have hxb := rgs_at' hi hkx
          obtain ⟨⟨x1, x2⟩, hx0⟩ : ∃ x : Rg, Hid (rs.getD k dr = x) := ⟨_, hide rfl⟩
          rw [hx0.out] at dx dx2 hxb
          dsimp only at dx dx2 hxb
          clear hx cx cx2 hr
          by_cases t1 : x1 ≤ g
          · by_cases t2 : g < x2
            · have hst : Hid ((rs.take (k + 1)).foldl gapStep frm = x2) := hide (by rw [gap_take_succ hkx, hc.out, hx0.out]; simp only [gapStep]; first | rw [if_pos (by omega)] | rw [if_neg (by omega)])
              clear hc hx0
              go_wp2
              go_roundw
              case rel => exact ⟨k + 1, x2, by go_num, by omega, rfl, hst, hg.trans ((Ext.refl _).alloc _)⟩
              case measure => simp [intOf]; omega
            · have t2e : decide (g < x2) = false := decide_eq_false t2
              have hst : Hid ((rs.take (k + 1)).foldl gapStep frm = g) := hide (by rw [gap_take_succ hkx, hc.out, hx0.out]; simp only [gapStep]; first | rw [if_pos (by omega)] | rw [if_neg (by omega)])
              clear hc hx0
              go_wp2
              go_roundw
              case rel => exact ⟨k + 1, g, by go_num, by omega, rfl, hst, hg.trans ((Ext.refl _).alloc _)⟩
              case measure => simp [intOf]; omega
          · have t1e : decide (x1 ≤ g) = false := decide_eq_false t1
            have hst : Hid ((rs.take (k + 1)).foldl gapStep frm = g) := hide (by rw [gap_take_succ hkx, hc.out, hx0.out]; simp only [gapStep]; first | rw [if_pos (by omega)] | rw [if_neg (by omega)])
            clear hc hx0
            go_wp2
            go_roundw
            case rel => exact ⟨k + 1, g, by go_num, by omega, rfl, hst, hg.trans ((Ext.refl _).alloc _)⟩
            case measure => simp [intOf]; omega
        · obtain rfl : k = n := by omega
          have hall : Hid (rs.foldl gapStep frm = g) := hide (by rw [← hc.out, ← hn'.out, List.take_length])
          clear hc
          go_wp2
          go_ret
          exact ⟨by (rw [hall.out]) <;> rfl, hg⟩
    · have h0e : decide (frm < 0) = true := decide_eq_true (by omega)
      have hA : gapR rs frm = -1 := if_neg (fun hh => h0 hh.2)
      rw [hA]
      clear hA
      go_enter Try.func77, Try.ntmps77
      go_wp2_with fail
      refine (IsRanges_impl ao n ca rs _ (hx'.out.ext (by repeat (first | with_reducible exact Ext.refl _ | with_reducible assumption | with_reducible refine Ext.alloc ?_ _ | with_reducible refine Ext.drew ?_ | with_reducible refine Ext.drewN ?_ _ | ((with_reducible refine Ext.set ?_ ?_ _); (focus (first | (simp; done) | (simp; omega)))) | with_reducible refine Ext.trans ?_ (by assumption)))) hn'.out (by omega)).mono ?_
      rintro en w1 ⟨rfl, hb1⟩
      rw [hi]
      go_wp2
      go_ret
      exact ⟨rfl, (by repeat (first | with_reducible exact Ext.refl _ | with_reducible assumption | with_reducible refine Ext.alloc ?_ _ | with_reducible refine Ext.drew ?_ | with_reducible refine Ext.drewN ?_ _ | ((with_reducible refine Ext.set ?_ ?_ _); (focus (first | (simp; done) | (simp; omega)))) | with_reducible refine Ext.trans ?_ (by assumption)))⟩
  · have hA : gapR rs frm = -1 := if_neg (by simp [hi])
    rw [hA]
    clear hA
    go_enter Try.func77, Try.ntmps77
    go_wp2_with fail
    refine (IsRanges_impl ao n ca rs _ (hx'.out.ext (by repeat (first | with_reducible exact Ext.refl _ | with_reducible assumption | with_reducible refine Ext.alloc ?_ _ | with_reducible refine Ext.drew ?_ | with_reducible refine Ext.drewN ?_ _ | ((with_reducible refine Ext.set ?_ ?_ _); (focus (first | (simp; done) | (simp; omega)))) | with_reducible refine Ext.trans ?_ (by assumption)))) hn'.out (by omega)).mono ?_
    rintro en w1 ⟨rfl, hb1⟩
    rw [hi]
    go_wp2
    go_ret
    exact ⟨rfl, (by repeat (first | with_reducible exact Ext.refl _ | with_reducible assumption | with_reducible refine Ext.alloc ?_ _ | with_reducible refine Ext.drew ?_ | with_reducible refine Ext.drewN ?_ _ | ((with_reducible refine Ext.set ?_ ?_ _); (focus (first | (simp; done) | (simp; omega)))) | with_reducible refine Ext.trans ?_ (by assumption)))⟩
set_option maxHeartbeats 4000000 in
set_option maxRecDepth 100000 in
theorem FirstGap_spec (frm : Int) (ao : Option Addr) (n ca : Nat) (rs : List Rg) (w : World) (hx : ReadR w ao rs) (hn : rs.length = n) (hl : (n : Int) ≤ 9223372036854775807) :
    Calls Try.prog 85 #[.slice ao n ca, .int .i64 frm] w fun e w' => e = .returned (.int .i64 (gapR rs frm)) ∧ Ext w w' := by
  have hn' := hide hn
  have hx' := hide hx
  clear hn hx
  rcases Bool.eq_false_or_eq_true (isRgs rs) with hi | hi
  · by_cases h0 : 0 ≤ frm
    · have h0e : decide (frm < 0) = false := decide_eq_false (by omega)
      have hA : gapR rs frm = rs.foldl gapStep frm := if_pos ⟨hi, h0⟩
      rw [hA]
      clear hA
      go_enter Try.func85, Try.ntmps85
      go_wp2_with fail
      refine (IsRanges_spec ao n ca rs _ (hx'.out.ext (by repeat (first | with_reducible exact Ext.refl _ | with_reducible assumption | with_reducible refine Ext.alloc ?_ _ | with_reducible refine Ext.drew ?_ | with_reducible refine Ext.drewN ?_ _ | ((with_reducible refine Ext.set ?_ ?_ _); (focus (first | (simp; done) | (simp; omega)))) | with_reducible refine Ext.trans ?_ (by assumption)))) hn'.out (by omega)).mono ?_
      rintro en w1 ⟨rfl, hb1⟩
      rw [hi]
      go_wp2_with fail
      go_loopw [1, 5] (fun s i wr => ∃ (k : Nat) (g : Int), i = .int .i64 k ∧ k ≤ n ∧ s = .int .i64 g ∧ Hid ((rs.take k).foldl gapStep frm = g) ∧ Ext w wr) (fun _ i _ => n - (intOf i).toNat)
      case atStart => exact ⟨0, frm, rfl, by omega, rfl, hide rfl, (by repeat (first | with_reducible exact Ext.refl _ | with_reducible assumption | with_reducible refine Ext.alloc ?_ _ | with_reducible refine Ext.drew ?_ | with_reducible refine Ext.drewN ?_ _ | ((with_reducible refine Ext.set ?_ ?_ _); (focus (first | (simp; done) | (simp; omega)))) | with_reducible refine Ext.trans ?_ (by assumption)))⟩
      case round =>
        obtain ⟨k, g, rfl, hk, rfl, hc, hg⟩ := hrel
        by_cases hlt : k < n
        · skip
          have hkx : k < rs.length := by rw [hn'.out]; exact hlt
          rcases hx'.out with hnil | ⟨bx, off, rfl, hx⟩
          · rw [hnil] at hkx; simp at hkx
          obtain ⟨cx, cx2⟩ := hx k hkx
          have la : bx < w.heap.size := World.block_lt_of_cell? w _ cx
          have hr := (hg.row la).1
          have dx := (hr _).trans cx
          have dx2 := (hr _).trans cx2
          have i1 : (0 : Int) ≤ (k : Int) := by omega
          have i2 : (k : Int) < (n : Int) := by omega
          have lw : bx < wr.heap.size := hg.more la
          have hxb := rgs_at' hi hkx
          obtain ⟨⟨x1, x2⟩, hx0⟩ : ∃ x : Rg, Hid (rs.getD k dr = x) := ⟨_, hide rfl⟩
          rw [hx0.out] at dx dx2 hxb
          dsimp only at dx dx2 hxb
          clear hx cx cx2 hr
          by_cases t1 : x1 ≤ g
          · by_cases t2 : g < x2
            · have hst : Hid ((rs.take (k + 1)).foldl gapStep frm = x2) := hide (by rw [gap_take_succ hkx, hc.out, hx0.out]; simp only [gapStep]; first | rw [if_pos (by omega)] | rw [if_neg (by omega)])
              clear hc hx0
              go_wp2
              go_roundw
              case rel => exact ⟨k + 1, x2, by go_num, by omega, rfl, hst, hg⟩
              case measure => simp [intOf]; omega
            · have t2e : decide (g < x2) = false := decide_eq_false t2
              have hst : Hid ((rs.take (k + 1)).foldl gapStep frm = g) := hide (by rw [gap_take_succ hkx, hc.out, hx0.out]; simp only [gapStep]; first | rw [if_pos (by omega)] | rw [if_neg (by omega)])
              clear hc hx0
              go_wp2
              go_roundw
              case rel => exact ⟨k + 1, g, by go_num, by omega, rfl, hst, hg⟩
              case measure => simp [intOf]; omega
          · have t1e : decide (x1 ≤ g) = false := decide_eq_false t1
            have hst : Hid ((rs.take (k + 1)).foldl gapStep frm = g) := hide (by rw [gap_take_succ hkx, hc.out, hx0.out]; simp only [gapStep]; first | rw [if_pos (by omega)] | rw [if_neg (by omega)])
            clear hc hx0
            go_wp2
            go_roundw
            case rel => exact ⟨k + 1, g, by go_num, by omega, rfl, hst, hg⟩
            case measure => simp [intOf]; omega
        · obtain rfl : k = n := by omega
          have hall : Hid (rs.foldl gapStep frm = g) := hide (by rw [← hc.out, ← hn'.out, List.take_length])
          clear hc
          go_wp2
          go_ret
          exact ⟨by (rw [hall.out]) <;> rfl, hg⟩
    · have h0e : decide (frm < 0) = true := decide_eq_true (by omega)
      have hA : gapR rs frm = -1 := if_neg (fun hh => h0 hh.2)
      rw [hA]
      clear hA
      go_enter Try.func85, Try.ntmps85
      go_wp2_with fail
      refine (IsRanges_spec ao n ca rs _ (hx'.out.ext (by repeat (first | with_reducible exact Ext.refl _ | with_reducible assumption | with_reducible refine Ext.alloc ?_ _ | with_reducible refine Ext.drew ?_ | with_reducible refine Ext.drewN ?_ _ | ((with_reducible refine Ext.set ?_ ?_ _); (focus (first | (simp; done) | (simp; omega)))) | with_reducible refine Ext.trans ?_ (by assumption)))) hn'.out (by omega)).mono ?_
      rintro en w1 ⟨rfl, hb1⟩
      rw [hi]
      go_wp2
      go_ret
      exact ⟨rfl, (by repeat (first | with_reducible exact Ext.refl _ | with_reducible assumption | with_reducible refine Ext.alloc ?_ _ | with_reducible refine Ext.drew ?_ | with_reducible refine Ext.drewN ?_ _ | ((with_reducible refine Ext.set ?_ ?_ _); (focus (first | (simp; done) | (simp; omega)))) | with_reducible refine Ext.trans ?_ (by assumption)))⟩
  · have hA : gapR rs frm = -1 := if_neg (by simp [hi])
    rw [hA]
    clear hA
    go_enter Try.func85, Try.ntmps85
    go_wp2_with fail
    refine (IsRanges_spec ao n ca rs _ (hx'.out.ext (by repeat (first | with_reducible exact Ext.refl _ | with_reducible assumption | with_reducible refine Ext.alloc ?_ _ | with_reducible refine Ext.drew ?_ | with_reducible refine Ext.drewN ?_ _ | ((with_reducible refine Ext.set ?_ ?_ _); (focus (first | (simp; done) | (simp; omega)))) | with_reducible refine Ext.trans ?_ (by assumption)))) hn'.out (by omega)).mono ?_
    rintro en w1 ⟨rfl, hb1⟩
    rw [hi]
    go_wp2
    go_ret
    exact ⟨rfl, (by repeat (first | with_reducible exact Ext.refl _ | with_reducible assumption | with_reducible refine Ext.alloc ?_ _ | with_reducible refine Ext.drew ?_ | with_reducible refine Ext.drewN ?_ _ | ((with_reducible refine Ext.set ?_ ?_ _); (focus (first | (simp; done) | (simp; omega)))) | with_reducible refine Ext.trans ?_ (by assumption)))⟩
end
end Go.Proofs.Ytjhgcbchdnoleaa

/-
  Part of the proof: SndEq.
-/
import Derived.Test.YtjhgcbchdnoleaaPSndEq
namespace Go.Proofs.Ytjhgcbchdnoleaa
section
open Go.ChangeShapes Go.WideShapes Go.ChangeAt Go.RowKit
set_option linter.unusedSimpArgs false
set_option linter.unusedVariables false
set_option maxHeartbeats 1000000 in
theorem sliceEqR_any (ao bo : Option Addr) (n m ca cb : Nat) (xs ys : List Rg) (w : World) (hx : ReadR w ao xs) (hy : ReadR w bo ys) (hn : xs.length = n) (hm : ys.length = m) (hl : (n : Int) ≤ 9223372036854775807) :
    Calls Try.prog 132 #[.slice ao n ca, .slice bo m cb] w fun e w' => e = .returned (.bool (decide (xs = ys))) ∧ Ext w w' := by
  by_cases hlen : n = m
  · subst hlen
    rcases Nat.eq_zero_or_pos n with rfl | hpos
    · obtain rfl : xs = [] := List.eq_nil_of_length_eq_zero hn
      obtain rfl : ys = [] := List.eq_nil_of_length_eq_zero hm
      clear hx hy hn hm
      go_enter Try.func132, Try.ntmps132
      go_wp2
      go_loop [13] (fun i => i = .int .i64 0) (fun _ => 0)
      case atStart => rfl
      case round =>
        obtain rfl := hrel
        go_wp2
        go_ret
        exact ⟨by simp, Ext.refl _⟩
    · rcases hx with rfl | ⟨b, off, rfl, hx⟩
      · simp at hn; omega
      rcases hy with rfl | ⟨b2, off2, rfl, hy⟩
      · simp at hm; omega
      rw [hn] at hx
      rw [hm] at hy
      have hn' := hide hn
      have hm' := hide hm
      clear hn hm
      go_enter Try.func132, Try.ntmps132
      go_wp2
      go_loopw [5, 13] (fun _ i wr => ∃ k : Nat, i = .int .i64 k ∧ k ≤ n ∧ xs.take k = ys.take k ∧ Ext w wr) (fun _ i _ => n - (intOf i).toNat)
      case atStart => exact ⟨0, rfl, by omega, by simp, Ext.refl _⟩
      case round =>
        obtain ⟨k, rfl, hk, ht, hg⟩ := hrel
        have ht' := hide ht
        clear ht
        by_cases hlt : k < n
        · obtain ⟨cx, cx2⟩ := hx k hlt
          obtain ⟨cy, cy2⟩ := hy k hlt
          have hr := (hg.row (World.block_lt_of_cell? w _ cx)).1
          have hr2 := (hg.row (World.block_lt_of_cell? w _ cy)).1
          have dx := (hr _).trans cx
          have dx2 := (hr _).trans cx2
          have dy := (hr2 _).trans cy
          have dy2 := (hr2 _).trans cy2
          have lb := World.block_lt_of_cell? wr _ dx
          have lb2 := World.block_lt_of_cell? wr _ dy
          have i1 : (0 : Int) ≤ (k : Int) := by omega
          have i2 : (k : Int) < (n : Int) := by omega
          have hkx : k < xs.length := by rw [hn'.out]; exact hlt
          have hky : k < ys.length := by rw [hm'.out]; exact hlt
          clear hx hy cx cx2 cy cy2 hr hr2
          have hts : Hid (xs.getD k dr = ys.getD k dr → xs.take (k + 1) = ys.take (k + 1)) := hide (fun he => takeR_eq hkx hky ht'.out he)
          have hne' : Hid (¬ xs.getD k dr = ys.getD k dr → ¬ xs = ys) := hide (fun he => ne_of_getR he)
          generalize xs.getD k dr = c at *
          generalize ys.getD k dr = d at *
          go_wp2_with fail
          refine wp_region_lines [Line.is (.slice (some ⟨b, off, none⟩) n ca), Line.is (.int .i64 (k : Int)), Line.is (.pointer (some ⟨b, off + k * 2, none⟩)), Line.is (.agg #[.int .i64 c.1, .int .i64 c.2]), Line.is (.slice (some ⟨b2, off2, none⟩) n cb), Line.is (.int .i64 (k : Int)), Line.is (.pointer (some ⟨b2, off2 + k * 2, none⟩)), Line.is (.agg #[.int .i64 d.1, .int .i64 d.2]), Line.is (.bool (!decide (c = d)))] [16, 17, 18, 19, 20, 21, 22, 23, 24] (by kernel_rfl) (by kernel_rfl) (by kernel_rfl) (by kernel_rfl) (by kernel_rfl) ?_ ?_
          · refine Each.cons ?_ (Each.cons ?_ (Each.cons ?_ (Each.cons ?_ (Each.cons ?_ (Each.cons ?_ (Each.cons ?_ (Each.cons ?_ (Each.cons ?_ (Each.nil)))))))))
            · intro g ws hws hl
              simp only [fillAt, List.foldl_cons, List.foldl_nil, Act.put, List.setIfInBounds_toArray, List.set_cons_zero, List.set_cons_succ]
              refine Stays.plain ?_ (by rfl) ?_ ?_
              rotate_left
              · go_simp
                try with_reducible rfl
              · exact rfl
            · intro g ws hws hl
              simp only [fillAt, List.foldl_cons, List.foldl_nil, Act.put, List.setIfInBounds_toArray, List.set_cons_zero, List.set_cons_succ]
              refine Stays.plain ?_ (by rfl) ?_ ?_
              rotate_left
              · go_simp
                try with_reducible rfl
              · exact rfl
            · intro g ws hws hl
              have ln0 : g 16 = _ := (show (Line.is (.slice (some ⟨b, off, none⟩) n ca)).p (g 16) ws from linesOf_get 0 hl (by kernel_rfl))
              have ln1 : g 17 = _ := (show (Line.is (.int .i64 (k : Int))).p (g 17) ws from linesOf_get 1 hl (by kernel_rfl))
              simp only [fillAt, List.foldl_cons, List.foldl_nil, Act.put, List.setIfInBounds_toArray, List.set_cons_zero, List.set_cons_succ, ln0, ln1]
              refine Stays.plain ?_ (by rfl) ?_ ?_
              rotate_left
              · go_simp
                try with_reducible rfl
              · exact rfl
            · intro g ws hws hl
              have ln2 : g 18 = _ := (show (Line.is (.pointer (some ⟨b, off + k * 2, none⟩))).p (g 18) ws from linesOf_get 2 hl (by kernel_rfl))
              simp only [fillAt, List.foldl_cons, List.foldl_nil, Act.put, List.setIfInBounds_toArray, List.set_cons_zero, List.set_cons_succ, ln2]
              obtain ⟨q0, p0⟩ := hws.row (k := b) xpf
              obtain ⟨q1, p1⟩ := hws.row (k := b2) xpf
              refine Stays.plain ?_ (by rfl) ?_ ?_
              rotate_left
              · go_simp
                try with_reducible rfl
              · exact rfl
            · intro g ws hws hl
              simp only [fillAt, List.foldl_cons, List.foldl_nil, Act.put, List.setIfInBounds_toArray, List.set_cons_zero, List.set_cons_succ]
              refine Stays.plain ?_ (by rfl) ?_ ?_
              rotate_left
              · go_simp
                try with_reducible rfl
              · exact rfl
            · intro g ws hws hl
              simp only [fillAt, List.foldl_cons, List.foldl_nil, Act.put, List.setIfInBounds_toArray, List.set_cons_zero, List.set_cons_succ]
              refine Stays.plain ?_ (by rfl) ?_ ?_
              rotate_left
              · go_simp
                try with_reducible rfl
              · exact rfl
            · intro g ws hws hl
              have ln4 : g 20 = _ := (show (Line.is (.slice (some ⟨b2, off2, none⟩) n cb)).p (g 20) ws from linesOf_get 4 hl (by kernel_rfl))
              have ln5 : g 21 = _ := (show (Line.is (.int .i64 (k : Int))).p (g 21) ws from linesOf_get 5 hl (by kernel_rfl))
              simp only [fillAt, List.foldl_cons, List.foldl_nil, Act.put, List.setIfInBounds_toArray, List.set_cons_zero, List.set_cons_succ, ln4, ln5]
              refine Stays.plain ?_ (by rfl) ?_ ?_
              rotate_left
              · go_simp
                try with_reducible rfl
              · exact rfl
            · intro g ws hws hl
              have ln6 : g 22 = _ := (show (Line.is (.pointer (some ⟨b2, off2 + k * 2, none⟩))).p (g 22) ws from linesOf_get 6 hl (by kernel_rfl))
              simp only [fillAt, List.foldl_cons, List.foldl_nil, Act.put, List.setIfInBounds_toArray, List.set_cons_zero, List.set_cons_succ, ln6]
              obtain ⟨q0, p0⟩ := hws.row (k := b) xpf
              obtain ⟨q1, p1⟩ := hws.row (k := b2) xpf
              refine Stays.plain ?_ (by rfl) ?_ ?_
              rotate_left
              · go_simp
                try with_reducible rfl
              · exact rfl
            · intro g ws hws hl
              have ln3 : g 19 = _ := (show (Line.is (.agg #[.int .i64 c.1, .int .i64 c.2])).p (g 19) ws from linesOf_get 3 hl (by kernel_rfl))
              have ln7 : g 23 = _ := (show (Line.is (.agg #[.int .i64 d.1, .int .i64 d.2])).p (g 23) ws from linesOf_get 7 hl (by kernel_rfl))
              simp only [fillAt, List.foldl_cons, List.foldl_nil, Act.put, List.setIfInBounds_toArray, List.set_cons_zero, List.set_cons_succ, ln3, ln7]
              refine Stays.plain (.bool (!decide (c = d))) (by rfl) ?_ rfl
              rcases c with ⟨c1, c2⟩
              rcases d with ⟨d1, d2⟩
              by_cases he1 : c1 = d1 <;> by_cases he2 : c2 = d2
              all_goals (go_simp)
          · intro g wt hwt hl
            have ln0 : g 16 = _ := (show (Line.is (.slice (some ⟨b, off, none⟩) n ca)).p (g 16) wt from (allLines_get 16 0 0 hl rfl))
            have ln1 : g 17 = _ := (show (Line.is (.int .i64 (k : Int))).p (g 17) wt from (allLines_get 17 1 0 hl rfl))
            have ln2 : g 18 = _ := (show (Line.is (.pointer (some ⟨b, off + k * 2, none⟩))).p (g 18) wt from (allLines_get 18 2 0 hl rfl))
            have ln3 : g 19 = _ := (show (Line.is (.agg #[.int .i64 c.1, .int .i64 c.2])).p (g 19) wt from (allLines_get 19 3 0 hl rfl))
            have ln4 : g 20 = _ := (show (Line.is (.slice (some ⟨b2, off2, none⟩) n cb)).p (g 20) wt from (allLines_get 20 4 0 hl rfl))
            have ln5 : g 21 = _ := (show (Line.is (.int .i64 (k : Int))).p (g 21) wt from (allLines_get 21 5 0 hl rfl))
            have ln6 : g 22 = _ := (show (Line.is (.pointer (some ⟨b2, off2 + k * 2, none⟩))).p (g 22) wt from (allLines_get 22 6 0 hl rfl))
            have ln7 : g 23 = _ := (show (Line.is (.agg #[.int .i64 d.1, .int .i64 d.2])).p (g 23) wt from (allLines_get 23 7 0 hl rfl))
            have ln8 : g 24 = _ := (show (Line.is (.bool (!decide (c = d)))).p (g 24) wt from (allLines_get 24 8 0 hl rfl))
            clear hl
            simp only [fillAt, List.foldl_cons, List.foldl_nil, Act.put, List.setIfInBounds_toArray, List.set_cons_zero, List.set_cons_succ, ln0, ln1, ln2, ln3, ln4, ln5, ln6, ln7, ln8]
            by_cases he : c = d
            · rw [decide_eq_true he]
              have hts2 := hide (hts.out he)
              clear he
              simp only [Bool.not_true]
              go_wp2
              go_roundw
              case rel => exact ⟨k + 1, by go_num, by omega, hts2.out, hg.drew.trans hwt⟩
              case measure => simp [intOf]; omega
            · rw [decide_eq_false he]
              have hne2 := hide (hne'.out he)
              clear he
              simp only [Bool.not_false]
              go_wp2
              go_ret
              exact ⟨by simp [hne2.out], hg.drew.trans hwt⟩
        · obtain rfl : k = n := by omega
          have hxy' : Hid (xs = ys) := hide (by
            have h1 := ht'.out
            rwa [List.take_of_length_le (Nat.le_of_eq hn'.out), List.take_of_length_le (Nat.le_of_eq hm'.out)] at h1)
          clear hx hy
          go_wp2
          go_ret
          exact ⟨by simp [hxy'.out], hg⟩
  · have e1 : ((n : Int) == (m : Int)) = false := by simp; omega
    have e2 : ((n : Int) != (m : Int)) = true := by simp; omega
    have hne' : Hid (¬ xs = ys) := hide (fun h => hlen (by rw [← hn, ← hm, h]))
    clear hlen hn hm
    go_enter Try.func132, Try.ntmps132
    go_wp2
    go_ret
    exact ⟨by simp [hne'.out], Ext.refl _⟩
theorem EqualRanges_impl (ao bo : Option Addr) (n m ca cb : Nat) (xs ys : List Rg) (w : World) (hx : ReadR w ao xs) (hy : ReadR w bo ys) (hn : xs.length = n) (hm : ys.length = m) (hl : (n : Int) ≤ 9223372036854775807) :
    Calls Try.prog 94 #[.slice ao n ca, .slice bo m cb] w fun e w' => e = .returned (.bool (decide (xs = ys))) ∧ Ext w w' := by
  have hn' := hide hn
  have hm' := hide hm
  clear hn hm
  go_enter Try.func94, Try.ntmps94
  go_wp2_with fail
  refine (sliceEqR_any ao bo n m ca cb xs ys _ hx hy hn'.out hm'.out hl).mono ?_
  rintro en w1 ⟨rfl, hb1⟩
  go_wp2
  go_ret
  exact ⟨rfl, hb1⟩
end
end Go.Proofs.Ytjhgcbchdnoleaa

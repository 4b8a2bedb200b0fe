/-
  Contracts of slices.Equal over chunks, of EqualBuffers and of EqualReceivers. Conditions: the chunks can be read.
-/
import Derived.Test.YtjnbiacnhimkgaaRecv
namespace Go.Proofs.Ytjnbiacnhimkgaa
open Go.ChangeShapes Go.WideShapes Go.ChangeAt Go.RowKit
set_option linter.unusedSimpArgs false
set_option maxHeartbeats 1000000 in
theorem sliceEqC_any (ao bo : Option Addr) (n m ca cb : Nat) (xs ys : List Ck) (w : World) (hx : ReadC w ao xs) (hy : ReadC w bo ys) (hn : xs.length = n) (hm : ys.length = m) (hl : (n : Int) ≤ 9223372036854775807) :
    Calls Try.prog 43 #[.slice ao n ca, .slice bo m cb] w fun e w' => e = .returned (.bool (decide (xs = ys))) ∧ Ext w w' := by
  by_cases hlen : n = m
  · subst hlen
    rcases Nat.eq_zero_or_pos n with rfl | hpos
    · obtain rfl : xs = [] := List.eq_nil_of_length_eq_zero hn
      obtain rfl : ys = [] := List.eq_nil_of_length_eq_zero hm
      clear hx hy hn hm
      go_enter Try.func43, Try.ntmps43
      go_wp2
      go_loop [13] (fun i => i = .int .i64 0) (fun _ => 0)
      case atStart => rfl
      case round =>
        obtain rfl := hrel
        go_wp2
        go_ret
        exact ⟨by simp, Ext.refl _⟩
    · rcases hx with rfl | ⟨b, off, rfl, hx⟩
      · simp at hn; omega
      rcases hy with rfl | ⟨b2, off2, rfl, hy⟩
      · simp at hm; omega
      rw [hn] at hx
      rw [hm] at hy
      have hn' := hide hn
      have hm' := hide hm
      clear hn hm
      go_enter Try.func43, Try.ntmps43
      go_wp2
      go_loopw [5, 13] (fun _ i wr => ∃ k : Nat, i = .int .i64 k ∧ k ≤ n ∧ xs.take k = ys.take k ∧ Ext w wr) (fun _ i _ => n - (intOf i).toNat)
      case atStart => exact ⟨0, rfl, by omega, by simp, Ext.refl _⟩
      case round =>
        obtain ⟨k, rfl, hk, ht, hg⟩ := hrel
        have ht' := hide ht
        clear ht
        by_cases hlt : k < n
        · obtain ⟨cx, cx2⟩ := hx k hlt
          obtain ⟨cy, cy2⟩ := hy k hlt
          have hr := (hg.row (World.block_lt_of_cell? w _ cx)).1
          have hr2 := (hg.row (World.block_lt_of_cell? w _ cy)).1
          have dx := (hr _).trans cx
          have dx2 := (hr _).trans cx2
          have dy := (hr2 _).trans cy
          have dy2 := (hr2 _).trans cy2
          have lb := World.block_lt_of_cell? wr _ dx
          have lb2 := World.block_lt_of_cell? wr _ dy
          have i1 : (0 : Int) ≤ (k : Int) := by omega
          have i2 : (k : Int) < (n : Int) := by omega
          have hkx : k < xs.length := by rw [hn'.out]; exact hlt
          have hky : k < ys.length := by rw [hm'.out]; exact hlt
          clear hx hy cx cx2 cy cy2 hr hr2
          have hts : Hid (xs.getD k dk = ys.getD k dk → xs.take (k + 1) = ys.take (k + 1)) := hide (fun he => takeC_eq hkx hky ht'.out he)
          have hne' : Hid (¬ xs.getD k dk = ys.getD k dk → ¬ xs = ys) := hide (fun he => ne_of_getC he)
          generalize xs.getD k dk = c at *
          generalize ys.getD k dk = d at *
          go_wp2_with fail
          refine wp_region_lines [Line.is (.slice (some ⟨b, off, none⟩) n ca), Line.is (.int .i64 (k : Int)), Line.is (.pointer (some ⟨b, off + k * 2, none⟩)), Line.is (.agg #[.int .i64 c.1, .string c.2]), Line.is (.slice (some ⟨b2, off2, none⟩) n cb), Line.is (.int .i64 (k : Int)), Line.is (.pointer (some ⟨b2, off2 + k * 2, none⟩)), Line.is (.agg #[.int .i64 d.1, .string d.2]), Line.is (.bool (!decide (c = d)))] [16, 17, 18, 19, 20, 21, 22, 23, 24] (by kernel_rfl) (by kernel_rfl) (by kernel_rfl) (by kernel_rfl) (by kernel_rfl) ?_ ?_
          · refine Each.cons ?_ (Each.cons ?_ (Each.cons ?_ (Each.cons ?_ (Each.cons ?_ (Each.cons ?_ (Each.cons ?_ (Each.cons ?_ (Each.cons ?_ (Each.nil)))))))))
            · intro g ws hws hl
              simp only [fillAt, List.foldl_cons, List.foldl_nil, Act.put, List.setIfInBounds_toArray, List.set_cons_zero, List.set_cons_succ]
              refine Stays.plain ?_ (by rfl) ?_ ?_
              rotate_left
              · go_simp
                try with_reducible rfl
              · exact rfl
            · intro g ws hws hl
              simp only [fillAt, List.foldl_cons, List.foldl_nil, Act.put, List.setIfInBounds_toArray, List.set_cons_zero, List.set_cons_succ]
              refine Stays.plain ?_ (by rfl) ?_ ?_
              rotate_left
              · go_simp
                try with_reducible rfl
              · exact rfl
            · intro g ws hws hl
              have ln0 : g 16 = _ := (show (Line.is (.slice (some ⟨b, off, none⟩) n ca)).p (g 16) ws from linesOf_get 0 hl (by kernel_rfl))
              have ln1 : g 17 = _ := (show (Line.is (.int .i64 (k : Int))).p (g 17) ws from linesOf_get 1 hl (by kernel_rfl))
              simp only [fillAt, List.foldl_cons, List.foldl_nil, Act.put, List.setIfInBounds_toArray, List.set_cons_zero, List.set_cons_succ, ln0, ln1]
              refine Stays.plain ?_ (by rfl) ?_ ?_
              rotate_left
              · go_simp
                try with_reducible rfl
              · exact rfl
            · intro g ws hws hl
              have ln2 : g 18 = _ := (show (Line.is (.pointer (some ⟨b, off + k * 2, none⟩))).p (g 18) ws from linesOf_get 2 hl (by kernel_rfl))
              simp only [fillAt, List.foldl_cons, List.foldl_nil, Act.put, List.setIfInBounds_toArray, List.set_cons_zero, List.set_cons_succ, ln2]
              obtain ⟨q0, p0⟩ := hws.row (k := b) (by first | assumption | (simp; done) | (simp; omega) | omega)
              obtain ⟨q1, p1⟩ := hws.row (k := b2) (by first | assumption | (simp; done) | (simp; omega) | omega)
              refine Stays.plain ?_ (by rfl) ?_ ?_
              rotate_left
              · go_simp
                try with_reducible rfl
              · exact rfl
            · intro g ws hws hl
              simp only [fillAt, List.foldl_cons, List.foldl_nil, Act.put, List.setIfInBounds_toArray, List.set_cons_zero, List.set_cons_succ]
              refine Stays.plain ?_ (by rfl) ?_ ?_
              rotate_left
              · go_simp
                try with_reducible rfl
              · exact rfl
            · intro g ws hws hl
              simp only [fillAt, List.foldl_cons, List.foldl_nil, Act.put, List.setIfInBounds_toArray, List.set_cons_zero, List.set_cons_succ]
              refine Stays.plain ?_ (by rfl) ?_ ?_
              rotate_left
              · go_simp
                try with_reducible rfl
              · exact rfl
            · intro g ws hws hl
              have ln4 : g 20 = _ := (show (Line.is (.slice (some ⟨b2, off2, none⟩) n cb)).p (g 20) ws from linesOf_get 4 hl (by kernel_rfl))
              have ln5 : g 21 = _ := (show (Line.is (.int .i64 (k : Int))).p (g 21) ws from linesOf_get 5 hl (by kernel_rfl))
              simp only [fillAt, List.foldl_cons, List.foldl_nil, Act.put, List.setIfInBounds_toArray, List.set_cons_zero, List.set_cons_succ, ln4, ln5]
              refine Stays.plain ?_ (by rfl) ?_ ?_
              rotate_left
              · go_simp
                try with_reducible rfl
              · exact rfl
            · intro g ws hws hl
              have ln6 : g 22 = _ := (show (Line.is (.pointer (some ⟨b2, off2 + k * 2, none⟩))).p (g 22) ws from linesOf_get 6 hl (by kernel_rfl))
              simp only [fillAt, List.foldl_cons, List.foldl_nil, Act.put, List.setIfInBounds_toArray, List.set_cons_zero, List.set_cons_succ, ln6]
              obtain ⟨q0, p0⟩ := hws.row (k := b) (by first | assumption | (simp; done) | (simp; omega) | omega)
              obtain ⟨q1, p1⟩ := hws.row (k := b2) (by first | assumption | (simp; done) | (simp; omega) | omega)
              refine Stays.plain ?_ (by rfl) ?_ ?_
              rotate_left
              · go_simp
                try with_reducible rfl
              · exact rfl
            · intro g ws hws hl
              have ln3 : g 19 = _ := (show (Line.is (.agg #[.int .i64 c.1, .string c.2])).p (g 19) ws from linesOf_get 3 hl (by kernel_rfl))
              have ln7 : g 23 = _ := (show (Line.is (.agg #[.int .i64 d.1, .string d.2])).p (g 23) ws from linesOf_get 7 hl (by kernel_rfl))
              simp only [fillAt, List.foldl_cons, List.foldl_nil, Act.put, List.setIfInBounds_toArray, List.set_cons_zero, List.set_cons_succ, ln3, ln7]
              refine Stays.plain (.bool (!decide (c = d))) (by rfl) ?_ rfl
              rcases c with ⟨c1, c2⟩
              rcases d with ⟨d1, d2⟩
              have ht := text_eq c2 d2
              by_cases he1 : c1 = d1 <;> by_cases he2 : c2 = d2
              all_goals (go_simp)
          · intro g wt hwt hl
            have ln0 : g 16 = _ := (show (Line.is (.slice (some ⟨b, off, none⟩) n ca)).p (g 16) wt from (allLines_get 16 0 0 hl rfl))
            have ln1 : g 17 = _ := (show (Line.is (.int .i64 (k : Int))).p (g 17) wt from (allLines_get 17 1 0 hl rfl))
            have ln2 : g 18 = _ := (show (Line.is (.pointer (some ⟨b, off + k * 2, none⟩))).p (g 18) wt from (allLines_get 18 2 0 hl rfl))
            have ln3 : g 19 = _ := (show (Line.is (.agg #[.int .i64 c.1, .string c.2])).p (g 19) wt from (allLines_get 19 3 0 hl rfl))
            have ln4 : g 20 = _ := (show (Line.is (.slice (some ⟨b2, off2, none⟩) n cb)).p (g 20) wt from (allLines_get 20 4 0 hl rfl))
            have ln5 : g 21 = _ := (show (Line.is (.int .i64 (k : Int))).p (g 21) wt from (allLines_get 21 5 0 hl rfl))
            have ln6 : g 22 = _ := (show (Line.is (.pointer (some ⟨b2, off2 + k * 2, none⟩))).p (g 22) wt from (allLines_get 22 6 0 hl rfl))
            have ln7 : g 23 = _ := (show (Line.is (.agg #[.int .i64 d.1, .string d.2])).p (g 23) wt from (allLines_get 23 7 0 hl rfl))
            have ln8 : g 24 = _ := (show (Line.is (.bool (!decide (c = d)))).p (g 24) wt from (allLines_get 24 8 0 hl rfl))
            clear hl
            simp only [fillAt, List.foldl_cons, List.foldl_nil, Act.put, List.setIfInBounds_toArray, List.set_cons_zero, List.set_cons_succ, ln0, ln1, ln2, ln3, ln4, ln5, ln6, ln7, ln8]

            by_cases he : c = d
            · rw [decide_eq_true he]
              have hts2 := hide (hts.out he)
              clear he
              simp only [Bool.not_true]
              go_wp2
              go_roundw
              case rel => exact ⟨k + 1, by go_num, by omega, hts2.out, hg.drew.trans hwt⟩
              case measure => simp [intOf]; omega
            · rw [decide_eq_false he]
              have hne2 := hide (hne'.out he)
              clear he
              simp only [Bool.not_false]
              go_wp2
              go_ret
              exact ⟨by simp [hne2.out], hg.drew.trans hwt⟩
        · obtain rfl : k = n := by omega
          have hxy' : Hid (xs = ys) := hide (by
            have h1 := ht'.out
            rwa [List.take_of_length_le (Nat.le_of_eq hn'.out), List.take_of_length_le (Nat.le_of_eq hm'.out)] at h1)
          clear hx hy
          go_wp2
          go_ret
          exact ⟨by simp [hxy'.out], hg⟩
  · have e1 : ((n : Int) == (m : Int)) = false := by simp; omega
    have e2 : ((n : Int) != (m : Int)) = true := by simp; omega
    have hne' : Hid (¬ xs = ys) := hide (fun h => hlen (by rw [← hn, ← hm, h]))
    clear hlen hn hm
    go_enter Try.func43, Try.ntmps43
    go_wp2
    go_ret
    exact ⟨by simp [hne'.out], Ext.refl _⟩
/-- Are two buffers equal? -/
def bufEq (nx nx2 : Int) (xs ys : List Ck) : Bool := nx == nx2 && decide (xs = ys)
set_option maxHeartbeats 1000000 in
theorem EqualBuffers_impl (nx nx2 : Int) (ao bo : Option Addr) (n m ca cb : Nat) (xs ys : List Ck) (w : World) (hx : ReadC w ao xs) (hy : ReadC w bo ys) (hn : xs.length = n) (hm : ys.length = m) (hl : (n : Int) ≤ 9223372036854775807) :
    Calls Try.prog 19 #[.agg #[.int .i64 nx, .slice ao n ca], .agg #[.int .i64 nx2, .slice bo m cb]] w fun en w' => en = .returned (.bool (bufEq nx nx2 xs ys)) ∧ Ext w w' := by
  by_cases hz : nx = nx2
  · -- equal
    have hze : (nx == nx2) = true := by simp [hz]
    have hzn : (nx != nx2) = false := by simp [hz]
    have hzH := hide hz
    clear hz
    have hn' := hide hn
    have hm' := hide hm
    clear hn hm
    go_enter Try.func19, Try.ntmps19
    go_wp2_with fail
    refine (sliceEqC_any ao bo n m ca cb xs ys _ (hx.ext (by repeat (first | with_reducible exact Ext.refl _ | with_reducible assumption | with_reducible refine Ext.alloc ?_ _ | with_reducible refine Ext.drew ?_ | with_reducible refine Ext.drewN ?_ _ | ((with_reducible refine Ext.set ?_ ?_ _); (focus (first | (simp; done) | (simp; omega)))) | with_reducible refine Ext.trans ?_ (by assumption)))) (hy.ext (by repeat (first | with_reducible exact Ext.refl _ | with_reducible assumption | with_reducible refine Ext.alloc ?_ _ | with_reducible refine Ext.drew ?_ | with_reducible refine Ext.drewN ?_ _ | ((with_reducible refine Ext.set ?_ ?_ _); (focus (first | (simp; done) | (simp; omega)))) | with_reducible refine Ext.trans ?_ (by assumption)))) hn'.out hm'.out hl).mono ?_
    rintro en w1 ⟨rfl, hb1⟩
    go_wp2
    go_ret
    exact ⟨by simp [bufEq, *], (by repeat (first | with_reducible exact Ext.refl _ | with_reducible assumption | with_reducible refine Ext.alloc ?_ _ | with_reducible refine Ext.drew ?_ | with_reducible refine Ext.drewN ?_ _ | ((with_reducible refine Ext.set ?_ ?_ _); (focus (first | (simp; done) | (simp; omega)))) | with_reducible refine Ext.trans ?_ (by assumption)))⟩
  · -- other
    have hze : (nx == nx2) = false := by simp [hz]
    have hzn : (nx != nx2) = true := by simp [hz]
    have hzH := hide hz
    clear hz
    clear hx hy
    go_enter Try.func19, Try.ntmps19
    go_wp2
    go_ret
    exact ⟨by simp [bufEq, *], (by repeat (first | with_reducible exact Ext.refl _ | with_reducible assumption | with_reducible refine Ext.alloc ?_ _ | with_reducible refine Ext.drew ?_ | with_reducible refine Ext.drewN ?_ _ | ((with_reducible refine Ext.set ?_ ?_ _); (focus (first | (simp; done) | (simp; omega)))) | with_reducible refine Ext.trans ?_ (by assumption)))⟩
set_option maxHeartbeats 1000000 in
theorem EqualBuffers_spec (nx nx2 : Int) (ao bo : Option Addr) (n m ca cb : Nat) (xs ys : List Ck) (w : World) (hx : ReadC w ao xs) (hy : ReadC w bo ys) (hn : xs.length = n) (hm : ys.length = m) (hl : (n : Int) ≤ 9223372036854775807) :
    Calls Try.prog 8 #[.agg #[.int .i64 nx, .slice ao n ca], .agg #[.int .i64 nx2, .slice bo m cb]] w fun en w' => en = .returned (.bool (bufEq nx nx2 xs ys)) ∧ Ext w w' := by
  by_cases hz : nx = nx2
  · -- equal
    have hze : (nx == nx2) = true := by simp [hz]
    have hzn : (nx != nx2) = false := by simp [hz]
    have hzH := hide hz
    clear hz
    by_cases hl : (n : Int) = (m : Int)
    · -- equal
      have hle : ((n : Int) == (m : Int)) = true := by simp [hl]
      have hln : ((n : Int) != (m : Int)) = false := by simp [hl]
      have hlH := hide hl
      clear hl
      obtain rfl : n = m := Int.ofNat_inj.1 hlH.out
      clear hlH
      rcases Nat.eq_zero_or_pos n with rfl | hpos
      · obtain rfl : xs = [] := List.eq_nil_of_length_eq_zero hn
        obtain rfl : ys = [] := List.eq_nil_of_length_eq_zero hm
        clear hx hy hn hm
        go_enter Try.func8, Try.ntmps8
        go_wp2
        go_loop [5] (fun i => i = .int .i64 0) (fun _ => 0)
        case atStart => rfl
        case round =>
          obtain rfl := hrel
          go_wp2
          go_ret
          exact ⟨by simp [bufEq, *], (by repeat (first | with_reducible exact Ext.refl _ | with_reducible assumption | with_reducible refine Ext.alloc ?_ _ | with_reducible refine Ext.drew ?_ | with_reducible refine Ext.drewN ?_ _ | ((with_reducible refine Ext.set ?_ ?_ _); (focus (first | (simp; done) | (simp; omega)))) | with_reducible refine Ext.trans ?_ (by assumption)))⟩
      · rcases hx with rfl | ⟨ba, off, rfl, hx⟩
        · simp at hn; omega
        rcases hy with rfl | ⟨bb, off2, rfl, hy⟩
        · simp at hm; omega
        rw [hn] at hx
        rw [hm] at hy
        have la : ba < w.heap.size := World.block_lt_of_cell? w _ (hx 0 hpos).1
        have lb : bb < w.heap.size := World.block_lt_of_cell? w _ (hy 0 hpos).1
        have hn' := hide hn
        have hm' := hide hm
        clear hn hm
        go_enter Try.func8, Try.ntmps8
        go_wp2
        go_loopw [5] (fun i wr => ∃ k : Nat, i = .int .i64 k ∧ k ≤ n ∧ xs.take k = ys.take k ∧ Ext ((w.alloc (.cells #[.int .i64 nx, .slice (some ⟨ba, off, none⟩) n ca] 26)).alloc (.cells #[.int .i64 nx2, .slice (some ⟨bb, off2, none⟩) n cb] 26)) wr) (fun i _ => n - (intOf i).toNat)
        case atStart => exact ⟨0, rfl, by omega, by simp, Ext.refl _⟩
        case round =>
          obtain ⟨k, rfl, hk, ht, hg⟩ := hrel
          have ht' := hide ht
          clear ht
          have hg0 : Ext w wr := Ext.trans (((Ext.refl w).alloc _).alloc _) hg
          have hs0 := hg.size
          obtain ⟨r0, f0⟩ := hg.row (k := w.heap.size) (by first | assumption | (simp; done) | (simp; omega) | omega)
          obtain ⟨r1, f1⟩ := hg.row (k := w.heap.size + 1) (by first | assumption | (simp; done) | (simp; omega) | omega)
          have kb0 := hg.more (k := w.heap.size) (by first | assumption | (simp; done) | (simp; omega) | omega)
          have kb1 := hg.more (k := w.heap.size + 1) (by first | assumption | (simp; done) | (simp; omega) | omega)
          have a1 : wr.cell? ⟨w.heap.size, 1, none⟩ = some (.slice (some ⟨ba, off, none⟩) n ca) := (by rw [r0]; simp [go_sem])
          have b1 : wr.cell? ⟨w.heap.size + 1, 1, none⟩ = some (.slice (some ⟨bb, off2, none⟩) n cb) := (by rw [r1]; simp [go_sem])
          clear r0 f0 r1 f1
          by_cases hlt : k < n
          · obtain ⟨cx, cx2⟩ := hx k hlt
            obtain ⟨cy, cy2⟩ := hy k hlt
            have hr := (hg0.row la).1
            have hr2 := (hg0.row lb).1
            have dx := (hr _).trans cx
            have dx2 := (hr _).trans cx2
            have dy := (hr2 _).trans cy
            have dy2 := (hr2 _).trans cy2
            have la' := World.block_lt_of_cell? wr _ dx
            have lb' := World.block_lt_of_cell? wr _ dy
            have i1 : (0 : Int) ≤ (k : Int) := by omega
            have i2 : (k : Int) < (n : Int) := by omega
            have hkx : k < xs.length := by rw [hn'.out]; exact hlt
            have hky : k < ys.length := by rw [hm'.out]; exact hlt
            clear hx hy cx cx2 cy cy2 hr hr2
            have hts : Hid (xs.getD k dk = ys.getD k dk → xs.take (k + 1) = ys.take (k + 1)) := hide (fun he => takeC_eq hkx hky ht'.out he)
            have hne' : Hid (¬ xs.getD k dk = ys.getD k dk → ¬ xs = ys) := hide (fun he => ne_of_getC he)
            generalize xs.getD k dk = c at *
            generalize ys.getD k dk = d at *
            go_wp2_with fail
            refine wp_region_lines [Line.is (.pointer (some ⟨w.heap.size, 1, none⟩)), Line.is (.slice (some ⟨ba, off, none⟩) n ca), Line.is (.int .i64 (k : Int)), Line.is (.pointer (some ⟨ba, off + k * 2, none⟩)), Line.is (.agg #[.int .i64 c.1, .string c.2]), Line.is (.pointer (some ⟨w.heap.size + 1, 1, none⟩)), Line.is (.slice (some ⟨bb, off2, none⟩) n cb), Line.is (.int .i64 (k : Int)), Line.is (.pointer (some ⟨bb, off2 + k * 2, none⟩)), Line.is (.agg #[.int .i64 d.1, .string d.2]), Line.is (.bool (!decide (c = d)))] [27, 28, 29, 30, 31, 32, 33, 34, 35, 36, 37] (by kernel_rfl) (by kernel_rfl) (by kernel_rfl) (by kernel_rfl) (by kernel_rfl) ?_ ?_
            · refine Each.cons ?_ (Each.cons ?_ (Each.cons ?_ (Each.cons ?_ (Each.cons ?_ (Each.cons ?_ (Each.cons ?_ (Each.cons ?_ (Each.cons ?_ (Each.cons ?_ (Each.cons ?_ (Each.nil)))))))))))
              · intro g ws hws hl
                simp only [fillAt, List.foldl_cons, List.foldl_nil, Act.put, List.setIfInBounds_toArray, List.set_cons_zero, List.set_cons_succ]
                refine Stays.plain ?_ (by rfl) ?_ ?_
                rotate_left
                · go_simp
                  try with_reducible rfl
                · exact rfl
              · intro g ws hws hl
                have ln0 : g 27 = _ := (show (Line.is (.pointer (some ⟨w.heap.size, 1, none⟩))).p (g 27) ws from linesOf_get 0 hl (by kernel_rfl))
                simp only [fillAt, List.foldl_cons, List.foldl_nil, Act.put, List.setIfInBounds_toArray, List.set_cons_zero, List.set_cons_succ, ln0]
                obtain ⟨q0, p0⟩ := hws.row (k := w.heap.size) (by first | assumption | (simp; done) | (simp; omega) | omega)
                obtain ⟨q1, p1⟩ := hws.row (k := w.heap.size + 1) (by first | assumption | (simp; done) | (simp; omega) | omega)
                obtain ⟨q2, p2⟩ := hws.row (k := ba) (by first | assumption | (simp; done) | (simp; omega) | omega)
                obtain ⟨q3, p3⟩ := hws.row (k := bb) (by first | assumption | (simp; done) | (simp; omega) | omega)
                refine Stays.plain ?_ (by rfl) ?_ ?_
                rotate_left
                · go_simp
                  try with_reducible rfl
                · exact rfl
              · intro g ws hws hl
                simp only [fillAt, List.foldl_cons, List.foldl_nil, Act.put, List.setIfInBounds_toArray, List.set_cons_zero, List.set_cons_succ]
                refine Stays.plain ?_ (by rfl) ?_ ?_
                rotate_left
                · go_simp
                  try with_reducible rfl
                · exact rfl
              · intro g ws hws hl
                have ln1 : g 28 = _ := (show (Line.is (.slice (some ⟨ba, off, none⟩) n ca)).p (g 28) ws from linesOf_get 1 hl (by kernel_rfl))
                have ln2 : g 29 = _ := (show (Line.is (.int .i64 (k : Int))).p (g 29) ws from linesOf_get 2 hl (by kernel_rfl))
                simp only [fillAt, List.foldl_cons, List.foldl_nil, Act.put, List.setIfInBounds_toArray, List.set_cons_zero, List.set_cons_succ, ln1, ln2]
                refine Stays.plain ?_ (by rfl) ?_ ?_
                rotate_left
                · go_simp
                  try with_reducible rfl
                · exact rfl
              · intro g ws hws hl
                have ln3 : g 30 = _ := (show (Line.is (.pointer (some ⟨ba, off + k * 2, none⟩))).p (g 30) ws from linesOf_get 3 hl (by kernel_rfl))
                simp only [fillAt, List.foldl_cons, List.foldl_nil, Act.put, List.setIfInBounds_toArray, List.set_cons_zero, List.set_cons_succ, ln3]
                obtain ⟨q0, p0⟩ := hws.row (k := w.heap.size) (by first | assumption | (simp; done) | (simp; omega) | omega)
                obtain ⟨q1, p1⟩ := hws.row (k := w.heap.size + 1) (by first | assumption | (simp; done) | (simp; omega) | omega)
                obtain ⟨q2, p2⟩ := hws.row (k := ba) (by first | assumption | (simp; done) | (simp; omega) | omega)
                obtain ⟨q3, p3⟩ := hws.row (k := bb) (by first | assumption | (simp; done) | (simp; omega) | omega)
                refine Stays.plain ?_ (by rfl) ?_ ?_
                rotate_left
                · go_simp
                  try with_reducible rfl
                · exact rfl
              · intro g ws hws hl
                simp only [fillAt, List.foldl_cons, List.foldl_nil, Act.put, List.setIfInBounds_toArray, List.set_cons_zero, List.set_cons_succ]
                refine Stays.plain ?_ (by rfl) ?_ ?_
                rotate_left
                · go_simp
                  try with_reducible rfl
                · exact rfl
              · intro g ws hws hl
                have ln5 : g 32 = _ := (show (Line.is (.pointer (some ⟨w.heap.size + 1, 1, none⟩))).p (g 32) ws from linesOf_get 5 hl (by kernel_rfl))
                simp only [fillAt, List.foldl_cons, List.foldl_nil, Act.put, List.setIfInBounds_toArray, List.set_cons_zero, List.set_cons_succ, ln5]
                obtain ⟨q0, p0⟩ := hws.row (k := w.heap.size) (by first | assumption | (simp; done) | (simp; omega) | omega)
                obtain ⟨q1, p1⟩ := hws.row (k := w.heap.size + 1) (by first | assumption | (simp; done) | (simp; omega) | omega)
                obtain ⟨q2, p2⟩ := hws.row (k := ba) (by first | assumption | (simp; done) | (simp; omega) | omega)
                obtain ⟨q3, p3⟩ := hws.row (k := bb) (by first | assumption | (simp; done) | (simp; omega) | omega)
                refine Stays.plain ?_ (by rfl) ?_ ?_
                rotate_left
                · go_simp
                  try with_reducible rfl
                · exact rfl
              · intro g ws hws hl
                simp only [fillAt, List.foldl_cons, List.foldl_nil, Act.put, List.setIfInBounds_toArray, List.set_cons_zero, List.set_cons_succ]
                refine Stays.plain ?_ (by rfl) ?_ ?_
                rotate_left
                · go_simp
                  try with_reducible rfl
                · exact rfl
              · intro g ws hws hl
                have ln6 : g 33 = _ := (show (Line.is (.slice (some ⟨bb, off2, none⟩) n cb)).p (g 33) ws from linesOf_get 6 hl (by kernel_rfl))
                have ln7 : g 34 = _ := (show (Line.is (.int .i64 (k : Int))).p (g 34) ws from linesOf_get 7 hl (by kernel_rfl))
                simp only [fillAt, List.foldl_cons, List.foldl_nil, Act.put, List.setIfInBounds_toArray, List.set_cons_zero, List.set_cons_succ, ln6, ln7]
                refine Stays.plain ?_ (by rfl) ?_ ?_
                rotate_left
                · go_simp
                  try with_reducible rfl
                · exact rfl
              · intro g ws hws hl
                have ln8 : g 35 = _ := (show (Line.is (.pointer (some ⟨bb, off2 + k * 2, none⟩))).p (g 35) ws from linesOf_get 8 hl (by kernel_rfl))
                simp only [fillAt, List.foldl_cons, List.foldl_nil, Act.put, List.setIfInBounds_toArray, List.set_cons_zero, List.set_cons_succ, ln8]
                obtain ⟨q0, p0⟩ := hws.row (k := w.heap.size) (by first | assumption | (simp; done) | (simp; omega) | omega)
                obtain ⟨q1, p1⟩ := hws.row (k := w.heap.size + 1) (by first | assumption | (simp; done) | (simp; omega) | omega)
                obtain ⟨q2, p2⟩ := hws.row (k := ba) (by first | assumption | (simp; done) | (simp; omega) | omega)
                obtain ⟨q3, p3⟩ := hws.row (k := bb) (by first | assumption | (simp; done) | (simp; omega) | omega)
                refine Stays.plain ?_ (by rfl) ?_ ?_
                rotate_left
                · go_simp
                  try with_reducible rfl
                · exact rfl
              · intro g ws hws hl
                have ln4 : g 31 = _ := (show (Line.is (.agg #[.int .i64 c.1, .string c.2])).p (g 31) ws from linesOf_get 4 hl (by kernel_rfl))
                have ln9 : g 36 = _ := (show (Line.is (.agg #[.int .i64 d.1, .string d.2])).p (g 36) ws from linesOf_get 9 hl (by kernel_rfl))
                simp only [fillAt, List.foldl_cons, List.foldl_nil, Act.put, List.setIfInBounds_toArray, List.set_cons_zero, List.set_cons_succ, ln4, ln9]
                refine Stays.plain (.bool (!decide (c = d))) (by rfl) ?_ rfl
                rcases c with ⟨c1, c2⟩
                rcases d with ⟨d1, d2⟩
                have ht := text_eq c2 d2
                by_cases he1 : c1 = d1 <;> by_cases he2 : c2 = d2
                all_goals (go_simp)
            · intro g wt hwt hl
              have ln0 : g 27 = _ := (show (Line.is (.pointer (some ⟨w.heap.size, 1, none⟩))).p (g 27) wt from (allLines_get 27 0 0 hl rfl))
              have ln1 : g 28 = _ := (show (Line.is (.slice (some ⟨ba, off, none⟩) n ca)).p (g 28) wt from (allLines_get 28 1 0 hl rfl))
              have ln2 : g 29 = _ := (show (Line.is (.int .i64 (k : Int))).p (g 29) wt from (allLines_get 29 2 0 hl rfl))
              have ln3 : g 30 = _ := (show (Line.is (.pointer (some ⟨ba, off + k * 2, none⟩))).p (g 30) wt from (allLines_get 30 3 0 hl rfl))
              have ln4 : g 31 = _ := (show (Line.is (.agg #[.int .i64 c.1, .string c.2])).p (g 31) wt from (allLines_get 31 4 0 hl rfl))
              have ln5 : g 32 = _ := (show (Line.is (.pointer (some ⟨w.heap.size + 1, 1, none⟩))).p (g 32) wt from (allLines_get 32 5 0 hl rfl))
              have ln6 : g 33 = _ := (show (Line.is (.slice (some ⟨bb, off2, none⟩) n cb)).p (g 33) wt from (allLines_get 33 6 0 hl rfl))
              have ln7 : g 34 = _ := (show (Line.is (.int .i64 (k : Int))).p (g 34) wt from (allLines_get 34 7 0 hl rfl))
              have ln8 : g 35 = _ := (show (Line.is (.pointer (some ⟨bb, off2 + k * 2, none⟩))).p (g 35) wt from (allLines_get 35 8 0 hl rfl))
              have ln9 : g 36 = _ := (show (Line.is (.agg #[.int .i64 d.1, .string d.2])).p (g 36) wt from (allLines_get 36 9 0 hl rfl))
              have ln10 : g 37 = _ := (show (Line.is (.bool (!decide (c = d)))).p (g 37) wt from (allLines_get 37 10 0 hl rfl))
              clear hl
              simp only [fillAt, List.foldl_cons, List.foldl_nil, Act.put, List.setIfInBounds_toArray, List.set_cons_zero, List.set_cons_succ, ln0, ln1, ln2, ln3, ln4, ln5, ln6, ln7, ln8, ln9, ln10]
      
              by_cases he : c = d
              · rw [decide_eq_true he]
                have hts2 := hide (hts.out he)
                clear he
                simp only [Bool.not_true]
                go_wp2
                go_roundw
                case rel => exact ⟨k + 1, by go_num, by omega, hts2.out, hg.drew.trans hwt⟩
                case measure => simp [intOf]; omega
              · rw [decide_eq_false he]
                have hne2 := hide (hne'.out he)
                clear he
                simp only [Bool.not_false]
                go_wp2
                go_ret
                exact ⟨by simp [bufEq, hne2.out], hg0.drew.trans hwt⟩
          · obtain rfl : k = n := by omega
            have hxy' : Hid (xs = ys) := hide (by
              have h1 := ht'.out
              rwa [List.take_of_length_le (Nat.le_of_eq hn'.out), List.take_of_length_le (Nat.le_of_eq hm'.out)] at h1)
            clear hx hy
            go_wp2
            go_ret
            exact ⟨by simp [bufEq, hxy'.out, *], hg0⟩
    · -- other
      have hle : ((n : Int) == (m : Int)) = false := by simp [hl]
      have hln : ((n : Int) != (m : Int)) = true := by simp [hl]
      have hlH := hide hl
      clear hl
      have hne' : Hid (¬ xs = ys) := hide (fun h => hlH.out (by rw [← hn, ← hm, h]))
      clear hn hm
      clear hx hy
      go_enter Try.func8, Try.ntmps8
      go_wp2
      go_ret
      exact ⟨by simp [bufEq, hne'.out], (by repeat (first | with_reducible exact Ext.refl _ | with_reducible assumption | with_reducible refine Ext.alloc ?_ _ | with_reducible refine Ext.drew ?_ | with_reducible refine Ext.drewN ?_ _ | ((with_reducible refine Ext.set ?_ ?_ _); (focus (first | (simp; done) | (simp; omega)))) | with_reducible refine Ext.trans ?_ (by assumption)))⟩
  · -- other
    have hze : (nx == nx2) = false := by simp [hz]
    have hzn : (nx != nx2) = true := by simp [hz]
    have hzH := hide hz
    clear hz
    clear hx hy
    go_enter Try.func8, Try.ntmps8
    go_wp2
    go_ret
    exact ⟨by simp [bufEq, *], (by repeat (first | with_reducible exact Ext.refl _ | with_reducible assumption | with_reducible refine Ext.alloc ?_ _ | with_reducible refine Ext.drew ?_ | with_reducible refine Ext.drewN ?_ _ | ((with_reducible refine Ext.set ?_ ?_ _); (focus (first | (simp; done) | (simp; omega)))) | with_reducible refine Ext.trans ?_ (by assumption)))⟩
/-- Are two receivers equal? -/
def recvEq (st nx fi hg co st2 nx2 fi2 hg2 co2 : Int) (xs ys : List Ck) : Bool := st == st2 && (bufEq nx nx2 xs ys && (fi == fi2 && (hg == hg2 && co == co2)))
end Go.Proofs.Ytjnbiacnhimkgaa

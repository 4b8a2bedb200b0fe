/-
  Part of the proof: SndEq.
-/
import Derived.Test.YtjhgcbchdnoleaaPG8
namespace Go.Proofs.Ytjhgcbchdnoleaa
section
open Go.ChangeShapes Go.WideShapes Go.ChangeAt Go.RowKit
set_option linter.unusedSimpArgs false
set_option linter.unusedVariables false
set_option maxHeartbeats 1000000 in
theorem EqualRanges_spec (ao bo : Option Addr) (n m ca cb : Nat) (xs ys : List Rg) (w : World) (hx : ReadR w ao xs) (hy : ReadR w bo ys) (hn : xs.length = n) (hm : ys.length = m) (hl : (n : Int) ≤ 9223372036854775807) :
    Calls Try.prog 71 #[.slice ao n ca, .slice bo m cb] w fun e w' => e = .returned (.bool (decide (xs = ys))) ∧ Ext w w' := by
  by_cases hlen : n = m
  · subst hlen
    rcases Nat.eq_zero_or_pos n with rfl | hpos
    · obtain rfl : xs = [] := List.eq_nil_of_length_eq_zero hn
      obtain rfl : ys = [] := List.eq_nil_of_length_eq_zero hm
      clear hx hy hn hm
      go_enter Try.func71, Try.ntmps71
      go_wp2
      go_loop [5] (fun i => i = .int .i64 0) (fun _ => 0)
      case atStart => rfl
      case round =>
        obtain rfl := hrel
        go_wp2
        go_ret
        exact ⟨by simp, Ext.refl _⟩
    · rcases hx with rfl | ⟨b, off, rfl, hx⟩
      · simp at hn; omega
      rcases hy with rfl | ⟨b2, off2, rfl, hy⟩
      · simp at hm; omega
      rw [hn] at hx
      rw [hm] at hy
      have hn' := hide hn
      have hm' := hide hm
      clear hn hm
      go_enter Try.func71, Try.ntmps71
      go_wp2
      go_loopw [5] (fun i wr => ∃ k : Nat, i = .int .i64 k ∧ k ≤ n ∧ xs.take k = ys.take k ∧ Ext w wr) (fun i _ => n - (intOf i).toNat)
      case atStart => exact ⟨0, rfl, by omega, by simp, Ext.refl _⟩
      case round =>
        obtain ⟨k, rfl, hk, ht, hg⟩ := hrel
        have ht' := hide ht
        clear ht
        by_cases hlt : k < n
        · obtain ⟨cx, cx2⟩ := hx k hlt
          obtain ⟨cy, cy2⟩ := hy k hlt
          have hr := (hg.row (World.block_lt_of_cell? w _ cx)).1
          have hr2 := (hg.row (World.block_lt_of_cell? w _ cy)).1
          have dx := (hr _).trans cx
          have dx2 := (hr _).trans cx2
          have dy := (hr2 _).trans cy
          have dy2 := (hr2 _).trans cy2
          have lb := World.block_lt_of_cell? wr _ dx
          have lb2 := World.block_lt_of_cell? wr _ dy
          have i1 : (0 : Int) ≤ (k : Int) := by omega
          have i2 : (k : Int) < (n : Int) := by omega
          have hkx : k < xs.length := by rw [hn'.out]; exact hlt
          have hky : k < ys.length := by rw [hm'.out]; exact hlt
          clear hx hy cx cx2 cy cy2 hr hr2
          have hts : Hid (xs.getD k dr = ys.getD k dr → xs.take (k + 1) = ys.take (k + 1)) := hide (fun he => takeR_eq hkx hky ht'.out he)
          have hne' : Hid (¬ xs.getD k dr = ys.getD k dr → ¬ xs = ys) := hide (fun he => ne_of_getR he)
          generalize xs.getD k dr = c at *
          generalize ys.getD k dr = d at *
          go_wp2_with fail
          refine wp_region_lines [Line.is (.slice (some ⟨b, off, none⟩) n ca), Line.is (.int .i64 (k : Int)), Line.is (.pointer (some ⟨b, off + k * 2, none⟩)), Line.is (.agg #[.int .i64 c.1, .int .i64 c.2]), Line.is (.slice (some ⟨b2, off2, none⟩) n cb), Line.is (.int .i64 (k : Int)), Line.is (.pointer (some ⟨b2, off2 + k * 2, none⟩)), Line.is (.agg #[.int .i64 d.1, .int .i64 d.2]), Line.is (.bool (!decide (c = d)))] [17, 18, 19, 20, 21, 22, 23, 24, 25] (by kernel_rfl) (by kernel_rfl) (by kernel_rfl) (by kernel_rfl) (by kernel_rfl) ?_ ?_
          · refine Each.cons ?_ (Each.cons ?_ (Each.cons ?_ (Each.cons ?_ (Each.cons ?_ (Each.cons ?_ (Each.cons ?_ (Each.cons ?_ (Each.cons ?_ (Each.nil)))))))))
            · intro g ws hws hl
              simp only [fillAt, List.foldl_cons, List.foldl_nil, Act.put, List.setIfInBounds_toArray, List.set_cons_zero, List.set_cons_succ]
              refine Stays.plain ?_ (by rfl) ?_ ?_
              rotate_left
              · go_simp
                try with_reducible rfl
              · exact rfl
            · intro g ws hws hl
              simp only [fillAt, List.foldl_cons, List.foldl_nil, Act.put, List.setIfInBounds_toArray, List.set_cons_zero, List.set_cons_succ]
              refine Stays.plain ?_ (by rfl) ?_ ?_
              rotate_left
              · go_simp
                try with_reducible rfl
              · exact rfl
            · intro g ws hws hl
              have ln0 : g 17 = _ := (show (Line.is (.slice (some ⟨b, off, none⟩) n ca)).p (g 17) ws from linesOf_get 0 hl (by kernel_rfl))
              have ln1 : g 18 = _ := (show (Line.is (.int .i64 (k : Int))).p (g 18) ws from linesOf_get 1 hl (by kernel_rfl))
              simp only [fillAt, List.foldl_cons, List.foldl_nil, Act.put, List.setIfInBounds_toArray, List.set_cons_zero, List.set_cons_succ, ln0, ln1]
              refine Stays.plain ?_ (by rfl) ?_ ?_
              rotate_left
              · go_simp
                try with_reducible rfl
              · exact rfl
            · intro g ws hws hl
              have ln2 : g 19 = _ := (show (Line.is (.pointer (some ⟨b, off + k * 2, none⟩))).p (g 19) ws from linesOf_get 2 hl (by kernel_rfl))
              simp only [fillAt, List.foldl_cons, List.foldl_nil, Act.put, List.setIfInBounds_toArray, List.set_cons_zero, List.set_cons_succ, ln2]
              obtain ⟨q0, p0⟩ := hws.row (k := b) xpf
              obtain ⟨q1, p1⟩ := hws.row (k := b2) xpf
              refine Stays.plain ?_ (by rfl) ?_ ?_
              rotate_left
              · go_simp
                try with_reducible rfl
              · exact rfl
            · intro g ws hws hl
              simp only [fillAt, List.foldl_cons, List.foldl_nil, Act.put, List.setIfInBounds_toArray, List.set_cons_zero, List.set_cons_succ]
              refine Stays.plain ?_ (by rfl) ?_ ?_
              rotate_left
              · go_simp
                try with_reducible rfl
              · exact rfl
            · intro g ws hws hl
              simp only [fillAt, List.foldl_cons, List.foldl_nil, Act.put, List.setIfInBounds_toArray, List.set_cons_zero, List.set_cons_succ]
              refine Stays.plain ?_ (by rfl) ?_ ?_
              rotate_left
              · go_simp
                try with_reducible rfl
              · exact rfl
            · intro g ws hws hl
              have ln4 : g 21 = _ := (show (Line.is (.slice (some ⟨b2, off2, none⟩) n cb)).p (g 21) ws from linesOf_get 4 hl (by kernel_rfl))
              have ln5 : g 22 = _ := (show (Line.is (.int .i64 (k : Int))).p (g 22) ws from linesOf_get 5 hl (by kernel_rfl))
              simp only [fillAt, List.foldl_cons, List.foldl_nil, Act.put, List.setIfInBounds_toArray, List.set_cons_zero, List.set_cons_succ, ln4, ln5]
              refine Stays.plain ?_ (by rfl) ?_ ?_
              rotate_left
              · go_simp
                try with_reducible rfl
              · exact rfl
            · intro g ws hws hl
              have ln6 : g 23 = _ := (show (Line.is (.pointer (some ⟨b2, off2 + k * 2, none⟩))).p (g 23) ws from linesOf_get 6 hl (by kernel_rfl))
              simp only [fillAt, List.foldl_cons, List.foldl_nil, Act.put, List.setIfInBounds_toArray, List.set_cons_zero, List.set_cons_succ, ln6]
              obtain ⟨q0, p0⟩ := hws.row (k := b) xpf
              obtain ⟨q1, p1⟩ := hws.row (k := b2) xpf
              refine Stays.plain ?_ (by rfl) ?_ ?_
              rotate_left
              · go_simp
                try with_reducible rfl
              · exact rfl
            · intro g ws hws hl
              have ln3 : g 20 = _ := (show (Line.is (.agg #[.int .i64 c.1, .int .i64 c.2])).p (g 20) ws from linesOf_get 3 hl (by kernel_rfl))
              have ln7 : g 24 = _ := (show (Line.is (.agg #[.int .i64 d.1, .int .i64 d.2])).p (g 24) ws from linesOf_get 7 hl (by kernel_rfl))
              simp only [fillAt, List.foldl_cons, List.foldl_nil, Act.put, List.setIfInBounds_toArray, List.set_cons_zero, List.set_cons_succ, ln3, ln7]
              refine Stays.plain (.bool (!decide (c = d))) (by rfl) ?_ rfl
              rcases c with ⟨c1, c2⟩
              rcases d with ⟨d1, d2⟩
              by_cases he1 : c1 = d1 <;> by_cases he2 : c2 = d2
              all_goals (go_simp)
          · intro g wt hwt hl
            have ln0 : g 17 = _ := (show (Line.is (.slice (some ⟨b, off, none⟩) n ca)).p (g 17) wt from (allLines_get 17 0 0 hl rfl))
            have ln1 : g 18 = _ := (show (Line.is (.int .i64 (k : Int))).p (g 18) wt from (allLines_get 18 1 0 hl rfl))
            have ln2 : g 19 = _ := (show (Line.is (.pointer (some ⟨b, off + k * 2, none⟩))).p (g 19) wt from (allLines_get 19 2 0 hl rfl))
            have ln3 : g 20 = _ := (show (Line.is (.agg #[.int .i64 c.1, .int .i64 c.2])).p (g 20) wt from (allLines_get 20 3 0 hl rfl))
            have ln4 : g 21 = _ := (show (Line.is (.slice (some ⟨b2, off2, none⟩) n cb)).p (g 21) wt from (allLines_get 21 4 0 hl rfl))
            have ln5 : g 22 = _ := (show (Line.is (.int .i64 (k : Int))).p (g 22) wt from (allLines_get 22 5 0 hl rfl))
            have ln6 : g 23 = _ := (show (Line.is (.pointer (some ⟨b2, off2 + k * 2, none⟩))).p (g 23) wt from (allLines_get 23 6 0 hl rfl))
            have ln7 : g 24 = _ := (show (Line.is (.agg #[.int .i64 d.1, .int .i64 d.2])).p (g 24) wt from (allLines_get 24 7 0 hl rfl))
            have ln8 : g 25 = _ := (show (Line.is (.bool (!decide (c = d)))).p (g 25) wt from (allLines_get 25 8 0 hl rfl))
            clear hl
            simp only [fillAt, List.foldl_cons, List.foldl_nil, Act.put, List.setIfInBounds_toArray, List.set_cons_zero, List.set_cons_succ, ln0, ln1, ln2, ln3, ln4, ln5, ln6, ln7, ln8]
            by_cases he : c = d
            · rw [decide_eq_true he]
              have hts2 := hide (hts.out he)
              clear he
              simp only [Bool.not_true]
              go_wp2
              go_roundw
              case rel => exact ⟨k + 1, by go_num, by omega, hts2.out, hg.drew.trans hwt⟩
              case measure => simp [intOf]; omega
            · rw [decide_eq_false he]
              have hne2 := hide (hne'.out he)
              clear he
              simp only [Bool.not_false]
              go_wp2
              go_ret
              exact ⟨by simp [hne2.out], hg.drew.trans hwt⟩
        · obtain rfl : k = n := by omega
          have hxy' : Hid (xs = ys) := hide (by
            have h1 := ht'.out
            rwa [List.take_of_length_le (Nat.le_of_eq hn'.out), List.take_of_length_le (Nat.le_of_eq hm'.out)] at h1)
          clear hx hy
          go_wp2
          go_ret
          exact ⟨by simp [hxy'.out], hg⟩
  · have e1 : ((n : Int) == (m : Int)) = false := by simp; omega
    have e2 : ((n : Int) != (m : Int)) = true := by simp; omega
    have hne' : Hid (¬ xs = ys) := hide (fun h => hlen (by rw [← hn, ← hm, h]))
    clear hlen hn hm
    go_enter Try.func71, Try.ntmps71
    go_wp2
    go_ret
    exact ⟨by simp [hne'.out], Ext.refl _⟩
/-- Are two senders equal? -/
def sndEq (st z b e fi fk se co st2 z2 b2 e2 fi2 fk2 se2 co2 : Int) (c d : Con) : Bool :=
  st == st2 && (ringEq z b e z2 b2 e2 c.r d.r && (decide (c.p = d.p) && (decide (c.f = d.f) && (decide (c.k = d.k) && (fi == fi2 && (fk == fk2 && (se == se2 && co == co2)))))))
set_option maxHeartbeats 4000000 in
theorem EqualSenders_spec (st z b e fi fk se co st2 z2 b2 e2 fi2 fk2 se2 co2 : Int) (a1 a2 a3 a4 : Option Addr) (ca1 ca2 ca3 ca4 : Nat) (v1 v2 v3 v4 : Option Addr) (cv1 cv2 cv3 cv4 : Nat) (xs : List Int) (ps fs ks : List Rg) (ys : List Int) (qs gs js : List Rg) (w : World) (hx : ReadSnd w ⟨a1, a2, a3, a4⟩ ⟨xs, ps, fs, ks⟩) (hy : ReadSnd w ⟨v1, v2, v3, v4⟩ ⟨ys, qs, gs, js⟩) (hl : xs.length ≤ 1048576 ∧ ps.length ≤ 1048576 ∧ fs.length ≤ 1048576 ∧ ks.length ≤ 1048576) :
    Calls Try.prog 18 #[.agg #[.int .i64 st, .int .i64 z, .int .i64 b, .int .i64 e, .slice a1 xs.length ca1, .slice a2 ps.length ca2, .slice a3 fs.length ca3, .slice a4 ks.length ca4, .int .i64 fi, .int .i64 fk, .int .i64 se, .int .i64 co], .agg #[.int .i64 st2, .int .i64 z2, .int .i64 b2, .int .i64 e2, .slice v1 ys.length cv1, .slice v2 qs.length cv2, .slice v3 gs.length cv3, .slice v4 js.length cv4, .int .i64 fi2, .int .i64 fk2, .int .i64 se2, .int .i64 co2]] w fun en w' => en = .returned (.bool (sndEq st z b e fi fk se co st2 z2 b2 e2 fi2 fk2 se2 co2 ⟨xs, ps, fs, ks⟩ ⟨ys, qs, gs, js⟩)) ∧ Ext w w' := by
  by_cases hs : st = st2
  · -- equal
    have hse : (st == st2) = true := by simp [hs]
    have hsn : (st != st2) = false := by simp [hs]
    have hsH := hide hs
    clear hs
    rcases Bool.eq_false_or_eq_true (ringEq z b e z2 b2 e2 xs ys) with hR | hR
    · -- yes
      rcases Bool.eq_false_or_eq_true (decide (ps = qs)) with hE2 | hE2
      · -- yes
        rcases Bool.eq_false_or_eq_true (decide (fs = gs)) with hE3 | hE3
        · -- yes
          rcases Bool.eq_false_or_eq_true (decide (ks = js)) with hE4 | hE4
          · -- yes
            by_cases hf : fi = fi2
            · -- equal
              have hfe : (fi == fi2) = true := by simp [hf]
              have hfn : (fi != fi2) = false := by simp [hf]
              have hfH := hide hf
              clear hf
              by_cases hk : fk = fk2
              · -- equal
                have hke : (fk == fk2) = true := by simp [hk]
                have hkn : (fk != fk2) = false := by simp [hk]
                have hkH := hide hk
                clear hk
                by_cases he : se = se2
                · -- equal
                  have hee : (se == se2) = true := by simp [he]
                  have hen : (se != se2) = false := by simp [he]
                  have heH := hide he
                  clear he
                  by_cases hc : co = co2
                  · -- equal
                    have hce : (co == co2) = true := by simp [hc]
                    have hcn : (co != co2) = false := by simp [hc]
                    have hcH := hide hc
                    clear hc
                    obtain ⟨l1, l2, l3, l4⟩ := hl
                    obtain ⟨hx1, hx2, hx3, hx4⟩ := hx
                    obtain ⟨hy1, hy2, hy3, hy4⟩ := hy
                    replace hx1 := hide hx1
                    replace hy1 := hide hy1
                    replace hx2 := hide hx2
                    replace hy2 := hide hy2
                    replace hx3 := hide hx3
                    replace hy3 := hide hy3
                    replace hx4 := hide hx4
                    replace hy4 := hide hy4
                    go_enter Try.func18, Try.ntmps18
                    go_wp2_with fail
                    refine (EqualRings_spec z b e z2 b2 e2 a1 v1 xs.length ys.length ca1 cv1 xs ys _ (hx1.out.ext Ext.go) (hy1.out.ext Ext.go) rfl rfl (by omega)).mono ?_
                    rintro en w1 ⟨rfl, hw1⟩
                    have xw1 : Ext w w1 := Ext.go
                    have kw1_0 := hw1.more (k := w.heap.size) xpf
                    obtain ⟨cw1_0, fw1_0⟩ := hw1.row (k := w.heap.size) xpf
                    have kw1_1 := hw1.more (k := w.heap.size + 1) xpf
                    obtain ⟨cw1_1, fw1_1⟩ := hw1.row (k := w.heap.size + 1) xpf
                    rw [hR]
                    go_wp2_with fail
                    refine (EqualRanges_spec a2 v2 ps.length qs.length ca2 cv2 ps qs _ (hx2.out.ext Ext.go) (hy2.out.ext Ext.go) rfl rfl (by omega)).mono ?_
                    rintro en w2 ⟨rfl, hw2⟩
                    have xw2 : Ext w w2 := Ext.go
                    have kw2_0 := hw2.more (k := w.heap.size) xpf
                    obtain ⟨cw2_0, fw2_0⟩ := hw2.row (k := w.heap.size) xpf
                    have kw2_1 := hw2.more (k := w.heap.size + 1) xpf
                    obtain ⟨cw2_1, fw2_1⟩ := hw2.row (k := w.heap.size + 1) xpf
                    rw [hE2]
                    go_wp2_with fail
                    refine (EqualRanges_spec a3 v3 fs.length gs.length ca3 cv3 fs gs _ (hx3.out.ext Ext.go) (hy3.out.ext Ext.go) rfl rfl (by omega)).mono ?_
                    rintro en w3 ⟨rfl, hw3⟩
                    have xw3 : Ext w w3 := Ext.go
                    have kw3_0 := hw3.more (k := w.heap.size) xpf
                    obtain ⟨cw3_0, fw3_0⟩ := hw3.row (k := w.heap.size) xpf
                    have kw3_1 := hw3.more (k := w.heap.size + 1) xpf
                    obtain ⟨cw3_1, fw3_1⟩ := hw3.row (k := w.heap.size + 1) xpf
                    rw [hE3]
                    go_wp2_with fail
                    refine (EqualRanges_spec a4 v4 ks.length js.length ca4 cv4 ks js _ (hx4.out.ext Ext.go) (hy4.out.ext Ext.go) rfl rfl (by omega)).mono ?_
                    rintro en w4 ⟨rfl, hw4⟩
                    have xw4 : Ext w w4 := Ext.go
                    have kw4_0 := hw4.more (k := w.heap.size) xpf
                    obtain ⟨cw4_0, fw4_0⟩ := hw4.row (k := w.heap.size) xpf
                    have kw4_1 := hw4.more (k := w.heap.size + 1) xpf
                    obtain ⟨cw4_1, fw4_1⟩ := hw4.row (k := w.heap.size + 1) xpf
                    rw [hE4]
                    go_wp2
                    go_ret
                    exact ⟨by simp [sndEq, *], Ext.go⟩
                  · -- other
                    have hce : (co == co2) = false := by simp [hc]
                    have hcn : (co != co2) = true := by simp [hc]
                    have hcH := hide hc
                    clear hc
                    obtain ⟨l1, l2, l3, l4⟩ := hl
                    obtain ⟨hx1, hx2, hx3, hx4⟩ := hx
                    obtain ⟨hy1, hy2, hy3, hy4⟩ := hy
                    replace hx1 := hide hx1
                    replace hy1 := hide hy1
                    replace hx2 := hide hx2
                    replace hy2 := hide hy2
                    replace hx3 := hide hx3
                    replace hy3 := hide hy3
                    replace hx4 := hide hx4
                    replace hy4 := hide hy4
                    go_enter Try.func18, Try.ntmps18
                    go_wp2_with fail
                    refine (EqualRings_spec z b e z2 b2 e2 a1 v1 xs.length ys.length ca1 cv1 xs ys _ (hx1.out.ext Ext.go) (hy1.out.ext Ext.go) rfl rfl (by omega)).mono ?_
                    rintro en w1 ⟨rfl, hw1⟩
                    have xw1 : Ext w w1 := Ext.go
                    have kw1_0 := hw1.more (k := w.heap.size) xpf
                    obtain ⟨cw1_0, fw1_0⟩ := hw1.row (k := w.heap.size) xpf
                    have kw1_1 := hw1.more (k := w.heap.size + 1) xpf
                    obtain ⟨cw1_1, fw1_1⟩ := hw1.row (k := w.heap.size + 1) xpf
                    rw [hR]
                    go_wp2_with fail
                    refine (EqualRanges_spec a2 v2 ps.length qs.length ca2 cv2 ps qs _ (hx2.out.ext Ext.go) (hy2.out.ext Ext.go) rfl rfl (by omega)).mono ?_
                    rintro en w2 ⟨rfl, hw2⟩
                    have xw2 : Ext w w2 := Ext.go
                    have kw2_0 := hw2.more (k := w.heap.size) xpf
                    obtain ⟨cw2_0, fw2_0⟩ := hw2.row (k := w.heap.size) xpf
                    have kw2_1 := hw2.more (k := w.heap.size + 1) xpf
                    obtain ⟨cw2_1, fw2_1⟩ := hw2.row (k := w.heap.size + 1) xpf
                    rw [hE2]
                    go_wp2_with fail
                    refine (EqualRanges_spec a3 v3 fs.length gs.length ca3 cv3 fs gs _ (hx3.out.ext Ext.go) (hy3.out.ext Ext.go) rfl rfl (by omega)).mono ?_
                    rintro en w3 ⟨rfl, hw3⟩
                    have xw3 : Ext w w3 := Ext.go
                    have kw3_0 := hw3.more (k := w.heap.size) xpf
                    obtain ⟨cw3_0, fw3_0⟩ := hw3.row (k := w.heap.size) xpf
                    have kw3_1 := hw3.more (k := w.heap.size + 1) xpf
                    obtain ⟨cw3_1, fw3_1⟩ := hw3.row (k := w.heap.size + 1) xpf
                    rw [hE3]
                    go_wp2_with fail
                    refine (EqualRanges_spec a4 v4 ks.length js.length ca4 cv4 ks js _ (hx4.out.ext Ext.go) (hy4.out.ext Ext.go) rfl rfl (by omega)).mono ?_
                    rintro en w4 ⟨rfl, hw4⟩
                    have xw4 : Ext w w4 := Ext.go
                    have kw4_0 := hw4.more (k := w.heap.size) xpf
                    obtain ⟨cw4_0, fw4_0⟩ := hw4.row (k := w.heap.size) xpf
                    have kw4_1 := hw4.more (k := w.heap.size + 1) xpf
                    obtain ⟨cw4_1, fw4_1⟩ := hw4.row (k := w.heap.size + 1) xpf
                    rw [hE4]
                    go_wp2
                    go_ret
                    exact ⟨by simp [sndEq, *], Ext.go⟩
                · -- other
                  have hee : (se == se2) = false := by simp [he]
                  have hen : (se != se2) = true := by simp [he]
                  have heH := hide he
                  clear he
                  obtain ⟨l1, l2, l3, l4⟩ := hl
                  obtain ⟨hx1, hx2, hx3, hx4⟩ := hx
                  obtain ⟨hy1, hy2, hy3, hy4⟩ := hy
                  replace hx1 := hide hx1
                  replace hy1 := hide hy1
                  replace hx2 := hide hx2
                  replace hy2 := hide hy2
                  replace hx3 := hide hx3
                  replace hy3 := hide hy3
                  replace hx4 := hide hx4
                  replace hy4 := hide hy4
                  go_enter Try.func18, Try.ntmps18
                  go_wp2_with fail
                  refine (EqualRings_spec z b e z2 b2 e2 a1 v1 xs.length ys.length ca1 cv1 xs ys _ (hx1.out.ext Ext.go) (hy1.out.ext Ext.go) rfl rfl (by omega)).mono ?_
                  rintro en w1 ⟨rfl, hw1⟩
                  have xw1 : Ext w w1 := Ext.go
                  have kw1_0 := hw1.more (k := w.heap.size) xpf
                  obtain ⟨cw1_0, fw1_0⟩ := hw1.row (k := w.heap.size) xpf
                  have kw1_1 := hw1.more (k := w.heap.size + 1) xpf
                  obtain ⟨cw1_1, fw1_1⟩ := hw1.row (k := w.heap.size + 1) xpf
                  rw [hR]
                  go_wp2_with fail
                  refine (EqualRanges_spec a2 v2 ps.length qs.length ca2 cv2 ps qs _ (hx2.out.ext Ext.go) (hy2.out.ext Ext.go) rfl rfl (by omega)).mono ?_
                  rintro en w2 ⟨rfl, hw2⟩
                  have xw2 : Ext w w2 := Ext.go
                  have kw2_0 := hw2.more (k := w.heap.size) xpf
                  obtain ⟨cw2_0, fw2_0⟩ := hw2.row (k := w.heap.size) xpf
                  have kw2_1 := hw2.more (k := w.heap.size + 1) xpf
                  obtain ⟨cw2_1, fw2_1⟩ := hw2.row (k := w.heap.size + 1) xpf
                  rw [hE2]
                  go_wp2_with fail
                  refine (EqualRanges_spec a3 v3 fs.length gs.length ca3 cv3 fs gs _ (hx3.out.ext Ext.go) (hy3.out.ext Ext.go) rfl rfl (by omega)).mono ?_
                  rintro en w3 ⟨rfl, hw3⟩
                  have xw3 : Ext w w3 := Ext.go
                  have kw3_0 := hw3.more (k := w.heap.size) xpf
                  obtain ⟨cw3_0, fw3_0⟩ := hw3.row (k := w.heap.size) xpf
                  have kw3_1 := hw3.more (k := w.heap.size + 1) xpf
                  obtain ⟨cw3_1, fw3_1⟩ := hw3.row (k := w.heap.size + 1) xpf
                  rw [hE3]
                  go_wp2_with fail
                  refine (EqualRanges_spec a4 v4 ks.length js.length ca4 cv4 ks js _ (hx4.out.ext Ext.go) (hy4.out.ext Ext.go) rfl rfl (by omega)).mono ?_
                  rintro en w4 ⟨rfl, hw4⟩
                  have xw4 : Ext w w4 := Ext.go
                  have kw4_0 := hw4.more (k := w.heap.size) xpf
                  obtain ⟨cw4_0, fw4_0⟩ := hw4.row (k := w.heap.size) xpf
                  have kw4_1 := hw4.more (k := w.heap.size + 1) xpf
                  obtain ⟨cw4_1, fw4_1⟩ := hw4.row (k := w.heap.size + 1) xpf
                  rw [hE4]
                  go_wp2
                  go_ret
                  exact ⟨by simp [sndEq, *], Ext.go⟩
              · -- other
                have hke : (fk == fk2) = false := by simp [hk]
                have hkn : (fk != fk2) = true := by simp [hk]
                have hkH := hide hk
                clear hk
                obtain ⟨l1, l2, l3, l4⟩ := hl
                obtain ⟨hx1, hx2, hx3, hx4⟩ := hx
                obtain ⟨hy1, hy2, hy3, hy4⟩ := hy
                replace hx1 := hide hx1
                replace hy1 := hide hy1
                replace hx2 := hide hx2
                replace hy2 := hide hy2
                replace hx3 := hide hx3
                replace hy3 := hide hy3
                replace hx4 := hide hx4
                replace hy4 := hide hy4
                go_enter Try.func18, Try.ntmps18
                go_wp2_with fail
                refine (EqualRings_spec z b e z2 b2 e2 a1 v1 xs.length ys.length ca1 cv1 xs ys _ (hx1.out.ext Ext.go) (hy1.out.ext Ext.go) rfl rfl (by omega)).mono ?_
                rintro en w1 ⟨rfl, hw1⟩
                have xw1 : Ext w w1 := Ext.go
                have kw1_0 := hw1.more (k := w.heap.size) xpf
                obtain ⟨cw1_0, fw1_0⟩ := hw1.row (k := w.heap.size) xpf
                have kw1_1 := hw1.more (k := w.heap.size + 1) xpf
                obtain ⟨cw1_1, fw1_1⟩ := hw1.row (k := w.heap.size + 1) xpf
                rw [hR]
                go_wp2_with fail
                refine (EqualRanges_spec a2 v2 ps.length qs.length ca2 cv2 ps qs _ (hx2.out.ext Ext.go) (hy2.out.ext Ext.go) rfl rfl (by omega)).mono ?_
                rintro en w2 ⟨rfl, hw2⟩
                have xw2 : Ext w w2 := Ext.go
                have kw2_0 := hw2.more (k := w.heap.size) xpf
                obtain ⟨cw2_0, fw2_0⟩ := hw2.row (k := w.heap.size) xpf
                have kw2_1 := hw2.more (k := w.heap.size + 1) xpf
                obtain ⟨cw2_1, fw2_1⟩ := hw2.row (k := w.heap.size + 1) xpf
                rw [hE2]
                go_wp2_with fail
                refine (EqualRanges_spec a3 v3 fs.length gs.length ca3 cv3 fs gs _ (hx3.out.ext Ext.go) (hy3.out.ext Ext.go) rfl rfl (by omega)).mono ?_
                rintro en w3 ⟨rfl, hw3⟩
                have xw3 : Ext w w3 := Ext.go
                have kw3_0 := hw3.more (k := w.heap.size) xpf
                obtain ⟨cw3_0, fw3_0⟩ := hw3.row (k := w.heap.size) xpf
                have kw3_1 := hw3.more (k := w.heap.size + 1) xpf
                obtain ⟨cw3_1, fw3_1⟩ := hw3.row (k := w.heap.size + 1) xpf
                rw [hE3]
                go_wp2_with fail
                refine (EqualRanges_spec a4 v4 ks.length js.length ca4 cv4 ks js _ (hx4.out.ext Ext.go) (hy4.out.ext Ext.go) rfl rfl (by omega)).mono ?_
                rintro en w4 ⟨rfl, hw4⟩
                have xw4 : Ext w w4 := Ext.go
                have kw4_0 := hw4.more (k := w.heap.size) xpf
                obtain ⟨cw4_0, fw4_0⟩ := hw4.row (k := w.heap.size) xpf
                have kw4_1 := hw4.more (k := w.heap.size + 1) xpf
                obtain ⟨cw4_1, fw4_1⟩ := hw4.row (k := w.heap.size + 1) xpf
                rw [hE4]
                go_wp2
                go_ret
                exact ⟨by simp [sndEq, *], Ext.go⟩
            · -- other
              have hfe : (fi == fi2) = false := by simp [hf]
              have hfn : (fi != fi2) = true := by simp [hf]
              have hfH := hide hf
              clear hf
              obtain ⟨l1, l2, l3, l4⟩ := hl
              obtain ⟨hx1, hx2, hx3, hx4⟩ := hx
              obtain ⟨hy1, hy2, hy3, hy4⟩ := hy
              replace hx1 := hide hx1
              replace hy1 := hide hy1
              replace hx2 := hide hx2
              replace hy2 := hide hy2
              replace hx3 := hide hx3
              replace hy3 := hide hy3
              replace hx4 := hide hx4
              replace hy4 := hide hy4
              go_enter Try.func18, Try.ntmps18
              go_wp2_with fail
              refine (EqualRings_spec z b e z2 b2 e2 a1 v1 xs.length ys.length ca1 cv1 xs ys _ (hx1.out.ext Ext.go) (hy1.out.ext Ext.go) rfl rfl (by omega)).mono ?_
              rintro en w1 ⟨rfl, hw1⟩
              have xw1 : Ext w w1 := Ext.go
              have kw1_0 := hw1.more (k := w.heap.size) xpf
              obtain ⟨cw1_0, fw1_0⟩ := hw1.row (k := w.heap.size) xpf
              have kw1_1 := hw1.more (k := w.heap.size + 1) xpf
              obtain ⟨cw1_1, fw1_1⟩ := hw1.row (k := w.heap.size + 1) xpf
              rw [hR]
              go_wp2_with fail
              refine (EqualRanges_spec a2 v2 ps.length qs.length ca2 cv2 ps qs _ (hx2.out.ext Ext.go) (hy2.out.ext Ext.go) rfl rfl (by omega)).mono ?_
              rintro en w2 ⟨rfl, hw2⟩
              have xw2 : Ext w w2 := Ext.go
              have kw2_0 := hw2.more (k := w.heap.size) xpf
              obtain ⟨cw2_0, fw2_0⟩ := hw2.row (k := w.heap.size) xpf
              have kw2_1 := hw2.more (k := w.heap.size + 1) xpf
              obtain ⟨cw2_1, fw2_1⟩ := hw2.row (k := w.heap.size + 1) xpf
              rw [hE2]
              go_wp2_with fail
              refine (EqualRanges_spec a3 v3 fs.length gs.length ca3 cv3 fs gs _ (hx3.out.ext Ext.go) (hy3.out.ext Ext.go) rfl rfl (by omega)).mono ?_
              rintro en w3 ⟨rfl, hw3⟩
              have xw3 : Ext w w3 := Ext.go
              have kw3_0 := hw3.more (k := w.heap.size) xpf
              obtain ⟨cw3_0, fw3_0⟩ := hw3.row (k := w.heap.size) xpf
              have kw3_1 := hw3.more (k := w.heap.size + 1) xpf
              obtain ⟨cw3_1, fw3_1⟩ := hw3.row (k := w.heap.size + 1) xpf
              rw [hE3]
              go_wp2_with fail
              refine (EqualRanges_spec a4 v4 ks.length js.length ca4 cv4 ks js _ (hx4.out.ext Ext.go) (hy4.out.ext Ext.go) rfl rfl (by omega)).mono ?_
              rintro en w4 ⟨rfl, hw4⟩
              have xw4 : Ext w w4 := Ext.go
              have kw4_0 := hw4.more (k := w.heap.size) xpf
              obtain ⟨cw4_0, fw4_0⟩ := hw4.row (k := w.heap.size) xpf
              have kw4_1 := hw4.more (k := w.heap.size + 1) xpf
              obtain ⟨cw4_1, fw4_1⟩ := hw4.row (k := w.heap.size + 1) xpf
              rw [hE4]
              go_wp2
              go_ret
              exact ⟨by simp [sndEq, *], Ext.go⟩
          · -- no
            obtain ⟨l1, l2, l3, l4⟩ := hl
            obtain ⟨hx1, hx2, hx3, hx4⟩ := hx
            obtain ⟨hy1, hy2, hy3, hy4⟩ := hy
            replace hx1 := hide hx1
            replace hy1 := hide hy1
            replace hx2 := hide hx2
            replace hy2 := hide hy2
            replace hx3 := hide hx3
            replace hy3 := hide hy3
            replace hx4 := hide hx4
            replace hy4 := hide hy4
            go_enter Try.func18, Try.ntmps18
            go_wp2_with fail
            refine (EqualRings_spec z b e z2 b2 e2 a1 v1 xs.length ys.length ca1 cv1 xs ys _ (hx1.out.ext Ext.go) (hy1.out.ext Ext.go) rfl rfl (by omega)).mono ?_
            rintro en w1 ⟨rfl, hw1⟩
            have xw1 : Ext w w1 := Ext.go
            have kw1_0 := hw1.more (k := w.heap.size) xpf
            obtain ⟨cw1_0, fw1_0⟩ := hw1.row (k := w.heap.size) xpf
            have kw1_1 := hw1.more (k := w.heap.size + 1) xpf
            obtain ⟨cw1_1, fw1_1⟩ := hw1.row (k := w.heap.size + 1) xpf
            rw [hR]
            go_wp2_with fail
            refine (EqualRanges_spec a2 v2 ps.length qs.length ca2 cv2 ps qs _ (hx2.out.ext Ext.go) (hy2.out.ext Ext.go) rfl rfl (by omega)).mono ?_
            rintro en w2 ⟨rfl, hw2⟩
            have xw2 : Ext w w2 := Ext.go
            have kw2_0 := hw2.more (k := w.heap.size) xpf
            obtain ⟨cw2_0, fw2_0⟩ := hw2.row (k := w.heap.size) xpf
            have kw2_1 := hw2.more (k := w.heap.size + 1) xpf
            obtain ⟨cw2_1, fw2_1⟩ := hw2.row (k := w.heap.size + 1) xpf
            rw [hE2]
            go_wp2_with fail
            refine (EqualRanges_spec a3 v3 fs.length gs.length ca3 cv3 fs gs _ (hx3.out.ext Ext.go) (hy3.out.ext Ext.go) rfl rfl (by omega)).mono ?_
            rintro en w3 ⟨rfl, hw3⟩
            have xw3 : Ext w w3 := Ext.go
            have kw3_0 := hw3.more (k := w.heap.size) xpf
            obtain ⟨cw3_0, fw3_0⟩ := hw3.row (k := w.heap.size) xpf
            have kw3_1 := hw3.more (k := w.heap.size + 1) xpf
            obtain ⟨cw3_1, fw3_1⟩ := hw3.row (k := w.heap.size + 1) xpf
            rw [hE3]
            go_wp2_with fail
            refine (EqualRanges_spec a4 v4 ks.length js.length ca4 cv4 ks js _ (hx4.out.ext Ext.go) (hy4.out.ext Ext.go) rfl rfl (by omega)).mono ?_
            rintro en w4 ⟨rfl, hw4⟩
            have xw4 : Ext w w4 := Ext.go
            have kw4_0 := hw4.more (k := w.heap.size) xpf
            obtain ⟨cw4_0, fw4_0⟩ := hw4.row (k := w.heap.size) xpf
            have kw4_1 := hw4.more (k := w.heap.size + 1) xpf
            obtain ⟨cw4_1, fw4_1⟩ := hw4.row (k := w.heap.size + 1) xpf
            rw [hE4]
            go_wp2
            go_ret
            exact ⟨by simp [sndEq, *], Ext.go⟩
        · -- no
          obtain ⟨l1, l2, l3, l4⟩ := hl
          obtain ⟨hx1, hx2, hx3, hx4⟩ := hx
          obtain ⟨hy1, hy2, hy3, hy4⟩ := hy
          replace hx1 := hide hx1
          replace hy1 := hide hy1
          replace hx2 := hide hx2
          replace hy2 := hide hy2
          replace hx3 := hide hx3
          replace hy3 := hide hy3
          replace hx4 := hide hx4
          replace hy4 := hide hy4
          go_enter Try.func18, Try.ntmps18
          go_wp2_with fail
          refine (EqualRings_spec z b e z2 b2 e2 a1 v1 xs.length ys.length ca1 cv1 xs ys _ (hx1.out.ext Ext.go) (hy1.out.ext Ext.go) rfl rfl (by omega)).mono ?_
          rintro en w1 ⟨rfl, hw1⟩
          have xw1 : Ext w w1 := Ext.go
          have kw1_0 := hw1.more (k := w.heap.size) xpf
          obtain ⟨cw1_0, fw1_0⟩ := hw1.row (k := w.heap.size) xpf
          have kw1_1 := hw1.more (k := w.heap.size + 1) xpf
          obtain ⟨cw1_1, fw1_1⟩ := hw1.row (k := w.heap.size + 1) xpf
          rw [hR]
          go_wp2_with fail
          refine (EqualRanges_spec a2 v2 ps.length qs.length ca2 cv2 ps qs _ (hx2.out.ext Ext.go) (hy2.out.ext Ext.go) rfl rfl (by omega)).mono ?_
          rintro en w2 ⟨rfl, hw2⟩
          have xw2 : Ext w w2 := Ext.go
          have kw2_0 := hw2.more (k := w.heap.size) xpf
          obtain ⟨cw2_0, fw2_0⟩ := hw2.row (k := w.heap.size) xpf
          have kw2_1 := hw2.more (k := w.heap.size + 1) xpf
          obtain ⟨cw2_1, fw2_1⟩ := hw2.row (k := w.heap.size + 1) xpf
          rw [hE2]
          go_wp2_with fail
          refine (EqualRanges_spec a3 v3 fs.length gs.length ca3 cv3 fs gs _ (hx3.out.ext Ext.go) (hy3.out.ext Ext.go) rfl rfl (by omega)).mono ?_
          rintro en w3 ⟨rfl, hw3⟩
          have xw3 : Ext w w3 := Ext.go
          have kw3_0 := hw3.more (k := w.heap.size) xpf
          obtain ⟨cw3_0, fw3_0⟩ := hw3.row (k := w.heap.size) xpf
          have kw3_1 := hw3.more (k := w.heap.size + 1) xpf
          obtain ⟨cw3_1, fw3_1⟩ := hw3.row (k := w.heap.size + 1) xpf
          rw [hE3]
          go_wp2
          go_ret
          exact ⟨by simp [sndEq, *], Ext.go⟩
      · -- no
        obtain ⟨l1, l2, l3, l4⟩ := hl
        obtain ⟨hx1, hx2, hx3, hx4⟩ := hx
        obtain ⟨hy1, hy2, hy3, hy4⟩ := hy
        replace hx1 := hide hx1
        replace hy1 := hide hy1
        replace hx2 := hide hx2
        replace hy2 := hide hy2
        replace hx3 := hide hx3
        replace hy3 := hide hy3
        replace hx4 := hide hx4
        replace hy4 := hide hy4
        go_enter Try.func18, Try.ntmps18
        go_wp2_with fail
        refine (EqualRings_spec z b e z2 b2 e2 a1 v1 xs.length ys.length ca1 cv1 xs ys _ (hx1.out.ext Ext.go) (hy1.out.ext Ext.go) rfl rfl (by omega)).mono ?_
        rintro en w1 ⟨rfl, hw1⟩
        have xw1 : Ext w w1 := Ext.go
        have kw1_0 := hw1.more (k := w.heap.size) xpf
        obtain ⟨cw1_0, fw1_0⟩ := hw1.row (k := w.heap.size) xpf
        have kw1_1 := hw1.more (k := w.heap.size + 1) xpf
        obtain ⟨cw1_1, fw1_1⟩ := hw1.row (k := w.heap.size + 1) xpf
        rw [hR]
        go_wp2_with fail
        refine (EqualRanges_spec a2 v2 ps.length qs.length ca2 cv2 ps qs _ (hx2.out.ext Ext.go) (hy2.out.ext Ext.go) rfl rfl (by omega)).mono ?_
        rintro en w2 ⟨rfl, hw2⟩
        have xw2 : Ext w w2 := Ext.go
        have kw2_0 := hw2.more (k := w.heap.size) xpf
        obtain ⟨cw2_0, fw2_0⟩ := hw2.row (k := w.heap.size) xpf
        have kw2_1 := hw2.more (k := w.heap.size + 1) xpf
        obtain ⟨cw2_1, fw2_1⟩ := hw2.row (k := w.heap.size + 1) xpf
        rw [hE2]
        go_wp2
        go_ret
        exact ⟨by simp [sndEq, *], Ext.go⟩
    · -- no
      obtain ⟨l1, l2, l3, l4⟩ := hl
      obtain ⟨hx1, hx2, hx3, hx4⟩ := hx
      obtain ⟨hy1, hy2, hy3, hy4⟩ := hy
      replace hx1 := hide hx1
      replace hy1 := hide hy1
      replace hx2 := hide hx2
      replace hy2 := hide hy2
      replace hx3 := hide hx3
      replace hy3 := hide hy3
      replace hx4 := hide hx4
      replace hy4 := hide hy4
      go_enter Try.func18, Try.ntmps18
      go_wp2_with fail
      refine (EqualRings_spec z b e z2 b2 e2 a1 v1 xs.length ys.length ca1 cv1 xs ys _ (hx1.out.ext Ext.go) (hy1.out.ext Ext.go) rfl rfl (by omega)).mono ?_
      rintro en w1 ⟨rfl, hw1⟩
      have xw1 : Ext w w1 := Ext.go
      have kw1_0 := hw1.more (k := w.heap.size) xpf
      obtain ⟨cw1_0, fw1_0⟩ := hw1.row (k := w.heap.size) xpf
      have kw1_1 := hw1.more (k := w.heap.size + 1) xpf
      obtain ⟨cw1_1, fw1_1⟩ := hw1.row (k := w.heap.size + 1) xpf
      rw [hR]
      go_wp2
      go_ret
      exact ⟨by simp [sndEq, *], Ext.go⟩
  · -- other
    have hse : (st == st2) = false := by simp [hs]
    have hsn : (st != st2) = true := by simp [hs]
    have hsH := hide hs
    clear hs
    obtain ⟨l1, l2, l3, l4⟩ := hl
    clear hx hy
    go_enter Try.func18, Try.ntmps18
    go_wp2
    go_ret
    exact ⟨by simp [sndEq, *], Ext.go⟩
end
end Go.Proofs.Ytjhgcbchdnoleaa

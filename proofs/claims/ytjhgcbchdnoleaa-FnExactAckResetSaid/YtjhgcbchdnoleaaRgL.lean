/-
  Contracts of the laws' helpers on slices of ranges: szRangeS, eqRangeS, toRangeS, markRangeS, heldRangeS. Conditions: the slices can be read (for the marks: written).
-/
import Derived.Test.YtjhgcbchdnoleaaRgS
import Derived.Test.YtjhgcbchdnoleaaTable
namespace Go.Proofs.Ytjhgcbchdnoleaa
open Go.ChangeShapes Go.WideShapes Go.ChangeAt Go.RowKit
set_option linter.unusedSimpArgs false
set_option linter.unusedVariables false
theorem takeR_succ' (rs : List Rg) {k : Nat} (hk : k < rs.length) : rs.take (k + 1) = rs.take k ++ [rs.getD k dr] := by
  rw [List.take_succ_eq_append_getElem hk]; simp [List.getD, List.getElem?_eq_getElem hk]
theorem takeR_eq {xs ys : List Rg} {k : Nat} (hk : k < xs.length) (hk2 : k < ys.length) (h : xs.take k = ys.take k) (e : xs.getD k dr = ys.getD k dr) : xs.take (k + 1) = ys.take (k + 1) := by
  rw [takeR_succ' xs hk, takeR_succ' ys hk2, h, e]
theorem ne_of_getR {xs ys : List Rg} {k : Nat} (e : ¬ xs.getD k dr = ys.getD k dr) : ¬ xs = ys := fun h => e (by rw [h])
theorem szRangeS_any (ao : Option Addr) (len cap : Nat) (left : Int) (w : World) (hl : (len : Int) ≤ 9223372036854775807) (h0 : 0 ≤ left) (h1 : left ≤ 1048576) :
    Calls Try.prog 51 #[.slice ao len cap, .int .i64 left] w fun e w' => e = .returned (.int .i64 (if left < len then -1 else left - len)) ∧ w = w' := by
  by_cases h : left < len
  · go_enter Try.func51, Try.ntmps51
    go_wp2
    all_goals go_ret
    all_goals (simp [h]; try omega)
  · go_enter Try.func51, Try.ntmps51
    go_wp2
    all_goals go_ret
    all_goals (simp [h]; try omega)
theorem eqRange_any (c d : Rg) (w : World) :
    Calls Try.prog 116 #[.agg #[.int .i64 c.1, .int .i64 c.2], .agg #[.int .i64 d.1, .int .i64 d.2]] w fun e w' => e = .returned (.bool (decide (c = d))) ∧ Ext w w' := by
  obtain ⟨o, s⟩ := c
  obtain ⟨p, u⟩ := d
  by_cases h1 : o = p
  · have h1n : (o != p) = false := by simp [h1]
    by_cases h2 : s = u
    · have h2e : (s != u) = false := by simp [h2]
      have h3 : decide (((o, s) : Rg) = (p, u)) = true := by simp [h1, h2]
      clear h1 h2
      go_enter Try.func116, Try.ntmps116
      go_wp2
      go_ret
      exact ⟨by rw [h3]; rfl, (by repeat (first | with_reducible exact Ext.refl _ | with_reducible assumption | with_reducible refine Ext.alloc ?_ _ | with_reducible refine Ext.drew ?_ | with_reducible refine Ext.drewN ?_ _ | ((with_reducible refine Ext.set ?_ ?_ _); (focus (first | (simp; done) | (simp; omega)))) | with_reducible refine Ext.trans ?_ (by assumption)))⟩
    · have h2e : (s != u) = true := by simp [h2]
      have h3 : decide (((o, s) : Rg) = (p, u)) = false := by simp [h2]
      clear h1 h2
      go_enter Try.func116, Try.ntmps116
      go_wp2
      go_ret
      exact ⟨by rw [h3]; rfl, (by repeat (first | with_reducible exact Ext.refl _ | with_reducible assumption | with_reducible refine Ext.alloc ?_ _ | with_reducible refine Ext.drew ?_ | with_reducible refine Ext.drewN ?_ _ | ((with_reducible refine Ext.set ?_ ?_ _); (focus (first | (simp; done) | (simp; omega)))) | with_reducible refine Ext.trans ?_ (by assumption)))⟩
  · have h1n : (o != p) = true := by simp [h1]
    have h3 : decide (((o, s) : Rg) = (p, u)) = false := by simp [h1]
    clear h1
    go_enter Try.func116, Try.ntmps116
    go_wp2
    go_ret
    exact ⟨by rw [h3]; rfl, (by repeat (first | with_reducible exact Ext.refl _ | with_reducible assumption | with_reducible refine Ext.alloc ?_ _ | with_reducible refine Ext.drew ?_ | with_reducible refine Ext.drewN ?_ _ | ((with_reducible refine Ext.set ?_ ?_ _); (focus (first | (simp; done) | (simp; omega)))) | with_reducible refine Ext.trans ?_ (by assumption)))⟩
theorem toRange_any (o s : Int) (w : World) :
    Calls Try.prog 112 #[.agg #[.int .i64 o, .int .i64 s]] w fun e w' => e = .returned (.agg #[.int .i64 o, .int .i64 s]) ∧ Ext w w' := by
  go_enter Try.func112, Try.ntmps112
  go_wp2
  exact bodyPost_ret (v := .agg #[.int .i64 o, .int .i64 s]) (by simp [results, Try.results112, go_sem]) rfl ⟨rfl, (by repeat (first | with_reducible exact Ext.refl _ | with_reducible assumption | with_reducible refine Ext.alloc ?_ _ | with_reducible refine Ext.drew ?_ | with_reducible refine Ext.drewN ?_ _ | ((with_reducible refine Ext.set ?_ ?_ _); (focus (first | (simp; done) | (simp; omega)))) | with_reducible refine Ext.trans ?_ (by assumption)))⟩
set_option maxHeartbeats 1000000 in
theorem eqRangeS_any (ao bo : Option Addr) (n m ca cb : Nat) (xs ys : List Rg) (w : World) (hx : ReadR w ao xs) (hy : ReadR w bo ys) (hn : xs.length = n) (hm : ys.length = m) (hl : (n : Int) ≤ 9223372036854775807) :
    Calls Try.prog 57 #[.slice ao n ca, .slice bo m cb] w fun e w' => e = .returned (.bool (decide (xs = ys))) ∧ Ext w w' := by
  by_cases hlen : n = m
  · subst hlen
    rcases Nat.eq_zero_or_pos n with rfl | hpos
    · obtain rfl : xs = [] := List.eq_nil_of_length_eq_zero hn
      obtain rfl : ys = [] := List.eq_nil_of_length_eq_zero hm
      clear hx hy hn hm
      go_enter Try.func57, Try.ntmps57
      go_wp2
      go_loop [5] (fun i => i = .int .i64 0) (fun _ => 0)
      case atStart => rfl
      case round =>
        obtain rfl := hrel
        go_wp2
        go_ret
        exact ⟨by simp, Ext.refl _⟩
    · rcases hx with rfl | ⟨b, off, rfl, hx⟩
      · simp at hn; omega
      rcases hy with rfl | ⟨b2, off2, rfl, hy⟩
      · simp at hm; omega
      rw [hn] at hx
      rw [hm] at hy
      have hn' := hide hn
      have hm' := hide hm
      clear hn hm
      go_enter Try.func57, Try.ntmps57
      go_wp2
      go_loopw [5] (fun i wr => ∃ k : Nat, i = .int .i64 k ∧ k ≤ n ∧ xs.take k = ys.take k ∧ Ext w wr) (fun i _ => n - (intOf i).toNat)
      case atStart => exact ⟨0, rfl, by omega, by simp, Ext.refl _⟩
      case round =>
        obtain ⟨k, rfl, hk, ht, hg⟩ := hrel
        have ht' := hide ht
        clear ht
        by_cases hlt : k < n
        · obtain ⟨cx, cx2⟩ := hx k hlt
          obtain ⟨cy, cy2⟩ := hy k hlt
          have hr := (hg.row (World.block_lt_of_cell? w _ cx)).1
          have hr2 := (hg.row (World.block_lt_of_cell? w _ cy)).1
          have dx := (hr _).trans cx
          have dx2 := (hr _).trans cx2
          have dy := (hr2 _).trans cy
          have dy2 := (hr2 _).trans cy2
          have lb := World.block_lt_of_cell? wr _ dx
          have lb2 := World.block_lt_of_cell? wr _ dy
          have i1 : (0 : Int) ≤ (k : Int) := by omega
          have i2 : (k : Int) < (n : Int) := by omega
          have hkx : k < xs.length := by rw [hn'.out]; exact hlt
          have hky : k < ys.length := by rw [hm'.out]; exact hlt
          clear hx hy cx cx2 cy cy2 hr hr2
          have hts : Hid (xs.getD k dr = ys.getD k dr → xs.take (k + 1) = ys.take (k + 1)) := hide (fun he => takeR_eq hkx hky ht'.out he)
          have hne' : Hid (¬ xs.getD k dr = ys.getD k dr → ¬ xs = ys) := hide (fun he => ne_of_getR he)
          generalize xs.getD k dr = c at *
          generalize ys.getD k dr = d at *
          go_wp2_with fail
          refine wp_region_lines [Line.is (.slice (some ⟨b, off, none⟩) n ca), Line.is (.int .i64 (k : Int)), Line.is (.pointer (some ⟨b, off + k * 2, none⟩)), Line.is (.agg #[.int .i64 c.1, .int .i64 c.2]), Line.is (.slice (some ⟨b2, off2, none⟩) n cb), Line.is (.int .i64 (k : Int)), Line.is (.pointer (some ⟨b2, off2 + k * 2, none⟩)), Line.is (.agg #[.int .i64 d.1, .int .i64 d.2]), Line.is (.bool (decide (c = d))), Line.is (.bool (!decide (c = d)))] [17, 18, 19, 20, 21, 22, 23, 24, 25, 26] (by kernel_rfl) (by kernel_rfl) (by kernel_rfl) (by kernel_rfl) (by kernel_rfl) ?_ ?_
          · refine Each.cons ?_ (Each.cons ?_ (Each.cons ?_ (Each.cons ?_ (Each.cons ?_ (Each.cons ?_ (Each.cons ?_ (Each.cons ?_ (Each.cons ?_ (Each.cons ?_ (Each.nil))))))))))
            · intro g ws hws hl
              simp only [fillAt, List.foldl_cons, List.foldl_nil, Act.put, List.setIfInBounds_toArray, List.set_cons_zero, List.set_cons_succ]
              refine Stays.plain ?_ (by rfl) ?_ ?_
              rotate_left
              · go_simp
                try with_reducible rfl
              · exact rfl
            · intro g ws hws hl
              simp only [fillAt, List.foldl_cons, List.foldl_nil, Act.put, List.setIfInBounds_toArray, List.set_cons_zero, List.set_cons_succ]
              refine Stays.plain ?_ (by rfl) ?_ ?_
              rotate_left
              · go_simp
                try with_reducible rfl
              · exact rfl
            · intro g ws hws hl
              have ln0 : g 17 = _ := (show (Line.is (.slice (some ⟨b, off, none⟩) n ca)).p (g 17) ws from linesOf_get 0 hl (by kernel_rfl))
              have ln1 : g 18 = _ := (show (Line.is (.int .i64 (k : Int))).p (g 18) ws from linesOf_get 1 hl (by kernel_rfl))
              simp only [fillAt, List.foldl_cons, List.foldl_nil, Act.put, List.setIfInBounds_toArray, List.set_cons_zero, List.set_cons_succ, ln0, ln1]
              refine Stays.plain ?_ (by rfl) ?_ ?_
              rotate_left
              · go_simp
                try with_reducible rfl
              · exact rfl
            · intro g ws hws hl
              have ln2 : g 19 = _ := (show (Line.is (.pointer (some ⟨b, off + k * 2, none⟩))).p (g 19) ws from linesOf_get 2 hl (by kernel_rfl))
              simp only [fillAt, List.foldl_cons, List.foldl_nil, Act.put, List.setIfInBounds_toArray, List.set_cons_zero, List.set_cons_succ, ln2]
              obtain ⟨q0, p0⟩ := hws.row (k := b) (by first | assumption | (simp; done) | (simp; omega) | omega)
              obtain ⟨q1, p1⟩ := hws.row (k := b2) (by first | assumption | (simp; done) | (simp; omega) | omega)
              refine Stays.plain ?_ (by rfl) ?_ ?_
              rotate_left
              · go_simp
                try with_reducible rfl
              · exact rfl
            · intro g ws hws hl
              simp only [fillAt, List.foldl_cons, List.foldl_nil, Act.put, List.setIfInBounds_toArray, List.set_cons_zero, List.set_cons_succ]
              refine Stays.plain ?_ (by rfl) ?_ ?_
              rotate_left
              · go_simp
                try with_reducible rfl
              · exact rfl
            · intro g ws hws hl
              simp only [fillAt, List.foldl_cons, List.foldl_nil, Act.put, List.setIfInBounds_toArray, List.set_cons_zero, List.set_cons_succ]
              refine Stays.plain ?_ (by rfl) ?_ ?_
              rotate_left
              · go_simp
                try with_reducible rfl
              · exact rfl
            · intro g ws hws hl
              have ln4 : g 21 = _ := (show (Line.is (.slice (some ⟨b2, off2, none⟩) n cb)).p (g 21) ws from linesOf_get 4 hl (by kernel_rfl))
              have ln5 : g 22 = _ := (show (Line.is (.int .i64 (k : Int))).p (g 22) ws from linesOf_get 5 hl (by kernel_rfl))
              simp only [fillAt, List.foldl_cons, List.foldl_nil, Act.put, List.setIfInBounds_toArray, List.set_cons_zero, List.set_cons_succ, ln4, ln5]
              refine Stays.plain ?_ (by rfl) ?_ ?_
              rotate_left
              · go_simp
                try with_reducible rfl
              · exact rfl
            · intro g ws hws hl
              have ln6 : g 23 = _ := (show (Line.is (.pointer (some ⟨b2, off2 + k * 2, none⟩))).p (g 23) ws from linesOf_get 6 hl (by kernel_rfl))
              simp only [fillAt, List.foldl_cons, List.foldl_nil, Act.put, List.setIfInBounds_toArray, List.set_cons_zero, List.set_cons_succ, ln6]
              obtain ⟨q0, p0⟩ := hws.row (k := b) (by first | assumption | (simp; done) | (simp; omega) | omega)
              obtain ⟨q1, p1⟩ := hws.row (k := b2) (by first | assumption | (simp; done) | (simp; omega) | omega)
              refine Stays.plain ?_ (by rfl) ?_ ?_
              rotate_left
              · go_simp
                try with_reducible rfl
              · exact rfl
            · intro g ws hws hl
              have ln3 : g 20 = _ := (show (Line.is (.agg #[.int .i64 c.1, .int .i64 c.2])).p (g 20) ws from linesOf_get 3 hl (by kernel_rfl))
              have ln7 : g 24 = _ := (show (Line.is (.agg #[.int .i64 d.1, .int .i64 d.2])).p (g 24) ws from linesOf_get 7 hl (by kernel_rfl))
              simp only [fillAt, List.foldl_cons, List.foldl_nil, Act.put, List.setIfInBounds_toArray, List.set_cons_zero, List.set_cons_succ, ln3, ln7]
              refine Stays.call 116 ?_ (by rfl) ?_ ?_
              rotate_left
              · go_simp
                try with_reducible rfl
              · refine (eqRange_any c d _).mono ?_
                rintro en w5 ⟨rfl, hb5⟩
                exact ⟨_, rfl, hb5, rfl⟩
            · intro g ws hws hl
              have ln8 : g 25 = _ := (show (Line.is (.bool (decide (c = d)))).p (g 25) ws from linesOf_get 8 hl (by kernel_rfl))
              simp only [fillAt, List.foldl_cons, List.foldl_nil, Act.put, List.setIfInBounds_toArray, List.set_cons_zero, List.set_cons_succ, ln8]
              refine Stays.plain ?_ (by rfl) ?_ ?_
              rotate_left
              · go_simp
                try with_reducible rfl
              · exact rfl
          · intro g wt hwt hl
            have ln0 : g 17 = _ := (show (Line.is (.slice (some ⟨b, off, none⟩) n ca)).p (g 17) wt from (allLines_get 17 0 0 hl rfl))
            have ln1 : g 18 = _ := (show (Line.is (.int .i64 (k : Int))).p (g 18) wt from (allLines_get 18 1 0 hl rfl))
            have ln2 : g 19 = _ := (show (Line.is (.pointer (some ⟨b, off + k * 2, none⟩))).p (g 19) wt from (allLines_get 19 2 0 hl rfl))
            have ln3 : g 20 = _ := (show (Line.is (.agg #[.int .i64 c.1, .int .i64 c.2])).p (g 20) wt from (allLines_get 20 3 0 hl rfl))
            have ln4 : g 21 = _ := (show (Line.is (.slice (some ⟨b2, off2, none⟩) n cb)).p (g 21) wt from (allLines_get 21 4 0 hl rfl))
            have ln5 : g 22 = _ := (show (Line.is (.int .i64 (k : Int))).p (g 22) wt from (allLines_get 22 5 0 hl rfl))
            have ln6 : g 23 = _ := (show (Line.is (.pointer (some ⟨b2, off2 + k * 2, none⟩))).p (g 23) wt from (allLines_get 23 6 0 hl rfl))
            have ln7 : g 24 = _ := (show (Line.is (.agg #[.int .i64 d.1, .int .i64 d.2])).p (g 24) wt from (allLines_get 24 7 0 hl rfl))
            have ln8 : g 25 = _ := (show (Line.is (.bool (decide (c = d)))).p (g 25) wt from (allLines_get 25 8 0 hl rfl))
            have ln9 : g 26 = _ := (show (Line.is (.bool (!decide (c = d)))).p (g 26) wt from (allLines_get 26 9 0 hl rfl))
            clear hl
            simp only [fillAt, List.foldl_cons, List.foldl_nil, Act.put, List.setIfInBounds_toArray, List.set_cons_zero, List.set_cons_succ, ln0, ln1, ln2, ln3, ln4, ln5, ln6, ln7, ln8, ln9]

            by_cases he : c = d
            · rw [decide_eq_true he]
              have hts2 := hide (hts.out he)
              clear he
              simp only [Bool.not_true]
              go_wp2
              go_roundw
              case rel => exact ⟨k + 1, by go_num, by omega, hts2.out, hg.drew.trans hwt⟩
              case measure => simp [intOf]; omega
            · rw [decide_eq_false he]
              have hne2 := hide (hne'.out he)
              clear he
              simp only [Bool.not_false]
              go_wp2
              go_ret
              exact ⟨by simp [hne2.out], hg.drew.trans hwt⟩
        · obtain rfl : k = n := by omega
          have hxy' : Hid (xs = ys) := hide (by
            have h1 := ht'.out
            rwa [List.take_of_length_le (Nat.le_of_eq hn'.out), List.take_of_length_le (Nat.le_of_eq hm'.out)] at h1)
          clear hx hy
          go_wp2
          go_ret
          exact ⟨by simp [hxy'.out], hg⟩
  · have e1 : ((n : Int) == (m : Int)) = false := by simp; omega
    have e2 : ((n : Int) != (m : Int)) = true := by simp; omega
    have hne' : Hid (¬ xs = ys) := hide (fun h => hlen (by rw [← hn, ← hm, h]))
    clear hlen hn hm
    go_enter Try.func57, Try.ntmps57
    go_wp2
    go_ret
    exact ⟨by simp [hne'.out], Ext.refl _⟩
theorem cellR_other {w : World} {b o1 o2 : Nat} {v : Value} (h : o1 ≠ o2) : (w.setCell ⟨b, o1, none⟩ v).cell? ⟨b, o2, none⟩ = w.cell? ⟨b, o2, none⟩ :=
  World.cell?_setCell_other w ⟨b, o1, none⟩ ⟨b, o2, none⟩ v (fun e => h (by injection e))
def zeroR (n : Nat) : Array Value := madeCells #[.int .i64 0, .int .i64 0] (n * 2)
theorem zeroR_at (n j : Nat) (h : j < n) : (zeroR n)[j * 2]? = some (.int .i64 0) ∧ (zeroR n)[j * 2 + 1]? = some (.int .i64 0) := by
  have e1 : j * 2 % 2 = 0 := by omega
  have e2 : (j * 2 + 1) % 2 = 1 := by omega
  constructor
  · simp [zeroR, madeCells, show j * 2 < n * 2 by omega, e1]
  · simp [zeroR, madeCells, show j * 2 + 1 < n * 2 by omega, e2]
theorem run_make_ranges (kl kc : IntKind) (n : Nat) (hb : n ≤ 4194304) (w : World) :
    (Instr.makeSlice 30 (.int kl (n : Int)) (.int kc (n : Int))).run Try.prog w = .ok (.slice (some ⟨w.heap.size, 0, none⟩) n n) (w.alloc (.cells (zeroR n) 61)) := by
  obtain ⟨i, hi, hzz⟩ := Option.map_eq_some_iff.1 infoRange
  simp only [Prod.mk.injEq] at hzz
  obtain ⟨hz, hs, hbb⟩ := hzz
  have hr := run_make (P := Try.prog) w 30 61 i _ Try.underlying30 hi hz kl kc n n (by omega) (Int.le_refl _) (by rw [hbb]; omega) (by omega)
  simp only [Int.toNat_natCast, hs] at hr
  exact hr
set_option maxHeartbeats 1000000 in
theorem toRangeS_any (ao : Option Addr) (n ca : Nat) (cs : List Rg) (w : World) (hx : ReadR w ao cs) (hn : cs.length = n) (hl : n ≤ 1048576) :
    Calls Try.prog 54 #[.slice ao n ca] w (NewR cs w) := by
  have hmk := fun w => run_make_ranges .i64 .i64 n (by omega) w
  rcases Nat.eq_zero_or_pos n with rfl | hpos
  · obtain rfl : cs = [] := List.eq_nil_of_length_eq_zero hn
    have hmk0 : ∀ w, (Instr.makeSlice 30 (.int .i64 0) (.int .i64 0)).run Try.prog w = .ok (.slice (some ⟨w.heap.size, 0, none⟩) 0 0) (w.alloc (.cells (zeroR 0) 61)) := fun w => run_make_ranges .i64 .i64 0 (by omega) w
    clear hx hn hmk
    go_enter Try.func54, Try.ntmps54
    go_wp2
    go_loop [4] (fun i => i = .int .i64 0) (fun _ => 0)
    case atStart => rfl
    case round =>
      obtain rfl := hrel
      go_wp2
      go_ret
      exact ⟨_, _, rfl, Or.inl rfl, (Ext.refl _).alloc _⟩
  · rcases hx with rfl | ⟨b, off, rfl, hx⟩
    · simp at hn; omega
    have hb : b < w.heap.size := World.block_lt_of_cell? w _ (hx 0 (by omega)).1
    rw [hn] at hx
    have hn' := hide hn
    clear hn
    have hl' : (n : Int) ≤ 1048576 := by omega
    have hx' := hide hx
    clear hx
    go_enter Try.func54, Try.ntmps54
    go_wp2
    go_loopw [4] (fun i wr => ∃ k : Nat, i = .int .i64 k ∧ k ≤ n ∧ (∀ o, wr.frozen? ⟨w.heap.size, o, none⟩ = false) ∧ Hid (∀ j : Nat, j < n → wr.cell? ⟨w.heap.size, j * 2, none⟩ = some (.int .i64 (if j < k then (cs.getD j dr).1 else 0)) ∧ wr.cell? ⟨w.heap.size, j * 2 + 1, none⟩ = some (.int .i64 (if j < k then (cs.getD j dr).2 else 0))) ∧ Ext w wr ∧ w.heap.size < wr.heap.size) (fun i _ => n - (intOf i).toNat)
    case atStart =>
      refine ⟨0, rfl, by omega, fun o => by simp, hide (fun j hj => ?_), (Ext.refl _).alloc _, by simp⟩
      obtain ⟨z1, z2⟩ := zeroR_at n j hj
      rw [World.cell?_alloc_at _ _ _ _ rfl, World.cell?_alloc_at _ _ _ _ rfl, if_neg (by omega), if_neg (by omega)]
      exact ⟨z1, z2⟩
    case round =>
      obtain ⟨k, rfl, hk, hfr, hcells, hg, hsz⟩ := hrel
      by_cases hlt : k < n
      · obtain ⟨cx, cy⟩ := hx'.out k hlt
        have hr := (hg.row hb).1
        have dx := (hr _).trans cx
        have dy := (hr _).trans cy
        clear cx cy hr
        have i1 : (0 : Int) ≤ (k : Int) := by omega
        have i2 : (k : Int) < (n : Int) := by omega
        go_wp2_with fail
        refine (toRange_any _ _ _).mono ?_
        rintro en w1 ⟨rfl, hb1⟩
        obtain ⟨r1, r2⟩ := hb1.row hsz
        have k1 := hb1.size
        have hfr1 : ∀ o, w1.frozen? ⟨w.heap.size, o, none⟩ = false := fun o => (r2 o).trans (hfr o)
        have hc1 : Hid (∀ j : Nat, j < n → w1.cell? ⟨w.heap.size, j * 2, none⟩ = some (.int .i64 (if j < k then (cs.getD j dr).1 else 0)) ∧ w1.cell? ⟨w.heap.size, j * 2 + 1, none⟩ = some (.int .i64 (if j < k then (cs.getD j dr).2 else 0))) := hide (fun j hj => ⟨(r1 _).trans (hcells.out j hj).1, (r1 _).trans (hcells.out j hj).2⟩)
        obtain ⟨e1, e2⟩ := hc1.out k hlt
        rw [if_neg (by omega)] at e1 e2
        clear r1 r2 hfr
        go_wp2
        go_roundw
        case rel =>
          refine ⟨k + 1, by go_num, by omega, fun o => ?_, hide (fun j hj => ?_), Ext.set (by simp) (Ext.set (by simp) (hg.trans hb1) _) _, by simp [World.setCell]; omega⟩
          · rw [World.frozen?_setCell, World.frozen?_setCell]; exact hfr1 o
          · by_cases hjk : j = k
            · subst hjk
              rw [if_pos (by omega), if_pos (by omega)]
              constructor
              · rw [cellR_other (by omega), World.cell?_setCell_same' _ _ _ (by rw [e1]; rfl)]; rfl
              · rw [World.cell?_setCell_same' _ _ _ (by rw [cellR_other (by omega), e2]; rfl)]; rfl
            · obtain ⟨f1, f2⟩ := hc1.out j hj
              have hif : (j < k + 1) = (j < k) := propext ⟨fun h => by omega, fun h => by omega⟩
              simp only [hif]
              constructor
              · rw [cellR_other (by omega), cellR_other (by omega)]; exact f1
              · rw [cellR_other (by omega), cellR_other (by omega)]; exact f2
        case measure => simp [intOf]; omega
      · obtain rfl : k = n := by omega
        go_wp2
        go_ret
        refine ⟨some ⟨w.heap.size, 0, none⟩, k, by simp [hn'.out], Or.inr ⟨w.heap.size, 0, rfl, Nat.le_refl _, hsz, hfr, fun j hj => ?_⟩, hg⟩
        rw [hn'.out] at hj
        obtain ⟨e1, e2⟩ := hcells.out j hj
        rw [if_pos hj] at e1 e2
        rw [Nat.zero_add]
        exact ⟨e1, e2⟩
/-- The marks of n ranges, from number k on. -/
def marksR (k : Int) (n : Nat) : List Rg := (List.range n).map fun (j : Nat) => (k + 2 * (j : Int), k + 2 * (j : Int) + 1)
theorem marksR_length (k : Int) (n : Nat) : (marksR k n).length = n := by simp [marksR]
theorem marksR_getD (k : Int) (n j : Nat) (h : j < n) : (marksR k n).getD j dr = (k + 2 * (j : Int), k + 2 * (j : Int) + 1) := by
  simp [marksR, List.getD, h]
def MarkedR (lo hi : Nat) (ao : Option Addr) (k0 : Int) (n : Nat) (w : World) (e : Ending) (w' : World) : Prop :=
  e = .returned (.int .i64 (k0 + 2 * (n : Int))) ∧ OwnR lo hi w' ao (marksR k0 n) ∧ Chg (fun b => lo ≤ b ∧ b < hi) w w'
set_option maxHeartbeats 2000000 in
theorem rangeS_mark (lo hi : Nat) (ao : Option Addr) (n cap : Nat) (cs : List Rg) (k0 : Int) (w : World) (hx : OwnR lo hi w ao cs) (hn : cs.length = n) (hl : n ≤ 4611686018427387904) (h0 : 0 < k0) (h1 : k0 ≤ 16777216) (hl2 : (n : Int) ≤ 1048576) :
    Calls Try.prog 59 #[.slice ao n cap, .int .i64 k0] w (MarkedR lo hi ao k0 n w) := by
  clear hl
  rcases Nat.eq_zero_or_pos n with rfl | hpos
  · clear hx hn
    go_enter Try.func59, Try.ntmps59
    go_wp2
    go_loop [1, 5] (fun q i => i = .int .i64 0 ∧ q = .int .i64 k0) (fun _ _ => 0)
    case atStart => exact ⟨rfl, rfl⟩
    case round =>
      obtain ⟨rfl, rfl⟩ := hrel
      go_wp2
      go_ret
      exact ⟨by simp, Or.inl (by simp [marksR]), Chg.refl _ _⟩
  · rcases hx with rfl | ⟨b, off, rfl, hlo, hhi, hf, hx⟩
    · simp at hn; omega
    rw [hn] at hx
    have hbw := World.block_lt_of_cell? w _ (hx 0 hpos).1
    clear hn
    have hx' := hide hx
    clear hx
    go_enter Try.func59, Try.ntmps59
    go_wp2
    go_loopw [1, 5] (fun q i wr => ∃ k : Nat, i = .int .i64 k ∧ k ≤ n ∧ q = .int .i64 (k0 + 2 * (k : Int)) ∧ (∀ o, wr.frozen? ⟨b, o, none⟩ = false) ∧ Hid (∀ j : Nat, j < n → wr.cell? ⟨b, off + j * 2, none⟩ = some (.int .i64 (if j < k then k0 + 2 * (j : Int) else (cs.getD j dr).1)) ∧ wr.cell? ⟨b, off + j * 2 + 1, none⟩ = some (.int .i64 (if j < k then k0 + 2 * (j : Int) + 1 else (cs.getD j dr).2))) ∧ Chg (fun b' => b' = b) w wr) (fun _ i _ => n - (intOf i).toNat)
    case atStart => exact ⟨0, rfl, by omega, by simp, hf, hide (fun j hj => by rw [if_neg (by omega), if_neg (by omega)]; exact hx'.out j hj), Chg.refl _ _⟩
    case round =>
      obtain ⟨k, rfl, hk, rfl, hfr, hcells, hg⟩ := hrel
      have hsz := hg.size
      by_cases hlt : k < n
      · obtain ⟨cx, cy⟩ := hcells.out k hlt
        have i1 : (0 : Int) ≤ (k : Int) := by omega
        have i2 : (k : Int) < (n : Int) := by omega
        rw [if_neg (by omega)] at cx cy
        have hfa : wr.frozen? ⟨b, off + k * 2, none⟩ = false := hfr _
        have hfb : wr.frozen? ⟨b, off + k * 2 + 1, none⟩ = false := hfr _
        have hoth : Hid (∀ o, o ≠ off + k * 2 → o ≠ off + k * 2 + 1 → ((wr.setCell ⟨b, off + k * 2, none⟩ (.int .i64 (k0 + 2 * (k : Int)))).setCell ⟨b, off + k * 2 + 1, none⟩ (.int .i64 (k0 + 2 * (k : Int) + 1))).cell? ⟨b, o, none⟩ = wr.cell? ⟨b, o, none⟩) := hide fun o h1 h2 => by rw [cellR_other (Ne.symm h2), cellR_other (Ne.symm h1)]
        have hc0 : ((wr.setCell ⟨b, off + k * 2, none⟩ (.int .i64 (k0 + 2 * (k : Int)))).setCell ⟨b, off + k * 2 + 1, none⟩ (.int .i64 (k0 + 2 * (k : Int) + 1))).cell? ⟨b, off + k * 2, none⟩ = some (.int .i64 (k0 + 2 * (k : Int))) := by rw [cellR_other (by omega), World.cell?_setCell_same' _ _ _ (by rw [cx]; rfl)]
        have hc1 : ((wr.setCell ⟨b, off + k * 2, none⟩ (.int .i64 (k0 + 2 * (k : Int)))).setCell ⟨b, off + k * 2 + 1, none⟩ (.int .i64 (k0 + 2 * (k : Int) + 1))).cell? ⟨b, off + k * 2 + 1, none⟩ = some (.int .i64 (k0 + 2 * (k : Int) + 1)) := by rw [World.cell?_setCell_same' _ _ _ (by rw [cellR_other (by omega), cy]; rfl)]
        have hcc := hide (And.intro hc0 hc1)
        clear hc0 hc1
        go_wp2
        go_roundw
        case rel =>
          refine ⟨k + 1, by go_num, by omega, by congr 1; omega, fun o => ?_, hide (fun j hj => ?_), Chg.set (S := fun b' => b' = b) (Or.inl rfl) (Chg.set (S := fun b' => b' = b) (Or.inl rfl) hg _) _⟩
          · rw [World.frozen?_setCell, World.frozen?_setCell]; exact hfr o
          · by_cases hjk : j = k
            · subst hjk
              rw [if_pos (by omega), if_pos (by omega)]
              exact hcc.out
            · rw [hoth.out _ (by omega) (by omega), hoth.out _ (by omega) (by omega), (hcells.out j hj).1, (hcells.out j hj).2]
              refine ⟨?_, ?_⟩
              · congr 3
                exact propext ⟨fun h => by omega, fun h => by omega⟩
              · congr 3
                exact propext ⟨fun h => by omega, fun h => by omega⟩
        case measure => simp [intOf]; omega
      · obtain rfl : k = n := by omega
        go_wp2
        go_ret
        refine ⟨rfl, Or.inr ⟨b, off, rfl, hlo, hhi, hfr, fun j hj => ?_⟩, hg.mono fun k _ h => by subst h; exact ⟨hlo, hhi⟩⟩
        rw [marksR_length] at hj
        rw [marksR_getD _ _ _ hj]
        have := hcells.out j hj
        rw [if_pos hj, if_pos hj] at this
        exact this
set_option maxHeartbeats 2000000 in
theorem rangeS_held (ao : Option Addr) (n cap : Nat) (k0 : Int) (w : World) (hx : ReadR w ao (marksR k0 n)) (h0 : 0 < k0) (h1 : k0 ≤ 16777216) (hl2 : (n : Int) ≤ 1048576) :
    Calls Try.prog 61 #[.slice ao n cap, .int .i64 k0] w fun e w' => e = .returned (.int .i64 (k0 + 2 * (n : Int))) ∧ Ext w w' := by
  rcases Nat.eq_zero_or_pos n with rfl | hpos
  · clear hx
    go_enter Try.func61, Try.ntmps61
    go_wp2
    go_loop [1, 5] (fun q i => i = .int .i64 0 ∧ q = .int .i64 k0) (fun _ _ => 0)
    case atStart => exact ⟨rfl, rfl⟩
    case round =>
      obtain ⟨rfl, rfl⟩ := hrel
      go_wp2
      go_ret
      exact ⟨by simp, Ext.refl _⟩
  · rcases hx with hx | ⟨b, off, rfl, hx⟩
    · have := congrArg List.length hx
      rw [marksR_length] at this
      simp at this; omega
    rw [marksR_length] at hx
    have hbw := World.block_lt_of_cell? w _ (hx 0 hpos).1
    have hx' := hide hx
    clear hx
    go_enter Try.func61, Try.ntmps61
    go_wp2
    go_loop [1, 5] (fun q i => ∃ k : Nat, i = .int .i64 k ∧ k ≤ n ∧ q = .int .i64 (k0 + 2 * (k : Int))) (fun _ i => n - (intOf i).toNat)
    case atStart => exact ⟨0, rfl, by omega, by simp⟩
    case round =>
      obtain ⟨k, rfl, hk, rfl⟩ := hrel
      by_cases hlt : k < n
      · obtain ⟨cx, cy⟩ := hx'.out k hlt
        rw [marksR_getD _ _ _ hlt] at cx cy
        dsimp only at cx cy
        have i1 : (0 : Int) ≤ (k : Int) := by omega
        have i2 : (k : Int) < (n : Int) := by omega
        go_wp2
        go_round
        case rel => exact ⟨k + 1, by go_num, by omega, by congr 1; omega⟩
        case measure => simp [intOf]; omega
      · obtain rfl : k = n := by omega
        go_wp2
        go_ret
        exact ⟨rfl, Ext.refl _⟩
end Go.Proofs.Ytjhgcbchdnoleaa

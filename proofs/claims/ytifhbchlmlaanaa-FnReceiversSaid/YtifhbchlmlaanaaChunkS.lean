/-
  Contracts of szChunkS, eqChunkS, toChunkS. Conditions: the slices can be read.
-/
import Derived.Test.YtifhbchlmlaanaaChunk
import Derived.Test.YtifhbchlmlaanaaTable
namespace Go.Proofs.Ytifhbchlmlaanaa
open Go.ChangeShapes Go.WideShapes Go.ChangeAt Go.RowKit
set_option linter.unusedSimpArgs false
set_option maxHeartbeats 1000000 in
theorem szChunkS_any (ao : Option Addr) (n ca : Nat) (cs : List Ck) (left : Int) (w : World) (hx : ReadC w ao cs) (hn : cs.length = n) (hl : (n : Int) ≤ 9223372036854775807) (h0 : 0 ≤ left) (h1 : left ≤ 1048576) (hz : ∀ c ∈ cs, (c.2.size : Int) ≤ 9223372036854775807) :
    Calls Try.prog 103 #[.slice ao n ca, .int .i64 left] w fun e w' => e = .returned (.int .i64 (if left < (n : Int) + (tot cs : Int) then -1 else left - n - (tot cs : Int))) ∧ Ext w w' := by
  by_cases h : left < n
  · rw [if_pos (by omega)]
    clear hx hz
    go_enter Try.func103, Try.ntmps103
    go_wp2
    go_ret
    exact ⟨rfl, Ext.refl _⟩
  · rcases Nat.eq_zero_or_pos n with rfl | hpos
    · obtain rfl : cs = [] := List.eq_nil_of_length_eq_zero hn
      clear hx hn hz
      rw [if_neg (by simp [tot]; omega)]
      go_enter Try.func103, Try.ntmps103
      go_wp2
      go_loop [1, 5] (fun l i => l = .int .i64 left ∧ i = .int .i64 0) (fun _ _ => 0)
      case atStart => exact ⟨by simp, rfl⟩
      case round =>
        obtain ⟨rfl, rfl⟩ := hrel
        go_wp2
        go_ret
        exact ⟨by simp [tot], Ext.refl _⟩
    · rcases hx with rfl | ⟨bx, off, rfl, hx⟩
      · simp at hn; omega
      rw [hn] at hx
      have hn' := hide hn
      have hz' := hide hz
      have hm0 : (0 : Int) ≤ (n : Int) := by omega
      clear hn hz
      go_enter Try.func103, Try.ntmps103
      go_wp2
      go_loopw [1, 5] (fun l i wr => ∃ k : Nat, i = .int .i64 k ∧ k ≤ n ∧ l = .int .i64 (left - n - (tot (cs.take k) : Int)) ∧ (n : Int) + (tot (cs.take k) : Int) ≤ left ∧ Ext w wr) (fun _ i _ => n - (intOf i).toNat)
      case atStart => exact ⟨0, rfl, by omega, by simp [tot], by simp [tot]; omega, Ext.refl _⟩
      case round =>
        obtain ⟨k, rfl, hk, rfl, hle, hg⟩ := hrel
        by_cases hlt : k < n
        · obtain ⟨cx, cy⟩ := hx k hlt
          have la := World.block_lt_of_cell? w _ cx
          have hr := (hg.row la).1
          have cx' : wr.cell? ⟨bx, off + k * 2, none⟩ = some (.int .i64 (cs.getD k dk).1) := (hr _).trans cx
          have cy' : wr.cell? ⟨bx, off + k * 2 + 1, none⟩ = some (.string (cs.getD k dk).2) := (hr _).trans cy
          have i1 : (0 : Int) ≤ (k : Int) := by omega
          have i2 : (k : Int) < (n : Int) := by omega
          have hkx : k < cs.length := by rw [hn'.out]; exact hlt
          have htk := hide (tot_take cs hkx)
          have hts := tot_take_le cs (k + 1)
          rw [htk.out] at hts
          have hzk := hz'.out (cs.getD k dk) (by simp [List.getD, List.getElem?_eq_getElem hkx])
          clear hx cx cy hr
          generalize tot (cs.take k) = tk at *
          generalize cs.getD k dk = c at *
          by_cases hlt2 : left - n - (tk : Int) < c.2.size
          · go_wp2_with fail
            refine (szChunk_any _ _ _ _ (by omega) (by omega) hzk).mono ?_
            rintro en w1 ⟨rfl, hb1⟩
            rw [if_pos hlt2]
            go_wp2
            go_ret
            exact ⟨by first | rfl | (rw [if_pos (by omega)]; rfl), hg.trans hb1⟩
          · have hnn : decide (left - (n : Int) - (tk : Int) - (c.2.size : Int) < 0) = false := by simp; omega
            go_wp2_with fail
            refine (szChunk_any _ _ _ _ (by omega) (by omega) hzk).mono ?_
            rintro en w1 ⟨rfl, hb1⟩
            rw [if_neg (by omega)]
            go_wp2
            go_roundw
            case rel => exact ⟨k + 1, by go_num, by omega, by rw [htk.out]; congr 1; omega, by rw [htk.out]; omega, hg.trans hb1⟩
            case measure => simp [intOf]; omega
        · obtain rfl : k = n := by omega
          have hall : cs.take k = cs := List.take_of_length_le (Nat.le_of_eq hn'.out)
          rw [hall] at hle
          go_wp2
          go_ret
          exact ⟨by first | rfl | (simp only [hall]; rfl) | (rw [if_neg (by omega)]; simp only [hall]; rfl), hg⟩
set_option maxHeartbeats 1000000 in
theorem eqChunkS_any (ao bo : Option Addr) (n m ca cb : Nat) (xs ys : List Ck) (w : World) (hx : ReadC w ao xs) (hy : ReadC w bo ys) (hn : xs.length = n) (hm : ys.length = m) (hl : (n : Int) ≤ 9223372036854775807) :
    Calls Try.prog 100 #[.slice ao n ca, .slice bo m cb] w fun e w' => e = .returned (.bool (decide (xs = ys))) ∧ Ext w w' := by
  by_cases hlen : n = m
  · subst hlen
    rcases Nat.eq_zero_or_pos n with rfl | hpos
    · obtain rfl : xs = [] := List.eq_nil_of_length_eq_zero hn
      obtain rfl : ys = [] := List.eq_nil_of_length_eq_zero hm
      clear hx hy hn hm
      go_enter Try.func100, Try.ntmps100
      go_wp2
      go_loop [5] (fun i => i = .int .i64 0) (fun _ => 0)
      case atStart => rfl
      case round =>
        obtain rfl := hrel
        go_wp2
        go_ret
        exact ⟨by simp, Ext.refl _⟩
    · rcases hx with rfl | ⟨b, off, rfl, hx⟩
      · simp at hn; omega
      rcases hy with rfl | ⟨b2, off2, rfl, hy⟩
      · simp at hm; omega
      rw [hn] at hx
      rw [hm] at hy
      have hn' := hide hn
      have hm' := hide hm
      clear hn hm
      go_enter Try.func100, Try.ntmps100
      go_wp2
      go_loopw [5] (fun i wr => ∃ k : Nat, i = .int .i64 k ∧ k ≤ n ∧ xs.take k = ys.take k ∧ Ext w wr) (fun i _ => n - (intOf i).toNat)
      case atStart => exact ⟨0, rfl, by omega, by simp, Ext.refl _⟩
      case round =>
        obtain ⟨k, rfl, hk, ht, hg⟩ := hrel
        have ht' := hide ht
        clear ht
        by_cases hlt : k < n
        · obtain ⟨cx, cx2⟩ := hx k hlt
          obtain ⟨cy, cy2⟩ := hy k hlt
          have hr := (hg.row (World.block_lt_of_cell? w _ cx)).1
          have hr2 := (hg.row (World.block_lt_of_cell? w _ cy)).1
          have dx := (hr _).trans cx
          have dx2 := (hr _).trans cx2
          have dy := (hr2 _).trans cy
          have dy2 := (hr2 _).trans cy2
          have lb := World.block_lt_of_cell? wr _ dx
          have lb2 := World.block_lt_of_cell? wr _ dy
          have i1 : (0 : Int) ≤ (k : Int) := by omega
          have i2 : (k : Int) < (n : Int) := by omega
          have hkx : k < xs.length := by rw [hn'.out]; exact hlt
          have hky : k < ys.length := by rw [hm'.out]; exact hlt
          clear hx hy cx cx2 cy cy2 hr hr2
          have hts : Hid (xs.getD k dk = ys.getD k dk → xs.take (k + 1) = ys.take (k + 1)) := hide (fun he => takeC_eq hkx hky ht'.out he)
          have hne' : Hid (¬ xs.getD k dk = ys.getD k dk → ¬ xs = ys) := hide (fun he => ne_of_getC he)
          generalize xs.getD k dk = c at *
          generalize ys.getD k dk = d at *
          go_wp2_with fail
          refine wp_region_lines [Line.is (.slice (some ⟨b, off, none⟩) n ca), Line.is (.int .i64 (k : Int)), Line.is (.pointer (some ⟨b, off + k * 2, none⟩)), Line.is (.agg #[.int .i64 c.1, .string c.2]), Line.is (.slice (some ⟨b2, off2, none⟩) n cb), Line.is (.int .i64 (k : Int)), Line.is (.pointer (some ⟨b2, off2 + k * 2, none⟩)), Line.is (.agg #[.int .i64 d.1, .string d.2]), Line.is (.bool (decide (c = d))), Line.is (.bool (!decide (c = d)))] [17, 18, 19, 20, 21, 22, 23, 24, 25, 26] (by kernel_rfl) (by kernel_rfl) (by kernel_rfl) (by kernel_rfl) (by kernel_rfl) ?_ ?_
          · refine Each.cons ?_ (Each.cons ?_ (Each.cons ?_ (Each.cons ?_ (Each.cons ?_ (Each.cons ?_ (Each.cons ?_ (Each.cons ?_ (Each.cons ?_ (Each.cons ?_ (Each.nil))))))))))
            · intro g ws hws hl
              simp only [fillAt, List.foldl_cons, List.foldl_nil, Act.put, List.setIfInBounds_toArray, List.set_cons_zero, List.set_cons_succ]
              refine Stays.plain ?_ (by rfl) ?_ ?_
              rotate_left
              · go_simp
                try with_reducible rfl
              · exact rfl
            · intro g ws hws hl
              simp only [fillAt, List.foldl_cons, List.foldl_nil, Act.put, List.setIfInBounds_toArray, List.set_cons_zero, List.set_cons_succ]
              refine Stays.plain ?_ (by rfl) ?_ ?_
              rotate_left
              · go_simp
                try with_reducible rfl
              · exact rfl
            · intro g ws hws hl
              have ln0 : g 17 = _ := (show (Line.is (.slice (some ⟨b, off, none⟩) n ca)).p (g 17) ws from linesOf_get 0 hl (by kernel_rfl))
              have ln1 : g 18 = _ := (show (Line.is (.int .i64 (k : Int))).p (g 18) ws from linesOf_get 1 hl (by kernel_rfl))
              simp only [fillAt, List.foldl_cons, List.foldl_nil, Act.put, List.setIfInBounds_toArray, List.set_cons_zero, List.set_cons_succ, ln0, ln1]
              refine Stays.plain ?_ (by rfl) ?_ ?_
              rotate_left
              · go_simp
                try with_reducible rfl
              · exact rfl
            · intro g ws hws hl
              have ln2 : g 19 = _ := (show (Line.is (.pointer (some ⟨b, off + k * 2, none⟩))).p (g 19) ws from linesOf_get 2 hl (by kernel_rfl))
              simp only [fillAt, List.foldl_cons, List.foldl_nil, Act.put, List.setIfInBounds_toArray, List.set_cons_zero, List.set_cons_succ, ln2]
              obtain ⟨q0, p0⟩ := hws.row (k := b) (by first | assumption | (simp; done) | (simp; omega) | omega)
              obtain ⟨q1, p1⟩ := hws.row (k := b2) (by first | assumption | (simp; done) | (simp; omega) | omega)
              refine Stays.plain ?_ (by rfl) ?_ ?_
              rotate_left
              · go_simp
                try with_reducible rfl
              · exact rfl
            · intro g ws hws hl
              simp only [fillAt, List.foldl_cons, List.foldl_nil, Act.put, List.setIfInBounds_toArray, List.set_cons_zero, List.set_cons_succ]
              refine Stays.plain ?_ (by rfl) ?_ ?_
              rotate_left
              · go_simp
                try with_reducible rfl
              · exact rfl
            · intro g ws hws hl
              simp only [fillAt, List.foldl_cons, List.foldl_nil, Act.put, List.setIfInBounds_toArray, List.set_cons_zero, List.set_cons_succ]
              refine Stays.plain ?_ (by rfl) ?_ ?_
              rotate_left
              · go_simp
                try with_reducible rfl
              · exact rfl
            · intro g ws hws hl
              have ln4 : g 21 = _ := (show (Line.is (.slice (some ⟨b2, off2, none⟩) n cb)).p (g 21) ws from linesOf_get 4 hl (by kernel_rfl))
              have ln5 : g 22 = _ := (show (Line.is (.int .i64 (k : Int))).p (g 22) ws from linesOf_get 5 hl (by kernel_rfl))
              simp only [fillAt, List.foldl_cons, List.foldl_nil, Act.put, List.setIfInBounds_toArray, List.set_cons_zero, List.set_cons_succ, ln4, ln5]
              refine Stays.plain ?_ (by rfl) ?_ ?_
              rotate_left
              · go_simp
                try with_reducible rfl
              · exact rfl
            · intro g ws hws hl
              have ln6 : g 23 = _ := (show (Line.is (.pointer (some ⟨b2, off2 + k * 2, none⟩))).p (g 23) ws from linesOf_get 6 hl (by kernel_rfl))
              simp only [fillAt, List.foldl_cons, List.foldl_nil, Act.put, List.setIfInBounds_toArray, List.set_cons_zero, List.set_cons_succ, ln6]
              obtain ⟨q0, p0⟩ := hws.row (k := b) (by first | assumption | (simp; done) | (simp; omega) | omega)
              obtain ⟨q1, p1⟩ := hws.row (k := b2) (by first | assumption | (simp; done) | (simp; omega) | omega)
              refine Stays.plain ?_ (by rfl) ?_ ?_
              rotate_left
              · go_simp
                try with_reducible rfl
              · exact rfl
            · intro g ws hws hl
              have ln3 : g 20 = _ := (show (Line.is (.agg #[.int .i64 c.1, .string c.2])).p (g 20) ws from linesOf_get 3 hl (by kernel_rfl))
              have ln7 : g 24 = _ := (show (Line.is (.agg #[.int .i64 d.1, .string d.2])).p (g 24) ws from linesOf_get 7 hl (by kernel_rfl))
              simp only [fillAt, List.foldl_cons, List.foldl_nil, Act.put, List.setIfInBounds_toArray, List.set_cons_zero, List.set_cons_succ, ln3, ln7]
              refine Stays.call 114 ?_ (by rfl) ?_ ?_
              rotate_left
              · go_simp
                try with_reducible rfl
              · refine (eqChunk_any c d _).mono ?_
                rintro en w5 ⟨rfl, hb5⟩
                exact ⟨_, rfl, hb5, rfl⟩
            · intro g ws hws hl
              have ln8 : g 25 = _ := (show (Line.is (.bool (decide (c = d)))).p (g 25) ws from linesOf_get 8 hl (by kernel_rfl))
              simp only [fillAt, List.foldl_cons, List.foldl_nil, Act.put, List.setIfInBounds_toArray, List.set_cons_zero, List.set_cons_succ, ln8]
              refine Stays.plain ?_ (by rfl) ?_ ?_
              rotate_left
              · go_simp
                try with_reducible rfl
              · exact rfl
          · intro g wt hwt hl
            have ln0 : g 17 = _ := (show (Line.is (.slice (some ⟨b, off, none⟩) n ca)).p (g 17) wt from (allLines_get 17 0 0 hl rfl))
            have ln1 : g 18 = _ := (show (Line.is (.int .i64 (k : Int))).p (g 18) wt from (allLines_get 18 1 0 hl rfl))
            have ln2 : g 19 = _ := (show (Line.is (.pointer (some ⟨b, off + k * 2, none⟩))).p (g 19) wt from (allLines_get 19 2 0 hl rfl))
            have ln3 : g 20 = _ := (show (Line.is (.agg #[.int .i64 c.1, .string c.2])).p (g 20) wt from (allLines_get 20 3 0 hl rfl))
            have ln4 : g 21 = _ := (show (Line.is (.slice (some ⟨b2, off2, none⟩) n cb)).p (g 21) wt from (allLines_get 21 4 0 hl rfl))
            have ln5 : g 22 = _ := (show (Line.is (.int .i64 (k : Int))).p (g 22) wt from (allLines_get 22 5 0 hl rfl))
            have ln6 : g 23 = _ := (show (Line.is (.pointer (some ⟨b2, off2 + k * 2, none⟩))).p (g 23) wt from (allLines_get 23 6 0 hl rfl))
            have ln7 : g 24 = _ := (show (Line.is (.agg #[.int .i64 d.1, .string d.2])).p (g 24) wt from (allLines_get 24 7 0 hl rfl))
            have ln8 : g 25 = _ := (show (Line.is (.bool (decide (c = d)))).p (g 25) wt from (allLines_get 25 8 0 hl rfl))
            have ln9 : g 26 = _ := (show (Line.is (.bool (!decide (c = d)))).p (g 26) wt from (allLines_get 26 9 0 hl rfl))
            clear hl
            simp only [fillAt, List.foldl_cons, List.foldl_nil, Act.put, List.setIfInBounds_toArray, List.set_cons_zero, List.set_cons_succ, ln0, ln1, ln2, ln3, ln4, ln5, ln6, ln7, ln8, ln9]

            by_cases he : c = d
            · rw [decide_eq_true he]
              have hts2 := hide (hts.out he)
              clear he
              simp only [Bool.not_true]
              go_wp2
              go_roundw
              case rel => exact ⟨k + 1, by go_num, by omega, hts2.out, hg.drew.trans hwt⟩
              case measure => simp [intOf]; omega
            · rw [decide_eq_false he]
              have hne2 := hide (hne'.out he)
              clear he
              simp only [Bool.not_false]
              go_wp2
              go_ret
              exact ⟨by simp [hne2.out], hg.drew.trans hwt⟩
        · obtain rfl : k = n := by omega
          have hxy' : Hid (xs = ys) := hide (by
            have h1 := ht'.out
            rwa [List.take_of_length_le (Nat.le_of_eq hn'.out), List.take_of_length_le (Nat.le_of_eq hm'.out)] at h1)
          clear hx hy
          go_wp2
          go_ret
          exact ⟨by simp [hxy'.out], hg⟩
  · have e1 : ((n : Int) == (m : Int)) = false := by simp; omega
    have e2 : ((n : Int) != (m : Int)) = true := by simp; omega
    have hne' : Hid (¬ xs = ys) := hide (fun h => hlen (by rw [← hn, ← hm, h]))
    clear hlen hn hm
    go_enter Try.func100, Try.ntmps100
    go_wp2
    go_ret
    exact ⟨by simp [hne'.out], Ext.refl _⟩
theorem cellC_other {w : World} {b o1 o2 : Nat} {v : Value} (h : o1 ≠ o2) : (w.setCell ⟨b, o1, none⟩ v).cell? ⟨b, o2, none⟩ = w.cell? ⟨b, o2, none⟩ :=
  World.cell?_setCell_other w ⟨b, o1, none⟩ ⟨b, o2, none⟩ v (fun e => h (by injection e))
theorem infoChunk : (Try.prog.info? 98).map (fun i => (i.zero, i.size, i.bytes)) = some (some (.agg #[.int .i64 0, .string ⟨#[]⟩]), 2, 24) := by kernel_rfl
def zeroC (n : Nat) : Array Value := madeCells #[.int .i64 0, .string ⟨#[]⟩] (n * 2)
theorem zeroC_at (n j : Nat) (h : j < n) : (zeroC n)[j * 2]? = some (.int .i64 0) ∧ (zeroC n)[j * 2 + 1]? = some (.string ⟨#[]⟩) := by
  have e1 : j * 2 % 2 = 0 := by omega
  have e2 : (j * 2 + 1) % 2 = 1 := by omega
  constructor
  · simp [zeroC, madeCells, show j * 2 < n * 2 by omega, e1]
  · simp [zeroC, madeCells, show j * 2 + 1 < n * 2 by omega, e2]
theorem run_make_chunks (kl kc : IntKind) (n : Nat) (hb : n ≤ 4194304) (w : World) :
    (Instr.makeSlice 22 (.int kl (n : Int)) (.int kc (n : Int))).run Try.prog w = .ok (.slice (some ⟨w.heap.size, 0, none⟩) n n) (w.alloc (.cells (zeroC n) 98)) := by
  obtain ⟨i, hi, hzz⟩ := Option.map_eq_some_iff.1 infoChunk
  simp only [Prod.mk.injEq] at hzz
  obtain ⟨hz, hs, hbb⟩ := hzz
  have hr := run_make (P := Try.prog) w 22 98 i _ Try.underlying22 hi hz kl kc n n (by omega) (Int.le_refl _) (by rw [hbb]; omega) (by omega)
  simp only [Int.toNat_natCast, hs] at hr
  exact hr
/-- A new slice that holds cs. -/
def NewC (cs : List Ck) (w : World) (e : Ending) (w' : World) : Prop :=
  ∃ (ao : Option Addr) (cap : Nat), e = .returned (.slice ao cs.length cap) ∧ OwnC w.heap.size w'.heap.size w' ao cs ∧ Ext w w'
set_option maxHeartbeats 1000000 in
theorem toChunkS_any (ao : Option Addr) (n ca : Nat) (cs : List Ck) (w : World) (hx : ReadC w ao cs) (hn : cs.length = n) (hl : n ≤ 1048576) :
    Calls Try.prog 104 #[.slice ao n ca] w (NewC cs w) := by
  have hmk := fun w => run_make_chunks .i64 .i64 n (by omega) w
  rcases Nat.eq_zero_or_pos n with rfl | hpos
  · obtain rfl : cs = [] := List.eq_nil_of_length_eq_zero hn
    have hmk0 : ∀ w, (Instr.makeSlice 22 (.int .i64 0) (.int .i64 0)).run Try.prog w = .ok (.slice (some ⟨w.heap.size, 0, none⟩) 0 0) (w.alloc (.cells (zeroC 0) 98)) := fun w => run_make_chunks .i64 .i64 0 (by omega) w
    clear hx hn hmk
    go_enter Try.func104, Try.ntmps104
    go_wp2
    go_loop [4] (fun i => i = .int .i64 0) (fun _ => 0)
    case atStart => rfl
    case round =>
      obtain rfl := hrel
      go_wp2
      go_ret
      exact ⟨_, _, rfl, Or.inl rfl, (Ext.refl _).alloc _⟩
  · rcases hx with rfl | ⟨b, off, rfl, hx⟩
    · simp at hn; omega
    have hb : b < w.heap.size := World.block_lt_of_cell? w _ (hx 0 (by omega)).1
    rw [hn] at hx
    have hn' := hide hn
    clear hn
    have hl' : (n : Int) ≤ 1048576 := by omega
    have hx' := hide hx
    clear hx
    go_enter Try.func104, Try.ntmps104
    go_wp2
    go_loopw [4] (fun i wr => ∃ k : Nat, i = .int .i64 k ∧ k ≤ n ∧ (∀ o, wr.frozen? ⟨w.heap.size, o, none⟩ = false) ∧ Hid (∀ j : Nat, j < n → wr.cell? ⟨w.heap.size, j * 2, none⟩ = some (.int .i64 (if j < k then (cs.getD j dk).1 else 0)) ∧ wr.cell? ⟨w.heap.size, j * 2 + 1, none⟩ = some (.string (if j < k then (cs.getD j dk).2 else ⟨#[]⟩))) ∧ Ext w wr ∧ w.heap.size < wr.heap.size) (fun i _ => n - (intOf i).toNat)
    case atStart =>
      refine ⟨0, rfl, by omega, fun o => by simp, hide (fun j hj => ?_), (Ext.refl _).alloc _, by simp⟩
      obtain ⟨z1, z2⟩ := zeroC_at n j hj
      rw [World.cell?_alloc_at _ _ _ _ rfl, World.cell?_alloc_at _ _ _ _ rfl, if_neg (by omega), if_neg (by omega)]
      exact ⟨z1, z2⟩
    case round =>
      obtain ⟨k, rfl, hk, hfr, hcells, hg, hsz⟩ := hrel
      by_cases hlt : k < n
      · obtain ⟨cx, cy⟩ := hx'.out k hlt
        have hr := (hg.row hb).1
        have dx := (hr _).trans cx
        have dy := (hr _).trans cy
        clear cx cy hr
        have i1 : (0 : Int) ≤ (k : Int) := by omega
        have i2 : (k : Int) < (n : Int) := by omega
        go_wp2_with fail
        refine (toChunk_any _ _ _).mono ?_
        rintro en w1 ⟨rfl, hb1⟩
        obtain ⟨r1, r2⟩ := hb1.row hsz
        have k1 := hb1.size
        have hfr1 : ∀ o, w1.frozen? ⟨w.heap.size, o, none⟩ = false := fun o => (r2 o).trans (hfr o)
        have hc1 : Hid (∀ j : Nat, j < n → w1.cell? ⟨w.heap.size, j * 2, none⟩ = some (.int .i64 (if j < k then (cs.getD j dk).1 else 0)) ∧ w1.cell? ⟨w.heap.size, j * 2 + 1, none⟩ = some (.string (if j < k then (cs.getD j dk).2 else ⟨#[]⟩))) := hide (fun j hj => ⟨(r1 _).trans (hcells.out j hj).1, (r1 _).trans (hcells.out j hj).2⟩)
        obtain ⟨e1, e2⟩ := hc1.out k hlt
        rw [if_neg (by omega)] at e1 e2
        clear r1 r2 hfr
        go_wp2
        go_roundw
        case rel =>
          refine ⟨k + 1, by go_num, by omega, fun o => ?_, hide (fun j hj => ?_), Ext.set (by simp) (Ext.set (by simp) (hg.trans hb1) _) _, by simp [World.setCell]; omega⟩
          · rw [World.frozen?_setCell, World.frozen?_setCell]; exact hfr1 o
          · by_cases hjk : j = k
            · subst hjk
              rw [if_pos (by omega), if_pos (by omega)]
              constructor
              · rw [cellC_other (by omega), World.cell?_setCell_same' _ _ _ (by rw [e1]; rfl)]; rfl
              · rw [World.cell?_setCell_same' _ _ _ (by rw [cellC_other (by omega), e2]; rfl)]; rfl
            · obtain ⟨f1, f2⟩ := hc1.out j hj
              have hif : (j < k + 1) = (j < k) := propext ⟨fun h => by omega, fun h => by omega⟩
              simp only [hif]
              constructor
              · rw [cellC_other (by omega), cellC_other (by omega)]; exact f1
              · rw [cellC_other (by omega), cellC_other (by omega)]; exact f2
        case measure => simp [intOf]; omega
      · obtain rfl : k = n := by omega
        go_wp2
        go_ret
        refine ⟨some ⟨w.heap.size, 0, none⟩, k, by simp [hn'.out], Or.inr ⟨w.heap.size, 0, rfl, Nat.le_refl _, hsz, hfr, fun j hj => ?_⟩, hg⟩
        rw [hn'.out] at hj
        obtain ⟨e1, e2⟩ := hcells.out j hj
        rw [if_pos hj] at e1 e2
        rw [Nat.zero_add]
        exact ⟨e1, e2⟩
end Go.Proofs.Ytifhbchlmlaanaa

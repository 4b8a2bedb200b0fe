/-
  Contracts of BufferRanges and ByteAt of the reference. Conditions: the chunks can be read.
-/
import Derived.Test.YtjnbiacnhimkgaaRgPlain
import Derived.Test.YtjnbiacnhimkgaaEndOf
import Derived.Test.YtjnbiacnhimkgaaRgAdd
import Derived.RegionTactic
import Derived.BigRegion
namespace Go.Proofs.Ytjnbiacnhimkgaa
open Go.ChangeShapes Go.WideShapes Go.ChangeAt Go.RowKit
set_option linter.unusedSimpArgs false
set_option linter.unusedVariables false
def bufRgs (nx : Int) (cs : List Ck) : List Rg := if isBuf nx cs = true then ckRgs cs else []
theorem ckRgs_length (cs : List Ck) : (ckRgs cs).length = cs.length := by simp [ckRgs]
theorem ckRgs_take (cs : List Ck) {k : Nat} (hk : k < cs.length) : ckRgs (cs.take (k + 1)) = ckRgs (cs.take k) ++ [((cs.getD k dk).1, (cs.getD k dk).1 + ((cs.getD k dk).2.size : Int))] := by
  rw [takeC_succ cs hk]; simp [ckRgs]
set_option maxHeartbeats 4000000 in
set_option maxRecDepth 100000 in
theorem BufferRanges_spec (nx : Int) (ao : Option Addr) (n ca : Nat) (cs : List Ck) (w : World) (hx : ReadC w ao cs) (hn : cs.length = n) (hl : n ≤ 1048576) (hw : WfC cs) :
    Calls Try.prog 24 #[.agg #[.int .i64 nx, .slice ao n ca]] w (NewR (bufRgs nx cs) w) := by
  have hn' := hide hn
  have hx' := hide hx
  have hw' := hide hw
  clear hn hx hw
  obtain ⟨i0, hi0, hz0, hz1, hz2⟩ := info_parts infoRange
  have hxw : Ext w (w.alloc (.cells #[.int .i64 nx, .slice ao n ca] 26)) := (Ext.refl w).alloc _
  go_enter Try.func24, Try.ntmps24
  go_wp2_with fail
  go_loopw [3, 4] (fun s i wr => ∃ (k m : Nat) (ao1 : Option Addr) (ca1 : Nat), i = .int .i64 k ∧ k ≤ n ∧ s = .slice ao1 m ca1 ∧ m ≤ k ∧ (isBuf nx cs = true ∨ k = 0) ∧ Hid ((ckRgs (cs.take k)).length = m ∧ wr.ownsRow (w.heap.size + 1) 61 2 (.slice ao1 m ca1) m (rgCells (ckRgs (cs.take k)))) ∧ w.heap.size + 1 ≤ wr.heap.size ∧ Chg (fun b => w.heap.size + 1 ≤ b) (w.alloc (.cells #[.int .i64 nx, .slice ao n ca] 26)) wr) (fun _ i _ => n - (intOf i).toNat)
  case atStart => exact ⟨0, 0, _, _, rfl, by omega, rfl, by omega, Or.inr rfl, hide ⟨rfl, own_made (w := w.alloc (.cells #[.int .i64 nx, .slice ao n ca] 26)) (base := w.heap.size + 1) (B := w.heap.size + 1) (by simp) (by omega)⟩, by first | (simp; done) | (simp; omega), (Chg.refl _ _).alloc _⟩
  case round =>
    obtain ⟨k, m, ao1, ca1, rfl, hk, rfl, hm, hik, hLo, hsz, hg⟩ := hrel
    have hL := hide hLo.out.1
    have hown := hide hLo.out.2
    clear hLo
    obtain ⟨xb, yb⟩ := hg.row (k := w.heap.size) (by simp) (by (try dsimp only); omega)
    have b0 : wr.cell? ⟨w.heap.size, 0, none⟩ = some (.int .i64 nx) := (by rw [xb]; simp [go_sem])
    have b1 : wr.cell? ⟨w.heap.size, 1, none⟩ = some (.slice ao n ca) := (by rw [xb]; simp [go_sem])
    have hgw : Ext w wr := (Chg.trans (hxw.chg _) hg).ext (fun k hk h => by omega)
    clear xb yb
    by_cases hlt : k < n
    · have hkx : k < cs.length := by rw [hn'.out]; exact hlt
      rcases Bool.eq_false_or_eq_true (isBuf nx cs) with hi | hi
      · rcases hx'.out with hnil | ⟨bx, off, rfl, hx⟩
        · rw [hnil] at hkx; simp at hkx
        obtain ⟨cx, cx2⟩ := hx k hkx
        have la : bx < w.heap.size := World.block_lt_of_cell? w _ cx
        have hr := (hgw.row la).1
        have dx := (hr _).trans cx
        have dx2 := (hr _).trans cx2
        have i1 : (0 : Int) ≤ (k : Int) := by omega
        have i2 : (k : Int) < (n : Int) := by omega
        have hbk := isBuf_at hi hkx
        have htk := hide (ckRgs_take cs hkx)
        clear hx cx cx2 hr
        generalize cs.getD k dk = c at *
        obtain ⟨o, s⟩ := c
        dsimp only at *
        obtain ⟨z1, z2, z3, z4⟩ := hbk
        have hne : bx ≠ w.heap.size := by omega
        have hwre : IntKind.i64.wrap (o + (s.size : Int)) = o + (s.size : Int) := IntWalk.i64_in _ (by omega)
        go_wp2_with fail
        refine (IsBuffer_spec nx (some ⟨bx, off, none⟩) n ca cs _ (hx'.out.ext hgw) hn'.out (by omega) hw'.out).mono ?_
        rintro en w1 ⟨rfl, hb1⟩
        rw [hi]
        have xw1 : Ext w w1 := hgw.trans hb1
        obtain ⟨xb, yb⟩ := hb1.row (k := w.heap.size) (by omega)
        replace b0 := (xb 0).trans b0
        replace b1 := (xb 1).trans b1
        clear xb yb
        obtain ⟨xb, yb⟩ := hb1.row (k := bx) (by omega)
        replace dx := (xb _).trans dx
        replace dx2 := (xb _).trans dx2
        clear xb yb
        replace hown := hide (ownR_ext hown.out hb1)
        replace hg := hg.trans (hb1.chg _)
        replace hsz : w.heap.size + 1 ≤ w1.heap.size := Nat.le_trans hsz hb1.size
        go_wp2_with fail
        refine wp_region_tail 23 [Line.is (.slice ao1 m ca1), Line.is (.pointer (some ⟨w.heap.size, 1, none⟩)), Line.is (.slice (some ⟨bx, off, none⟩) n ca), Line.is (.int .i64 (k : Int)), Line.is (.pointer (some ⟨bx, off + k * 2, none⟩)), Line.is (.pointer (some ⟨bx, off + k * 2, none⟩)), Line.is (.int .i64 o), Line.is (.pointer (some ⟨w.heap.size, 1, none⟩)), Line.is (.slice (some ⟨bx, off, none⟩) n ca), Line.is (.int .i64 (k : Int)), Line.is (.pointer (some ⟨bx, off + k * 2, none⟩)), Line.is (.pointer (some ⟨bx, off + k * 2, none⟩)), Line.is (.int .i64 o), Line.is (.pointer (some ⟨w.heap.size, 1, none⟩)), Line.is (.slice (some ⟨bx, off, none⟩) n ca), Line.is (.int .i64 (k : Int)), Line.is (.pointer (some ⟨bx, off + k * 2, none⟩)), Line.is (.pointer (some ⟨bx, off + k * 2 + 1, none⟩)), Line.is (.string s), Line.is (.int .i64 (s.size : Int)), Line.is (.int .i64 (o + (s.size : Int))), Line.is (.agg #[.int .i64 o, .int .i64 (o + (s.size : Int))]), builtL 61 1 #[.int .i64 o, .int .i64 (o + (s.size : Int))]] [17, 18, 19, 20, 21, 22, 23, 24, 25, 26, 27, 28, 29, 30, 31, 32, 33, 34, 35, 36, 37, 38, 39] (by kernel_rfl) (by kernel_rfl) (by kernel_rfl) (by kernel_rfl) (by kernel_rfl) (by kernel_rfl) (by kernel_rfl) ?_ ?_
        · refine Each.cons ?_ (Each.cons ?_ (Each.cons ?_ (Each.cons ?_ (Each.cons ?_ (Each.cons ?_ (Each.cons ?_ (Each.cons ?_ (Each.cons ?_ (Each.cons ?_ (Each.cons ?_ (Each.cons ?_ (Each.cons ?_ (Each.cons ?_ (Each.cons ?_ (Each.cons ?_ (Each.cons ?_ (Each.cons ?_ (Each.cons ?_ (Each.cons ?_ (Each.cons ?_ (Each.cons ?_ (Each.cons ?_ (Each.nil)))))))))))))))))))))))
          · intro g ws hws hl
            simp only [fillAt, List.foldl_cons, List.foldl_nil, Act.put, List.setIfInBounds_toArray, List.set_cons_zero, List.set_cons_succ]
            refine Stays.plain ?_ (by rfl) ?_ ?_
            rotate_left
            · go_simp
              try with_reducible rfl
            · exact rfl
          · intro g ws hws hl
            simp only [fillAt, List.foldl_cons, List.foldl_nil, Act.put, List.setIfInBounds_toArray, List.set_cons_zero, List.set_cons_succ]
            refine Stays.plain ?_ (by rfl) ?_ ?_
            rotate_left
            · go_simp
              try with_reducible rfl
            · exact rfl
          · intro g ws hws hl
            have ln1 : g 18 = _ := (show (Line.is (.pointer (some ⟨w.heap.size, 1, none⟩))).p (g 18) ws from linesOf_get 1 hl (by kernel_rfl))
            simp only [fillAt, List.foldl_cons, List.foldl_nil, Act.put, List.setIfInBounds_toArray, List.set_cons_zero, List.set_cons_succ, ln1]
            obtain ⟨q0, p0⟩ := hws.row (k := w.heap.size) (by first | assumption | (simp; done) | (simp; omega) | omega)
            obtain ⟨q1, p1⟩ := hws.row (k := bx) (by first | assumption | (simp; done) | (simp; omega) | omega)
            refine Stays.plain ?_ (by rfl) ?_ ?_
            rotate_left
            · go_simp
              try with_reducible rfl
            · exact rfl
          · intro g ws hws hl
            simp only [fillAt, List.foldl_cons, List.foldl_nil, Act.put, List.setIfInBounds_toArray, List.set_cons_zero, List.set_cons_succ]
            refine Stays.plain ?_ (by rfl) ?_ ?_
            rotate_left
            · go_simp
              try with_reducible rfl
            · exact rfl
          · intro g ws hws hl
            have ln2 : g 19 = _ := (show (Line.is (.slice (some ⟨bx, off, none⟩) n ca)).p (g 19) ws from linesOf_get 2 hl (by kernel_rfl))
            have ln3 : g 20 = _ := (show (Line.is (.int .i64 (k : Int))).p (g 20) ws from linesOf_get 3 hl (by kernel_rfl))
            simp only [fillAt, List.foldl_cons, List.foldl_nil, Act.put, List.setIfInBounds_toArray, List.set_cons_zero, List.set_cons_succ, ln2, ln3]
            refine Stays.plain ?_ (by rfl) ?_ ?_
            rotate_left
            · go_simp
              try with_reducible rfl
            · exact rfl
          · intro g ws hws hl
            have ln4 : g 21 = _ := (show (Line.is (.pointer (some ⟨bx, off + k * 2, none⟩))).p (g 21) ws from linesOf_get 4 hl (by kernel_rfl))
            simp only [fillAt, List.foldl_cons, List.foldl_nil, Act.put, List.setIfInBounds_toArray, List.set_cons_zero, List.set_cons_succ, ln4]
            refine Stays.plain ?_ (by rfl) ?_ ?_
            rotate_left
            · go_simp
              try with_reducible rfl
            · exact rfl
          · intro g ws hws hl
            have ln5 : g 22 = _ := (show (Line.is (.pointer (some ⟨bx, off + k * 2, none⟩))).p (g 22) ws from linesOf_get 5 hl (by kernel_rfl))
            simp only [fillAt, List.foldl_cons, List.foldl_nil, Act.put, List.setIfInBounds_toArray, List.set_cons_zero, List.set_cons_succ, ln5]
            obtain ⟨q0, p0⟩ := hws.row (k := w.heap.size) (by first | assumption | (simp; done) | (simp; omega) | omega)
            obtain ⟨q1, p1⟩ := hws.row (k := bx) (by first | assumption | (simp; done) | (simp; omega) | omega)
            refine Stays.plain ?_ (by rfl) ?_ ?_
            rotate_left
            · go_simp
              try with_reducible rfl
            · exact rfl
          · intro g ws hws hl
            simp only [fillAt, List.foldl_cons, List.foldl_nil, Act.put, List.setIfInBounds_toArray, List.set_cons_zero, List.set_cons_succ]
            refine Stays.plain ?_ (by rfl) ?_ ?_
            rotate_left
            · go_simp
              try with_reducible rfl
            · exact rfl
          · intro g ws hws hl
            have ln7 : g 24 = _ := (show (Line.is (.pointer (some ⟨w.heap.size, 1, none⟩))).p (g 24) ws from linesOf_get 7 hl (by kernel_rfl))
            simp only [fillAt, List.foldl_cons, List.foldl_nil, Act.put, List.setIfInBounds_toArray, List.set_cons_zero, List.set_cons_succ, ln7]
            obtain ⟨q0, p0⟩ := hws.row (k := w.heap.size) (by first | assumption | (simp; done) | (simp; omega) | omega)
            obtain ⟨q1, p1⟩ := hws.row (k := bx) (by first | assumption | (simp; done) | (simp; omega) | omega)
            refine Stays.plain ?_ (by rfl) ?_ ?_
            rotate_left
            · go_simp
              try with_reducible rfl
            · exact rfl
          · intro g ws hws hl
            simp only [fillAt, List.foldl_cons, List.foldl_nil, Act.put, List.setIfInBounds_toArray, List.set_cons_zero, List.set_cons_succ]
            refine Stays.plain ?_ (by rfl) ?_ ?_
            rotate_left
            · go_simp
              try with_reducible rfl
            · exact rfl
          · intro g ws hws hl
            have ln8 : g 25 = _ := (show (Line.is (.slice (some ⟨bx, off, none⟩) n ca)).p (g 25) ws from linesOf_get 8 hl (by kernel_rfl))
            have ln9 : g 26 = _ := (show (Line.is (.int .i64 (k : Int))).p (g 26) ws from linesOf_get 9 hl (by kernel_rfl))
            simp only [fillAt, List.foldl_cons, List.foldl_nil, Act.put, List.setIfInBounds_toArray, List.set_cons_zero, List.set_cons_succ, ln8, ln9]
            refine Stays.plain ?_ (by rfl) ?_ ?_
            rotate_left
            · go_simp
              try with_reducible rfl
            · exact rfl
          · intro g ws hws hl
            have ln10 : g 27 = _ := (show (Line.is (.pointer (some ⟨bx, off + k * 2, none⟩))).p (g 27) ws from linesOf_get 10 hl (by kernel_rfl))
            simp only [fillAt, List.foldl_cons, List.foldl_nil, Act.put, List.setIfInBounds_toArray, List.set_cons_zero, List.set_cons_succ, ln10]
            refine Stays.plain ?_ (by rfl) ?_ ?_
            rotate_left
            · go_simp
              try with_reducible rfl
            · exact rfl
          · intro g ws hws hl
            have ln11 : g 28 = _ := (show (Line.is (.pointer (some ⟨bx, off + k * 2, none⟩))).p (g 28) ws from linesOf_get 11 hl (by kernel_rfl))
            simp only [fillAt, List.foldl_cons, List.foldl_nil, Act.put, List.setIfInBounds_toArray, List.set_cons_zero, List.set_cons_succ, ln11]
            obtain ⟨q0, p0⟩ := hws.row (k := w.heap.size) (by first | assumption | (simp; done) | (simp; omega) | omega)
            obtain ⟨q1, p1⟩ := hws.row (k := bx) (by first | assumption | (simp; done) | (simp; omega) | omega)
            refine Stays.plain ?_ (by rfl) ?_ ?_
            rotate_left
            · go_simp
              try with_reducible rfl
            · exact rfl
          · intro g ws hws hl
            simp only [fillAt, List.foldl_cons, List.foldl_nil, Act.put, List.setIfInBounds_toArray, List.set_cons_zero, List.set_cons_succ]
            refine Stays.plain ?_ (by rfl) ?_ ?_
            rotate_left
            · go_simp
              try with_reducible rfl
            · exact rfl
          · intro g ws hws hl
            have ln13 : g 30 = _ := (show (Line.is (.pointer (some ⟨w.heap.size, 1, none⟩))).p (g 30) ws from linesOf_get 13 hl (by kernel_rfl))
            simp only [fillAt, List.foldl_cons, List.foldl_nil, Act.put, List.setIfInBounds_toArray, List.set_cons_zero, List.set_cons_succ, ln13]
            obtain ⟨q0, p0⟩ := hws.row (k := w.heap.size) (by first | assumption | (simp; done) | (simp; omega) | omega)
            obtain ⟨q1, p1⟩ := hws.row (k := bx) (by first | assumption | (simp; done) | (simp; omega) | omega)
            refine Stays.plain ?_ (by rfl) ?_ ?_
            rotate_left
            · go_simp
              try with_reducible rfl
            · exact rfl
          · intro g ws hws hl
            simp only [fillAt, List.foldl_cons, List.foldl_nil, Act.put, List.setIfInBounds_toArray, List.set_cons_zero, List.set_cons_succ]
            refine Stays.plain ?_ (by rfl) ?_ ?_
            rotate_left
            · go_simp
              try with_reducible rfl
            · exact rfl
          · intro g ws hws hl
            have ln14 : g 31 = _ := (show (Line.is (.slice (some ⟨bx, off, none⟩) n ca)).p (g 31) ws from linesOf_get 14 hl (by kernel_rfl))
            have ln15 : g 32 = _ := (show (Line.is (.int .i64 (k : Int))).p (g 32) ws from linesOf_get 15 hl (by kernel_rfl))
            simp only [fillAt, List.foldl_cons, List.foldl_nil, Act.put, List.setIfInBounds_toArray, List.set_cons_zero, List.set_cons_succ, ln14, ln15]
            refine Stays.plain ?_ (by rfl) ?_ ?_
            rotate_left
            · go_simp
              try with_reducible rfl
            · exact rfl
          · intro g ws hws hl
            have ln16 : g 33 = _ := (show (Line.is (.pointer (some ⟨bx, off + k * 2, none⟩))).p (g 33) ws from linesOf_get 16 hl (by kernel_rfl))
            simp only [fillAt, List.foldl_cons, List.foldl_nil, Act.put, List.setIfInBounds_toArray, List.set_cons_zero, List.set_cons_succ, ln16]
            refine Stays.plain ?_ (by rfl) ?_ ?_
            rotate_left
            · go_simp
              try with_reducible rfl
            · exact rfl
          · intro g ws hws hl
            have ln17 : g 34 = _ := (show (Line.is (.pointer (some ⟨bx, off + k * 2 + 1, none⟩))).p (g 34) ws from linesOf_get 17 hl (by kernel_rfl))
            simp only [fillAt, List.foldl_cons, List.foldl_nil, Act.put, List.setIfInBounds_toArray, List.set_cons_zero, List.set_cons_succ, ln17]
            obtain ⟨q0, p0⟩ := hws.row (k := w.heap.size) (by first | assumption | (simp; done) | (simp; omega) | omega)
            obtain ⟨q1, p1⟩ := hws.row (k := bx) (by first | assumption | (simp; done) | (simp; omega) | omega)
            refine Stays.plain ?_ (by rfl) ?_ ?_
            rotate_left
            · go_simp
              try with_reducible rfl
            · exact rfl
          · intro g ws hws hl
            have ln18 : g 35 = _ := (show (Line.is (.string s)).p (g 35) ws from linesOf_get 18 hl (by kernel_rfl))
            simp only [fillAt, List.foldl_cons, List.foldl_nil, Act.put, List.setIfInBounds_toArray, List.set_cons_zero, List.set_cons_succ, ln18]
            refine Stays.plain ?_ (by rfl) ?_ ?_
            rotate_left
            · go_simp
              try with_reducible rfl
            · exact rfl
          · intro g ws hws hl
            have ln12 : g 29 = _ := (show (Line.is (.int .i64 o)).p (g 29) ws from linesOf_get 12 hl (by kernel_rfl))
            have ln19 : g 36 = _ := (show (Line.is (.int .i64 (s.size : Int))).p (g 36) ws from linesOf_get 19 hl (by kernel_rfl))
            simp only [fillAt, List.foldl_cons, List.foldl_nil, Act.put, List.setIfInBounds_toArray, List.set_cons_zero, List.set_cons_succ, ln12, ln19]
            refine Stays.plain ?_ (by rfl) ?_ ?_
            rotate_left
            · go_simp
              try with_reducible rfl
            · exact rfl
          · intro g ws hws hl
            have ln6 : g 23 = _ := (show (Line.is (.int .i64 o)).p (g 23) ws from linesOf_get 6 hl (by kernel_rfl))
            have ln20 : g 37 = _ := (show (Line.is (.int .i64 (o + (s.size : Int)))).p (g 37) ws from linesOf_get 20 hl (by kernel_rfl))
            simp only [fillAt, List.foldl_cons, List.foldl_nil, Act.put, List.setIfInBounds_toArray, List.set_cons_zero, List.set_cons_succ, ln6, ln20]
            refine Stays.plain ?_ (by rfl) ?_ ?_
            rotate_left
            · go_simp
              try with_reducible rfl
            · exact rfl
          · intro g ws hws hl
            have ln21 : g 38 = _ := (show (Line.is (.agg #[.int .i64 o, .int .i64 (o + (s.size : Int))])).p (g 38) ws from linesOf_get 21 hl (by kernel_rfl))
            simp only [fillAt, List.foldl_cons, List.foldl_nil, Act.put, List.setIfInBounds_toArray, List.set_cons_zero, List.set_cons_succ, ln21]
            refine Stays.made (.slice (some ⟨ws.heap.size, 0, none⟩) 1 1) (ws.alloc (.cells #[.int .i64 o, .int .i64 (o + (s.size : Int))] 61)) (by rfl) ?_ ((Ext.refl _).alloc _) ⟨_, rfl, heap_alloc_new _ _⟩
            go_simp
        · intro g w5 hw5 hl
          have ln0 : g 17 = _ := (show (Line.is (.slice ao1 m ca1)).p (g 17) w5 from (allLines_get 17 0 0 hl rfl))
          have ln1 : g 18 = _ := (show (Line.is (.pointer (some ⟨w.heap.size, 1, none⟩))).p (g 18) w5 from (allLines_get 18 1 0 hl rfl))
          have ln2 : g 19 = _ := (show (Line.is (.slice (some ⟨bx, off, none⟩) n ca)).p (g 19) w5 from (allLines_get 19 2 0 hl rfl))
          have ln3 : g 20 = _ := (show (Line.is (.int .i64 (k : Int))).p (g 20) w5 from (allLines_get 20 3 0 hl rfl))
          have ln4 : g 21 = _ := (show (Line.is (.pointer (some ⟨bx, off + k * 2, none⟩))).p (g 21) w5 from (allLines_get 21 4 0 hl rfl))
          have ln5 : g 22 = _ := (show (Line.is (.pointer (some ⟨bx, off + k * 2, none⟩))).p (g 22) w5 from (allLines_get 22 5 0 hl rfl))
          have ln6 : g 23 = _ := (show (Line.is (.int .i64 o)).p (g 23) w5 from (allLines_get 23 6 0 hl rfl))
          have ln7 : g 24 = _ := (show (Line.is (.pointer (some ⟨w.heap.size, 1, none⟩))).p (g 24) w5 from (allLines_get 24 7 0 hl rfl))
          have ln8 : g 25 = _ := (show (Line.is (.slice (some ⟨bx, off, none⟩) n ca)).p (g 25) w5 from (allLines_get 25 8 0 hl rfl))
          have ln9 : g 26 = _ := (show (Line.is (.int .i64 (k : Int))).p (g 26) w5 from (allLines_get 26 9 0 hl rfl))
          have ln10 : g 27 = _ := (show (Line.is (.pointer (some ⟨bx, off + k * 2, none⟩))).p (g 27) w5 from (allLines_get 27 10 0 hl rfl))
          have ln11 : g 28 = _ := (show (Line.is (.pointer (some ⟨bx, off + k * 2, none⟩))).p (g 28) w5 from (allLines_get 28 11 0 hl rfl))
          have ln12 : g 29 = _ := (show (Line.is (.int .i64 o)).p (g 29) w5 from (allLines_get 29 12 0 hl rfl))
          have ln13 : g 30 = _ := (show (Line.is (.pointer (some ⟨w.heap.size, 1, none⟩))).p (g 30) w5 from (allLines_get 30 13 0 hl rfl))
          have ln14 : g 31 = _ := (show (Line.is (.slice (some ⟨bx, off, none⟩) n ca)).p (g 31) w5 from (allLines_get 31 14 0 hl rfl))
          have ln15 : g 32 = _ := (show (Line.is (.int .i64 (k : Int))).p (g 32) w5 from (allLines_get 32 15 0 hl rfl))
          have ln16 : g 33 = _ := (show (Line.is (.pointer (some ⟨bx, off + k * 2, none⟩))).p (g 33) w5 from (allLines_get 33 16 0 hl rfl))
          have ln17 : g 34 = _ := (show (Line.is (.pointer (some ⟨bx, off + k * 2 + 1, none⟩))).p (g 34) w5 from (allLines_get 34 17 0 hl rfl))
          have ln18 : g 35 = _ := (show (Line.is (.string s)).p (g 35) w5 from (allLines_get 35 18 0 hl rfl))
          have ln19 : g 36 = _ := (show (Line.is (.int .i64 (s.size : Int))).p (g 36) w5 from (allLines_get 36 19 0 hl rfl))
          have ln20 : g 37 = _ := (show (Line.is (.int .i64 (o + (s.size : Int)))).p (g 37) w5 from (allLines_get 37 20 0 hl rfl))
          have ln21 : g 38 = _ := (show (Line.is (.agg #[.int .i64 o, .int .i64 (o + (s.size : Int))])).p (g 38) w5 from (allLines_get 38 21 0 hl rfl))
          obtain ⟨BB, ln22, hBB⟩ := (show (builtL 61 1 #[.int .i64 o, .int .i64 (o + (s.size : Int))]).p (g 39) w5 from (allLines_get 39 22 0 hl rfl))
          clear hl
          simp only [fillAt, List.foldl_cons, List.foldl_nil, Act.put, List.setIfInBounds_toArray, List.set_cons_zero, List.set_cons_succ, ln0, ln1, ln2, ln3, ln4, ln5, ln6, ln7, ln8, ln9, ln10, ln11, ln12, ln13, ln14, ln15, ln16, ln17, ln18, ln19, ln20, ln21, ln22]
          simp only [List.drop_succ_cons, List.drop_zero]
          have xw5 : Ext w1 w5 := (Ext.refl w1).drew.trans hw5
          replace hown := hide (ownR_ext hown.out xw5)
          replace hg := hg.trans (xw5.chg _)
          replace hsz : w.heap.size + 1 ≤ w5.heap.size := Nat.le_trans hsz xw5.size
          clear b0 b1 dx dx2
          go_wp2_with (at_builtin; refine wpList_append_lies _ rfl _ _ _ (by rfl) (w.heap.size + 1) 61 i0 _ 2 16 Try.underlying34 hi0 hz0 hz1 hz2 rfl (by omega) (.slice ao1 m ca1) m _ (by rfl) hown.out ⟨BB, 0, none⟩ 1 1 [.int .i64 o, .int .i64 (o + (s.size : Int))] (by rfl) (by rfl) (World.news_of_block (cs := #[.int .i64 o, .int .i64 (o + (s.size : Int))]) (t := 61) (fr := (0, 0)) hBB) (by simp [Value.oneCell']) (by omega) (by simp [maxLen] <;> omega) (by omega) (by first | omega | (simp; omega)) _ rfl ?_)
          intro gg1 cap1 w2 hown1 hgrow1 hat1 hlt1
          have hgc1 : Chg (fun b => w.heap.size + 1 ≤ b) w5 w2 := grown_chg hgrow1 (fun k hk => (hown.out.lt _ hk).1)
          rw [rgCells_app (ckRgs (cs.take k)) (o, (o + (s.size : Int)))] at hown1
          clear hgrow1 hat1 hlt1
          rw [← htk.out] at hown1
          have hL2 : Hid ((ckRgs (cs.take (k + 1))).length = m + 1) := hide (by rw [htk.out, List.length_append, hL.out]; rfl)
          replace hg := hg.trans (hgc1.mono (fun _ _ h => by (try dsimp only at h ⊢); omega))
          replace hsz : w.heap.size + 1 ≤ w2.heap.size := Nat.le_trans hsz hgc1.size
          go_wp2
          go_roundw
          case rel => exact ⟨k + 1, m + 1, _, _, by go_num, by omega, rfl, by omega, Or.inl hi, hide ⟨hL2.out, hown1⟩, hsz, hg⟩
          case measure => simp [intOf]; omega
      · obtain rfl : k = 0 := by
          rcases hik with h | h
          · rw [hi] at h; cases h
          · exact h
        have hnil : bufRgs nx cs = [] := if_neg (by simp [hi])
        have i2 : (0 : Int) < (n : Int) := by omega
        replace hnil := hide hnil
        go_wp2_with fail
        refine (IsBuffer_spec nx ao n ca cs _ (hx'.out.ext hgw) hn'.out (by omega) hw'.out).mono ?_
        rintro en w1 ⟨rfl, hb1⟩
        rw [hi]
        go_wp2
        obtain ⟨ao2, cap2, e2, e3, ho⟩ := own_ranges (ownR_ext hown.out hb1)
        obtain rfl : m = 0 := by omega
        refine bodyPost_ret (v := .slice ao1 0 ca1) (by simp [results, Try.results24, go_sem]) rfl (by rw [hnil.out]; exact ⟨ao1, ca1, rfl, Or.inl rfl, hgw.trans hb1⟩)
    · obtain rfl : k = n := by omega
      have hall : Hid (bufRgs nx cs = ckRgs (cs.take k)) := hide (by
        rw [← hn'.out, List.take_length]
        rcases hik with h | h
        · exact if_pos h
        · have : cs = [] := List.eq_nil_of_length_eq_zero (by rw [hn'.out]; exact h)
          subst this
          unfold bufRgs
          split <;> rfl)
      go_wp2
      obtain ⟨ao2, cap2, e2, e3, ho⟩ := own_ranges hown.out
      refine bodyPost_ret (v := .slice ao1 m ca1) (by simp [results, Try.results24, go_sem]) rfl (by rw [hall.out]; exact ⟨ao2, cap2, by rw [e2], ho.mono (by omega) (Nat.le_refl _), hgw⟩)
end Go.Proofs.Ytjnbiacnhimkgaa

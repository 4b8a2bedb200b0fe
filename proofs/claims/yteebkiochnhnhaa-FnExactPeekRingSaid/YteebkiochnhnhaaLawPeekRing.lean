/-
  The law FnExactPeekRing holds of every argument. No condition.
-/
import Derived.Test.YteebkiochnhnhaaRingIn
import Derived.Test.YteebkiochnhnhaaLawKit
import Derived.Test.YteebkiochnhnhaaRingLine
import Derived.Test.YteebkiochnhnhaaPeek
namespace Go.Proofs.Yteebkiochnhnhaa
open Go.ChangeShapes Go.WideShapes Go.ChangeAt Go.RowKit
set_option linter.unusedSimpArgs false
set_option maxHeartbeats 1000000 in
theorem peekRing_yes (z b e o k : Int) (ao : Option Addr) (n ca : Nat) (xs : List Int) (w : World) (hx : ReadS w ao xs) (hn : xs.length = n) (he : e ≤ 9223372036854775807) (s : ByteArray) (ok : Bool) (hpv : peekV z b e o k xs = .tuple #[.string s, .bool ok]) (h1 : n ≤ 1048576) :
    Calls Try.prog 7 #[.agg #[.int .i64 z, .int .i64 b, .int .i64 e, .slice ao n ca], .int .i64 o, .int .i64 k] w fun en w' => en = .returned (.bool true) ∧ Ext w w' := by
  have hn' := hide hn
  have hx' := hide hx
  clear hn hx
  have s1 : (if (1048576 : Int) < (n : Int) then (-1 : Int) else 1048576 - n) = 1048576 - n := if_neg (by omega)
  have s3 : decide ((1048576 : Int) - n < 0) = false := by simp; omega
  go_enter Try.func7, Try.ntmps7
  go_wp2_with fail
  refine (szRing_any _ _ _ _ _ _ _ _ (by omega) (by omega) (by omega)).mono ?_
  rintro en w1 ⟨rfl, hw1⟩
  have xw1 : Ext w w1 := (by repeat (first | with_reducible exact Ext.refl _ | with_reducible assumption | with_reducible refine Ext.alloc ?_ _ | with_reducible refine Ext.drew ?_ | with_reducible refine Ext.drewN ?_ _ | ((with_reducible refine Ext.set ?_ ?_ _); (focus (first | (simp; done) | (simp; omega)))) | with_reducible refine Ext.trans ?_ (by assumption)))
  have kw1_0 := hw1.more (k := w.heap.size) (by first | assumption | (simp; done) | (simp; omega) | omega)
  obtain ⟨cw1_0, fw1_0⟩ := hw1.row (k := w.heap.size) (by first | assumption | (simp; done) | (simp; omega) | omega)
  rw [s1]
  go_wp2_with fail
  refine (toRing_any z b e ao n ca xs _ ?_ hn'.out (by omega)).mono ?_
  · exact hx'.out.ext (by have := xw1; exact this)
  rintro en w2 ⟨ao2, cap2, rfl, ho2, hw2⟩
  have xw2 : Ext w w2 := (by repeat (first | with_reducible exact Ext.refl _ | with_reducible assumption | with_reducible refine Ext.alloc ?_ _ | with_reducible refine Ext.drew ?_ | with_reducible refine Ext.drewN ?_ _ | ((with_reducible refine Ext.set ?_ ?_ _); (focus (first | (simp; done) | (simp; omega)))) | with_reducible refine Ext.trans ?_ (by assumption)))
  have kw2_0 := hw2.more (k := w.heap.size) (by first | assumption | (simp; done) | (simp; omega) | omega)
  obtain ⟨cw2_0, fw2_0⟩ := hw2.row (k := w.heap.size) (by first | assumption | (simp; done) | (simp; omega) | omega)
  have hr2 := ho2.read
  clear ho2
  go_wp2_with fail
  refine (PeekRing_spec z b e o k ao2 xs.length cap2 xs _ (hr2.ext (by repeat (first | with_reducible exact Ext.refl _ | with_reducible assumption | with_reducible refine Ext.alloc ?_ _ | with_reducible refine Ext.drew ?_ | ((with_reducible refine Ext.set ?_ ?_ _); (focus (first | (simp; done) | (simp; omega) | omega))) | with_reducible refine Ext.trans ?_ hw2 | with_reducible refine Ext.trans ?_ hw1))) rfl (by rw [hn'.out]; omega) he).mono ?_
  rintro en w3 ⟨rfl, hw3⟩
  have xw3 : Ext w w3 := (by repeat (first | with_reducible exact Ext.refl _ | with_reducible assumption | with_reducible refine Ext.alloc ?_ _ | with_reducible refine Ext.drew ?_ | with_reducible refine Ext.drewN ?_ _ | ((with_reducible refine Ext.set ?_ ?_ _); (focus (first | (simp; done) | (simp; omega)))) | with_reducible refine Ext.trans ?_ (by assumption)))
  have kw3_0 := hw3.more (k := w.heap.size) (by first | assumption | (simp; done) | (simp; omega) | omega)
  obtain ⟨cw3_0, fw3_0⟩ := hw3.row (k := w.heap.size) (by first | assumption | (simp; done) | (simp; omega) | omega)
  rw [hpv]
  go_wp2_with fail
  refine (toRing_any z b e ao n ca xs _ ?_ hn'.out (by omega)).mono ?_
  · exact hx'.out.ext (by have := xw3; exact this)
  rintro en w4 ⟨ao4, cap4, rfl, ho4, hw4⟩
  have xw4 : Ext w w4 := (by repeat (first | with_reducible exact Ext.refl _ | with_reducible assumption | with_reducible refine Ext.alloc ?_ _ | with_reducible refine Ext.drew ?_ | with_reducible refine Ext.drewN ?_ _ | ((with_reducible refine Ext.set ?_ ?_ _); (focus (first | (simp; done) | (simp; omega)))) | with_reducible refine Ext.trans ?_ (by assumption)))
  have kw4_0 := hw4.more (k := w.heap.size) (by first | assumption | (simp; done) | (simp; omega) | omega)
  obtain ⟨cw4_0, fw4_0⟩ := hw4.row (k := w.heap.size) (by first | assumption | (simp; done) | (simp; omega) | omega)
  have hr4 := ho4.read
  clear ho4
  go_wp2_with fail
  refine (PeekRing_impl z b e o k ao4 xs.length cap4 xs _ (hr4.ext (by repeat (first | with_reducible exact Ext.refl _ | with_reducible assumption | with_reducible refine Ext.alloc ?_ _ | with_reducible refine Ext.drew ?_ | ((with_reducible refine Ext.set ?_ ?_ _); (focus (first | (simp; done) | (simp; omega) | omega))) | with_reducible refine Ext.trans ?_ hw4 | with_reducible refine Ext.trans ?_ hw3 | with_reducible refine Ext.trans ?_ hw2 | with_reducible refine Ext.trans ?_ hw1))) rfl (by rw [hn'.out]; omega)).mono ?_
  rintro en w5 ⟨rfl, hw5⟩
  have xw5 : Ext w w5 := (by repeat (first | with_reducible exact Ext.refl _ | with_reducible assumption | with_reducible refine Ext.alloc ?_ _ | with_reducible refine Ext.drew ?_ | with_reducible refine Ext.drewN ?_ _ | ((with_reducible refine Ext.set ?_ ?_ _); (focus (first | (simp; done) | (simp; omega)))) | with_reducible refine Ext.trans ?_ (by assumption)))
  have kw5_0 := hw5.more (k := w.heap.size) (by first | assumption | (simp; done) | (simp; omega) | omega)
  obtain ⟨cw5_0, fw5_0⟩ := hw5.row (k := w.heap.size) (by first | assumption | (simp; done) | (simp; omega) | omega)
  have kw5_1 := hw5.more (k := w4.heap.size) (by first | assumption | (simp; done) | (simp; omega) | omega)
  obtain ⟨cw5_1, fw5_1⟩ := hw5.row (k := w4.heap.size) (by first | assumption | (simp; done) | (simp; omega) | omega)
  rw [hpv]
  go_wp2_with fail
  refine wp_region_lines [Line.is (.agg #[.int .i64 z, .int .i64 b, .int .i64 e, .slice ao4 xs.length cap4]), Line.is (.agg #[.int .i64 z, .int .i64 b, .int .i64 e, .slice ao n ca]), ringL z b e xs, Line.is (.bool true), Line.is (.bool false)] [43, 44, 45, 46, 47] (by kernel_rfl) (by kernel_rfl) (by kernel_rfl) (by kernel_rfl) (by kernel_rfl) ?_ ?_
  · refine Each.cons ?_ (Each.cons ?_ (Each.cons ?_ (Each.cons ?_ (Each.cons ?_ (Each.nil)))))
    · intro g ws hws hl
      have hxs : Ext w ws := xw5.drew.trans hws
      simp only [fillAt, List.foldl_cons, List.foldl_nil, Act.put, List.setIfInBounds_toArray, List.set_cons_zero, List.set_cons_succ]
      obtain ⟨q0, p0⟩ := hws.row (k := w4.heap.size) (by first | assumption | (simp; done) | (simp; omega) | omega)
      obtain ⟨q1, p1⟩ := hws.row (k := w.heap.size) (by first | assumption | (simp; done) | (simp; omega) | omega)
      refine Stays.plain ?_ (by rfl) ?_ ?_
      rotate_left
      · go_simp
        try with_reducible rfl
      · exact rfl
    · intro g ws hws hl
      have hxs : Ext w ws := xw5.drew.trans hws
      simp only [fillAt, List.foldl_cons, List.foldl_nil, Act.put, List.setIfInBounds_toArray, List.set_cons_zero, List.set_cons_succ]
      obtain ⟨q0, p0⟩ := hws.row (k := w4.heap.size) (by first | assumption | (simp; done) | (simp; omega) | omega)
      obtain ⟨q1, p1⟩ := hws.row (k := w.heap.size) (by first | assumption | (simp; done) | (simp; omega) | omega)
      refine Stays.plain ?_ (by rfl) ?_ ?_
      rotate_left
      · go_simp
        try with_reducible rfl
      · exact rfl
    · intro g ws hws hl
      have hxs : Ext w ws := xw5.drew.trans hws
      have ln1 : g 44 = _ := (show (Line.is (.agg #[.int .i64 z, .int .i64 b, .int .i64 e, .slice ao n ca])).p (g 44) ws from linesOf_get 1 hl (by kernel_rfl))
      simp only [fillAt, List.foldl_cons, List.foldl_nil, Act.put, List.setIfInBounds_toArray, List.set_cons_zero, List.set_cons_succ, ln1]
      refine Stays.call 18 ?_ (by rfl) ?_ ?_
      rotate_left
      · go_simp
        try with_reducible rfl
      · refine (toRing_any z b e ao n ca xs _ ?_ hn'.out (by omega)).mono ?_
        · exact hx'.out.ext hxs
        · rintro en w3 ⟨ao3, cap3, rfl, ho3, hb3⟩
          exact ⟨_, rfl, hb3, ringL_mk ho3.read⟩
    · intro g ws hws hl
      have hxs : Ext w ws := xw5.drew.trans hws
      have ln0 : g 43 = _ := (show (Line.is (.agg #[.int .i64 z, .int .i64 b, .int .i64 e, .slice ao4 xs.length cap4])).p (g 43) ws from linesOf_get 0 hl (by kernel_rfl))
      obtain ⟨aoC, capC, ln2, hC⟩ := ringL_get (show (ringL z b e xs).p (g 45) ws from linesOf_get 2 hl (by kernel_rfl))
      simp only [fillAt, List.foldl_cons, List.foldl_nil, Act.put, List.setIfInBounds_toArray, List.set_cons_zero, List.set_cons_succ, ln0, ln2]
      refine Stays.call 13 ?_ (by rfl) ?_ ?_
      rotate_left
      · go_simp
        try with_reducible rfl
      · refine (eqRing_any z b e ao4 aoC xs.length xs.length _ capC xs xs _ (hr4.ext (by repeat (first | with_reducible exact Ext.refl _ | with_reducible assumption | with_reducible refine Ext.alloc ?_ _ | with_reducible refine Ext.drew ?_ | ((with_reducible refine Ext.set ?_ ?_ _); (focus (first | (simp; done) | (simp; omega) | omega))) | with_reducible refine Ext.trans ?_ hws | with_reducible refine Ext.trans ?_ hw5 | with_reducible refine Ext.trans ?_ hw4 | with_reducible refine Ext.trans ?_ hw3 | with_reducible refine Ext.trans ?_ hw2 | with_reducible refine Ext.trans ?_ hw1))) hC rfl rfl (by rw [hn'.out]; omega)).mono ?_
        rintro en w9 ⟨rfl, hb9⟩
        exact ⟨_, rfl, hb9, (show _ = _ by simp)⟩
    · intro g ws hws hl
      have hxs : Ext w ws := xw5.drew.trans hws
      have ln3 : g 46 = _ := (show (Line.is (.bool true)).p (g 46) ws from linesOf_get 3 hl (by kernel_rfl))
      simp only [fillAt, List.foldl_cons, List.foldl_nil, Act.put, List.setIfInBounds_toArray, List.set_cons_zero, List.set_cons_succ, ln3]
      refine Stays.plain ?_ (by rfl) ?_ ?_
      rotate_left
      · go_simp
        try with_reducible rfl
      · exact rfl
  · intro g w6 hw6 hl
    have xw6 : Ext w w6 := xw5.drew.trans hw6
    have ln0 : g 43 = _ := (show (Line.is (.agg #[.int .i64 z, .int .i64 b, .int .i64 e, .slice ao4 xs.length cap4])).p (g 43) w6 from (allLines_get 43 0 0 hl rfl))
    have ln1 : g 44 = _ := (show (Line.is (.agg #[.int .i64 z, .int .i64 b, .int .i64 e, .slice ao n ca])).p (g 44) w6 from (allLines_get 44 1 0 hl rfl))
    obtain ⟨aoC, capC, ln2, hC⟩ := ringL_get (show (ringL z b e xs).p (g 45) w6 from (allLines_get 45 2 0 hl rfl))
    have ln3 : g 46 = _ := (show (Line.is (.bool true)).p (g 46) w6 from (allLines_get 46 3 0 hl rfl))
    have ln4 : g 47 = _ := (show (Line.is (.bool false)).p (g 47) w6 from (allLines_get 47 4 0 hl rfl))
    clear hl
    simp only [fillAt, List.foldl_cons, List.foldl_nil, Act.put, List.setIfInBounds_toArray, List.set_cons_zero, List.set_cons_succ, ln0, ln1, ln2, ln3, ln4]
    have kw6_0 := hw6.more (k := w.heap.size) (by first | assumption | (simp; done) | (simp; omega) | omega)
    obtain ⟨cw6_0, fw6_0⟩ := hw6.row (k := w.heap.size) (by first | assumption | (simp; done) | (simp; omega) | omega)
    have kw6_1 := hw6.more (k := w4.heap.size) (by first | assumption | (simp; done) | (simp; omega) | omega)
    obtain ⟨cw6_1, fw6_1⟩ := hw6.row (k := w4.heap.size) (by first | assumption | (simp; done) | (simp; omega) | omega)
    go_wp2
    go_ret
    exact ⟨rfl, (by repeat (first | with_reducible exact Ext.refl _ | with_reducible assumption | with_reducible refine Ext.alloc ?_ _ | with_reducible refine Ext.drew ?_ | with_reducible refine Ext.drewN ?_ _ | ((with_reducible refine Ext.set ?_ ?_ _); (focus (first | (simp; done) | (simp; omega)))) | with_reducible refine Ext.trans ?_ (by assumption)))⟩
set_option maxHeartbeats 1000000 in
theorem peekRing_no (z b e o k : Int) (ao : Option Addr) (n ca : Nat) (w : World) (h0 : (n : Int) ≤ 9223372036854775807) (h1 : 1048576 < n) :
    Calls Try.prog 7 #[.agg #[.int .i64 z, .int .i64 b, .int .i64 e, .slice ao n ca], .int .i64 o, .int .i64 k] w fun en w' => en = .returned (.bool true) ∧ Ext w w' := by
  have s1 : (if (1048576 : Int) < (n : Int) then (-1 : Int) else 1048576 - n) = -1 := if_pos (by omega)
  go_enter Try.func7, Try.ntmps7
  go_wp2_with fail
  refine (szRing_any _ _ _ _ _ _ _ _ (by omega) (by omega) (by omega)).mono ?_
  rintro en w1 ⟨rfl, hw1⟩
  have xw1 : Ext w w1 := (by repeat (first | with_reducible exact Ext.refl _ | with_reducible assumption | with_reducible refine Ext.alloc ?_ _ | with_reducible refine Ext.drew ?_ | with_reducible refine Ext.drewN ?_ _ | ((with_reducible refine Ext.set ?_ ?_ _); (focus (first | (simp; done) | (simp; omega)))) | with_reducible refine Ext.trans ?_ (by assumption)))
  have kw1_0 := hw1.more (k := w.heap.size) (by first | assumption | (simp; done) | (simp; omega) | omega)
  obtain ⟨cw1_0, fw1_0⟩ := hw1.row (k := w.heap.size) (by first | assumption | (simp; done) | (simp; omega) | omega)
  rw [s1]
  go_wp2
  go_ret
  exact ⟨rfl, (by repeat (first | with_reducible exact Ext.refl _ | with_reducible assumption | with_reducible refine Ext.alloc ?_ _ | with_reducible refine Ext.drew ?_ | with_reducible refine Ext.drewN ?_ _ | ((with_reducible refine Ext.set ?_ ?_ _); (focus (first | (simp; done) | (simp; omega)))) | with_reducible refine Ext.trans ?_ (by assumption)))⟩
theorem peekRing_walk (z b e o k : Int) (ao : Option Addr) (n ca : Nat) (xs : List Int) (w : World) (hx : ReadS w ao xs) (hn : xs.length = n) (he : e ≤ 9223372036854775807) (s : ByteArray) (ok : Bool) (hpv : peekV z b e o k xs = .tuple #[.string s, .bool ok]) (g0 : (n : Int) ≤ 9223372036854775807) :
    Calls Try.prog 7 #[.agg #[.int .i64 z, .int .i64 b, .int .i64 e, .slice ao n ca], .int .i64 o, .int .i64 k] w fun en w' => en = .returned (.bool true) ∧ Ext w w' := by
  by_cases h1 : 1048576 < n
  · exact peekRing_no z b e o k ao n ca w g0 h1
  · exact peekRing_yes z b e o k ao n ca xs w hx hn he s ok hpv (by omega)
/-! ### the row of FnExactPeekRing -/
theorem peekRing_reads : ∀ t ∈ Try.f7.params.toList, Try.prog.readableRec t = true ∧ t < Try.prog.types.size := by
  rw [Try.params7]
  intro t ht
  simp only [List.mem_cons, List.not_mem_nil, or_false] at ht
  rcases ht with rfl | rfl | rfl
  all_goals exact ⟨by kernel_rfl, of_decide_eq_true (by kernel_rfl)⟩
set_option maxRecDepth 100000 in
theorem peekRing_lifted (os : Os) (started : os.Started) (H : Type) (enc : TypeId × Value → H) :
    ReturnsInHanded {} Try.checked os 7 .any (Rows.fnExactPeekRingSpec.pre6 enc Try.prog Try.f7 Rows.fnExactPeekRingRow.domain false) (Rows.fnExactPeekRingSpec.post enc Try.prog Try.f7 false true false false) := by
  refine returnsInHanded_of_change (C := Try.checked) ownKnobNone started (by kernel_rfl) Try.func7
    (ChangeSpec.witness6 (enc := enc) (C := Try.checked) false ⟨#[], #[.agg #[.int .i64 0, .int .i64 0, .int .i64 0, .slice none 0 0], .int .i64 0, .int .i64 0], []⟩ 8 (by kernel_rfl) (by kernel_rfl) (by kernel_rfl) (by kernel_rfl)) ?_
  intro W base args ds gs before hval0 hW hcnd _
  have hval : ∀ (j : Nat) t v, Try.f7.params[j]? = some t → args[j]? = some v → Value.okWide Try.prog W .any base t v := hval0
  have hW' := hW
  obtain ⟨p, q, hA0, hV, rfl, hfz, hnd⟩ := hW
  have hA : DataW.TrodAll enc Try.prog W 0 (fun _ => true) true Try.f7.params.toList args.toList ds p := hA0
  rw [Try.params7] at hA hval
  obtain ⟨v0, vs0, d0, ds0, p0, q0, hargs, rfl, rfl, h0, r0⟩ := trodAll_cons hA
  obtain ⟨v1, vs1, d1, ds1, p1, q1, rfl, rfl, rfl, h1, r1⟩ := trodAll_cons r0
  obtain ⟨v2, vs2, d2, ds2, p2, q2, rfl, rfl, rfl, h2, r2⟩ := trodAll_cons r1
  obtain ⟨rfl, rfl, rfl⟩ := trodAll_nil r2
  obtain rfl : args = #[v0, v1, v2] := by cases args; simp_all
  obtain ⟨z, b, e, ao, n, ca, xs, rfl, hn, hnb, hx, wz, wb, we, wx⟩ := open_ring Try.underlying30 (by kernel_rfl) (by kernel_rfl) Try.underlying3 Try.underlying3 Try.underlying3 Try.underlying22 Try.underlying3 (by kernel_rfl) (by kernel_rfl) (by kernel_rfl) (by kernel_rfl) (by kernel_rfl) (hval 0 30 v0 rfl rfl) h0
  obtain ⟨o, rfl, -, -, wi1⟩ := open_int Try.underlying3 (hval 1 3 v1 rfl rfl) h1
  obtain ⟨k, rfl, -, -, wi2⟩ := open_int Try.underlying3 (hval 2 3 v2 rfl rfl) h2
  have he : e ≤ 9223372036854775807 := (wf64 we).2
  obtain ⟨s, ok, hpv⟩ := peekV_cases z b e o k xs
  refine (peekRing_walk z b e o k ao n ca xs W hx hn he s ok hpv hnb).mono fun e W' ⟨he, hg⟩ => ?_
  subst he
  exact ⟨_, rfl, law_post laidOut peekRing_reads rfl rfl Try.underlying4 hW' (fun gs h => by subst h; rfl) hg⟩
theorem peekRing_over : Rows.fnExactPeekRingRow.holds Try.pinned (OpenSpec.ofChange Rows.fnExactPeekRingSpec) :=
  OpenClaim.holds_of_wide 7 Try.f7 rfl rfl rfl rfl rfl rfl rfl ⟨rfl, rfl, rfl, rfl, rfl⟩ rfl rfl rfl rfl rfl (by kernel_rfl) Try.func7 (by kernel_rfl)
    (of_decide_eq_true (by kernel_rfl)) (by unfold Func.isWrapper; first | (rw [if_pos (by decide +kernel)]; kernel_rfl) | (rw [if_neg (by decide +kernel)]; exact ⟨rfl, rfl⟩))
    (fun os started H enc _ => peekRing_lifted os started H enc)
/-- The statement. -/
theorem peekRing_holds : Rows.FnExactPeekRingSaid := peekRing_over
#print axioms peekRing_holds
end Go.Proofs.Yteebkiochnhnhaa

/-
  The law FnExactNewBytes holds of every argument. No condition.
-/
import Derived.Test.YtifhbchlmlaanaaRecvIn
import Derived.Test.YtifhbchlmlaanaaLawKit
import Derived.Test.YtifhbchlmlaanaaRecvLine
import Derived.Test.YtifhbchlmlaanaaRecvd
namespace Go.Proofs.Ytifhbchlmlaanaa
open Go.ChangeShapes Go.WideShapes Go.ChangeAt Go.RowKit
set_option linter.unusedSimpArgs false
set_option maxHeartbeats 2000000 in
theorem newBytes_yes (st nx fi hg co e : Int) (ao : Option Addr) (n ca : Nat) (xs : List Ck) (w : World) (hx : ReadC w ao xs) (hn : xs.length = n) (g0 : (n : Int) ≤ 9223372036854775807) (hzx : WfC xs) (hnx : -9223372036854775808 ≤ nx ∧ nx ≤ 9223372036854775807) (h1 : (n : Int) + (tot xs : Int) ≤ 1048576) :
    Calls Try.prog 7 #[.agg #[.int .i64 st, .int .i64 nx, .slice ao n ca, .int .i64 fi, .int .i64 hg, .int .i64 co], .int .i64 e] w fun en w' => en = .returned (.bool true) ∧ Ext w w' := by
  have hn' := hide hn
  have hx' := hide hx
  have hzx' := hide hzx
  clear hn hx hzx
  have s1 : (if (1048576 : Int) < (n : Int) + (tot xs : Int) then (-1 : Int) else (1048576 : Int) - n - (tot xs : Int)) = (1048576 : Int) - n - (tot xs : Int) := if_neg (by omega)
  have s3 : decide ((1048576 : Int) - n - (tot xs : Int) < 0) = false := by simp; omega
  go_enter Try.func7, Try.ntmps7
  go_wp2_with fail
  refine (szReceiver_any st nx fi hg co ao n ca xs _ _ ?_ hn'.out g0 (by omega) (by omega) (fun c hc => (hzx'.out c hc).1)).mono ?_
  · exact hx'.out.ext (by repeat (first | with_reducible exact Ext.refl _ | with_reducible assumption | with_reducible refine Ext.alloc ?_ _ | with_reducible refine Ext.drew ?_ | with_reducible refine Ext.drewN ?_ _ | ((with_reducible refine Ext.set ?_ ?_ _); (focus (first | (simp; done) | (simp; omega)))) | with_reducible refine Ext.trans ?_ (by assumption)))
  rintro en w1 ⟨rfl, hw1⟩
  have xw1 : Ext w w1 := (by repeat (first | with_reducible exact Ext.refl _ | with_reducible assumption | with_reducible refine Ext.alloc ?_ _ | with_reducible refine Ext.drew ?_ | with_reducible refine Ext.drewN ?_ _ | ((with_reducible refine Ext.set ?_ ?_ _); (focus (first | (simp; done) | (simp; omega)))) | with_reducible refine Ext.trans ?_ (by assumption)))
  have kw1_0 := hw1.more (k := w.heap.size) (by first | assumption | (simp; done) | (simp; omega) | omega)
  obtain ⟨cw1_0, fw1_0⟩ := hw1.row (k := w.heap.size) (by first | assumption | (simp; done) | (simp; omega) | omega)
  rw [s1]
  go_wp2_with fail
  refine (toReceiver_any st nx fi hg co ao n ca xs _ ?_ hn'.out (by omega)).mono ?_
  · exact hx'.out.ext xw1
  rintro en w2 ⟨ao2, cap2, rfl, ho2, hw2⟩
  have xw2 : Ext w w2 := (by repeat (first | with_reducible exact Ext.refl _ | with_reducible assumption | with_reducible refine Ext.alloc ?_ _ | with_reducible refine Ext.drew ?_ | with_reducible refine Ext.drewN ?_ _ | ((with_reducible refine Ext.set ?_ ?_ _); (focus (first | (simp; done) | (simp; omega)))) | with_reducible refine Ext.trans ?_ (by assumption)))
  have kw2_0 := hw2.more (k := w.heap.size) (by first | assumption | (simp; done) | (simp; omega) | omega)
  obtain ⟨cw2_0, fw2_0⟩ := hw2.row (k := w.heap.size) (by first | assumption | (simp; done) | (simp; omega) | omega)
  have hr2 := ho2.read
  clear ho2
  go_wp2_with fail
  refine (NewBytes_spec st nx fi hg co e ao2 xs.length cap2 xs _ (hr2.ext (by repeat (first | with_reducible exact Ext.refl _ | with_reducible assumption | with_reducible refine Ext.alloc ?_ _ | with_reducible refine Ext.drew ?_ | ((with_reducible refine Ext.set ?_ ?_ _); (focus (first | (simp; done) | (simp; omega) | omega))) | with_reducible refine Ext.trans ?_ hw2 | with_reducible refine Ext.trans ?_ hw1))) rfl (by rw [hn'.out]; omega) hzx'.out hnx).mono ?_
  rintro en w3 ⟨rfl, hw3⟩
  have xw3 : Ext w w3 := (by repeat (first | with_reducible exact Ext.refl _ | with_reducible assumption | with_reducible refine Ext.alloc ?_ _ | with_reducible refine Ext.drew ?_ | with_reducible refine Ext.drewN ?_ _ | ((with_reducible refine Ext.set ?_ ?_ _); (focus (first | (simp; done) | (simp; omega)))) | with_reducible refine Ext.trans ?_ (by assumption)))
  have kw3_0 := hw3.more (k := w.heap.size) (by first | assumption | (simp; done) | (simp; omega) | omega)
  obtain ⟨cw3_0, fw3_0⟩ := hw3.row (k := w.heap.size) (by first | assumption | (simp; done) | (simp; omega) | omega)
  go_wp2_with fail
  refine (toReceiver_any st nx fi hg co ao n ca xs _ ?_ hn'.out (by omega)).mono ?_
  · exact hx'.out.ext xw3
  rintro en w4 ⟨ao4, cap4, rfl, ho4, hw4⟩
  have xw4 : Ext w w4 := (by repeat (first | with_reducible exact Ext.refl _ | with_reducible assumption | with_reducible refine Ext.alloc ?_ _ | with_reducible refine Ext.drew ?_ | with_reducible refine Ext.drewN ?_ _ | ((with_reducible refine Ext.set ?_ ?_ _); (focus (first | (simp; done) | (simp; omega)))) | with_reducible refine Ext.trans ?_ (by assumption)))
  have kw4_0 := hw4.more (k := w.heap.size) (by first | assumption | (simp; done) | (simp; omega) | omega)
  obtain ⟨cw4_0, fw4_0⟩ := hw4.row (k := w.heap.size) (by first | assumption | (simp; done) | (simp; omega) | omega)
  have hr4 := ho4.read
  clear ho4
  go_wp2_with fail
  refine (NewBytes_impl st nx fi hg co e ao4 xs.length cap4 xs _ (hr4.ext (by repeat (first | with_reducible exact Ext.refl _ | with_reducible assumption | with_reducible refine Ext.alloc ?_ _ | with_reducible refine Ext.drew ?_ | ((with_reducible refine Ext.set ?_ ?_ _); (focus (first | (simp; done) | (simp; omega) | omega))) | with_reducible refine Ext.trans ?_ hw4 | with_reducible refine Ext.trans ?_ hw3 | with_reducible refine Ext.trans ?_ hw2 | with_reducible refine Ext.trans ?_ hw1))) rfl (by rw [hn'.out]; omega) hzx'.out hnx).mono ?_
  rintro en w5 ⟨rfl, hw5⟩
  have xw5 : Ext w w5 := (by repeat (first | with_reducible exact Ext.refl _ | with_reducible assumption | with_reducible refine Ext.alloc ?_ _ | with_reducible refine Ext.drew ?_ | with_reducible refine Ext.drewN ?_ _ | ((with_reducible refine Ext.set ?_ ?_ _); (focus (first | (simp; done) | (simp; omega)))) | with_reducible refine Ext.trans ?_ (by assumption)))
  have kw5_0 := hw5.more (k := w.heap.size) (by first | assumption | (simp; done) | (simp; omega) | omega)
  obtain ⟨cw5_0, fw5_0⟩ := hw5.row (k := w.heap.size) (by first | assumption | (simp; done) | (simp; omega) | omega)
  have kw5_1 := hw5.more (k := w4.heap.size) (by first | assumption | (simp; done) | (simp; omega) | omega)
  obtain ⟨cw5_1, fw5_1⟩ := hw5.row (k := w4.heap.size) (by first | assumption | (simp; done) | (simp; omega) | omega)
  go_wp2_with fail
  refine wp_region_lines [Line.is (.agg #[.int .i64 st, .int .i64 nx, .slice ao4 xs.length cap4, .int .i64 fi, .int .i64 hg, .int .i64 co]), Line.is (.agg #[.int .i64 st, .int .i64 nx, .slice ao n ca, .int .i64 fi, .int .i64 hg, .int .i64 co]), recvL st nx fi hg co xs, Line.is (.bool true), Line.is (.bool false)] [26, 27, 28, 29, 30] (by kernel_rfl) (by kernel_rfl) (by kernel_rfl) (by kernel_rfl) (by kernel_rfl) ?_ ?_
  · refine Each.cons ?_ (Each.cons ?_ (Each.cons ?_ (Each.cons ?_ (Each.cons ?_ (Each.nil)))))
    · intro g ws hws hl
      have hxs : Ext w ws := xw5.drew.trans hws
      simp only [fillAt, List.foldl_cons, List.foldl_nil, Act.put, List.setIfInBounds_toArray, List.set_cons_zero, List.set_cons_succ]
      obtain ⟨q0, p0⟩ := hws.row (k := w4.heap.size) (by first | assumption | (simp; done) | (simp; omega) | omega)
      obtain ⟨q1, p1⟩ := hws.row (k := w.heap.size) (by first | assumption | (simp; done) | (simp; omega) | omega)
      refine Stays.plain ?_ (by rfl) ?_ ?_
      rotate_left
      · go_simp
        try with_reducible rfl
      · exact rfl
    · intro g ws hws hl
      have hxs : Ext w ws := xw5.drew.trans hws
      simp only [fillAt, List.foldl_cons, List.foldl_nil, Act.put, List.setIfInBounds_toArray, List.set_cons_zero, List.set_cons_succ]
      obtain ⟨q0, p0⟩ := hws.row (k := w4.heap.size) (by first | assumption | (simp; done) | (simp; omega) | omega)
      obtain ⟨q1, p1⟩ := hws.row (k := w.heap.size) (by first | assumption | (simp; done) | (simp; omega) | omega)
      refine Stays.plain ?_ (by rfl) ?_ ?_
      rotate_left
      · go_simp
        try with_reducible rfl
      · exact rfl
    · intro g ws hws hl
      have hxs : Ext w ws := xw5.drew.trans hws
      have ln1 : g 27 = _ := (show (Line.is (.agg #[.int .i64 st, .int .i64 nx, .slice ao n ca, .int .i64 fi, .int .i64 hg, .int .i64 co])).p (g 27) ws from linesOf_get 1 hl (by kernel_rfl))
      simp only [fillAt, List.foldl_cons, List.foldl_nil, Act.put, List.setIfInBounds_toArray, List.set_cons_zero, List.set_cons_succ, ln1]
      refine Stays.call 22 ?_ (by rfl) ?_ ?_
      rotate_left
      · go_simp
        try with_reducible rfl
      · refine (toReceiver_any st nx fi hg co ao n ca xs _ ?_ hn'.out (by omega)).mono ?_
        · exact hx'.out.ext hxs
        · rintro en w3 ⟨ao3, cap3, rfl, ho3, hb3⟩
          exact ⟨_, rfl, hb3, recvL_mk ho3.read⟩
    · intro g ws hws hl
      have hxs : Ext w ws := xw5.drew.trans hws
      have ln0 : g 26 = _ := (show (Line.is (.agg #[.int .i64 st, .int .i64 nx, .slice ao4 xs.length cap4, .int .i64 fi, .int .i64 hg, .int .i64 co])).p (g 26) ws from linesOf_get 0 hl (by kernel_rfl))
      obtain ⟨aoC, capC, ln2, hC⟩ := recvL_get (show (recvL st nx fi hg co xs).p (g 28) ws from linesOf_get 2 hl (by kernel_rfl))
      simp only [fillAt, List.foldl_cons, List.foldl_nil, Act.put, List.setIfInBounds_toArray, List.set_cons_zero, List.set_cons_succ, ln0, ln2]
      refine Stays.call 17 ?_ (by rfl) ?_ ?_
      rotate_left
      · go_simp
        try with_reducible rfl
      · refine (eqReceiver_any st nx fi hg co ao4 aoC xs.length xs.length _ capC xs xs _ (hr4.ext (by repeat (first | with_reducible exact Ext.refl _ | with_reducible assumption | with_reducible refine Ext.alloc ?_ _ | with_reducible refine Ext.drew ?_ | ((with_reducible refine Ext.set ?_ ?_ _); (focus (first | (simp; done) | (simp; omega) | omega))) | with_reducible refine Ext.trans ?_ hws | with_reducible refine Ext.trans ?_ hw5 | with_reducible refine Ext.trans ?_ hw4 | with_reducible refine Ext.trans ?_ hw3 | with_reducible refine Ext.trans ?_ hw2 | with_reducible refine Ext.trans ?_ hw1))) hC rfl rfl (by rw [hn'.out]; omega)).mono ?_
        rintro en w9 ⟨rfl, hb9⟩
        exact ⟨_, rfl, hb9, (show _ = _ by simp)⟩
    · intro g ws hws hl
      have hxs : Ext w ws := xw5.drew.trans hws
      have ln3 : g 29 = _ := (show (Line.is (.bool true)).p (g 29) ws from linesOf_get 3 hl (by kernel_rfl))
      simp only [fillAt, List.foldl_cons, List.foldl_nil, Act.put, List.setIfInBounds_toArray, List.set_cons_zero, List.set_cons_succ, ln3]
      refine Stays.plain ?_ (by rfl) ?_ ?_
      rotate_left
      · go_simp
        try with_reducible rfl
      · exact rfl
  · intro g w6 hw6 hl
    have xw6 : Ext w w6 := xw5.drew.trans hw6
    have ln0 : g 26 = _ := (show (Line.is (.agg #[.int .i64 st, .int .i64 nx, .slice ao4 xs.length cap4, .int .i64 fi, .int .i64 hg, .int .i64 co])).p (g 26) w6 from (allLines_get 26 0 0 hl rfl))
    have ln1 : g 27 = _ := (show (Line.is (.agg #[.int .i64 st, .int .i64 nx, .slice ao n ca, .int .i64 fi, .int .i64 hg, .int .i64 co])).p (g 27) w6 from (allLines_get 27 1 0 hl rfl))
    obtain ⟨aoC, capC, ln2, hC⟩ := recvL_get (show (recvL st nx fi hg co xs).p (g 28) w6 from (allLines_get 28 2 0 hl rfl))
    have ln3 : g 29 = _ := (show (Line.is (.bool true)).p (g 29) w6 from (allLines_get 29 3 0 hl rfl))
    have ln4 : g 30 = _ := (show (Line.is (.bool false)).p (g 30) w6 from (allLines_get 30 4 0 hl rfl))
    clear hl
    simp only [fillAt, List.foldl_cons, List.foldl_nil, Act.put, List.setIfInBounds_toArray, List.set_cons_zero, List.set_cons_succ, ln0, ln1, ln2, ln3, ln4]
    have kw6_0 := hw6.more (k := w.heap.size) (by first | assumption | (simp; done) | (simp; omega) | omega)
    obtain ⟨cw6_0, fw6_0⟩ := hw6.row (k := w.heap.size) (by first | assumption | (simp; done) | (simp; omega) | omega)
    have kw6_1 := hw6.more (k := w4.heap.size) (by first | assumption | (simp; done) | (simp; omega) | omega)
    obtain ⟨cw6_1, fw6_1⟩ := hw6.row (k := w4.heap.size) (by first | assumption | (simp; done) | (simp; omega) | omega)
    go_wp2
    go_ret
    exact ⟨rfl, (by repeat (first | with_reducible exact Ext.refl _ | with_reducible assumption | with_reducible refine Ext.alloc ?_ _ | with_reducible refine Ext.drew ?_ | with_reducible refine Ext.drewN ?_ _ | ((with_reducible refine Ext.set ?_ ?_ _); (focus (first | (simp; done) | (simp; omega)))) | with_reducible refine Ext.trans ?_ (by assumption)))⟩
set_option maxHeartbeats 1000000 in
theorem newBytes_no (st nx fi hg co e : Int) (ao : Option Addr) (n ca : Nat) (xs : List Ck) (w : World) (hx : ReadC w ao xs) (hn : xs.length = n) (g0 : (n : Int) ≤ 9223372036854775807) (hzx : WfC xs) (h1 : 1048576 < (n : Int) + (tot xs : Int)) :
    Calls Try.prog 7 #[.agg #[.int .i64 st, .int .i64 nx, .slice ao n ca, .int .i64 fi, .int .i64 hg, .int .i64 co], .int .i64 e] w fun en w' => en = .returned (.bool true) ∧ Ext w w' := by
  have hn' := hide hn
  have hx' := hide hx
  have hzx' := hide hzx
  clear hn hx hzx
  have s1 : (if (1048576 : Int) < (n : Int) + (tot xs : Int) then (-1 : Int) else (1048576 : Int) - n - (tot xs : Int)) = -1 := if_pos (by omega)
  go_enter Try.func7, Try.ntmps7
  go_wp2_with fail
  refine (szReceiver_any st nx fi hg co ao n ca xs _ _ ?_ hn'.out g0 (by omega) (by omega) (fun c hc => (hzx'.out c hc).1)).mono ?_
  · exact hx'.out.ext (by repeat (first | with_reducible exact Ext.refl _ | with_reducible assumption | with_reducible refine Ext.alloc ?_ _ | with_reducible refine Ext.drew ?_ | with_reducible refine Ext.drewN ?_ _ | ((with_reducible refine Ext.set ?_ ?_ _); (focus (first | (simp; done) | (simp; omega)))) | with_reducible refine Ext.trans ?_ (by assumption)))
  rintro en w1 ⟨rfl, hw1⟩
  have xw1 : Ext w w1 := (by repeat (first | with_reducible exact Ext.refl _ | with_reducible assumption | with_reducible refine Ext.alloc ?_ _ | with_reducible refine Ext.drew ?_ | with_reducible refine Ext.drewN ?_ _ | ((with_reducible refine Ext.set ?_ ?_ _); (focus (first | (simp; done) | (simp; omega)))) | with_reducible refine Ext.trans ?_ (by assumption)))
  have kw1_0 := hw1.more (k := w.heap.size) (by first | assumption | (simp; done) | (simp; omega) | omega)
  obtain ⟨cw1_0, fw1_0⟩ := hw1.row (k := w.heap.size) (by first | assumption | (simp; done) | (simp; omega) | omega)
  rw [s1]
  go_wp2
  go_ret
  exact ⟨rfl, (by repeat (first | with_reducible exact Ext.refl _ | with_reducible assumption | with_reducible refine Ext.alloc ?_ _ | with_reducible refine Ext.drew ?_ | with_reducible refine Ext.drewN ?_ _ | ((with_reducible refine Ext.set ?_ ?_ _); (focus (first | (simp; done) | (simp; omega)))) | with_reducible refine Ext.trans ?_ (by assumption)))⟩
theorem newBytes_walk (st nx fi hg co e : Int) (ao : Option Addr) (n ca : Nat) (xs : List Ck) (w : World) (hx : ReadC w ao xs) (hn : xs.length = n) (g0 : (n : Int) ≤ 9223372036854775807) (hzx : WfC xs) (hnx : -9223372036854775808 ≤ nx ∧ nx ≤ 9223372036854775807) :
    Calls Try.prog 7 #[.agg #[.int .i64 st, .int .i64 nx, .slice ao n ca, .int .i64 fi, .int .i64 hg, .int .i64 co], .int .i64 e] w fun en w' => en = .returned (.bool true) ∧ Ext w w' := by
  by_cases h1 : 1048576 < (n : Int) + (tot xs : Int)
  · exact newBytes_no st nx fi hg co e ao n ca xs w hx hn g0 hzx h1
  · exact newBytes_yes st nx fi hg co e ao n ca xs w hx hn g0 hzx hnx (by omega)
/-! ### the row of FnExactNewBytes -/
theorem newBytes_reads : ∀ t ∈ Try.f7.params.toList, Try.prog.readableRec t = true ∧ t < Try.prog.types.size := by
  rw [Try.params7]
  intro t ht
  simp only [List.mem_cons, List.not_mem_nil, or_false] at ht
  rcases ht with rfl | rfl
  all_goals exact ⟨by kernel_rfl, of_decide_eq_true (by kernel_rfl)⟩
set_option maxRecDepth 100000 in
theorem newBytes_lifted (os : Os) (started : os.Started) (H : Type) (enc : TypeId × Value → H) :
    ReturnsInHanded {} Try.checked os 7 .any (Rows.fnExactNewBytesSpec.pre6 enc Try.prog Try.f7 Rows.fnExactNewBytesRow.domain false) (Rows.fnExactNewBytesSpec.post enc Try.prog Try.f7 false true false false) := by
  refine returnsInHanded_of_change (C := Try.checked) ownKnobNone started (by kernel_rfl) Try.func7
    (ChangeSpec.witness6 (enc := enc) (C := Try.checked) false ⟨#[], #[.agg #[.int .i64 0, .int .i64 0, .slice none 0 0, .int .i64 0, .int .i64 0, .int .i64 0], .int .i64 0], []⟩ 8 (by kernel_rfl) (by kernel_rfl) (by kernel_rfl) (by kernel_rfl)) ?_
  intro W base args ds gs before hval0 hW hcnd _
  have hval : ∀ (j : Nat) t v, Try.f7.params[j]? = some t → args[j]? = some v → Value.okWide Try.prog W .any base t v := hval0
  have hW' := hW
  obtain ⟨p, q, hA0, hV, rfl, hfz, hnd⟩ := hW
  have hA : DataW.TrodAll enc Try.prog W 0 (fun _ => true) true Try.f7.params.toList args.toList ds p := hA0
  rw [Try.params7] at hA hval
  obtain ⟨v0, vs0, d0, ds0, p0, q0, hargs, rfl, rfl, h0, r0⟩ := trodAll_cons hA
  obtain ⟨v1, vs1, d1, ds1, p1, q1, rfl, rfl, rfl, h1, r1⟩ := trodAll_cons r0
  obtain ⟨rfl, rfl, rfl⟩ := trodAll_nil r1
  obtain rfl : args = #[v0, v1] := by cases args; simp_all
  obtain ⟨st, nx, fi, hg, co, ao, n, ca, xs, rfl, hn, hnb, hx, hwx, q1, q2, q3, q4, q5⟩ := open_receiver Try.underlying35 (by kernel_rfl) (by kernel_rfl) Try.underlying3 (by kernel_rfl) Try.underlying33 (by kernel_rfl) (by kernel_rfl) Try.underlying31 (by kernel_rfl) Try.underlying123 (by kernel_rfl) (by kernel_rfl) Try.underlying9 (by kernel_rfl) (hval 0 35 v0 rfl rfl) h0
  obtain ⟨e, rfl, -, -, wi1⟩ := open_int Try.underlying3 (hval 1 3 v1 rfl rfl) h1
  refine (newBytes_walk st nx fi hg co e ao n ca xs W hx hn hnb (fun c hc => ⟨(hwx c hc).1, wf64 (hwx c hc).2⟩) (wf64 q2)).mono fun e W' ⟨he, hg⟩ => ?_
  subst he
  exact ⟨_, rfl, law_post laidOut newBytes_reads rfl rfl Try.underlying4 hW' (fun gs h => by subst h; rfl) hg⟩
theorem newBytes_over : Rows.fnExactNewBytesRow.holds Try.pinned (OpenSpec.ofChange Rows.fnExactNewBytesSpec) :=
  OpenClaim.holds_of_wide 7 Try.f7 rfl rfl rfl rfl rfl rfl rfl ⟨rfl, rfl, rfl, rfl, rfl⟩ rfl rfl rfl rfl rfl (by kernel_rfl) Try.func7 (by kernel_rfl)
    (of_decide_eq_true (by kernel_rfl)) (by unfold Func.isWrapper; first | (rw [if_pos (by decide +kernel)]; kernel_rfl) | (rw [if_neg (by decide +kernel)]; exact ⟨rfl, rfl⟩))
    (fun os started H enc _ => newBytes_lifted os started H enc)
/-- The statement. -/
theorem newBytes_holds : Rows.FnExactNewBytesSaid := newBytes_over
#print axioms newBytes_holds
end Go.Proofs.Ytifhbchlmlaanaa

/-
  The drawn inputs of the law of windows: contracts of DrawSeeBytes, DrawRaiseWindow, DrawNewWindow: some values; what was there is as it was. Condition: the bytes of the code can be read.
-/
import Derived.Test.YtofaihmiekoikaaDrawWindow
namespace Go.Proofs.Ytofaihmiekoikaa
open Go.ChangeShapes Go.WideShapes Go.ChangeAt Go.RowKit
set_option linter.unusedSimpArgs false
set_option linter.unusedVariables false
/-- A drawn window and a number. -/
def DrewWnInt (w : World) (e : Ending) (w' : World) : Prop :=
  ∃ z m l s r t n : Int, e = .returned (.tuple #[.agg #[.int .i64 z, .int .i64 m, .int .i64 l, .int .i64 s, .int .i64 r, .int .i64 t], .int .i64 n]) ∧ Ext w w'
/-- A drawn window and two numbers. -/
def DrewWnInt2 (w : World) (e : Ending) (w' : World) : Prop :=
  ∃ z m l s r t n k : Int, e = .returned (.tuple #[.agg #[.int .i64 z, .int .i64 m, .int .i64 l, .int .i64 s, .int .i64 r, .int .i64 t], .int .i64 n, .int .i64 k]) ∧ Ext w w'
/-- Two drawn numbers. -/
def DrewInt2 (w : World) (e : Ending) (w' : World) : Prop := ∃ n k : Int, e = .returned (.tuple #[.int .i64 n, .int .i64 k]) ∧ Ext w w'
theorem l1PickInt_newd (p : Nat) (code : Value) (xs : List Int) (T : TypeId) (w : World) (hc : CurAt w p code) (hn : 0 < xs.length) (hm : xs.length ≤ 1000) :
    Calls Try.prog 36 #[.pointer (some ⟨p, 0, none⟩), .slice (some ⟨w.heap.size, 0, none⟩) xs.length xs.length] (w.alloc (.cells (xs.map (Value.int .i64)).toArray T)).drew (Drawn (fun x => x ∈ xs) p code (w.alloc (.cells (xs.map (Value.int .i64)).toArray T)).drew) :=
  l1PickInt_any p code w.heap.size 0 xs.length xs _ (hc.stays (((Ext.refl w).alloc _).drew.chg (fun _ => False)) (fun _ _ h => h)) hn hm (by show w.heap.size < (w.alloc _).heap.size; simp) (by have := hc.lt; omega) (fun j h => new_ints j h)
set_option maxHeartbeats 4000000 in
theorem DrawSeeBytes_any (code : Value) (w : World) (hc : CodeAt w w.heap.size code) : Calls Try.prog 28 #[code] w (DrewWnInt w) := by
  go_enter Try.func28, Try.ntmps28
  go_wp2_with fail
  refine (l1New_any code _ (hc.grown ((Ext.refl w).alloc _))).mono ?_
  rintro e w1 ⟨rfl, hcur, hx1⟩
  have hr1 := alloc_at' hx1
  simp only [World.size_alloc] at hcur
  go_wp2_with fail
  refine (l11Window_any (w.heap.size + 1) code _ hcur).mono ?_
  rintro e w2 ⟨z, m, l, s, r, t, rfl, hcur2, hg2⟩
  have hr2 := (hg2.block _ (lt_of_block hr1) (by omega)).trans hr1
  have hcur3 : CurAt (w2.alloc (wnObj z m l s r t)) (w.heap.size + 1) code := hcur2.stays (((Ext.refl w2).alloc _).chg (fun _ => False)) (fun _ _ h => h)
  have hr3 := hide (((((Ext.refl w2).alloc (wnObj z m l s r t)).chg (fun _ => False)).block _ (lt_of_block hr2) (fun h => h)).trans hr2)
  have hb3 := hide (alloc_at w2 (wnObj z m l s r t))
  have hlt := lt_of_block hr2
  simp only [wnObj] at hcur3
  clear hr1 hr2
  have k1 : Chg (fun k => k = w.heap.size + 1 ∨ k = w.heap.size) w w1 := (((Ext.refl w).alloc _).trans hx1).chg _
  have k2 := k1.trans (hg2.mono fun k _ h => Or.inl h)
  have k3 := k2.alloc (wnObj z m l s r t)
  go_wp2_with fail
  go_region_with (go_at_call 35; (with_reducible refine (l1Below_pos (w.heap.size + 1) code _ _ (by omega) (by first | exact hcur3 | exact hcur3.drew)).mono ?_); rintro e w4 ⟨y, rfl, ⟨y0, y1⟩, hcur4, hg4⟩; obtain ⟨c0, c1, c2, c3, c4, c5, cf⟩ := at6 ((hg4.block _ (lt_of_block hb3.out) (by have := hcur2.lt; omega)).trans hb3.out); obtain ⟨d0, d1, d2, d3, d4, d5, df⟩ := at6 ((hg4.block _ (lt_of_block hr3.out) (by omega)).trans hr3.out))
  all_goals
    go_wp2
    refine bodyPost_ret (v := .tuple #[.agg #[.int .i64 z, .int .i64 m, .int .i64 l, .int .i64 s, .int .i64 r, .int .i64 t], .int .i64 (IntKind.i64.wrap (y - 1))]) (by simp [results, Try.results28, go_sem, *]) rfl ⟨z, m, l, s, r, t, _, rfl, ?_⟩
    have k4 := k3.drew.trans (hg4.mono fun k _ h => Or.inl h)
    exact (Chg.trans k4 ((set6_chg _ _ _ _ _ _).mono fun k _ h => Or.inr h)).ext (by intro k hk h; omega)
set_option maxHeartbeats 4000000 in
theorem DrawRaiseWindow_any (code : Value) (w : World) (hc : CodeAt w w.heap.size code) : Calls Try.prog 29 #[code] w (DrewWnInt2 w) := by
  go_enter Try.func29, Try.ntmps29
  go_wp2_with fail
  refine (l1New_any code _ (hc.grown ((Ext.refl w).alloc _))).mono ?_
  rintro e w1 ⟨rfl, hcur, hx1⟩
  have hr1 := alloc_at' hx1
  simp only [World.size_alloc] at hcur
  go_wp2_with fail
  refine (l11Window_any (w.heap.size + 1) code _ hcur).mono ?_
  rintro e w2 ⟨z, m, l, s, r, t, rfl, hcur2, hg2⟩
  have hr2 := (hg2.block _ (lt_of_block hr1) (by omega)).trans hr1
  have hcur3 : CurAt (w2.alloc (wnObj z m l s r t)) (w.heap.size + 1) code := hcur2.stays (((Ext.refl w2).alloc _).chg (fun _ => False)) (fun _ _ h => h)
  have hr3 := hide (((((Ext.refl w2).alloc (wnObj z m l s r t)).chg (fun _ => False)).block _ (lt_of_block hr2) (fun h => h)).trans hr2)
  have hb3 := hide (alloc_at w2 (wnObj z m l s r t))
  have hlt := lt_of_block hr2
  simp only [wnObj] at hcur3
  clear hr1 hr2
  have k1 : Chg (fun k => k = w.heap.size + 1 ∨ k = w.heap.size) w w1 := (((Ext.refl w).alloc _).trans hx1).chg _
  have k2 := k1.trans (hg2.mono fun k _ h => Or.inl h)
  have k3 := k2.alloc (wnObj z m l s r t)
  go_wp2_with fail
  go_region_with (go_at_call 35; (with_reducible refine (l1Below_pos (w.heap.size + 1) code _ _ (by omega) (by first | exact hcur3 | exact hcur3.drew)).mono ?_); rintro e w4 ⟨y, rfl, ⟨y0, y1⟩, hcur4, hg4⟩; have hb4 := hide ((hg4.block _ (lt_of_block hb3.out) (by have := hcur2.lt; omega)).trans hb3.out); have hr4 := hide ((hg4.block _ (lt_of_block hr3.out) (by omega)).trans hr3.out); obtain ⟨c0, c1, c2, c3, c4, c5, cf⟩ := at6 hb4.out; obtain ⟨d0, d1, d2, d3, d4, d5, df⟩ := at6 hr4.out)
  all_goals
    have k4 := k3.drew.trans (hg4.mono fun k _ h => Or.inl h)
    have n1 := lt_of_block hb4.out
    have n2 := lt_of_block hr4.out
    go_wp2_with fail
    go_region_with (go_at_call 36; (first | refine (l1PickInt_newd (w.heap.size + 1) code [0, 1, 2, 4, 1000, 1001] _ _ hcur4 (by simp) (by simp)).mono ?_ | refine (l1PickInt_new (w.heap.size + 1) code [0, 1, 2, 4, 1000, 1001] _ _ hcur4 (by simp) (by simp)).mono ?_); rintro e w5 ⟨q, rfl, hq, hcur5, hg5⟩; have hg5' : Chg (fun k => k = w.heap.size + 1) w4 w5 := ((((Ext.refl w4).alloc _).drew).chg _).trans hg5; have hb5 := hide ((hg5'.block _ (lt_of_block hb4.out) (by have := hcur2.lt; omega)).trans hb4.out); have hr5 := hide ((hg5'.block _ (lt_of_block hr4.out) (by omega)).trans hr4.out); obtain ⟨g0, g1, g2, g3, g4, g5, gf⟩ := at6 hb5.out; obtain ⟨h0, h1, h2, h3, h4, h5, hf⟩ := at6 hr5.out)
    all_goals
      go_wp2
      refine bodyPost_ret (v := .tuple #[.agg #[.int .i64 z, .int .i64 m, .int .i64 l, .int .i64 s, .int .i64 r, .int .i64 t], .int .i64 (IntKind.i64.wrap (IntKind.i64.wrap (t + y) - 1)), .int .i64 q]) (by simp [results, Try.results29, go_sem, *]) rfl ⟨z, m, l, s, r, t, _, _, rfl, ?_⟩
      have k5 := k4.trans (hg5'.mono fun k _ h => Or.inl h)
      exact (Chg.trans k5 ((set6_chg _ _ _ _ _ _).mono fun k _ h => Or.inr h)).ext (by intro k hk h; omega)
set_option maxHeartbeats 1000000 in
theorem DrawNewWindow_any (code : Value) (w : World) (hc : CodeAt w w.heap.size code) : Calls Try.prog 30 #[code] w (DrewInt2 w) := by
  go_enter Try.func30, Try.ntmps30
  go_wp2_with fail
  refine (l1New_any code _ hc).mono ?_
  rintro e w1 ⟨rfl, hcur, hx1⟩
  go_wp2_with fail
  refine (l1PickInt_new w.heap.size code [0, 1, 5, 4096, 4097] _ _ hcur (by simp) (by simp)).mono ?_
  rintro e w2 ⟨y, rfl, hy, hcur2, hg2⟩
  go_wp2_with fail
  refine (l1PickInt_new w.heap.size code [0, 1, 5, 9, 4096, 4097] _ _ hcur2 (by simp) (by simp)).mono ?_
  rintro e w3 ⟨q, rfl, hq, hcur3, hg3⟩
  go_wp2
  go_ret2
  exact ⟨y, q, rfl, ((((hx1.alloc _).chg _).trans hg2).trans ((((Ext.refl w2).alloc _).chg _).trans hg3)).ext (by intro k hk h; omega)⟩
end Go.Proofs.Ytofaihmiekoikaa

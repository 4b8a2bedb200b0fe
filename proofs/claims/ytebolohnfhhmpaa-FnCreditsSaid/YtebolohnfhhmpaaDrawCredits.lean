/-
  The drawn inputs of the law of credits: contracts of DrawUseCredit, DrawRaiseLimit, DrawNewCredit: some values; what was there is as it was. Condition: the bytes of the code can be read.
-/
import Derived.Test.YtebolohnfhhmpaaDrawCredit
namespace Go.Proofs.Ytebolohnfhhmpaa
open Go.ChangeShapes Go.WideShapes Go.ChangeAt Go.RowKit
set_option linter.unusedSimpArgs false
set_option linter.unusedVariables false
/-- A drawn credit and a number. -/
def DrewCrInt (w : World) (e : Ending) (w' : World) : Prop :=
  ∃ l u b t n : Int, e = .returned (.tuple #[.agg #[.int .i64 l, .int .i64 u, .int .i64 b, .int .i64 t], .int .i64 n]) ∧ Ext w w'
/-- A drawn number. -/
def DrewInt (w : World) (e : Ending) (w' : World) : Prop := ∃ n : Int, e = .returned (.int .i64 n) ∧ Ext w w'
theorem CodeAt.up {w : World} {p q : Nat} {code : Value} (h : CodeAt w p code) (hq : p ≤ q) : CodeAt w q code := by
  rcases h with h | ⟨b, off, len, cap, h1, h2, h3, h4⟩
  · exact Or.inl h
  · exact Or.inr ⟨b, off, len, cap, h1, by omega, h3, h4⟩
theorem CodeAt.grown {w w' : World} {code : Value} (h : CodeAt w w.heap.size code) (hx : Ext w w') : CodeAt w' w'.heap.size code :=
  (h.stays (hx.chg (fun _ => False)) (Nat.le_refl _) (fun _ _ h => h)).up hx.size
theorem alloc_at (w : World) (o : Obj) : (w.alloc o).heap[w.heap.size]? = some o := by
  show (w.heap.push _)[w.heap.size]? = _
  simp
theorem alloc_at' {w w1 : World} {o : Obj} (h : Ext (w.alloc o) w1) : w1.heap[w.heap.size]? = some o :=
  ((h.chg (fun _ => False)).block _ (by simp) (fun h => h)).trans (alloc_at w o)
set_option maxHeartbeats 1000000 in
theorem DrawUseCredit_any (code : Value) (w : World) (hc : CodeAt w w.heap.size code) : Calls Try.prog 31 #[code] w (DrewCrInt w) := by
  go_enter Try.func31, Try.ntmps31
  go_wp2_with fail
  refine (l1New_any code _ (hc.grown ((Ext.refl w).alloc _))).mono ?_
  rintro e w1 ⟨rfl, hcur, hx1⟩
  have hr1 := alloc_at' hx1
  simp only [World.size_alloc] at hcur
  go_wp2_with fail
  refine (l10Credit_any (w.heap.size + 1) code _ hcur).mono ?_
  rintro e w2 ⟨l, u, b, t, rfl, hcur2, hg2⟩
  have hr2 := (hg2.block _ (lt_of_block hr1) (by omega)).trans hr1
  have hx2 : Ext (w2.alloc (crObj l u b t)) (w2.alloc (crObj l u b t)) := Ext.refl _
  have hcur3 : CurAt (w2.alloc (crObj l u b t)) (w.heap.size + 1) code := hcur2.stays (((Ext.refl w2).alloc _).chg (fun _ => False)) (fun _ _ h => h)
  have hr3 := hide (((((Ext.refl w2).alloc (crObj l u b t)).chg (fun _ => False)).block _ (lt_of_block hr2) (fun h => h)).trans hr2)
  have hb3 := hide (alloc_at w2 (crObj l u b t))
  have hlt := lt_of_block hr2
  simp only [crObj] at hcur3
  clear hr1 hr2 hx2
  go_wp2_with fail
  go_region_with (go_at_call 40; (with_reducible refine (l1Below_pos (w.heap.size + 1) code _ _ (by omega) (by first | exact hcur3 | exact hcur3.drew)).mono ?_); rintro e w4 ⟨y, rfl, ⟨y0, y1⟩, hcur4, hg4⟩; obtain ⟨c0, c1, c2, c3, f⟩ := at4 ((hg4.block _ (lt_of_block hb3.out) (by have := hcur2.lt; omega)).trans hb3.out); obtain ⟨d0, d1, d2, d3, g⟩ := at4 ((hg4.block _ (lt_of_block hr3.out) (by omega)).trans hr3.out))
  all_goals
    go_wp2
    refine bodyPost_ret (v := .tuple #[.agg #[.int .i64 l, .int .i64 u, .int .i64 b, .int .i64 t], .int .i64 (IntKind.i64.wrap (y - 1))]) (by simp [results, Try.results31, go_sem, *]) rfl ⟨l, u, b, t, _, rfl, ?_⟩
    have k1 : Chg (fun k => k = w.heap.size + 1 ∨ k = w.heap.size) w w1 := (((Ext.refl w).alloc _).trans hx1).chg _
    have k2 := k1.trans (hg2.mono fun k _ h => Or.inl h)
    have k3 := (k2.alloc (crObj l u b t)).drew
    have k4 := k3.trans (hg4.mono fun k _ h => Or.inl h)
    exact (Chg.trans k4 ((set4_chg _ _ _ _).mono fun k _ h => Or.inr h)).ext (by intro k hk h; omega)
set_option maxHeartbeats 1000000 in
theorem DrawRaiseLimit_any (code : Value) (w : World) (hc : CodeAt w w.heap.size code) : Calls Try.prog 32 #[code] w (DrewCrInt w) := by
  go_enter Try.func32, Try.ntmps32
  go_wp2_with fail
  refine (l1New_any code _ (hc.grown ((Ext.refl w).alloc _))).mono ?_
  rintro e w1 ⟨rfl, hcur, hx1⟩
  have hr1 := alloc_at' hx1
  simp only [World.size_alloc] at hcur
  go_wp2_with fail
  refine (l10Credit_any (w.heap.size + 1) code _ hcur).mono ?_
  rintro e w2 ⟨l, u, b, t, rfl, hcur2, hg2⟩
  have hr2 := (hg2.block _ (lt_of_block hr1) (by omega)).trans hr1
  have hx2 : Ext (w2.alloc (crObj l u b t)) (w2.alloc (crObj l u b t)) := Ext.refl _
  have hcur3 : CurAt (w2.alloc (crObj l u b t)) (w.heap.size + 1) code := hcur2.stays (((Ext.refl w2).alloc _).chg (fun _ => False)) (fun _ _ h => h)
  have hr3 := hide (((((Ext.refl w2).alloc (crObj l u b t)).chg (fun _ => False)).block _ (lt_of_block hr2) (fun h => h)).trans hr2)
  have hb3 := hide (alloc_at w2 (crObj l u b t))
  have hlt := lt_of_block hr2
  simp only [crObj] at hcur3
  clear hr1 hr2 hx2
  go_wp2_with fail
  go_region_with (go_at_call 40; (with_reducible refine (l1Below_pos (w.heap.size + 1) code _ _ (by omega) (by first | exact hcur3 | exact hcur3.drew)).mono ?_); rintro e w4 ⟨y, rfl, ⟨y0, y1⟩, hcur4, hg4⟩; obtain ⟨c0, c1, c2, c3, f⟩ := at4 ((hg4.block _ (lt_of_block hb3.out) (by have := hcur2.lt; omega)).trans hb3.out); obtain ⟨d0, d1, d2, d3, g⟩ := at4 ((hg4.block _ (lt_of_block hr3.out) (by omega)).trans hr3.out))
  all_goals
    go_wp2
    refine bodyPost_ret (v := .tuple #[.agg #[.int .i64 l, .int .i64 u, .int .i64 b, .int .i64 t], .int .i64 (IntKind.i64.wrap (y - 1))]) (by simp [results, Try.results32, go_sem, *]) rfl ⟨l, u, b, t, _, rfl, ?_⟩
    have k1 : Chg (fun k => k = w.heap.size + 1 ∨ k = w.heap.size) w w1 := (((Ext.refl w).alloc _).trans hx1).chg _
    have k2 := k1.trans (hg2.mono fun k _ h => Or.inl h)
    have k3 := (k2.alloc (crObj l u b t)).drew
    have k4 := k3.trans (hg4.mono fun k _ h => Or.inl h)
    exact (Chg.trans k4 ((set4_chg _ _ _ _).mono fun k _ h => Or.inr h)).ext (by intro k hk h; omega)
set_option maxHeartbeats 1000000 in
theorem DrawNewCredit_any (code : Value) (w : World) (hc : CodeAt w w.heap.size code) : Calls Try.prog 33 #[code] w (DrewInt w) := by
  go_enter Try.func33, Try.ntmps33
  go_wp2_with fail
  refine (l1New_any code _ hc).mono ?_
  rintro e w1 ⟨rfl, hcur, hx1⟩
  go_wp2_with fail
  refine (l1PickInt_new w.heap.size code [-1, 0, 5, 4611686018427387903, 4611686018427387904] _ _ hcur (by simp) (by simp)).mono ?_
  rintro e w2 ⟨y, rfl, hy, hcur2, hg2⟩
  go_wp2
  go_ret
  exact ⟨y, rfl, (((hx1.alloc _).chg _).trans hg2).ext (by intro k hk h; omega)⟩
end Go.Proofs.Ytebolohnfhhmpaa

/-
  The drawn credit: contract of l10Credit: some credit; the cursor alone turns. Condition: a cursor.
-/
import Derived.Test.YtebolohnfhhmpaaDrawPick
import Derived.Test.YtebolohnfhhmpaaUseCredit
import Derived.Test.YtebolohnfhhmpaaRaiseLimit
import Derived.Test.YtebolohnfhhmpaaNoteBlocked
import Derived.Test.YtebolohnfhhmpaaClearBlocked
import Derived.Test.YtebolohnfhhmpaaNewCredit
import Derived.Deep.RegionWith
namespace Go.Proofs.Ytebolohnfhhmpaa
open Go.ChangeShapes Go.WideShapes Go.ChangeAt Go.RowKit
set_option linter.unusedVariables false
def crObj (l u b t : Int) : Obj := .cells #[.int .i64 l, .int .i64 u, .int .i64 b, .int .i64 t] 25
/-- The credit's box, the cursor. -/
def CrRel (p bx : Nat) (code : Value) (w0 : World) (n : Value) (wr : World) : Prop :=
  ∃ (k l u b t : Int), n = .int .i64 k ∧ 0 ≤ k ∧ k ≤ 1000 ∧ wr.heap[bx]? = some (crObj l u b t) ∧ CurAt wr p code ∧ Chg (fun k => k = p ∨ k = bx) w0 wr
theorem set4 {w : World} {b : Nat} {c0 c1 c2 c3 : Value} {T : TypeId} (h : w.heap[b]? = some (.cells #[c0, c1, c2, c3] T)) (v0 v1 v2 v3 : Value) :
   ((((w.setCell ⟨b, 0, none⟩ v0).setCell ⟨b, 1, none⟩ v1).setCell ⟨b, 2, none⟩ v2).setCell ⟨b, 3, none⟩ v3).heap[b]? = some (.cells #[v0, v1, v2, v3] T) := by
  have := block_set (i := 3) (block_set (i := 2) (block_set (i := 1) (block_set (i := 0) h v0) v1) v2) v3
  simpa using this
theorem at4 {w : World} {b : Nat} {l u b' t : Int} (h : w.heap[b]? = some (crObj l u b' t)) : w.cell? ⟨b, 0, none⟩ = some (.int .i64 l) ∧ w.cell? ⟨b, 1, none⟩ = some (.int .i64 u) ∧ w.cell? ⟨b, 2, none⟩ = some (.int .i64 b') ∧ w.cell? ⟨b, 3, none⟩ = some (.int .i64 t) ∧ ∀ o, w.frozen? ⟨b, o, none⟩ = false := by
  refine ⟨?_, ?_, ?_, ?_, fun o => ?_⟩ <;> simp [World.cell?, World.frozen?, h, crObj]
theorem set4_chg {w : World} {b : Nat} (v0 v1 v2 v3 : Value) : Chg (fun k => k = b) w ((((w.setCell ⟨b, 0, none⟩ v0).setCell ⟨b, 1, none⟩ v1).setCell ⟨b, 2, none⟩ v2).setCell ⟨b, 3, none⟩ v3) :=
  Chg.set (S := fun k => k = b) (Or.inl rfl) (Chg.set (S := fun k => k = b) (Or.inl rfl) (Chg.set (S := fun k => k = b) (Or.inl rfl) (Chg.set (S := fun k => k = b) (Or.inl rfl) (Chg.refl _ _) _) _) _) _
theorem cr_store {p bx : Nat} {code : Value} {w0 w : World} {l u b t : Int} {k l' u' b' t' : Int} (h0 : 0 < k) (h1 : k ≤ 1000) (hp : p < bx) (hb : w.heap[bx]? = some (crObj l u b t)) (hc : CurAt w p code) (hg : Chg (fun k => k = p ∨ k = bx) w0 w) :
    CrRel p bx code w0 (.int .i64 (k - 1)) ((((w.setCell ⟨bx, 0, none⟩ (.int .i64 l')).setCell ⟨bx, 1, none⟩ (.int .i64 u')).setCell ⟨bx, 2, none⟩ (.int .i64 b')).setCell ⟨bx, 3, none⟩ (.int .i64 t')) :=
  ⟨k - 1, l', u', b', t', rfl, by omega, by omega, set4 hb _ _ _ _, hc.stays (set4_chg _ _ _ _) (by intro b hb e; omega), hg.trans ((set4_chg _ _ _ _).mono fun k _ h => Or.inr h)⟩
/-- A drawn credit. -/
def DrawnCr (p : Nat) (code : Value) (w : World) (e : Ending) (w' : World) : Prop :=
  ∃ l u b t : Int, e = .returned (.agg #[.int .i64 l, .int .i64 u, .int .i64 b, .int .i64 t]) ∧ CurAt w' p code ∧ Chg (fun k => k = p) w w'
theorem cr_end {p bx r0 : Nat} {code : Value} {w w3 w5 wf : World} (hp : p < r0) (hr : r0 = w.heap.size) (hpb : r0 < bx) (h3 : Chg (fun k => k = p) w w3) (h5 : Chg (fun k => k = p ∨ k = bx) w3 w5) (hc : CurAt w5 p code)
    (hf : Chg (fun k => k = bx ∨ k = r0) w5 wf) (l u b t : Int) : DrawnCr p code w (.returned (.agg #[.int .i64 l, .int .i64 u, .int .i64 b, .int .i64 t])) wf :=
  ⟨l, u, b, t, rfl, hc.stays hf (by intro k hk h; omega), (((h3.mono (T := fun k => k = p ∨ k = bx ∨ k = r0) (fun k _ h => Or.inl h)).trans (h5.mono fun k _ h => h.elim Or.inl fun h => Or.inr (Or.inl h))).trans (hf.mono fun k _ h => Or.inr h)).mono (fun k hk h => by omega)⟩
set_option maxHeartbeats 4000000 in
theorem l10Credit_any (p : Nat) (code : Value) (w : World) (hc : CurAt w p code) :
    Calls Try.prog 39 #[.pointer (some ⟨p, 0, none⟩)] w (DrawnCr p code w) := by
  have hp := hc.lt
  go_enter Try.func39, Try.ntmps39
  go_wp2_with fail
  refine (l1Below_pos p code _ _ (by omega) (hc.stays (((Ext.refl w).alloc _).chg (fun _ => False)) (fun _ _ h => h))).mono ?_
  rintro e w1 ⟨x, rfl, ⟨x0, x1⟩, hcur, hg⟩
  go_wp2_with fail
  refine (NewCredit_spec x _).mono ?_
  rintro e w2 ⟨rfl, hb2⟩
  go_wp2_with fail
  have hbx : (w2.alloc (crObj (newCr x).l (newCr x).u (newCr x).b (newCr x).t)).heap[w2.heap.size]? = some (crObj (newCr x).l (newCr x).u (newCr x).b (newCr x).t) := by
    show (w2.heap.push _)[w2.heap.size]? = _
    simp
  have hcur2 : CurAt (w2.alloc (crObj (newCr x).l (newCr x).u (newCr x).b (newCr x).t)) p code := hcur.stays ((hb2.alloc _).chg (fun _ => False)) (fun _ _ h => h)
  have hg2 : Chg (fun k => k = p) w (w2.alloc (crObj (newCr x).l (newCr x).u (newCr x).b (newCr x).t)) :=
    ((((Ext.refl w).alloc _).chg _).trans hg).trans ((hb2.alloc _).chg _)
  have hpb : p < w2.heap.size := by have := hcur.lt; have := hb2.size; omega
  refine (l1Below_pos p code _ _ (by omega) hcur2).mono ?_
  rintro e w3 ⟨n, rfl, ⟨n0, n1⟩, hcur3, hg3⟩
  have hbx3 : w3.heap[w2.heap.size]? = some (crObj (newCr x).l (newCr x).u (newCr x).b (newCr x).t) := by
    rw [hg3.block _ (lt_of_block hbx) (by omega)]; exact hbx
  generalize (newCr x).l = l0 at *
  generalize (newCr x).u = u0 at *
  generalize (newCr x).b = b0 at *
  generalize (newCr x).t = t0 at *
  go_wp2
  have hp0 : p < w.heap.size := hp
  have hrb : w.heap.size < w2.heap.size := by have := hb2.size; have := hg.size; simp at *; omega
  have hr1 : (w.alloc (crObj 0 0 0 0)).heap[w.heap.size]? = some (crObj 0 0 0 0) := by
    show (w.heap.push _)[w.heap.size]? = _
    simp
  have hr2 : w1.heap[w.heap.size]? = some (crObj 0 0 0 0) := (hg.block _ (by simp) (by omega)).trans hr1
  have hr2b := ((hb2.alloc (crObj l0 u0 b0 t0)).chg (fun _ => False)).block _ (lt_of_block hr2) (fun h => h)
  have hr3 := hide ((hg3.block _ (by have := hb2.size; simp; omega) (by omega)).trans (hr2b.trans hr2))
  clear hr1 hr2 hr2b
  go_loopw [5] (CrRel p w2.heap.size code w3) (fun n _ => (intOf n).toNat)
  case atStart => exact ⟨n, l0, u0, b0, t0, rfl, n0, by omega, hbx3, hcur3, Chg.refl _ _⟩
  case round =>
    obtain ⟨k, l, u, b, t, rfl, hkn, hk, hbr, hcr, hgr⟩ := hrel
    by_cases hk0 : 0 < k
    · go_wp2_with fail
      refine (l1Below_pos p code _ _ (by omega) hcr).mono ?_
      rintro e w4 ⟨s, rfl, ⟨s0, s1⟩, hcur4, hg4⟩
      have hb4 : w4.heap[w2.heap.size]? = some (crObj l u b t) := by rw [hg4.block _ (lt_of_block hbr) (by omega)]; exact hbr
      have hg4' : Chg (fun k => k = p ∨ k = w2.heap.size) w3 w4 := hgr.trans (hg4.mono fun k _ h => Or.inl h)
      obtain ⟨c0, c1, c2, c3, f⟩ := at4 hb4
      have hb4h := hide hb4
      clear hb4
      have hs : s = 0 ∨ s = 1 ∨ s = 2 ∨ s = 3 := by omega
      rcases hs with rfl | rfl | rfl | rfl
      · go_wp2_with fail
        go_region_with (first | (go_at_call 40; (with_reducible refine (l1Below_pos p code _ _ (by omega) (by first | exact hcur4 | exact hcur4.drew)).mono ?_); rintro e w5 ⟨y, rfl, ⟨y0, y1⟩, hcur5, hg5⟩; have hb5 := hide ((hg5.block _ (lt_of_block hb4h.out) (by omega)).trans hb4h.out); obtain ⟨c50, c51, c52, c53, f5⟩ := at4 hb5.out) | (go_at_call 28; (with_reducible refine (UseCredit_spec _ _ _ _ _ _).mono ?_); rintro e w6 ⟨rfl, hb6⟩; have hb6' := hide (((hb6.chg (fun _ => False)).block _ (lt_of_block hb5.out) (fun h => h)).trans hb5.out); obtain ⟨c60, c61, c62, c63, f6⟩ := at4 hb6'.out))
        all_goals
          go_wp2
          go_roundw
          case rel => exact cr_store hk0 hk hpb hb6'.out (hcur5.stays (hb6.chg (fun _ => False)) (fun _ _ h => h)) ((hg4'.trans (((Ext.refl _).drew).chg _)).trans ((hg5.mono fun k _ h => Or.inl h).trans (hb6.chg _)))
          case measure => simp [intOf]; omega
      · go_wp2_with fail
        go_region_with (first | (go_at_call 40; (with_reducible refine (l1Below_pos p code _ _ (by omega) (by first | exact hcur4 | exact hcur4.drew)).mono ?_); rintro e w5 ⟨y, rfl, ⟨y0, y1⟩, hcur5, hg5⟩; have hb5 := hide ((hg5.block _ (lt_of_block hb4h.out) (by omega)).trans hb4h.out); obtain ⟨c50, c51, c52, c53, f5⟩ := at4 hb5.out) | (go_at_call 28; (with_reducible refine (UseCredit_spec _ _ _ _ _ _).mono ?_); rintro e w6 ⟨rfl, hb6⟩; have hb6' := hide (((hb6.chg (fun _ => False)).block _ (lt_of_block hb5.out) (fun h => h)).trans hb5.out); obtain ⟨c60, c61, c62, c63, f6⟩ := at4 hb6'.out))
        all_goals
          go_wp2
          go_roundw
          case rel => exact cr_store hk0 hk hpb hb6'.out (hcur5.stays (hb6.chg (fun _ => False)) (fun _ _ h => h)) ((hg4'.trans (((Ext.refl _).drew).chg _)).trans ((hg5.mono fun k _ h => Or.inl h).trans (hb6.chg _)))
          case measure => simp [intOf]; omega
      · go_wp2_with fail
        go_region_with (first | (go_at_call 40; (with_reducible refine (l1Below_pos p code _ _ (by omega) (by first | exact hcur4 | exact hcur4.drew)).mono ?_); rintro e w5 ⟨y, rfl, ⟨y0, y1⟩, hcur5, hg5⟩; have hb5 := hide ((hg5.block _ (lt_of_block hb4h.out) (by omega)).trans hb4h.out); obtain ⟨c50, c51, c52, c53, f5⟩ := at4 hb5.out) | (go_at_call 26; (with_reducible refine (RaiseLimit_spec _ _ _ _ _ _).mono ?_); rintro e w6 ⟨rfl, hb6⟩; have hb6' := hide (((hb6.chg (fun _ => False)).block _ (lt_of_block hb5.out) (fun h => h)).trans hb5.out); obtain ⟨c60, c61, c62, c63, f6⟩ := at4 hb6'.out))
        all_goals
          go_wp2
          go_roundw
          case rel => exact cr_store hk0 hk hpb hb6'.out (hcur5.stays (hb6.chg (fun _ => False)) (fun _ _ h => h)) ((hg4'.trans (((Ext.refl _).drew).chg _)).trans ((hg5.mono fun k _ h => Or.inl h).trans (hb6.chg _)))
          case measure => simp [intOf]; omega
      · go_wp2_with fail
        refine (NoteBlocked_spec _ _ _ _ _).mono ?_
        rintro e w5 ⟨rfl, hb5⟩
        have hb5' := hide (((hb5.chg (fun _ => False)).block _ (lt_of_block hb4h.out) (fun h => h)).trans hb4h.out)
        obtain ⟨c50, c51, c52, c53, f5⟩ := at4 hb5'.out
        have hcur5 := hcur4.stays (hb5.chg (fun _ => False)) (fun _ _ h => h)
        go_wp2_with fail
        have hrel5 := cr_store (k := 1) (l' := (noteCr l u b t).l) (u' := (noteCr l u b t).u) (b' := (noteCr l u b t).b) (t' := (noteCr l u b t).t) (by omega) (by omega) hpb hb5'.out hcur5 (hg4'.trans (hb5.chg _))
        obtain ⟨_, l2, u2, b2, t2, _, _, _, hb6, hcur6, hg6⟩ := hrel5
        refine (l1Once_any p code _ _ hcur6).mono ?_
        rintro e w7 ⟨o, rfl, hcur7, hg7⟩
        have hb7 := hide ((hg7.block _ (lt_of_block hb6) (by omega)).trans hb6)
        clear hb6
        obtain ⟨c70, c71, c72, c73, f7⟩ := at4 hb7.out
        have hg7' := hg6.trans (hg7.mono fun k _ h => Or.inl h)
        cases o
        · go_wp2
          go_roundw
          case rel => exact ⟨k - 1, l2, u2, b2, t2, rfl, by omega, by omega, hb7.out, hcur7, hg7'⟩
          case measure => simp [intOf]; omega
        · go_wp2_with fail
          refine (ClearBlocked_spec _ _ _ _ _).mono ?_
          rintro e w8 ⟨rfl, hb8⟩
          have hb8' := hide (((hb8.chg (fun _ => False)).block _ (lt_of_block hb7.out) (fun h => h)).trans hb7.out)
          obtain ⟨c80, c81, c82, c83, f8⟩ := at4 hb8'.out
          go_wp2
          go_roundw
          case rel => exact cr_store hk0 hk hpb hb8'.out (hcur7.stays (hb8.chg (fun _ => False)) (fun _ _ h => h)) (hg7'.trans (hb8.chg _))
          case measure => simp [intOf]; omega
    · obtain rfl : k = 0 := by omega
      have hr0 : wr.heap[w.heap.size]? = some (crObj 0 0 0 0) := by
        rw [hgr.block _ (by have := hg2.size; have := hg3.size; have := hb2.size; have := hg.size; simp at *; omega) (by have := hb2.size; have := hg.size; simp at *; omega)]
        exact hr3.out
      go_wp2_with fail
      refine (l1Below_pos p code _ _ (by omega) hcr).mono ?_
      rintro e w4 ⟨s, rfl, ⟨s0, s1⟩, hcur4, hg4⟩
      have hb4 := hide ((hg4.block _ (lt_of_block hbr) (by omega)).trans hbr)
      have hr4 := hide ((hg4.block _ (lt_of_block hr0) (by omega)).trans hr0)
      have hg4' : Chg (fun k => k = p ∨ k = w2.heap.size) w3 w4 := hgr.trans (hg4.mono fun k _ h => Or.inl h)
      clear hr0 hbr hbx3
      obtain ⟨c0, c1, c2, c3, f⟩ := at4 hb4.out
      obtain ⟨d0, d1, d2, d3, g⟩ := at4 hr4.out
      have hs : s = 0 ∨ s = 1 ∨ s = 2 ∨ 3 ≤ s := by omega
      rcases hs with rfl | rfl | rfl | h3
      · go_wp2_with fail
        refine (l1PickInt_new p code [-1, 50] _ _ hcur4 (by simp) (by simp)).mono ?_
        rintro e w5 ⟨y, rfl, hy, hcur5, hg5⟩
        have hg5' : Chg (fun k => k = p) w4 w5 := (((Ext.refl w4).alloc _).chg _).trans hg5
        have hb5 := hide ((hg5'.block _ (lt_of_block hb4.out) (by omega)).trans hb4.out)
        have hr5 := hide ((hg5'.block _ (lt_of_block hr4.out) (by omega)).trans hr4.out)
        clear c0 c1 c2 c3 f d0 d1 d2 d3 g
        obtain ⟨c0, c1, c2, c3, f⟩ := at4 hb5.out
        obtain ⟨d0, d1, d2, d3, g⟩ := at4 hr5.out
        go_wp2
        exact bodyPost_ret (v := .agg #[.int .i64 l, .int .i64 y, .int .i64 b, .int .i64 t]) (by simp [results, Try.results39, go_sem, *]) rfl (cr_end hp0 rfl hrb (hg2.trans hg3) (hg4'.trans (hg5'.mono fun k _ h => Or.inl h)) hcur5 (by repeat (first | with_reducible exact Chg.refl _ _ | with_reducible assumption | with_reducible refine Chg.alloc ?_ _ | with_reducible refine Chg.drew ?_ | with_reducible refine Chg.drewN ?_ _ | ((with_reducible refine Chg.set ?_ ?_ _); (focus (first | exact Or.inl (Or.inl rfl) | exact Or.inl (Or.inr rfl) | (right; simp; done) | (right; simp; omega)))) | with_reducible refine Chg.trans ?_ (by assumption))) l y b t)
      · go_wp2_with fail
        refine (l1PickInt_new p code [-2, 0, 50] _ _ hcur4 (by simp) (by simp)).mono ?_
        rintro e w5 ⟨y, rfl, hy, hcur5, hg5⟩
        have hg5' : Chg (fun k => k = p) w4 w5 := (((Ext.refl w4).alloc _).chg _).trans hg5
        have hb5 := hide ((hg5'.block _ (lt_of_block hb4.out) (by omega)).trans hb4.out)
        have hr5 := hide ((hg5'.block _ (lt_of_block hr4.out) (by omega)).trans hr4.out)
        clear c0 c1 c2 c3 f d0 d1 d2 d3 g
        obtain ⟨c0, c1, c2, c3, f⟩ := at4 hb5.out
        obtain ⟨d0, d1, d2, d3, g⟩ := at4 hr5.out
        go_wp2
        exact bodyPost_ret (v := .agg #[.int .i64 l, .int .i64 u, .int .i64 y, .int .i64 t]) (by simp [results, Try.results39, go_sem, *]) rfl (cr_end hp0 rfl hrb (hg2.trans hg3) (hg4'.trans (hg5'.mono fun k _ h => Or.inl h)) hcur5 (by repeat (first | with_reducible exact Chg.refl _ _ | with_reducible assumption | with_reducible refine Chg.alloc ?_ _ | with_reducible refine Chg.drew ?_ | with_reducible refine Chg.drewN ?_ _ | ((with_reducible refine Chg.set ?_ ?_ _); (focus (first | exact Or.inl (Or.inl rfl) | exact Or.inl (Or.inr rfl) | (right; simp; done) | (right; simp; omega)))) | with_reducible refine Chg.trans ?_ (by assumption))) l u y t)
      · go_wp2_with fail
        refine (l1PickInt_new p code [-1, 4611686018427387903, 4611686018427387904] _ _ hcur4 (by simp) (by simp)).mono ?_
        rintro e w5 ⟨y, rfl, hy, hcur5, hg5⟩
        have hg5' : Chg (fun k => k = p) w4 w5 := (((Ext.refl w4).alloc _).chg _).trans hg5
        have hb5 := hide ((hg5'.block _ (lt_of_block hb4.out) (by omega)).trans hb4.out)
        have hr5 := hide ((hg5'.block _ (lt_of_block hr4.out) (by omega)).trans hr4.out)
        clear c0 c1 c2 c3 f d0 d1 d2 d3 g
        obtain ⟨c0, c1, c2, c3, f⟩ := at4 hb5.out
        obtain ⟨d0, d1, d2, d3, g⟩ := at4 hr5.out
        go_wp2
        exact bodyPost_ret (v := .agg #[.int .i64 y, .int .i64 u, .int .i64 b, .int .i64 t]) (by simp [results, Try.results39, go_sem, *]) rfl (cr_end hp0 rfl hrb (hg2.trans hg3) (hg4'.trans (hg5'.mono fun k _ h => Or.inl h)) hcur5 (by repeat (first | with_reducible exact Chg.refl _ _ | with_reducible assumption | with_reducible refine Chg.alloc ?_ _ | with_reducible refine Chg.drew ?_ | with_reducible refine Chg.drewN ?_ _ | ((with_reducible refine Chg.set ?_ ?_ _); (focus (first | exact Or.inl (Or.inl rfl) | exact Or.inl (Or.inr rfl) | (right; simp; done) | (right; simp; omega)))) | with_reducible refine Chg.trans ?_ (by assumption))) y u b t)
      · have e0 : (s == 0) = false := by simp; omega
        have e1 : (s == 1) = false := by simp; omega
        have e2 : (s == 2) = false := by simp; omega
        go_wp2
        exact bodyPost_ret (v := .agg #[.int .i64 l, .int .i64 u, .int .i64 b, .int .i64 t]) (by simp [results, Try.results39, go_sem, *]) rfl (cr_end hp0 rfl hrb (hg2.trans hg3) hg4' hcur4 (by repeat (first | with_reducible exact Chg.refl _ _ | with_reducible assumption | with_reducible refine Chg.alloc ?_ _ | with_reducible refine Chg.drew ?_ | with_reducible refine Chg.drewN ?_ _ | ((with_reducible refine Chg.set ?_ ?_ _); (focus (first | exact Or.inl (Or.inl rfl) | exact Or.inl (Or.inr rfl) | (right; simp; done) | (right; simp; omega)))) | with_reducible refine Chg.trans ?_ (by assumption))) l u b t)

/-
  The drawn window: contract of l11Window: some window; the cursor alone turns. Condition: a cursor.
-/
import Derived.Test.YtofaihmiekoikaaDrawPick
import Derived.Test.YtofaihmiekoikaaSeeBytes
import Derived.Test.YtofaihmiekoikaaReadBytes
import Derived.Test.YtofaihmiekoikaaRaiseWindow
import Derived.Test.YtofaihmiekoikaaNewWindow
import Derived.Deep.RegionWith
namespace Go.Proofs.Ytofaihmiekoikaa
open Go.ChangeShapes Go.WideShapes Go.ChangeAt Go.RowKit
set_option linter.unusedVariables false
set_option linter.unusedSimpArgs false
def wnObj (z m l s r t : Int) : Obj := .cells #[.int .i64 z, .int .i64 m, .int .i64 l, .int .i64 s, .int .i64 r, .int .i64 t] 25
/-- The window's box, the cursor. -/
def WnRel (p bx : Nat) (code : Value) (w0 : World) (n : Value) (wr : World) : Prop :=
  ∃ (k z m l s r t : Int), n = .int .i64 k ∧ 0 ≤ k ∧ k ≤ 1000 ∧ wr.heap[bx]? = some (wnObj z m l s r t) ∧ CurAt wr p code ∧ Chg (fun k => k = p ∨ k = bx) w0 wr
theorem set6 {w : World} {b : Nat} {c0 c1 c2 c3 c4 c5 : Value} {T : TypeId} (h : w.heap[b]? = some (.cells #[c0, c1, c2, c3, c4, c5] T)) (v0 v1 v2 v3 v4 v5 : Value) :
   ((((((w.setCell ⟨b, 0, none⟩ v0).setCell ⟨b, 1, none⟩ v1).setCell ⟨b, 2, none⟩ v2).setCell ⟨b, 3, none⟩ v3).setCell ⟨b, 4, none⟩ v4).setCell ⟨b, 5, none⟩ v5).heap[b]? = some (.cells #[v0, v1, v2, v3, v4, v5] T) := by
  have := block_set (i := 5) (block_set (i := 4) (block_set (i := 3) (block_set (i := 2) (block_set (i := 1) (block_set (i := 0) h v0) v1) v2) v3) v4) v5
  simpa using this
theorem at6 {w : World} {b : Nat} {z m l s r t : Int} (h : w.heap[b]? = some (wnObj z m l s r t)) : w.cell? ⟨b, 0, none⟩ = some (.int .i64 z) ∧ w.cell? ⟨b, 1, none⟩ = some (.int .i64 m) ∧ w.cell? ⟨b, 2, none⟩ = some (.int .i64 l) ∧ w.cell? ⟨b, 3, none⟩ = some (.int .i64 s) ∧ w.cell? ⟨b, 4, none⟩ = some (.int .i64 r) ∧ w.cell? ⟨b, 5, none⟩ = some (.int .i64 t) ∧ ∀ o, w.frozen? ⟨b, o, none⟩ = false := by
  refine ⟨?_, ?_, ?_, ?_, ?_, ?_, fun o => ?_⟩ <;> simp [World.cell?, World.frozen?, h, wnObj]
theorem set6_chg {w : World} {b : Nat} (v0 v1 v2 v3 v4 v5 : Value) : Chg (fun k => k = b) w ((((((w.setCell ⟨b, 0, none⟩ v0).setCell ⟨b, 1, none⟩ v1).setCell ⟨b, 2, none⟩ v2).setCell ⟨b, 3, none⟩ v3).setCell ⟨b, 4, none⟩ v4).setCell ⟨b, 5, none⟩ v5) :=
  Chg.set (S := fun k => k = b) (Or.inl rfl) (Chg.set (S := fun k => k = b) (Or.inl rfl) (Chg.set (S := fun k => k = b) (Or.inl rfl) (Chg.set (S := fun k => k = b) (Or.inl rfl) (Chg.set (S := fun k => k = b) (Or.inl rfl) (Chg.set (S := fun k => k = b) (Or.inl rfl) (Chg.refl _ _) _) _) _) _) _) _
theorem wn_store {p bx : Nat} {code : Value} {w0 w : World} {z m l s r t : Int} {k z' m' l' s' r' t' : Int} (h0 : 0 < k) (h1 : k ≤ 1000) (hp : p < bx) (hb : w.heap[bx]? = some (wnObj z m l s r t)) (hc : CurAt w p code) (hg : Chg (fun k => k = p ∨ k = bx) w0 w) :
    WnRel p bx code w0 (.int .i64 (k - 1)) ((((((w.setCell ⟨bx, 0, none⟩ (.int .i64 z')).setCell ⟨bx, 1, none⟩ (.int .i64 m')).setCell ⟨bx, 2, none⟩ (.int .i64 l')).setCell ⟨bx, 3, none⟩ (.int .i64 s')).setCell ⟨bx, 4, none⟩ (.int .i64 r')).setCell ⟨bx, 5, none⟩ (.int .i64 t')) :=
  ⟨k - 1, z', m', l', s', r', t', rfl, by omega, by omega, set6 hb _ _ _ _ _ _, hc.stays (set6_chg _ _ _ _ _ _) (by intro b hb e; omega), hg.trans ((set6_chg _ _ _ _ _ _).mono fun k _ h => Or.inr h)⟩
/-- A drawn window. -/
def DrawnWn (p : Nat) (code : Value) (w : World) (e : Ending) (w' : World) : Prop :=
  ∃ z m l s r t : Int, e = .returned (.agg #[.int .i64 z, .int .i64 m, .int .i64 l, .int .i64 s, .int .i64 r, .int .i64 t]) ∧ CurAt w' p code ∧ Chg (fun k => k = p) w w'
theorem wn_end {p bx r0 : Nat} {code : Value} {w w3 w5 wf : World} (hp : p < r0) (hr : r0 = w.heap.size) (hpb : r0 < bx) (h3 : Chg (fun k => k = p) w w3) (h5 : Chg (fun k => k = p ∨ k = bx) w3 w5) (hc : CurAt w5 p code)
    (hf : Chg (fun k => k = bx ∨ k = r0) w5 wf) (z m l s r t : Int) : DrawnWn p code w (.returned (.agg #[.int .i64 z, .int .i64 m, .int .i64 l, .int .i64 s, .int .i64 r, .int .i64 t])) wf :=
  ⟨z, m, l, s, r, t, rfl, hc.stays hf (by intro k hk h; omega), (((h3.mono (T := fun k => k = p ∨ k = bx ∨ k = r0) (fun k _ h => Or.inl h)).trans (h5.mono fun k _ h => h.elim Or.inl fun h => Or.inr (Or.inl h))).trans (hf.mono fun k _ h => Or.inr h)).mono (fun k hk h => by omega)⟩
set_option maxHeartbeats 8000000 in
theorem l11Window_any (p : Nat) (code : Value) (w : World) (hc : CurAt w p code) :
    Calls Try.prog 34 #[.pointer (some ⟨p, 0, none⟩)] w (DrawnWn p code w) := by
  have hp := hc.lt
  go_enter Try.func34, Try.ntmps34
  go_wp2_with fail
  refine (l1Below_pos p code _ _ (by omega) (hc.stays (((Ext.refl w).alloc _).chg (fun _ => False)) (fun _ _ h => h))).mono ?_
  rintro e w1 ⟨x, rfl, ⟨x0, x1⟩, hcur, hg⟩
  go_wp2_with fail
  refine (l1Below_pos p code _ _ (by omega) hcur).mono ?_
  rintro e w1b ⟨y, rfl, ⟨y0, y1⟩, hcurb, hgb⟩
  go_wp2_with fail
  refine (NewWindow_spec _ _ _).mono ?_
  rintro e w2 ⟨rfl, hb2⟩
  go_wp2_with fail
  have hbx : (w2.alloc (wnObj (newWn (1 + y) (4 + x)).z (newWn (1 + y) (4 + x)).m (newWn (1 + y) (4 + x)).l (newWn (1 + y) (4 + x)).s (newWn (1 + y) (4 + x)).r (newWn (1 + y) (4 + x)).t)).heap[w2.heap.size]? = some (wnObj (newWn (1 + y) (4 + x)).z (newWn (1 + y) (4 + x)).m (newWn (1 + y) (4 + x)).l (newWn (1 + y) (4 + x)).s (newWn (1 + y) (4 + x)).r (newWn (1 + y) (4 + x)).t) := alloc_at _ _
  have hcur2 : CurAt (w2.alloc (wnObj (newWn (1 + y) (4 + x)).z (newWn (1 + y) (4 + x)).m (newWn (1 + y) (4 + x)).l (newWn (1 + y) (4 + x)).s (newWn (1 + y) (4 + x)).r (newWn (1 + y) (4 + x)).t)) p code := hcurb.stays ((hb2.alloc _).chg (fun _ => False)) (fun _ _ h => h)
  have hg2 : Chg (fun k => k = p) w (w2.alloc (wnObj (newWn (1 + y) (4 + x)).z (newWn (1 + y) (4 + x)).m (newWn (1 + y) (4 + x)).l (newWn (1 + y) (4 + x)).s (newWn (1 + y) (4 + x)).r (newWn (1 + y) (4 + x)).t)) :=
    (((((Ext.refl w).alloc _).chg _).trans hg).trans hgb).trans ((hb2.alloc _).chg _)
  have hgg : Chg (fun k => k = p) (w.alloc (wnObj 0 0 0 0 0 0)) w1b := hg.trans hgb
  have hsz : w.heap.size < w1b.heap.size := by have := hgg.size; simp at this; omega
  have hpb : p < w2.heap.size := by have := hcurb.lt; have := hb2.size; omega
  refine (l1Below_pos p code _ _ (by omega) hcur2).mono ?_
  rintro e w3 ⟨n, rfl, ⟨n0, n1⟩, hcur3, hg3⟩
  have hbx3 : w3.heap[w2.heap.size]? = some (wnObj (newWn (1 + y) (4 + x)).z (newWn (1 + y) (4 + x)).m (newWn (1 + y) (4 + x)).l (newWn (1 + y) (4 + x)).s (newWn (1 + y) (4 + x)).r (newWn (1 + y) (4 + x)).t) := by
    rw [hg3.block _ (lt_of_block hbx) (by omega)]; exact hbx
  generalize (newWn (1 + y) (4 + x)).z = z0 at *
  generalize (newWn (1 + y) (4 + x)).m = m0 at *
  generalize (newWn (1 + y) (4 + x)).l = l0 at *
  generalize (newWn (1 + y) (4 + x)).s = s0 at *
  generalize (newWn (1 + y) (4 + x)).r = r0 at *
  generalize (newWn (1 + y) (4 + x)).t = t0 at *
  have hp0 : p < w.heap.size := hp
  have hrb : w.heap.size < w2.heap.size := by have := hb2.size; omega
  have hr1 : (w.alloc (wnObj 0 0 0 0 0 0)).heap[w.heap.size]? = some (wnObj 0 0 0 0 0 0) := alloc_at _ _
  have hr2 : w1b.heap[w.heap.size]? = some (wnObj 0 0 0 0 0 0) := (hgg.block _ (by simp) (by omega)).trans hr1
  have hr2b := ((hb2.alloc (wnObj z0 m0 l0 s0 r0 t0)).chg (fun _ => False)).block _ (lt_of_block hr2) (fun h => h)
  have hr3 := hide ((hg3.block _ (by have := hb2.size; simp; omega) (by omega)).trans (hr2b.trans hr2))
  clear hr1 hr2 hr2b
  go_wp2
  go_loopw [6] (WnRel p w2.heap.size code w3) (fun n _ => (intOf n).toNat)
  case atStart => exact ⟨n, z0, m0, l0, s0, r0, t0, rfl, n0, by omega, hbx3, hcur3, Chg.refl _ _⟩
  case round =>
    obtain ⟨k, z, m, l, s, r, t, rfl, hkn, hk, hbr, hcr, hgr⟩ := hrel
    by_cases hk0 : 0 < k
    · go_wp2_with fail
      refine (l1Below_pos p code _ _ (by omega) hcr).mono ?_
      rintro e w4 ⟨q, rfl, ⟨q0, q1⟩, hcur4, hg4⟩
      have hb4h := hide ((hg4.block _ (lt_of_block hbr) (by omega)).trans hbr)
      have hg4' : Chg (fun k => k = p ∨ k = w2.heap.size) w3 w4 := hgr.trans (hg4.mono fun k _ h => Or.inl h)
      clear hbr
      obtain ⟨c0, c1, c2, c3, c4, c5, f⟩ := at6 hb4h.out
      have hq : q = 0 ∨ q = 1 ∨ q = 2 := by omega
      rcases hq with rfl | rfl | rfl
      · go_wp2_with fail
        go_region_with (first | (go_at_call 35; (with_reducible refine (l1Below_pos p code _ _ (by omega) (by first | exact hcur4 | exact hcur4.drew)).mono ?_); rintro e w5 ⟨y5, rfl, ⟨ya5, yb5⟩, hcur5, hg5⟩; have hb5 := hide ((hg5.block _ (lt_of_block hb4h.out) (by omega)).trans hb4h.out); obtain ⟨d50, d51, d52, d53, d54, d55, d5f⟩ := at6 hb5.out) | (go_at_call 23; (with_reducible refine (SeeBytes_spec _ _ _ _ _ _ _ _).mono ?_); rintro e w6 ⟨rfl, hx6⟩; have hb6 := hide (((hx6.chg (fun _ => False)).block _ (lt_of_block hb5.out) (fun h => h)).trans hb5.out); obtain ⟨d60, d61, d62, d63, d64, d65, d6f⟩ := at6 hb6.out))
        all_goals
          go_wp2
          go_roundw
          case rel => exact wn_store hk0 hk hpb hb6.out (hcur5.stays (hx6.chg (fun _ => False)) (fun _ _ h => h)) ((hg4'.trans (((Ext.refl _).drew).chg _)).trans ((hg5.mono fun k _ h => Or.inl h).trans (hx6.chg _)))
          case measure => simp [intOf]; omega
      · go_wp2_with fail
        go_region_with (first | (go_at_call 35; (with_reducible refine (l1Below_pos p code _ _ (by omega) (by first | exact hcur4 | exact hcur4.drew)).mono ?_); rintro e w5 ⟨y5, rfl, ⟨ya5, yb5⟩, hcur5, hg5⟩; have hb5 := hide ((hg5.block _ (lt_of_block hb4h.out) (by omega)).trans hb4h.out); obtain ⟨d50, d51, d52, d53, d54, d55, d5f⟩ := at6 hb5.out) | (go_at_call 21; (with_reducible refine (ReadBytes_spec _ _ _ _ _ _ _ _).mono ?_); rintro e w6 ⟨rfl, hx6⟩; have hb6 := hide (((hx6.chg (fun _ => False)).block _ (lt_of_block hb5.out) (fun h => h)).trans hb5.out); obtain ⟨d60, d61, d62, d63, d64, d65, d6f⟩ := at6 hb6.out))
        all_goals
          go_wp2
          go_roundw
          case rel => exact wn_store hk0 hk hpb hb6.out (hcur5.stays (hx6.chg (fun _ => False)) (fun _ _ h => h)) ((hg4'.trans (((Ext.refl _).drew).chg _)).trans ((hg5.mono fun k _ h => Or.inl h).trans (hx6.chg _)))
          case measure => simp [intOf]; omega
      · go_wp2_with fail
        go_region_with (first | (go_at_call 35; (with_reducible refine (l1Below_pos p code _ _ (by omega) (by first | exact hcur5 | exact hcur5.drew)).mono ?_); rintro e w6 ⟨y6, rfl, ⟨ya6, yb6⟩, hcur6, hg6⟩; have hb6 := hide ((hg6.block _ (lt_of_block hb5.out) (by omega)).trans hb5.out); obtain ⟨d60, d61, d62, d63, d64, d65, d6f⟩ := at6 hb6.out) | (go_at_call 35; (with_reducible refine (l1Below_pos p code _ _ (by omega) (by first | exact hcur4 | exact hcur4.drew)).mono ?_); rintro e w5 ⟨y5, rfl, ⟨ya5, yb5⟩, hcur5, hg5⟩; have hb5 := hide ((hg5.block _ (lt_of_block hb4h.out) (by omega)).trans hb4h.out); obtain ⟨d50, d51, d52, d53, d54, d55, d5f⟩ := at6 hb5.out) | (go_at_call 25; (with_reducible refine (RaiseWindow_spec _ _ _ _ _ _ _ _ _).mono ?_); rintro e w7 ⟨rfl, hx7⟩; have hb7 := hide (((hx7.chg (fun _ => False)).block _ (lt_of_block hb6.out) (fun h => h)).trans hb6.out); obtain ⟨d70, d71, d72, d73, d74, d75, d7f⟩ := at6 hb7.out))
        all_goals
          go_wp2
          go_roundw
          case rel => exact wn_store hk0 hk hpb hb7.out (hcur6.stays (hx7.chg (fun _ => False)) (fun _ _ h => h)) ((hg4'.trans (((Ext.refl _).drew).chg _)).trans (((hg5.trans hg6).mono fun k _ h => Or.inl h).trans (hx7.chg _)))
          case measure => simp [intOf]; omega
    · obtain rfl : k = 0 := by omega
      have hr0 : wr.heap[w.heap.size]? = some (wnObj 0 0 0 0 0 0) := by
        rw [hgr.block _ (lt_of_block hr3.out) (by omega)]
        exact hr3.out
      go_wp2_with fail
      refine (l1Below_pos p code _ _ (by omega) hcr).mono ?_
      rintro e w4 ⟨q, rfl, ⟨q0, q1⟩, hcur4, hg4⟩
      have hb4 := hide ((hg4.block _ (lt_of_block hbr) (by omega)).trans hbr)
      have hr4 := hide ((hg4.block _ (lt_of_block hr0) (by omega)).trans hr0)
      have hg4' : Chg (fun k => k = p ∨ k = w2.heap.size) w3 w4 := hgr.trans (hg4.mono fun k _ h => Or.inl h)
      clear hr0 hbr hbx3
      obtain ⟨c0, c1, c2, c3, c4, c5, cf⟩ := at6 hb4.out
      obtain ⟨d0, d1, d2, d3, d4, d5, df⟩ := at6 hr4.out
      have hq : q = 0 ∨ q = 1 ∨ q = 2 ∨ 3 ≤ q := by omega
      rcases hq with rfl | rfl | rfl | h3
      · go_wp2_with fail
        refine (l1PickInt_new p code [-1, 0, 3, 200] _ _ hcur4 (by simp) (by simp)).mono ?_
        rintro e w5 ⟨y9, rfl, hy9, hcur5, hg5⟩
        have hg5' : Chg (fun k => k = p) w4 w5 := (((Ext.refl w4).alloc _).chg _).trans hg5
        have hb5 := hide ((hg5'.block _ (lt_of_block hb4.out) (by omega)).trans hb4.out)
        have hr5 := hide ((hg5'.block _ (lt_of_block hr4.out) (by omega)).trans hr4.out)
        clear c0 c1 c2 c3 c4 c5 cf d0 d1 d2 d3 d4 d5 df
        obtain ⟨c0, c1, c2, c3, c4, c5, cf⟩ := at6 hb5.out
        obtain ⟨d0, d1, d2, d3, d4, d5, df⟩ := at6 hr5.out
        go_wp2
        exact bodyPost_ret (v := .agg #[.int .i64 z, .int .i64 m, .int .i64 y9, .int .i64 s, .int .i64 r, .int .i64 t]) (by simp [results, Try.results34, go_sem, *]) rfl (wn_end hp0 rfl hrb (hg2.trans hg3) (hg4'.trans (hg5'.mono fun k _ h => Or.inl h)) hcur5 (by repeat (first | with_reducible exact Chg.refl _ _ | with_reducible assumption | with_reducible refine Chg.alloc ?_ _ | with_reducible refine Chg.drew ?_ | with_reducible refine Chg.drewN ?_ _ | ((with_reducible refine Chg.set ?_ ?_ _); (focus (first | exact Or.inl (Or.inl rfl) | exact Or.inl (Or.inr rfl) | (right; simp; done) | (right; simp; omega)))) | with_reducible refine Chg.trans ?_ (by assumption))) z m y9 s r t)
      · go_wp2_with fail
        refine (l1PickInt_new p code [-1, 0, 60] _ _ hcur4 (by simp) (by simp)).mono ?_
        rintro e w5 ⟨y9, rfl, hy9, hcur5, hg5⟩
        have hg5' : Chg (fun k => k = p) w4 w5 := (((Ext.refl w4).alloc _).chg _).trans hg5
        have hb5 := hide ((hg5'.block _ (lt_of_block hb4.out) (by omega)).trans hb4.out)
        have hr5 := hide ((hg5'.block _ (lt_of_block hr4.out) (by omega)).trans hr4.out)
        clear c0 c1 c2 c3 c4 c5 cf d0 d1 d2 d3 d4 d5 df
        obtain ⟨c0, c1, c2, c3, c4, c5, cf⟩ := at6 hb5.out
        obtain ⟨d0, d1, d2, d3, d4, d5, df⟩ := at6 hr5.out
        go_wp2
        exact bodyPost_ret (v := .agg #[.int .i64 z, .int .i64 m, .int .i64 l, .int .i64 s, .int .i64 y9, .int .i64 t]) (by simp [results, Try.results34, go_sem, *]) rfl (wn_end hp0 rfl hrb (hg2.trans hg3) (hg4'.trans (hg5'.mono fun k _ h => Or.inl h)) hcur5 (by repeat (first | with_reducible exact Chg.refl _ _ | with_reducible assumption | with_reducible refine Chg.alloc ?_ _ | with_reducible refine Chg.drew ?_ | with_reducible refine Chg.drewN ?_ _ | ((with_reducible refine Chg.set ?_ ?_ _); (focus (first | exact Or.inl (Or.inl rfl) | exact Or.inl (Or.inr rfl) | (right; simp; done) | (right; simp; omega)))) | with_reducible refine Chg.trans ?_ (by assumption))) z m l s y9 t)
      · go_wp2_with fail
        refine (l1PickInt_new p code [-1, 1000000, 1000001] _ _ hcur4 (by simp) (by simp)).mono ?_
        rintro e w5 ⟨y9, rfl, hy9, hcur5, hg5⟩
        have hg5' : Chg (fun k => k = p) w4 w5 := (((Ext.refl w4).alloc _).chg _).trans hg5
        have hb5 := hide ((hg5'.block _ (lt_of_block hb4.out) (by omega)).trans hb4.out)
        have hr5 := hide ((hg5'.block _ (lt_of_block hr4.out) (by omega)).trans hr4.out)
        clear c0 c1 c2 c3 c4 c5 cf d0 d1 d2 d3 d4 d5 df
        obtain ⟨c0, c1, c2, c3, c4, c5, cf⟩ := at6 hb5.out
        obtain ⟨d0, d1, d2, d3, d4, d5, df⟩ := at6 hr5.out
        go_wp2
        exact bodyPost_ret (v := .agg #[.int .i64 z, .int .i64 m, .int .i64 l, .int .i64 s, .int .i64 r, .int .i64 y9]) (by simp [results, Try.results34, go_sem, *]) rfl (wn_end hp0 rfl hrb (hg2.trans hg3) (hg4'.trans (hg5'.mono fun k _ h => Or.inl h)) hcur5 (by repeat (first | with_reducible exact Chg.refl _ _ | with_reducible assumption | with_reducible refine Chg.alloc ?_ _ | with_reducible refine Chg.drew ?_ | with_reducible refine Chg.drewN ?_ _ | ((with_reducible refine Chg.set ?_ ?_ _); (focus (first | exact Or.inl (Or.inl rfl) | exact Or.inl (Or.inr rfl) | (right; simp; done) | (right; simp; omega)))) | with_reducible refine Chg.trans ?_ (by assumption))) z m l s r y9)
      · have e0 : (q == 0) = false := by simp; omega
        have e1 : (q == 1) = false := by simp; omega
        have e2 : (q == 2) = false := by simp; omega
        go_wp2
        exact bodyPost_ret (v := .agg #[.int .i64 z, .int .i64 m, .int .i64 l, .int .i64 s, .int .i64 r, .int .i64 t]) (by simp [results, Try.results34, go_sem, *]) rfl (wn_end hp0 rfl hrb (hg2.trans hg3) hg4' hcur4 (by repeat (first | with_reducible exact Chg.refl _ _ | with_reducible assumption | with_reducible refine Chg.alloc ?_ _ | with_reducible refine Chg.drew ?_ | with_reducible refine Chg.drewN ?_ _ | ((with_reducible refine Chg.set ?_ ?_ _); (focus (first | exact Or.inl (Or.inl rfl) | exact Or.inl (Or.inr rfl) | (right; simp; done) | (right; simp; omega)))) | with_reducible refine Chg.trans ?_ (by assumption))) z m l s r t)
end Go.Proofs.Ytofaihmiekoikaa

/-
  The draws of FnResets and FnReads. Condition: the code can be read.
-/
import Derived.Test.YtifhbchlmlaanaaDrawAny
namespace Go.Proofs.Ytifhbchlmlaanaa
open Go.ChangeShapes Go.WideShapes Go.ChangeAt Go.RowKit
set_option linter.unusedSimpArgs false
set_option linter.unusedVariables false
def DrewRvInt (w : World) (en : Ending) (w' : World) : Prop :=
  ∃ (r : Rv) (ao : Option Addr) (cap : Nat) (x : Int), en = .returned (.tuple #[.agg #[.int .i64 r.st, .int .i64 r.nx, .slice ao r.cs.length cap, .int .i64 r.fi, .int .i64 r.hg, .int .i64 r.co], .int .i64 x]) ∧ (-1 ≤ x ∧ x ≤ 20) ∧ RecOk 6 r ∧ OwnC w.heap.size w'.heap.size w' ao r.cs ∧ Ext w w'
-- spec.DrawReadReceiver
set_option maxHeartbeats 4000000 in
set_option maxRecDepth 100000 in
theorem DrawReadReceiver_any (code : Value) (w : World) (hc : CodeAt w w.heap.size code) :
    Calls Try.prog 38 #[code] w (DrewRvInt w) := by
  go_enter Try.func38, Try.ntmps38
  go_wp2_with fail
  have hE0 : Ext w (w.alloc (.cells #[.int .i64 0, .int .i64 0, .slice none 0 0, .int .i64 0, .int .i64 0, .int .i64 0] 26)) := (Ext.refl w).alloc _
  refine (l1New_any code _ (hc.grown hE0)).mono ?_
  rintro en w1 ⟨rfl, hcu1, hx1⟩
  simp only [World.size_alloc] at hcu1
  have hz1 : w.heap.size + 2 ≤ w1.heap.size := by have := hcu1.lt; omega
  have hgw1 : Chg (fun b => w.heap.size ≤ b) w w1 := (hE0.trans hx1).chg _
  have hB0 := hide (BoxRv.ext (BoxRv.new w ⟨0, 0, 0, 0, 0, []⟩ none 0 26) hx1)
  clear hE0 hx1
  go_wp2_with fail
  refine (l7Any_any (w.heap.size + 1) code _ hcu1).mono ?_
  rintro en w2 ⟨r, aor, capr, rfl, okr, ownr, hcu2, hg2⟩
  have hz2 : w1.heap.size ≤ w2.heap.size := hg2.size
  have hB0_w2 := hide (hB0.out.chg hg2 (by (try dsimp only); omega))
  have ownr_w2 := hide (OwnC.mono (lo' := w1.heap.size) (hi' := w2.heap.size) ownr (Nat.le_refl _) (Nat.le_refl _))
  clear ownr
  have hgw2 : Chg (fun b => w.heap.size ≤ b) w w2 := hgw1.trans (hg2.mono (fun b _ h => by (try dsimp only at h ⊢); omega))
  have hE3 : Ext w2 (w2.alloc (.cells #[.int .i64 r.st, .int .i64 r.nx, .slice aor r.cs.length capr, .int .i64 r.fi, .int .i64 r.hg, .int .i64 r.co] 26)) := (Ext.refl w2).alloc _
  have hXr := hide (BoxRv.new w2 r aor capr 26)
  have hB0_x := hide (hB0_w2.out.ext hE3)
  have ownr_x := hide (OwnC.chg ownr_w2.out (hE3.chg (fun _ => False)) (fun _ _ _ h => h))
  have hcux := hcu2.ext hE3
  have hgwx : Chg (fun b => w.heap.size ≤ b) w _ := hgw2.trans (hE3.chg _)
  have hzx : w2.heap.size + 1 ≤ (w2.alloc (.cells #[.int .i64 r.st, .int .i64 r.nx, .slice aor r.cs.length capr, .int .i64 r.fi, .int .i64 r.hg, .int .i64 r.co] 26)).heap.size := by simp
  generalize hWx : (w2.alloc (.cells #[.int .i64 r.st, .int .i64 r.nx, .slice aor r.cs.length capr, .int .i64 r.fi, .int .i64 r.hg, .int .i64 r.co] 26)) = wx at *
  obtain ⟨qhB00, qhB01, qhB02, qhB03, qhB04, qhB05, qhB0F⟩ := hB0_x.out
  have kqhB0 : w.heap.size < wx.heap.size := by omega
  obtain ⟨qhXr0, qhXr1, qhXr2, qhXr3, qhXr4, qhXr5, qhXrF⟩ := hXr.out
  have kqhXr : w2.heap.size < wx.heap.size := by omega
  have hne0_1 : w.heap.size ≠ w2.heap.size := by omega
  have hne1_0 : w2.heap.size ≠ w.heap.size := by omega
  go_wp2_with fail
  go_region_held3 (fun w' => w'.cell? ⟨w2.heap.size, 0, none⟩ = some (.int .i64 r.st) ∧ w'.cell? ⟨w2.heap.size, 1, none⟩ = some (.int .i64 r.nx) ∧ w'.cell? ⟨w2.heap.size, 2, none⟩ = some (.slice aor r.cs.length capr) ∧ w'.cell? ⟨w2.heap.size, 3, none⟩ = some (.int .i64 r.fi) ∧ w'.cell? ⟨w2.heap.size, 4, none⟩ = some (.int .i64 r.hg) ∧ w'.cell? ⟨w2.heap.size, 5, none⟩ = some (.int .i64 r.co)) (first | go_keep | exact ⟨qhXr0, qhXr1, qhXr2, qhXr3, qhXr4, qhXr5⟩) ((go_at_call 83; refine (l1Below_pos (w.heap.size + 1) code 9 _ (by omega) (by first | exact hcux | exact hcux.drew)).mono ?_; rintro en w4 ⟨y, rfl, ⟨y0, y1⟩, hcu4, hg4⟩; have hgg4 : Chg (fun b => b = (w.heap.size + 1)) wx w4 := (by first | with_reducible exact hg4 | exact Chg.trans ((Ext.refl wx).drew.chg _) hg4); have hz4 : wx.heap.size ≤ w4.heap.size := hgg4.size; have hB0_w4 := hide (BoxRv.chg (w := wx) hB0_x.out hgg4 (by (try dsimp only); omega)); have hXr_w4 := hide (BoxRv.chg (w := wx) hXr.out hgg4 (by (try dsimp only); omega)); have ownr_w4 := hide (OwnC.chg (w := wx) ownr_x.out hgg4 (fun b h1 h2 h3 => by (try dsimp only at h3); omega)); clear qhB00 qhB01 qhB02 qhB03 qhB04 qhB05 qhB0F kqhB0 qhXr0 qhXr1 qhXr2 qhXr3 qhXr4 qhXr5 qhXrF kqhXr; obtain ⟨qhB00, qhB01, qhB02, qhB03, qhB04, qhB05, qhB0F⟩ := hB0_w4.out; have kqhB0 : w.heap.size < w4.heap.size := (by omega); obtain ⟨qhXr0, qhXr1, qhXr2, qhXr3, qhXr4, qhXr5, qhXrF⟩ := hXr_w4.out; have kqhXr : w2.heap.size < w4.heap.size := (by omega)))
  have hwr : IntKind.i64.wrap (y - 1) = y - 1 := IntWalk.i64_in _ (by omega)
  have hset := BoxRv.set hB0_w4.out r aor capr
  unfold set6 at hset
  go_wp2
  refine bodyPost_ret (v := .tuple #[.agg #[.int .i64 r.st, .int .i64 r.nx, .slice aor r.cs.length capr, .int .i64 r.fi, .int .i64 r.hg, .int .i64 r.co], .int .i64 (y - 1)]) (by simp [results, Try.results38, go_sem, *]) rfl ⟨r, aor, capr, y - 1, rfl, by omega, okr, ?_, ?_⟩
  · exact (OwnC.chg ownr_w4.out hset.2 (fun b h1 h2 h3 => by (try dsimp only at h3); omega)).mono (by omega) (by have z1 := hset.2.size; omega)
  · exact ((hgwx.trans (hgg4.mono (fun b _ h => by (try dsimp only at h ⊢); omega))).trans (hset.2.mono (T := fun b => w.heap.size ≤ b) (fun b _ h => by (try dsimp only at h ⊢); omega))).ext (fun b h1 h2 => by (try dsimp only at h2); omega)
-- spec.DrawNewBytes
set_option maxHeartbeats 4000000 in
set_option maxRecDepth 100000 in
theorem DrawNewBytes_any (code : Value) (w : World) (hc : CodeAt w w.heap.size code) :
    Calls Try.prog 40 #[code] w (DrewRvInt w) := by
  go_enter Try.func40, Try.ntmps40
  go_wp2_with fail
  have hE0 : Ext w (w.alloc (.cells #[.int .i64 0, .int .i64 0, .slice none 0 0, .int .i64 0, .int .i64 0, .int .i64 0] 26)) := (Ext.refl w).alloc _
  refine (l1New_any code _ (hc.grown hE0)).mono ?_
  rintro en w1 ⟨rfl, hcu1, hx1⟩
  simp only [World.size_alloc] at hcu1
  have hz1 : w.heap.size + 2 ≤ w1.heap.size := by have := hcu1.lt; omega
  have hgw1 : Chg (fun b => w.heap.size ≤ b) w w1 := (hE0.trans hx1).chg _
  have hB0 := hide (BoxRv.ext (BoxRv.new w ⟨0, 0, 0, 0, 0, []⟩ none 0 26) hx1)
  clear hE0 hx1
  go_wp2_with fail
  refine (l7Any_any (w.heap.size + 1) code _ hcu1).mono ?_
  rintro en w2 ⟨r, aor, capr, rfl, okr, ownr, hcu2, hg2⟩
  have hz2 : w1.heap.size ≤ w2.heap.size := hg2.size
  have hB0_w2 := hide (hB0.out.chg hg2 (by (try dsimp only); omega))
  have ownr_w2 := hide (OwnC.mono (lo' := w1.heap.size) (hi' := w2.heap.size) ownr (Nat.le_refl _) (Nat.le_refl _))
  clear ownr
  have hgw2 : Chg (fun b => w.heap.size ≤ b) w w2 := hgw1.trans (hg2.mono (fun b _ h => by (try dsimp only at h ⊢); omega))
  have hE3 : Ext w2 (w2.alloc (.cells #[.int .i64 r.st, .int .i64 r.nx, .slice aor r.cs.length capr, .int .i64 r.fi, .int .i64 r.hg, .int .i64 r.co] 26)) := (Ext.refl w2).alloc _
  have hXr := hide (BoxRv.new w2 r aor capr 26)
  have hB0_x := hide (hB0_w2.out.ext hE3)
  have ownr_x := hide (OwnC.chg ownr_w2.out (hE3.chg (fun _ => False)) (fun _ _ _ h => h))
  have hcux := hcu2.ext hE3
  have hgwx : Chg (fun b => w.heap.size ≤ b) w _ := hgw2.trans (hE3.chg _)
  have hzx : w2.heap.size + 1 ≤ (w2.alloc (.cells #[.int .i64 r.st, .int .i64 r.nx, .slice aor r.cs.length capr, .int .i64 r.fi, .int .i64 r.hg, .int .i64 r.co] 26)).heap.size := by simp
  generalize hWx : (w2.alloc (.cells #[.int .i64 r.st, .int .i64 r.nx, .slice aor r.cs.length capr, .int .i64 r.fi, .int .i64 r.hg, .int .i64 r.co] 26)) = wx at *
  obtain ⟨qhB00, qhB01, qhB02, qhB03, qhB04, qhB05, qhB0F⟩ := hB0_x.out
  have kqhB0 : w.heap.size < wx.heap.size := by omega
  obtain ⟨qhXr0, qhXr1, qhXr2, qhXr3, qhXr4, qhXr5, qhXrF⟩ := hXr.out
  have kqhXr : w2.heap.size < wx.heap.size := by omega
  have hne0_1 : w.heap.size ≠ w2.heap.size := by omega
  have hne1_0 : w2.heap.size ≠ w.heap.size := by omega
  go_wp2_with fail
  go_region_held3 (fun w' => w'.cell? ⟨w2.heap.size, 0, none⟩ = some (.int .i64 r.st) ∧ w'.cell? ⟨w2.heap.size, 1, none⟩ = some (.int .i64 r.nx) ∧ w'.cell? ⟨w2.heap.size, 2, none⟩ = some (.slice aor r.cs.length capr) ∧ w'.cell? ⟨w2.heap.size, 3, none⟩ = some (.int .i64 r.fi) ∧ w'.cell? ⟨w2.heap.size, 4, none⟩ = some (.int .i64 r.hg) ∧ w'.cell? ⟨w2.heap.size, 5, none⟩ = some (.int .i64 r.co)) (first | go_keep | exact ⟨qhXr0, qhXr1, qhXr2, qhXr3, qhXr4, qhXr5⟩) ((go_at_call 83; refine (l1Below_pos (w.heap.size + 1) code 20 _ (by omega) (by first | exact hcux | exact hcux.drew)).mono ?_; rintro en w4 ⟨y, rfl, ⟨y0, y1⟩, hcu4, hg4⟩; have hgg4 : Chg (fun b => b = (w.heap.size + 1)) wx w4 := (by first | with_reducible exact hg4 | exact Chg.trans ((Ext.refl wx).drew.chg _) hg4); have hz4 : wx.heap.size ≤ w4.heap.size := hgg4.size; have hB0_w4 := hide (BoxRv.chg (w := wx) hB0_x.out hgg4 (by (try dsimp only); omega)); have hXr_w4 := hide (BoxRv.chg (w := wx) hXr.out hgg4 (by (try dsimp only); omega)); have ownr_w4 := hide (OwnC.chg (w := wx) ownr_x.out hgg4 (fun b h1 h2 h3 => by (try dsimp only at h3); omega)); clear qhB00 qhB01 qhB02 qhB03 qhB04 qhB05 qhB0F kqhB0 qhXr0 qhXr1 qhXr2 qhXr3 qhXr4 qhXr5 qhXrF kqhXr; obtain ⟨qhB00, qhB01, qhB02, qhB03, qhB04, qhB05, qhB0F⟩ := hB0_w4.out; have kqhB0 : w.heap.size < w4.heap.size := (by omega); obtain ⟨qhXr0, qhXr1, qhXr2, qhXr3, qhXr4, qhXr5, qhXrF⟩ := hXr_w4.out; have kqhXr : w2.heap.size < w4.heap.size := (by omega)))
  have hwr : IntKind.i64.wrap (y - 1) = y - 1 := IntWalk.i64_in _ (by omega)
  have hset := BoxRv.set hB0_w4.out r aor capr
  unfold set6 at hset
  go_wp2
  refine bodyPost_ret (v := .tuple #[.agg #[.int .i64 r.st, .int .i64 r.nx, .slice aor r.cs.length capr, .int .i64 r.fi, .int .i64 r.hg, .int .i64 r.co], .int .i64 (y - 1)]) (by simp [results, Try.results40, go_sem, *]) rfl ⟨r, aor, capr, y - 1, rfl, by omega, okr, ?_, ?_⟩
  · exact (OwnC.chg ownr_w4.out hset.2 (fun b h1 h2 h3 => by (try dsimp only at h3); omega)).mono (by omega) (by have z1 := hset.2.size; omega)
  · exact ((hgwx.trans (hgg4.mono (fun b _ h => by (try dsimp only at h ⊢); omega))).trans (hset.2.mono (T := fun b => w.heap.size ≤ b) (fun b _ h => by (try dsimp only at h ⊢); omega))).ext (fun b h1 h2 => by (try dsimp only at h2); omega)
def DrewRvInts (w : World) (en : Ending) (w' : World) : Prop :=
  ∃ (r : Rv) (ao : Option Addr) (cap : Nat) (k f : Int), en = .returned (.tuple #[.agg #[.int .i64 r.st, .int .i64 r.nx, .slice ao r.cs.length cap, .int .i64 r.fi, .int .i64 r.hg, .int .i64 r.co], .int .i64 k, .int .i64 f]) ∧ (-1 ≤ k ∧ k ≤ 20) ∧ (-1 ≤ f ∧ f ≤ 20) ∧ RecOk 6 r ∧ OwnC w.heap.size w'.heap.size w' ao r.cs ∧ Ext w w'
set_option maxHeartbeats 4000000 in
set_option maxRecDepth 100000 in
theorem DrawReceiveReset_any (code : Value) (w : World) (hc : CodeAt w w.heap.size code) :
    Calls Try.prog 37 #[code] w (DrewRvInts w) := by
  go_enter Try.func37, Try.ntmps37
  go_wp2_with fail
  have hE0 : Ext w (w.alloc (.cells #[.int .i64 0, .int .i64 0, .slice none 0 0, .int .i64 0, .int .i64 0, .int .i64 0] 26)) := (Ext.refl w).alloc _
  refine (l1New_any code _ (hc.grown hE0)).mono ?_
  rintro en w1 ⟨rfl, hcu1, hx1⟩
  simp only [World.size_alloc] at hcu1
  have hz1 : w.heap.size + 2 ≤ w1.heap.size := by have := hcu1.lt; omega
  have hgw1 : Chg (fun b => w.heap.size ≤ b) w w1 := (hE0.trans hx1).chg _
  have hB0 := hide (BoxRv.ext (BoxRv.new w ⟨0, 0, 0, 0, 0, []⟩ none 0 26) hx1)
  clear hE0 hx1
  go_wp2_with fail
  refine (l7Any_any (w.heap.size + 1) code _ hcu1).mono ?_
  rintro en w2 ⟨r, aor, capr, rfl, okr, ownr, hcu2, hg2⟩
  have hz2 : w1.heap.size ≤ w2.heap.size := hg2.size
  have hB0_w2 := hide (hB0.out.chg hg2 (by (try dsimp only); omega))
  have ownr_w2 := hide (OwnC.mono (lo' := w1.heap.size) (hi' := w2.heap.size) ownr (Nat.le_refl _) (Nat.le_refl _))
  clear ownr
  have hgw2 : Chg (fun b => w.heap.size ≤ b) w w2 := hgw1.trans (hg2.mono (fun b _ h => by (try dsimp only at h ⊢); omega))
  have hE3 : Ext w2 (w2.alloc (.cells #[.int .i64 r.st, .int .i64 r.nx, .slice aor r.cs.length capr, .int .i64 r.fi, .int .i64 r.hg, .int .i64 r.co] 26)) := (Ext.refl w2).alloc _
  have hXr := hide (BoxRv.new w2 r aor capr 26)
  go_wp2_with fail
  refine (l1Below_pos (w.heap.size + 1) code 5 _ (by omega) (hcu2.ext hE3)).mono ?_
  rintro en w3 ⟨k1, rfl, ⟨k10, k11⟩, hcu3, hg3⟩
  have hz3 : w2.heap.size + 1 ≤ w3.heap.size := by have := hg3.size; simpa using this
  have hgg3 : Chg (fun b => b = (w.heap.size + 1)) w2 w3 := (hE3.chg _).trans hg3
  have hB0_w3 := hide (hB0_w2.out.chg hgg3 (by (try dsimp only); omega))
  have ownr_w3 := hide (OwnC.chg ownr_w2.out hgg3 (fun b h1 h2 h3 => by (try dsimp only at h3); omega))
  have hXr_w3 := hide (hXr.out.chg hg3 (by (try dsimp only); omega))
  have hgw3 : Chg (fun b => w.heap.size ≤ b) w w3 := hgw2.trans (hgg3.mono (fun b _ h => by (try dsimp only at h ⊢); omega))
  
  go_wp2_with fail
  refine (l1Below_pos (w.heap.size + 1) code 2 _ (by omega) hcu3).mono ?_
  rintro en w4 ⟨k2, rfl, ⟨k20, k21⟩, hcu4, hg4⟩
  have hgg4 : Chg (fun b => b = (w.heap.size + 1)) w3 w4 := (by first | with_reducible exact hg4 | exact Chg.trans (((Ext.refl w3).alloc _).chg _) hg4)
  have hz4 : w3.heap.size ≤ w4.heap.size := hgg4.size
  have hB0_w4 := hide (hB0_w3.out.chg hgg4 (by (try dsimp only); omega))
  have hXr_w4 := hide (hXr_w3.out.chg hgg4 (by (try dsimp only); omega))
  have ownr_w4 := hide (OwnC.chg ownr_w3.out hgg4 (fun b h1 h2 h3 => by (try dsimp only at h3); omega))
  have hgw4 : Chg (fun b => w.heap.size ≤ b) w w4 := hgw3.trans (hgg4.mono (fun b _ h => by (try dsimp only at h ⊢); omega))
  
  obtain ⟨qhB00, qhB01, qhB02, qhB03, qhB04, qhB05, qhB0F⟩ := hB0_w4.out
  have kqhB0 : w.heap.size < w4.heap.size := by omega
  obtain ⟨qhXr0, qhXr1, qhXr2, qhXr3, qhXr4, qhXr5, qhXrF⟩ := hXr_w4.out
  have kqhXr : w2.heap.size < w4.heap.size := by omega
  have hne0_1 : w.heap.size ≠ w2.heap.size := by omega
  have hne1_0 : w2.heap.size ≠ w.heap.size := by omega
  go_wp2_with fail
  go_region_held3 (fun w' => w'.cell? ⟨w2.heap.size, 0, none⟩ = some (.int .i64 r.st) ∧ w'.cell? ⟨w2.heap.size, 1, none⟩ = some (.int .i64 r.nx) ∧ w'.cell? ⟨w2.heap.size, 2, none⟩ = some (.slice aor r.cs.length capr) ∧ w'.cell? ⟨w2.heap.size, 3, none⟩ = some (.int .i64 r.fi) ∧ w'.cell? ⟨w2.heap.size, 4, none⟩ = some (.int .i64 r.hg) ∧ w'.cell? ⟨w2.heap.size, 5, none⟩ = some (.int .i64 r.co)) (first | go_keep | exact ⟨qhXr0, qhXr1, qhXr2, qhXr3, qhXr4, qhXr5⟩) ((go_at_call 83; refine (l1Below_pos (w.heap.size + 1) code 18 _ (by omega) (by first | exact hcu4 | exact hcu4.drew)).mono ?_; rintro en w5 ⟨y, rfl, ⟨y0, y1⟩, hcu5, hg5⟩; have hgg5 : Chg (fun b => b = (w.heap.size + 1)) w4 w5 := (by first | with_reducible exact hg5 | exact Chg.trans ((Ext.refl w4).drew.chg _) hg5); have hz5 : w4.heap.size ≤ w5.heap.size := hgg5.size; have hB0_w5 := hide (BoxRv.chg (w := w4) hB0_w4.out hgg5 (by (try dsimp only); omega)); have hXr_w5 := hide (BoxRv.chg (w := w4) hXr_w4.out hgg5 (by (try dsimp only); omega)); have ownr_w5 := hide (OwnC.chg (w := w4) ownr_w4.out hgg5 (fun b h1 h2 h3 => by (try dsimp only at h3); omega)); clear qhB00 qhB01 qhB02 qhB03 qhB04 qhB05 qhB0F kqhB0 qhXr0 qhXr1 qhXr2 qhXr3 qhXr4 qhXr5 qhXrF kqhXr; obtain ⟨qhB00, qhB01, qhB02, qhB03, qhB04, qhB05, qhB0F⟩ := hB0_w5.out; have kqhB0 : w.heap.size < w5.heap.size := (by omega); obtain ⟨qhXr0, qhXr1, qhXr2, qhXr3, qhXr4, qhXr5, qhXrF⟩ := hXr_w5.out; have kqhXr : w2.heap.size < w5.heap.size := (by omega)))
  have hwr : IntKind.i64.wrap (y - 1) = y - 1 := IntWalk.i64_in _ (by omega)
  have hset := BoxRv.set hB0_w5.out r aor capr
  unfold set6 at hset
  go_wp2
  refine bodyPost_ret (v := .tuple #[.agg #[.int .i64 r.st, .int .i64 r.nx, .slice aor r.cs.length capr, .int .i64 r.fi, .int .i64 r.hg, .int .i64 r.co], .int .i64 (k1 - k2), .int .i64 (y - 1)]) (by simp [results, Try.results37, go_sem, *]) rfl ⟨r, aor, capr, k1 - k2, y - 1, rfl, by omega, by omega, okr, ?_, ?_⟩
  · exact (OwnC.chg ownr_w5.out hset.2 (fun b h1 h2 h3 => by (try dsimp only at h3); omega)).mono (by omega) (by have z1 := hset.2.size; omega)
  · exact ((hgw4.trans (hgg5.mono (fun b _ h => by (try dsimp only at h ⊢); omega))).trans (hset.2.mono (T := fun b => w.heap.size ≤ b) (fun b _ h => by (try dsimp only at h ⊢); omega))).ext (fun b h1 h2 => by (try dsimp only at h2); omega)
end Go.Proofs.Ytifhbchlmlaanaa

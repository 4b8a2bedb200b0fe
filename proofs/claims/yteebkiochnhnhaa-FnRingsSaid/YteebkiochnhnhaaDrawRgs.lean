/-
  The draws of FnRings. Condition: the code can be read.
-/
import Derived.Test.YteebkiochnhnhaaDrawRg
namespace Go.Proofs.Yteebkiochnhnhaa
open Go.ChangeShapes Go.WideShapes Go.ChangeAt Go.RowKit
set_option linter.unusedSimpArgs false
set_option linter.unusedVariables false
def DrewRnData (w : World) (en : Ending) (w' : World) : Prop :=
  ∃ (r : Rn) (ao : Option Addr) (cap : Nat) (d : ByteArray), en = .returned (.tuple #[.agg #[.int .i64 r.z, .int .i64 r.b, .int .i64 r.e, .slice ao r.xs.length cap], .string d]) ∧ (d.size : Int) ≤ 9 ∧ RnAny r ∧ OwnS w.heap.size w'.heap.size w' ao r.xs ∧ Ext w w'
def DrewRnInt (w : World) (en : Ending) (w' : World) : Prop :=
  ∃ (r : Rn) (ao : Option Addr) (cap : Nat) (x : Int), en = .returned (.tuple #[.agg #[.int .i64 r.z, .int .i64 r.b, .int .i64 r.e, .slice ao r.xs.length cap], .int .i64 x]) ∧ (-1 ≤ x ∧ x ≤ 200) ∧ RnAny r ∧ OwnS w.heap.size w'.heap.size w' ao r.xs ∧ Ext w w'
def DrewRnInts (w : World) (en : Ending) (w' : World) : Prop :=
  ∃ (r : Rn) (ao : Option Addr) (cap : Nat) (x y : Int), en = .returned (.tuple #[.agg #[.int .i64 r.z, .int .i64 r.b, .int .i64 r.e, .slice ao r.xs.length cap], .int .i64 x, .int .i64 y]) ∧ (-1 ≤ x ∧ x ≤ 200) ∧ (-1 ≤ y ∧ y ≤ 5) ∧ RnAny r ∧ OwnS w.heap.size w'.heap.size w' ao r.xs ∧ Ext w w'
def DrewRn2 (w : World) (en : Ending) (w' : World) : Prop :=
  ∃ (r : Rn) (ao : Option Addr) (cap : Nat) (q : Rn) (bo : Option Addr) (cbp : Nat), en = .returned (.tuple #[.agg #[.int .i64 r.z, .int .i64 r.b, .int .i64 r.e, .slice ao r.xs.length cap], .agg #[.int .i64 q.z, .int .i64 q.b, .int .i64 q.e, .slice bo q.xs.length cbp]]) ∧ RnAny r ∧ RnAny q ∧ OwnS w.heap.size w'.heap.size w' ao r.xs ∧ OwnS w.heap.size w'.heap.size w' bo q.xs ∧ Ext w w'
set_option maxHeartbeats 4000000 in
set_option maxRecDepth 100000 in
theorem DrawWriteRing_any (code : Value) (w : World) (hc : CodeAt w w.heap.size code) :
    Calls Try.prog 31 #[code] w (DrewRnData w) := by
  go_enter Try.func31, Try.ntmps31
  go_wp2_with fail
  have hE0 : Ext w (w.alloc (.cells #[.int .i64 0, .int .i64 0, .int .i64 0, .slice none 0 0] 24)) := (Ext.refl w).alloc _
  refine (l1New_any code _ (hc.grown hE0)).mono ?_
  rintro en w1 ⟨rfl, hcu1, hx1⟩
  simp only [World.size_alloc] at hcu1
  have hz1 : w.heap.size + 2 ≤ w1.heap.size := by have := hcu1.lt; omega
  have hgw1 : Chg (fun b => w.heap.size ≤ b) w w1 := (hE0.trans hx1).chg _
  have hB0 := hide (BoxV.ext (BoxV.new w [.int .i64 0, .int .i64 0, .int .i64 0, .slice none 0 0] 24) hx1)
  clear hE0 hx1
  go_wp2_with fail
  refine (l8Ring_any (w.heap.size + 1) code _ hcu1).mono ?_
  rintro en w2 ⟨r, aor, capr, rfl, okr, ownr, hcu2, hg2⟩
  have hz2 : w1.heap.size ≤ w2.heap.size := hg2.size
  have hB0_w2 := hide (hB0.out.chg hg2 (by (try dsimp only); omega))
  have ownr_w2 := hide (OwnS.mono (lo' := w1.heap.size) (hi' := w2.heap.size) ownr (Nat.le_refl _) (Nat.le_refl _))
  clear ownr
  have hgw2 : Chg (fun b => w.heap.size ≤ b) w w2 := hgw1.trans (hg2.mono (fun b _ h => by (try dsimp only at h ⊢); omega))
  go_wp2_with fail
  have hE3 : Ext w2 (w2.alloc (.cells #[.int .i64 r.z, .int .i64 r.b, .int .i64 r.e, .slice aor r.xs.length capr] 24)) := (Ext.refl w2).alloc _
  have hXr := hide (BoxV.new w2 [.int .i64 r.z, .int .i64 r.b, .int .i64 r.e, .slice aor r.xs.length capr] 24)
  have hcux := hcu2.ext hE3
  have hz3 : w2.heap.size + 1 ≤ (w2.alloc (.cells #[.int .i64 r.z, .int .i64 r.b, .int .i64 r.e, .slice aor r.xs.length capr] 24)).heap.size := by simp
  have hgw3 : Chg (fun b => w.heap.size ≤ b) w (w2.alloc (.cells #[.int .i64 r.z, .int .i64 r.b, .int .i64 r.e, .slice aor r.xs.length capr] 24)) := hgw2.trans (hE3.chg _)
  have hB0_w3 := hide (hB0_w2.out.ext hE3)
  have ownr_w3 := hide (OwnS.chg ownr_w2.out (hE3.chg (fun _ => False)) (fun _ _ _ h => h))
  generalize hWx : (w2.alloc (.cells #[.int .i64 r.z, .int .i64 r.b, .int .i64 r.e, .slice aor r.xs.length capr] 24)) = w3 at *
  clear hWx
  have qhB00 := hB0_w3.out.c 0 _ rfl
  have qhB01 := hB0_w3.out.c 1 _ rfl
  have qhB02 := hB0_w3.out.c 2 _ rfl
  have qhB03 := hB0_w3.out.c 3 _ rfl
  have qhB0F := hB0_w3.out.fr
  have kqhB0 : w.heap.size < w3.heap.size := by omega
  have qhXr0 := hXr.out.c 0 _ rfl
  have qhXr1 := hXr.out.c 1 _ rfl
  have qhXr2 := hXr.out.c 2 _ rfl
  have qhXr3 := hXr.out.c 3 _ rfl
  have qhXrF := hXr.out.fr
  have kqhXr : w2.heap.size < w3.heap.size := by omega
  have hne0_1 : w.heap.size ≠ w2.heap.size := by omega
  have hne1_0 : w2.heap.size ≠ w.heap.size := by omega
  go_wp2_with fail
  go_region_held3 (fun w' => w'.cell? ⟨w2.heap.size, 0, none⟩ = some (.int .i64 r.z) ∧ w'.cell? ⟨w2.heap.size, 1, none⟩ = some (.int .i64 r.b) ∧ w'.cell? ⟨w2.heap.size, 2, none⟩ = some (.int .i64 r.e) ∧ w'.cell? ⟨w2.heap.size, 3, none⟩ = some (.slice aor r.xs.length capr)) (first | go_keep | exact ⟨qhXr0, qhXr1, qhXr2, qhXr3⟩) ((go_at_call 54; refine (l4Data_any (w.heap.size + 1) code 9 _ (by first | exact hcux | exact hcux.drew) (by omega) (by omega)).mono ?_; rintro en w4 ⟨dt, rfl, hds, hcu4, hg4⟩; have hgg4 : Chg (fun b => b = (w.heap.size + 1)) w3 w4 := (by first | with_reducible exact hg4 | exact Chg.trans ((Ext.refl w3).drew.chg _) hg4); have hz4 : w3.heap.size ≤ w4.heap.size := hgg4.size; have hB0_w4 := hide (BoxV.chg (w := w3) hB0_w3.out hgg4 (by (try dsimp only); omega)); have hXr_w4 := hide (BoxV.chg (w := w3) hXr.out hgg4 (by (try dsimp only); omega)); have ownr_w4 := hide (OwnS.chg (w := w3) ownr_w3.out hgg4 (fun b h1 h2 h3 => by (try dsimp only at h3); omega)); clear qhB00 qhB01 qhB02 qhB03 qhB0F kqhB0 qhXr0 qhXr1 qhXr2 qhXr3 qhXrF kqhXr; have qhB00 := hB0_w4.out.c 0 _ rfl; have qhB01 := hB0_w4.out.c 1 _ rfl; have qhB02 := hB0_w4.out.c 2 _ rfl; have qhB03 := hB0_w4.out.c 3 _ rfl; have qhB0F := hB0_w4.out.fr; have kqhB0 : w.heap.size < w4.heap.size := (by omega); have qhXr0 := hXr_w4.out.c 0 _ rfl; have qhXr1 := hXr_w4.out.c 1 _ rfl; have qhXr2 := hXr_w4.out.c 2 _ rfl; have qhXr3 := hXr_w4.out.c 3 _ rfl; have qhXrF := hXr_w4.out.fr; have kqhXr : w2.heap.size < w4.heap.size := (by omega)))
  have hgw4 : Chg (fun b => w.heap.size ≤ b) w w4 := hgw3.trans (hgg4.mono (fun b _ h => by (try dsimp only at h ⊢); omega))
  have hset := BoxV.set hB0_w4.out [.int .i64 r.z, .int .i64 r.b, .int .i64 r.e, .slice aor r.xs.length capr] rfl
  simp only [setFrom, Nat.zero_add, Nat.reduceAdd] at hset
  go_wp2
  refine bodyPost_ret (v := .tuple #[.agg #[.int .i64 r.z, .int .i64 r.b, .int .i64 r.e, .slice aor r.xs.length capr], .string dt]) (by simp [results, Try.results31, go_sem, *]) rfl ⟨r, aor, capr, dt, rfl, hds, okr, ?_, ?_⟩
  · exact (OwnS.chg ownr_w4.out hset.2 (fun b h1 h2 h3 => by (try dsimp only at h3); omega)).mono (by omega) (by have z0 := hset.2.size; omega)
  · exact (hgw4.trans (hset.2.mono (T := fun b => w.heap.size ≤ b) (fun b _ h => by (try dsimp only at h ⊢); omega))).ext (fun b h1 h2 => by (try dsimp only at h2); omega)
set_option maxHeartbeats 4000000 in
set_option maxRecDepth 100000 in
theorem DrawDropRing_any (code : Value) (w : World) (hc : CodeAt w w.heap.size code) :
    Calls Try.prog 33 #[code] w (DrewRnInt w) := by
  go_enter Try.func33, Try.ntmps33
  go_wp2_with fail
  have hE0 : Ext w (w.alloc (.cells #[.int .i64 0, .int .i64 0, .int .i64 0, .slice none 0 0] 24)) := (Ext.refl w).alloc _
  refine (l1New_any code _ (hc.grown hE0)).mono ?_
  rintro en w1 ⟨rfl, hcu1, hx1⟩
  simp only [World.size_alloc] at hcu1
  have hz1 : w.heap.size + 2 ≤ w1.heap.size := by have := hcu1.lt; omega
  have hgw1 : Chg (fun b => w.heap.size ≤ b) w w1 := (hE0.trans hx1).chg _
  have hB0 := hide (BoxV.ext (BoxV.new w [.int .i64 0, .int .i64 0, .int .i64 0, .slice none 0 0] 24) hx1)
  clear hE0 hx1
  go_wp2_with fail
  refine (l8Ring_any (w.heap.size + 1) code _ hcu1).mono ?_
  rintro en w2 ⟨r, aor, capr, rfl, okr, ownr, hcu2, hg2⟩
  have hz2 : w1.heap.size ≤ w2.heap.size := hg2.size
  have hB0_w2 := hide (hB0.out.chg hg2 (by (try dsimp only); omega))
  have ownr_w2 := hide (OwnS.mono (lo' := w1.heap.size) (hi' := w2.heap.size) ownr (Nat.le_refl _) (Nat.le_refl _))
  clear ownr
  have hgw2 : Chg (fun b => w.heap.size ≤ b) w w2 := hgw1.trans (hg2.mono (fun b _ h => by (try dsimp only at h ⊢); omega))
  go_wp2_with fail
  have hE3 : Ext w2 (w2.alloc (.cells #[.int .i64 r.z, .int .i64 r.b, .int .i64 r.e, .slice aor r.xs.length capr] 24)) := (Ext.refl w2).alloc _
  have hXr := hide (BoxV.new w2 [.int .i64 r.z, .int .i64 r.b, .int .i64 r.e, .slice aor r.xs.length capr] 24)
  have hcux := hcu2.ext hE3
  have hz3 : w2.heap.size + 1 ≤ (w2.alloc (.cells #[.int .i64 r.z, .int .i64 r.b, .int .i64 r.e, .slice aor r.xs.length capr] 24)).heap.size := by simp
  have hgw3 : Chg (fun b => w.heap.size ≤ b) w (w2.alloc (.cells #[.int .i64 r.z, .int .i64 r.b, .int .i64 r.e, .slice aor r.xs.length capr] 24)) := hgw2.trans (hE3.chg _)
  have hB0_w3 := hide (hB0_w2.out.ext hE3)
  have ownr_w3 := hide (OwnS.chg ownr_w2.out (hE3.chg (fun _ => False)) (fun _ _ _ h => h))
  generalize hWx : (w2.alloc (.cells #[.int .i64 r.z, .int .i64 r.b, .int .i64 r.e, .slice aor r.xs.length capr] 24)) = w3 at *
  clear hWx
  have rb0 := okr.b0
  have rb1 := okr.b1
  have qhB00 := hB0_w3.out.c 0 _ rfl
  have qhB01 := hB0_w3.out.c 1 _ rfl
  have qhB02 := hB0_w3.out.c 2 _ rfl
  have qhB03 := hB0_w3.out.c 3 _ rfl
  have qhB0F := hB0_w3.out.fr
  have kqhB0 : w.heap.size < w3.heap.size := by omega
  have qhXr0 := hXr.out.c 0 _ rfl
  have qhXr1 := hXr.out.c 1 _ rfl
  have qhXr2 := hXr.out.c 2 _ rfl
  have qhXr3 := hXr.out.c 3 _ rfl
  have qhXrF := hXr.out.fr
  have kqhXr : w2.heap.size < w3.heap.size := by omega
  have hne0_1 : w.heap.size ≠ w2.heap.size := by omega
  have hne1_0 : w2.heap.size ≠ w.heap.size := by omega
  go_wp2_with fail
  go_region_held3 (fun w' => w'.cell? ⟨w2.heap.size, 0, none⟩ = some (.int .i64 r.z) ∧ w'.cell? ⟨w2.heap.size, 1, none⟩ = some (.int .i64 r.b) ∧ w'.cell? ⟨w2.heap.size, 2, none⟩ = some (.int .i64 r.e) ∧ w'.cell? ⟨w2.heap.size, 3, none⟩ = some (.slice aor r.xs.length capr)) (first | go_keep | exact ⟨qhXr0, qhXr1, qhXr2, qhXr3⟩) ((go_at_call 55; refine (l1Below_pos (w.heap.size + 1) code 9 _ (by omega) (by first | exact hcux | exact hcux.drew)).mono ?_; rintro en w4 ⟨y, rfl, ⟨y0, y1⟩, hcu4, hg4⟩; have hgg4 : Chg (fun b => b = (w.heap.size + 1)) w3 w4 := (by first | with_reducible exact hg4 | exact Chg.trans ((Ext.refl w3).drew.chg _) hg4); have hz4 : w3.heap.size ≤ w4.heap.size := hgg4.size; have hwr : IntKind.i64.wrap (r.b + y) = r.b + y := IntWalk.i64_in _ (by omega); have hwr2 : IntKind.i64.wrap (r.b + y - 1) = r.b + y - 1 := IntWalk.i64_in _ (by omega); have hB0_w4 := hide (BoxV.chg (w := w3) hB0_w3.out hgg4 (by (try dsimp only); omega)); have hXr_w4 := hide (BoxV.chg (w := w3) hXr.out hgg4 (by (try dsimp only); omega)); have ownr_w4 := hide (OwnS.chg (w := w3) ownr_w3.out hgg4 (fun b h1 h2 h3 => by (try dsimp only at h3); omega)); clear qhB00 qhB01 qhB02 qhB03 qhB0F kqhB0 qhXr0 qhXr1 qhXr2 qhXr3 qhXrF kqhXr; have qhB00 := hB0_w4.out.c 0 _ rfl; have qhB01 := hB0_w4.out.c 1 _ rfl; have qhB02 := hB0_w4.out.c 2 _ rfl; have qhB03 := hB0_w4.out.c 3 _ rfl; have qhB0F := hB0_w4.out.fr; have kqhB0 : w.heap.size < w4.heap.size := (by omega); have qhXr0 := hXr_w4.out.c 0 _ rfl; have qhXr1 := hXr_w4.out.c 1 _ rfl; have qhXr2 := hXr_w4.out.c 2 _ rfl; have qhXr3 := hXr_w4.out.c 3 _ rfl; have qhXrF := hXr_w4.out.fr; have kqhXr : w2.heap.size < w4.heap.size := (by omega)))
  have hgw4 : Chg (fun b => w.heap.size ≤ b) w w4 := hgw3.trans (hgg4.mono (fun b _ h => by (try dsimp only at h ⊢); omega))
  have hset := BoxV.set hB0_w4.out [.int .i64 r.z, .int .i64 r.b, .int .i64 r.e, .slice aor r.xs.length capr] rfl
  simp only [setFrom, Nat.zero_add, Nat.reduceAdd] at hset
  go_wp2
  refine bodyPost_ret (v := .tuple #[.agg #[.int .i64 r.z, .int .i64 r.b, .int .i64 r.e, .slice aor r.xs.length capr], .int .i64 (r.b + y - 1)]) (by simp [results, Try.results33, go_sem, *]) rfl ⟨r, aor, capr, r.b + y - 1, rfl, by omega, okr, ?_, ?_⟩
  · exact (OwnS.chg ownr_w4.out hset.2 (fun b h1 h2 h3 => by (try dsimp only at h3); omega)).mono (by omega) (by have z0 := hset.2.size; omega)
  · exact (hgw4.trans (hset.2.mono (T := fun b => w.heap.size ≤ b) (fun b _ h => by (try dsimp only at h ⊢); omega))).ext (fun b h1 h2 => by (try dsimp only at h2); omega)
set_option maxHeartbeats 4000000 in
set_option maxRecDepth 100000 in
theorem DrawPeekRing_any (code : Value) (w : World) (hc : CodeAt w w.heap.size code) :
    Calls Try.prog 32 #[code] w (DrewRnInts w) := by
  go_enter Try.func32, Try.ntmps32
  go_wp2_with fail
  have hE0 : Ext w (w.alloc (.cells #[.int .i64 0, .int .i64 0, .int .i64 0, .slice none 0 0] 24)) := (Ext.refl w).alloc _
  refine (l1New_any code _ (hc.grown hE0)).mono ?_
  rintro en w1 ⟨rfl, hcu1, hx1⟩
  simp only [World.size_alloc] at hcu1
  have hz1 : w.heap.size + 2 ≤ w1.heap.size := by have := hcu1.lt; omega
  have hgw1 : Chg (fun b => w.heap.size ≤ b) w w1 := (hE0.trans hx1).chg _
  have hB0 := hide (BoxV.ext (BoxV.new w [.int .i64 0, .int .i64 0, .int .i64 0, .slice none 0 0] 24) hx1)
  clear hE0 hx1
  go_wp2_with fail
  refine (l8Ring_any (w.heap.size + 1) code _ hcu1).mono ?_
  rintro en w2 ⟨r, aor, capr, rfl, okr, ownr, hcu2, hg2⟩
  have hz2 : w1.heap.size ≤ w2.heap.size := hg2.size
  have hB0_w2 := hide (hB0.out.chg hg2 (by (try dsimp only); omega))
  have ownr_w2 := hide (OwnS.mono (lo' := w1.heap.size) (hi' := w2.heap.size) ownr (Nat.le_refl _) (Nat.le_refl _))
  clear ownr
  have hgw2 : Chg (fun b => w.heap.size ≤ b) w w2 := hgw1.trans (hg2.mono (fun b _ h => by (try dsimp only at h ⊢); omega))
  go_wp2_with fail
  have hE3 : Ext w2 (w2.alloc (.cells #[.int .i64 r.z, .int .i64 r.b, .int .i64 r.e, .slice aor r.xs.length capr] 24)) := (Ext.refl w2).alloc _
  have hXr := hide (BoxV.new w2 [.int .i64 r.z, .int .i64 r.b, .int .i64 r.e, .slice aor r.xs.length capr] 24)
  have hcux := hcu2.ext hE3
  have hz3 : w2.heap.size + 1 ≤ (w2.alloc (.cells #[.int .i64 r.z, .int .i64 r.b, .int .i64 r.e, .slice aor r.xs.length capr] 24)).heap.size := by simp
  have hgw3 : Chg (fun b => w.heap.size ≤ b) w (w2.alloc (.cells #[.int .i64 r.z, .int .i64 r.b, .int .i64 r.e, .slice aor r.xs.length capr] 24)) := hgw2.trans (hE3.chg _)
  have hB0_w3 := hide (hB0_w2.out.ext hE3)
  have ownr_w3 := hide (OwnS.chg ownr_w2.out (hE3.chg (fun _ => False)) (fun _ _ _ h => h))
  generalize hWx : (w2.alloc (.cells #[.int .i64 r.z, .int .i64 r.b, .int .i64 r.e, .slice aor r.xs.length capr] 24)) = w3 at *
  clear hWx
  have rb0 := okr.b0
  have rb1 := okr.b1
  have qhB00 := hB0_w3.out.c 0 _ rfl
  have qhB01 := hB0_w3.out.c 1 _ rfl
  have qhB02 := hB0_w3.out.c 2 _ rfl
  have qhB03 := hB0_w3.out.c 3 _ rfl
  have qhB0F := hB0_w3.out.fr
  have kqhB0 : w.heap.size < w3.heap.size := by omega
  have qhXr0 := hXr.out.c 0 _ rfl
  have qhXr1 := hXr.out.c 1 _ rfl
  have qhXr2 := hXr.out.c 2 _ rfl
  have qhXr3 := hXr.out.c 3 _ rfl
  have qhXrF := hXr.out.fr
  have kqhXr : w2.heap.size < w3.heap.size := by omega
  have hne0_1 : w.heap.size ≠ w2.heap.size := by omega
  have hne1_0 : w2.heap.size ≠ w.heap.size := by omega
  go_wp2_with fail
  go_region_held3 (fun w' => w'.cell? ⟨w2.heap.size, 0, none⟩ = some (.int .i64 r.z) ∧ w'.cell? ⟨w2.heap.size, 1, none⟩ = some (.int .i64 r.b) ∧ w'.cell? ⟨w2.heap.size, 2, none⟩ = some (.int .i64 r.e) ∧ w'.cell? ⟨w2.heap.size, 3, none⟩ = some (.slice aor r.xs.length capr)) (first | go_keep | exact ⟨qhXr0, qhXr1, qhXr2, qhXr3⟩) ((go_at_call 55; refine (l1Below_pos (w.heap.size + 1) code 6 _ (by omega) (by first | exact hcux | exact hcux.drew)).mono ?_; rintro en w4 ⟨y, rfl, ⟨y0, y1⟩, hcu4, hg4⟩; have hgg4 : Chg (fun b => b = (w.heap.size + 1)) w3 w4 := (by first | with_reducible exact hg4 | exact Chg.trans ((Ext.refl w3).drew.chg _) hg4); have hz4 : w3.heap.size ≤ w4.heap.size := hgg4.size; have hwr : IntKind.i64.wrap (r.b + y) = r.b + y := IntWalk.i64_in _ (by omega); have hwr2 : IntKind.i64.wrap (r.b + y - 1) = r.b + y - 1 := IntWalk.i64_in _ (by omega); have hB0_w4 := hide (BoxV.chg (w := w3) hB0_w3.out hgg4 (by (try dsimp only); omega)); have hXr_w4 := hide (BoxV.chg (w := w3) hXr.out hgg4 (by (try dsimp only); omega)); have ownr_w4 := hide (OwnS.chg (w := w3) ownr_w3.out hgg4 (fun b h1 h2 h3 => by (try dsimp only at h3); omega)); clear qhB00 qhB01 qhB02 qhB03 qhB0F kqhB0 qhXr0 qhXr1 qhXr2 qhXr3 qhXrF kqhXr; have qhB00 := hB0_w4.out.c 0 _ rfl; have qhB01 := hB0_w4.out.c 1 _ rfl; have qhB02 := hB0_w4.out.c 2 _ rfl; have qhB03 := hB0_w4.out.c 3 _ rfl; have qhB0F := hB0_w4.out.fr; have kqhB0 : w.heap.size < w4.heap.size := (by omega); have qhXr0 := hXr_w4.out.c 0 _ rfl; have qhXr1 := hXr_w4.out.c 1 _ rfl; have qhXr2 := hXr_w4.out.c 2 _ rfl; have qhXr3 := hXr_w4.out.c 3 _ rfl; have qhXrF := hXr_w4.out.fr; have kqhXr : w2.heap.size < w4.heap.size := (by omega)))
  have hgw4 : Chg (fun b => w.heap.size ≤ b) w w4 := hgw3.trans (hgg4.mono (fun b _ h => by (try dsimp only at h ⊢); omega))
  clear qhB00 qhB01 qhB02 qhB03 qhB0F kqhB0 qhXr0 qhXr1 qhXr2 qhXr3 qhXrF kqhXr hne0_1 hne1_0
  have qhB00 := hB0_w4.out.c 0 _ rfl
  have qhB01 := hB0_w4.out.c 1 _ rfl
  have qhB02 := hB0_w4.out.c 2 _ rfl
  have qhB03 := hB0_w4.out.c 3 _ rfl
  have qhB0F := hB0_w4.out.fr
  have kqhB0 : w.heap.size < w4.heap.size := by omega
  have qhXr0 := hXr_w4.out.c 0 _ rfl
  have qhXr1 := hXr_w4.out.c 1 _ rfl
  have qhXr2 := hXr_w4.out.c 2 _ rfl
  have qhXr3 := hXr_w4.out.c 3 _ rfl
  have qhXrF := hXr_w4.out.fr
  have kqhXr : w2.heap.size < w4.heap.size := by omega
  have hne0_1 : w.heap.size ≠ w2.heap.size := by omega
  have hne1_0 : w2.heap.size ≠ w.heap.size := by omega
  go_wp2_with fail
  go_region_held3 (fun w' => w'.cell? ⟨w2.heap.size, 0, none⟩ = some (.int .i64 r.z) ∧ w'.cell? ⟨w2.heap.size, 1, none⟩ = some (.int .i64 r.b) ∧ w'.cell? ⟨w2.heap.size, 2, none⟩ = some (.int .i64 r.e) ∧ w'.cell? ⟨w2.heap.size, 3, none⟩ = some (.slice aor r.xs.length capr)) (first | go_keep | exact ⟨qhXr0, qhXr1, qhXr2, qhXr3⟩) ((go_at_call 55; refine (l1Below_pos (w.heap.size + 1) code 7 _ (by omega) (by first | exact hcu4 | exact hcu4.drew)).mono ?_; rintro en w5 ⟨z, rfl, ⟨z0, z1⟩, hcu5, hg5⟩; have hgg5 : Chg (fun b => b = (w.heap.size + 1)) w4 w5 := (by first | with_reducible exact hg5 | exact Chg.trans ((Ext.refl w4).drew.chg _) hg5); have hz5 : w4.heap.size ≤ w5.heap.size := hgg5.size; have hwr3 : IntKind.i64.wrap (z - 1) = z - 1 := IntWalk.i64_in _ (by omega); have hB0_w5 := hide (BoxV.chg (w := w4) hB0_w4.out hgg5 (by (try dsimp only); omega)); have hXr_w5 := hide (BoxV.chg (w := w4) hXr_w4.out hgg5 (by (try dsimp only); omega)); have ownr_w5 := hide (OwnS.chg (w := w4) ownr_w4.out hgg5 (fun b h1 h2 h3 => by (try dsimp only at h3); omega)); clear qhB00 qhB01 qhB02 qhB03 qhB0F kqhB0 qhXr0 qhXr1 qhXr2 qhXr3 qhXrF kqhXr; have qhB00 := hB0_w5.out.c 0 _ rfl; have qhB01 := hB0_w5.out.c 1 _ rfl; have qhB02 := hB0_w5.out.c 2 _ rfl; have qhB03 := hB0_w5.out.c 3 _ rfl; have qhB0F := hB0_w5.out.fr; have kqhB0 : w.heap.size < w5.heap.size := (by omega); have qhXr0 := hXr_w5.out.c 0 _ rfl; have qhXr1 := hXr_w5.out.c 1 _ rfl; have qhXr2 := hXr_w5.out.c 2 _ rfl; have qhXr3 := hXr_w5.out.c 3 _ rfl; have qhXrF := hXr_w5.out.fr; have kqhXr : w2.heap.size < w5.heap.size := (by omega)))
  have hgw5 : Chg (fun b => w.heap.size ≤ b) w w5 := hgw4.trans (hgg5.mono (fun b _ h => by (try dsimp only at h ⊢); omega))
  have hset := BoxV.set hB0_w5.out [.int .i64 r.z, .int .i64 r.b, .int .i64 r.e, .slice aor r.xs.length capr] rfl
  simp only [setFrom, Nat.zero_add, Nat.reduceAdd] at hset
  go_wp2
  refine bodyPost_ret (v := .tuple #[.agg #[.int .i64 r.z, .int .i64 r.b, .int .i64 r.e, .slice aor r.xs.length capr], .int .i64 (r.b + y - 1), .int .i64 (z - 1)]) (by simp [results, Try.results32, go_sem, *]) rfl ⟨r, aor, capr, r.b + y - 1, z - 1, rfl, by omega, by omega, okr, ?_, ?_⟩
  · exact (OwnS.chg ownr_w5.out hset.2 (fun b h1 h2 h3 => by (try dsimp only at h3); omega)).mono (by omega) (by have z0 := hset.2.size; omega)
  · exact (hgw5.trans (hset.2.mono (T := fun b => w.heap.size ≤ b) (fun b _ h => by (try dsimp only at h ⊢); omega))).ext (fun b h1 h2 => by (try dsimp only at h2); omega)
set_option maxHeartbeats 4000000 in
set_option maxRecDepth 100000 in
theorem DrawNewRing_any (code : Value) (w : World) (hc : CodeAt w w.heap.size code) :
    Calls Try.prog 34 #[code] w (fun en w' => ∃ n : Int, en = .returned (.int .i64 n) ∧ (-1 ≤ n ∧ n ≤ 128) ∧ Ext w w') := by
  go_enter Try.func34, Try.ntmps34
  go_wp2_with fail
  refine (l1New_any code _ hc).mono ?_
  rintro en w1 ⟨rfl, hcu1, hx1⟩
  go_wp2_with fail
  refine (l1PickInt_new w.heap.size code [-1, 0, 1, 2, 3, 8, 64, 128] 3 w1 hcu1 (by simp) (by simp)).mono ?_
  rintro en w2 ⟨y, rfl, hy, hcu2, hg2⟩
  have hyb : -1 ≤ y ∧ y ≤ 128 := by
    simp only [List.mem_cons, List.not_mem_nil, or_false] at hy
    omega
  have hz1 : w.heap.size < w1.heap.size := hcu1.lt
  have hx2 : Ext w w2 := ((hx1.chg (fun b => w.heap.size ≤ b)).trans (Chg.trans (((Ext.refl w1).alloc _).chg _) (hg2.mono (fun b _ h => by (try dsimp only at h ⊢); omega)))).ext (fun b h1 h2 => by (try dsimp only at h2); omega)
  go_wp2
  go_ret
  exact ⟨y, rfl, hyb, hx2⟩
theorem l8Copy_rn (r : Rn) (p : Nat) (ao : Option Addr) (ca : Nat) (w : World) (hx : ReadS w ao r.xs) (hr : RnAny r) :
    Calls Try.prog 50 #[.agg #[.int .i64 r.z, .int .i64 r.b, .int .i64 r.e, .slice ao r.xs.length ca]] w fun en w' => ∃ (bo : Option Addr) (cbp : Nat), en = .returned (.agg #[.int .i64 r.z, .int .i64 r.b, .int .i64 r.e, .slice bo r.xs.length cbp]) ∧ OwnS w.heap.size w'.heap.size w' bo r.xs ∧ Chg (fun k => k = p) w w' := by
  refine (l8Copy_any _ _ _ ao _ ca r.xs w hx rfl (by have := hr.len; omega)).mono ?_
  rintro en w1 ⟨bo, cbp, rfl, ho, hb⟩
  exact ⟨bo, cbp, rfl, ho, hb.chg _⟩
set_option maxHeartbeats 4000000 in
set_option maxRecDepth 100000 in
theorem DrawEqualRings_any (code : Value) (w : World) (hc : CodeAt w w.heap.size code) :
    Calls Try.prog 35 #[code] w (DrewRn2 w) := by
  go_enter Try.func35, Try.ntmps35
  go_wp2_with fail
  have hE0 : Ext w ((w.alloc (.cells #[.int .i64 0, .int .i64 0, .int .i64 0, .slice none 0 0] 24)).alloc (.cells #[.int .i64 0, .int .i64 0, .int .i64 0, .slice none 0 0] 24)) := ((Ext.refl w).alloc _).alloc _
  refine (l1New_any code _ (hc.grown hE0)).mono ?_
  rintro en w1 ⟨rfl, hcu1, hx1⟩
  simp only [World.size_alloc] at hcu1
  have hz1 : w.heap.size + 3 ≤ w1.heap.size := by have := hcu1.lt; omega
  have hgw1 : Chg (fun b => w.heap.size ≤ b) w w1 := (hE0.trans hx1).chg _
  have hB0 := hide (BoxV.ext (BoxV.ext (BoxV.new w [.int .i64 0, .int .i64 0, .int .i64 0, .slice none 0 0] 24) ((Ext.refl _).alloc (.cells #[.int .i64 0, .int .i64 0, .int .i64 0, .slice none 0 0] 24))) hx1)
  have hB1 : Hid (BoxV (w.heap.size + 1) w1 [.int .i64 0, .int .i64 0, .int .i64 0, .slice none 0 0]) := hide (by have h := BoxV.ext (BoxV.new (w.alloc (.cells #[.int .i64 0, .int .i64 0, .int .i64 0, .slice none 0 0] 24)) [.int .i64 0, .int .i64 0, .int .i64 0, .slice none 0 0] 24) hx1; simpa only [World.size_alloc] using h)
  clear hE0 hx1
  go_wp2_with fail
  refine (l8Ring_any (w.heap.size + 1 + 1) code _ hcu1).mono ?_
  rintro en w2 ⟨r, aor, capr, rfl, okr, ownr, hcu2, hg2⟩
  have hz2 : w1.heap.size ≤ w2.heap.size := hg2.size
  have hB0_w2 := hide (hB0.out.chg hg2 (by (try dsimp only); omega))
  have hB1_w2 := hide (hB1.out.chg hg2 (by (try dsimp only); omega))
  have ownr_w2 := hide (OwnS.mono (lo' := w1.heap.size) (hi' := w2.heap.size) ownr (Nat.le_refl _) (Nat.le_refl _))
  clear ownr
  have hgw2 : Chg (fun b => w.heap.size ≤ b) w w2 := hgw1.trans (hg2.mono (fun b _ h => by (try dsimp only at h ⊢); omega))
  have hE3 : Ext w2 (w2.alloc (.cells #[.int .i64 r.z, .int .i64 r.b, .int .i64 r.e, .slice aor r.xs.length capr] 24)) := (Ext.refl w2).alloc _
  have hXr := hide (BoxV.new w2 [.int .i64 r.z, .int .i64 r.b, .int .i64 r.e, .slice aor r.xs.length capr] 24)
  go_wp2_with fail
  refine (l1Once_any (w.heap.size + 1 + 1) code 2 _ (hcu2.ext hE3)).mono ?_
  rintro en w3 ⟨b, rfl, hcu3, hg3⟩
  have hz3 : w2.heap.size + 1 ≤ w3.heap.size := by have := hg3.size; simpa using this
  have hgg3 : Chg (fun b => b = (w.heap.size + 1 + 1)) w2 w3 := (hE3.chg _).trans hg3
  have hB0_w3 := hide (hB0_w2.out.chg hgg3 (by (try dsimp only); omega))
  have hB1_w3 := hide (hB1_w2.out.chg hgg3 (by (try dsimp only); omega))
  have ownr_w3 := hide (OwnS.chg ownr_w2.out hgg3 (fun b h1 h2 h3 => by (try dsimp only at h3); omega))
  have hXr_w3 := hide (hXr.out.chg hg3 (by (try dsimp only); omega))
  have hgw3 : Chg (fun b => w.heap.size ≤ b) w w3 := hgw2.trans (hgg3.mono (fun b _ h => by (try dsimp only at h ⊢); omega))
  cases b
  · skip
    have qhB00 := hB0_w3.out.c 0 _ rfl
    have qhB01 := hB0_w3.out.c 1 _ rfl
    have qhB02 := hB0_w3.out.c 2 _ rfl
    have qhB03 := hB0_w3.out.c 3 _ rfl
    have qhB0F := hB0_w3.out.fr
    have kqhB0 : w.heap.size < w3.heap.size := by omega
    have qhB10 := hB1_w3.out.c 0 _ rfl
    have qhB11 := hB1_w3.out.c 1 _ rfl
    have qhB12 := hB1_w3.out.c 2 _ rfl
    have qhB13 := hB1_w3.out.c 3 _ rfl
    have qhB1F := hB1_w3.out.fr
    have kqhB1 : (w.heap.size + 1) < w3.heap.size := by omega
    have qhXr0 := hXr_w3.out.c 0 _ rfl
    have qhXr1 := hXr_w3.out.c 1 _ rfl
    have qhXr2 := hXr_w3.out.c 2 _ rfl
    have qhXr3 := hXr_w3.out.c 3 _ rfl
    have qhXrF := hXr_w3.out.fr
    have kqhXr : w2.heap.size < w3.heap.size := by omega
    have hne0_1 : w.heap.size ≠ (w.heap.size + 1) := by omega
    have hne1_0 : (w.heap.size + 1) ≠ w.heap.size := by omega
    have hne0_2 : w.heap.size ≠ w2.heap.size := by omega
    have hne2_0 : w2.heap.size ≠ w.heap.size := by omega
    have hne1_2 : (w.heap.size + 1) ≠ w2.heap.size := by omega
    have hne2_1 : w2.heap.size ≠ (w.heap.size + 1) := by omega
    go_wp2_with fail
    go_region_held3 (fun w' => w'.cell? ⟨w2.heap.size, 0, none⟩ = some (.int .i64 r.z) ∧ w'.cell? ⟨w2.heap.size, 1, none⟩ = some (.int .i64 r.b) ∧ w'.cell? ⟨w2.heap.size, 2, none⟩ = some (.int .i64 r.e) ∧ w'.cell? ⟨w2.heap.size, 3, none⟩ = some (.slice aor r.xs.length capr)) (first | go_keep | exact ⟨qhXr0, qhXr1, qhXr2, qhXr3⟩) ((go_at_call 53; refine (l8Ring_any (w.heap.size + 1 + 1) code _ (by first | exact hcu3 | exact hcu3.drew)).mono ?_; rintro en w4 ⟨q, aoq, capq, rfl, okq, ownq, hcu4, hg4⟩; have hgg4 : Chg (fun b => b = (w.heap.size + 1 + 1)) w3 w4 := (by first | with_reducible exact hg4 | exact Chg.trans ((Ext.refl w3).drew.chg _) hg4); have hz4 : w3.heap.size ≤ w4.heap.size := hgg4.size; have ownq_w4 := hide (OwnS.mono (lo' := w3.heap.size) ownq (Nat.le_refl _) (Nat.le_refl _)); have hB0_w4 := hide (BoxV.chg (w := w3) hB0_w3.out hgg4 (by (try dsimp only); omega)); have hB1_w4 := hide (BoxV.chg (w := w3) hB1_w3.out hgg4 (by (try dsimp only); omega)); have hXr_w4 := hide (BoxV.chg (w := w3) hXr_w3.out hgg4 (by (try dsimp only); omega)); have ownr_w4 := hide (OwnS.chg (w := w3) ownr_w3.out hgg4 (fun b h1 h2 h3 => by (try dsimp only at h3); omega)); clear qhB00 qhB01 qhB02 qhB03 qhB0F kqhB0 qhB10 qhB11 qhB12 qhB13 qhB1F kqhB1 qhXr0 qhXr1 qhXr2 qhXr3 qhXrF kqhXr; have qhB00 := hB0_w4.out.c 0 _ rfl; have qhB01 := hB0_w4.out.c 1 _ rfl; have qhB02 := hB0_w4.out.c 2 _ rfl; have qhB03 := hB0_w4.out.c 3 _ rfl; have qhB0F := hB0_w4.out.fr; have kqhB0 : w.heap.size < w4.heap.size := (by omega); have qhB10 := hB1_w4.out.c 0 _ rfl; have qhB11 := hB1_w4.out.c 1 _ rfl; have qhB12 := hB1_w4.out.c 2 _ rfl; have qhB13 := hB1_w4.out.c 3 _ rfl; have qhB1F := hB1_w4.out.fr; have kqhB1 : (w.heap.size + 1) < w4.heap.size := (by omega); have qhXr0 := hXr_w4.out.c 0 _ rfl; have qhXr1 := hXr_w4.out.c 1 _ rfl; have qhXr2 := hXr_w4.out.c 2 _ rfl; have qhXr3 := hXr_w4.out.c 3 _ rfl; have qhXrF := hXr_w4.out.fr; have kqhXr : w2.heap.size < w4.heap.size := (by omega)))
    have hgw4 : Chg (fun b => w.heap.size ≤ b) w w4 := hgw3.trans (hgg4.mono (fun b _ h => by (try dsimp only at h ⊢); omega))
    have hset0 := BoxV.set hB0_w4.out [.int .i64 r.z, .int .i64 r.b, .int .i64 r.e, .slice aor r.xs.length capr] rfl
    simp only [setFrom, Nat.zero_add, Nat.reduceAdd] at hset0
    have hset1 := BoxV.set (BoxV.chg hB1_w4.out hset0.2 (by (try dsimp only); omega)) [.int .i64 q.z, .int .i64 q.b, .int .i64 q.e, .slice aoq q.xs.length capq] rfl
    simp only [setFrom, Nat.zero_add, Nat.reduceAdd] at hset1
    go_wp2
    refine bodyPost_ret (v := .tuple #[.agg #[.int .i64 r.z, .int .i64 r.b, .int .i64 r.e, .slice aor r.xs.length capr], .agg #[.int .i64 q.z, .int .i64 q.b, .int .i64 q.e, .slice aoq q.xs.length capq]]) (by simp [results, Try.results35, go_sem, *]) rfl ⟨r, aor, capr, q, aoq, capq, rfl, okr, okq, ?_, ?_, ?_⟩
    · exact (OwnS.chg (OwnS.chg ownr_w4.out hset0.2 (fun b h1 h2 h3 => by (try dsimp only at h3); omega)) hset1.2 (fun b h1 h2 h3 => by (try dsimp only at h3); omega)).mono (by omega) (by have z0 := hset0.2.size; have z1 := hset1.2.size; omega)
    · exact (OwnS.chg (OwnS.chg ownq_w4.out hset0.2 (fun b h1 h2 h3 => by (try dsimp only at h3); omega)) hset1.2 (fun b h1 h2 h3 => by (try dsimp only at h3); omega)).mono (by omega) (by have z0 := hset0.2.size; have z1 := hset1.2.size; omega)
    · exact ((hgw4.trans (hset0.2.mono (T := fun b => w.heap.size ≤ b) (fun b _ h => by (try dsimp only at h ⊢); omega))).trans (hset1.2.mono (T := fun b => w.heap.size ≤ b) (fun b _ h => by (try dsimp only at h ⊢); omega))).ext (fun b h1 h2 => by (try dsimp only at h2); omega)
  · skip
    have qhB00 := hB0_w3.out.c 0 _ rfl
    have qhB01 := hB0_w3.out.c 1 _ rfl
    have qhB02 := hB0_w3.out.c 2 _ rfl
    have qhB03 := hB0_w3.out.c 3 _ rfl
    have qhB0F := hB0_w3.out.fr
    have kqhB0 : w.heap.size < w3.heap.size := by omega
    have qhB10 := hB1_w3.out.c 0 _ rfl
    have qhB11 := hB1_w3.out.c 1 _ rfl
    have qhB12 := hB1_w3.out.c 2 _ rfl
    have qhB13 := hB1_w3.out.c 3 _ rfl
    have qhB1F := hB1_w3.out.fr
    have kqhB1 : (w.heap.size + 1) < w3.heap.size := by omega
    have qhXr0 := hXr_w3.out.c 0 _ rfl
    have qhXr1 := hXr_w3.out.c 1 _ rfl
    have qhXr2 := hXr_w3.out.c 2 _ rfl
    have qhXr3 := hXr_w3.out.c 3 _ rfl
    have qhXrF := hXr_w3.out.fr
    have kqhXr : w2.heap.size < w3.heap.size := by omega
    have hne0_1 : w.heap.size ≠ (w.heap.size + 1) := by omega
    have hne1_0 : (w.heap.size + 1) ≠ w.heap.size := by omega
    have hne0_2 : w.heap.size ≠ w2.heap.size := by omega
    have hne2_0 : w2.heap.size ≠ w.heap.size := by omega
    have hne1_2 : (w.heap.size + 1) ≠ w2.heap.size := by omega
    have hne2_1 : w2.heap.size ≠ (w.heap.size + 1) := by omega
    go_wp2_with fail
    go_region_held3 (fun w' => w'.cell? ⟨w2.heap.size, 0, none⟩ = some (.int .i64 r.z) ∧ w'.cell? ⟨w2.heap.size, 1, none⟩ = some (.int .i64 r.b) ∧ w'.cell? ⟨w2.heap.size, 2, none⟩ = some (.int .i64 r.e) ∧ w'.cell? ⟨w2.heap.size, 3, none⟩ = some (.slice aor r.xs.length capr)) (first | go_keep | exact ⟨qhXr0, qhXr1, qhXr2, qhXr3⟩) ((go_at_call 50; refine (l8Copy_rn r (w.heap.size + 1 + 1) aor capr _ (by first | exact ownr_w3.out.read | exact ownr_w3.out.read.ext (Ext.refl _).drew) okr).mono ?_; rintro en w4 ⟨aoq, capq, rfl, ownq, hg4⟩; have hgg4 : Chg (fun b => b = (w.heap.size + 1 + 1)) w3 w4 := (by first | with_reducible exact hg4 | exact Chg.trans ((Ext.refl w3).drew.chg _) hg4); have hz4 : w3.heap.size ≤ w4.heap.size := hgg4.size; have ownq_w4 := hide (OwnS.mono (lo' := w3.heap.size) ownq (Nat.le_refl _) (Nat.le_refl _)); have hB0_w4 := hide (BoxV.chg (w := w3) hB0_w3.out hgg4 (by (try dsimp only); omega)); have hB1_w4 := hide (BoxV.chg (w := w3) hB1_w3.out hgg4 (by (try dsimp only); omega)); have hXr_w4 := hide (BoxV.chg (w := w3) hXr_w3.out hgg4 (by (try dsimp only); omega)); have ownr_w4 := hide (OwnS.chg (w := w3) ownr_w3.out hgg4 (fun b h1 h2 h3 => by (try dsimp only at h3); omega)); clear qhB00 qhB01 qhB02 qhB03 qhB0F kqhB0 qhB10 qhB11 qhB12 qhB13 qhB1F kqhB1 qhXr0 qhXr1 qhXr2 qhXr3 qhXrF kqhXr; have qhB00 := hB0_w4.out.c 0 _ rfl; have qhB01 := hB0_w4.out.c 1 _ rfl; have qhB02 := hB0_w4.out.c 2 _ rfl; have qhB03 := hB0_w4.out.c 3 _ rfl; have qhB0F := hB0_w4.out.fr; have kqhB0 : w.heap.size < w4.heap.size := (by omega); have qhB10 := hB1_w4.out.c 0 _ rfl; have qhB11 := hB1_w4.out.c 1 _ rfl; have qhB12 := hB1_w4.out.c 2 _ rfl; have qhB13 := hB1_w4.out.c 3 _ rfl; have qhB1F := hB1_w4.out.fr; have kqhB1 : (w.heap.size + 1) < w4.heap.size := (by omega); have qhXr0 := hXr_w4.out.c 0 _ rfl; have qhXr1 := hXr_w4.out.c 1 _ rfl; have qhXr2 := hXr_w4.out.c 2 _ rfl; have qhXr3 := hXr_w4.out.c 3 _ rfl; have qhXrF := hXr_w4.out.fr; have kqhXr : w2.heap.size < w4.heap.size := (by omega)))
    have hgw4 : Chg (fun b => w.heap.size ≤ b) w w4 := hgw3.trans (hgg4.mono (fun b _ h => by (try dsimp only at h ⊢); omega))
    have hset0 := BoxV.set hB0_w4.out [.int .i64 r.z, .int .i64 r.b, .int .i64 r.e, .slice aor r.xs.length capr] rfl
    simp only [setFrom, Nat.zero_add, Nat.reduceAdd] at hset0
    have hset1 := BoxV.set (BoxV.chg hB1_w4.out hset0.2 (by (try dsimp only); omega)) [.int .i64 r.z, .int .i64 r.b, .int .i64 r.e, .slice aoq r.xs.length capq] rfl
    simp only [setFrom, Nat.zero_add, Nat.reduceAdd] at hset1
    go_wp2
    refine bodyPost_ret (v := .tuple #[.agg #[.int .i64 r.z, .int .i64 r.b, .int .i64 r.e, .slice aor r.xs.length capr], .agg #[.int .i64 r.z, .int .i64 r.b, .int .i64 r.e, .slice aoq r.xs.length capq]]) (by simp [results, Try.results35, go_sem, *]) rfl ⟨r, aor, capr, r, aoq, capq, rfl, okr, okr, ?_, ?_, ?_⟩
    · exact (OwnS.chg (OwnS.chg ownr_w4.out hset0.2 (fun b h1 h2 h3 => by (try dsimp only at h3); omega)) hset1.2 (fun b h1 h2 h3 => by (try dsimp only at h3); omega)).mono (by omega) (by have z0 := hset0.2.size; have z1 := hset1.2.size; omega)
    · exact (OwnS.chg (OwnS.chg ownq_w4.out hset0.2 (fun b h1 h2 h3 => by (try dsimp only at h3); omega)) hset1.2 (fun b h1 h2 h3 => by (try dsimp only at h3); omega)).mono (by omega) (by have z0 := hset0.2.size; have z1 := hset1.2.size; omega)
    · exact ((hgw4.trans (hset0.2.mono (T := fun b => w.heap.size ≤ b) (fun b _ h => by (try dsimp only at h ⊢); omega))).trans (hset1.2.mono (T := fun b => w.heap.size ≤ b) (fun b _ h => by (try dsimp only at h ⊢); omega))).ext (fun b h1 h2 => by (try dsimp only at h2); omega)
end Go.Proofs.Yteebkiochnhnhaa

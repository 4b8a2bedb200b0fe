/-
  The draws of FnReceivers. Condition: the code can be read.
-/
import Derived.Test.YtifhbchlmlaanaaDrawAny
import Derived.Test.YtifhbchlmlaanaaCopyRecv
namespace Go.Proofs.Ytifhbchlmlaanaa
open Go.ChangeShapes Go.WideShapes Go.ChangeAt Go.RowKit
set_option linter.unusedSimpArgs false
set_option linter.unusedVariables false
def DrewRvData (w : World) (en : Ending) (w' : World) : Prop :=
  ∃ (r : Rv) (ao : Option Addr) (cap : Nat) (off : Int) (data : ByteArray) (fin : Bool), en = .returned (.tuple #[.agg #[.int .i64 r.st, .int .i64 r.nx, .slice ao r.cs.length cap, .int .i64 r.fi, .int .i64 r.hg, .int .i64 r.co], .int .i64 off, .string data, .bool fin]) ∧ (-1 ≤ off ∧ off ≤ 4611686018427387903) ∧ (data.size : Int) ≤ 5 ∧ RecOk 6 r ∧ OwnC w.heap.size w'.heap.size w' ao r.cs ∧ Ext w w'
set_option maxHeartbeats 4000000 in
set_option maxRecDepth 100000 in
theorem DrawReceiveData_any (code : Value) (w : World) (hc : CodeAt w w.heap.size code) :
    Calls Try.prog 39 #[code] w (DrewRvData w) := by
  go_enter Try.func39, Try.ntmps39
  go_wp2_with fail
  have hE0 : Ext w (w.alloc (.cells #[.int .i64 0, .int .i64 0, .slice none 0 0, .int .i64 0, .int .i64 0, .int .i64 0] 26)) := (Ext.refl w).alloc _
  refine (l1New_any code _ (hc.grown hE0)).mono ?_
  rintro en w1 ⟨rfl, hcu1, hx1⟩
  simp only [World.size_alloc] at hcu1
  have hz1 : w.heap.size + 2 ≤ w1.heap.size := by have := hcu1.lt; omega
  have hgw1 : Chg (fun b => w.heap.size ≤ b) w w1 := (hE0.trans hx1).chg _
  have hB0 := hide (BoxRv.ext (BoxRv.new w ⟨0, 0, 0, 0, 0, []⟩ none 0 26) hx1)
  clear hE0 hx1
  go_wp2_with fail
  refine (l7Any_any (w.heap.size + 1) code _ hcu1).mono ?_
  rintro en w2 ⟨r, aor, capr, rfl, okr, ownr, hcu2, hg2⟩
  have hz2 : w1.heap.size ≤ w2.heap.size := hg2.size
  have hB0_w2 := hide (hB0.out.chg hg2 (by (try dsimp only); omega))
  have ownr_w2 := hide (OwnC.mono (lo' := w1.heap.size) (hi' := w2.heap.size) ownr (Nat.le_refl _) (Nat.le_refl _))
  clear ownr
  have hgw2 : Chg (fun b => w.heap.size ≤ b) w w2 := hgw1.trans (hg2.mono (fun b _ h => by (try dsimp only at h ⊢); omega))
  have hE3 : Ext w2 (w2.alloc (.cells #[.int .i64 r.st, .int .i64 r.nx, .slice aor r.cs.length capr, .int .i64 r.fi, .int .i64 r.hg, .int .i64 r.co] 26)) := (Ext.refl w2).alloc _
  have hXr := hide (BoxRv.new w2 r aor capr 26)
  go_wp2_with fail
  refine (l1Below_pos (w.heap.size + 1) code 12 _ (by omega) (hcu2.ext hE3)).mono ?_
  rintro en w3 ⟨o, rfl, ⟨o0, o1⟩, hcu3, hg3⟩
  have hz3 : w2.heap.size + 1 ≤ w3.heap.size := by have := hg3.size; simpa using this
  have hgg3 : Chg (fun b => b = (w.heap.size + 1)) w2 w3 := (hE3.chg _).trans hg3
  have hB0_w3 := hide (hB0_w2.out.chg hgg3 (by (try dsimp only); omega))
  have ownr_w3 := hide (OwnC.chg ownr_w2.out hgg3 (fun b h1 h2 h3 => by (try dsimp only at h3); omega))
  have hXr_w3 := hide (hXr.out.chg hg3 (by (try dsimp only); omega))
  have hgw3 : Chg (fun b => w.heap.size ≤ b) w w3 := hgw2.trans (hgg3.mono (fun b _ h => by (try dsimp only at h ⊢); omega))
  
  go_wp2_with fail
  refine (l1Once_any (w.heap.size + 1) code 14 _ hcu3).mono ?_
  rintro en w4 ⟨b, rfl, hcu4, hg4⟩
  have hgg4 : Chg (fun b => b = (w.heap.size + 1)) w3 w4 := (by first | with_reducible exact hg4 | exact Chg.trans (((Ext.refl w3).alloc _).chg _) hg4)
  have hz4 : w3.heap.size ≤ w4.heap.size := hgg4.size
  have hB0_w4 := hide (hB0_w3.out.chg hgg4 (by (try dsimp only); omega))
  have hXr_w4 := hide (hXr_w3.out.chg hgg4 (by (try dsimp only); omega))
  have ownr_w4 := hide (OwnC.chg ownr_w3.out hgg4 (fun b h1 h2 h3 => by (try dsimp only at h3); omega))
  have hgw4 : Chg (fun b => w.heap.size ≤ b) w w4 := hgw3.trans (hgg4.mono (fun b _ h => by (try dsimp only at h ⊢); omega))
  
  cases b
  · skip
    go_wp2_with fail
    refine (l4Data_any (w.heap.size + 1) code 5 _ hcu4 (by omega) (by omega)).mono ?_
    rintro en w5 ⟨data, rfl, hds, hcu5, hg5⟩
    have hgg5 : Chg (fun b => b = (w.heap.size + 1)) w4 w5 := (by first | with_reducible exact hg5 | exact Chg.trans (((Ext.refl w4).alloc _).chg _) hg5)
    have hz5 : w4.heap.size ≤ w5.heap.size := hgg5.size
    have hB0_w5 := hide (hB0_w4.out.chg hgg5 (by (try dsimp only); omega))
    have hXr_w5 := hide (hXr_w4.out.chg hgg5 (by (try dsimp only); omega))
    have ownr_w5 := hide (OwnC.chg ownr_w4.out hgg5 (fun b h1 h2 h3 => by (try dsimp only at h3); omega))
    have hgw5 : Chg (fun b => w.heap.size ≤ b) w w5 := hgw4.trans (hgg5.mono (fun b _ h => by (try dsimp only at h ⊢); omega))
    
    obtain ⟨qhB00, qhB01, qhB02, qhB03, qhB04, qhB05, qhB0F⟩ := hB0_w5.out
    have kqhB0 : w.heap.size < w5.heap.size := by omega
    obtain ⟨qhXr0, qhXr1, qhXr2, qhXr3, qhXr4, qhXr5, qhXrF⟩ := hXr_w5.out
    have kqhXr : w2.heap.size < w5.heap.size := by omega
    have hne0_1 : w.heap.size ≠ w2.heap.size := by omega
    have hne1_0 : w2.heap.size ≠ w.heap.size := by omega
    go_wp2_with fail
    go_region_held3 (fun w' => w'.cell? ⟨w2.heap.size, 0, none⟩ = some (.int .i64 r.st) ∧ w'.cell? ⟨w2.heap.size, 1, none⟩ = some (.int .i64 r.nx) ∧ w'.cell? ⟨w2.heap.size, 2, none⟩ = some (.slice aor r.cs.length capr) ∧ w'.cell? ⟨w2.heap.size, 3, none⟩ = some (.int .i64 r.fi) ∧ w'.cell? ⟨w2.heap.size, 4, none⟩ = some (.int .i64 r.hg) ∧ w'.cell? ⟨w2.heap.size, 5, none⟩ = some (.int .i64 r.co)) (first | go_keep | exact ⟨qhXr0, qhXr1, qhXr2, qhXr3, qhXr4, qhXr5⟩) ((go_at_call 84; refine (l1Once_any (w.heap.size + 1) code 3 _ (by first | exact hcu5 | exact hcu5.drew)).mono ?_; rintro en w6 ⟨y, rfl, hcu6, hg6⟩; have hgg6 : Chg (fun b => b = (w.heap.size + 1)) w5 w6 := (by first | with_reducible exact hg6 | exact Chg.trans ((Ext.refl w5).drew.chg _) hg6); have hz6 : w5.heap.size ≤ w6.heap.size := hgg6.size; have hB0_w6 := hide (BoxRv.chg (w := w5) hB0_w5.out hgg6 (by (try dsimp only); omega)); have hXr_w6 := hide (BoxRv.chg (w := w5) hXr_w5.out hgg6 (by (try dsimp only); omega)); have ownr_w6 := hide (OwnC.chg (w := w5) ownr_w5.out hgg6 (fun b h1 h2 h3 => by (try dsimp only at h3); omega)); clear qhB00 qhB01 qhB02 qhB03 qhB04 qhB05 qhB0F kqhB0 qhXr0 qhXr1 qhXr2 qhXr3 qhXr4 qhXr5 qhXrF kqhXr; obtain ⟨qhB00, qhB01, qhB02, qhB03, qhB04, qhB05, qhB0F⟩ := hB0_w6.out; have kqhB0 : w.heap.size < w6.heap.size := (by omega); obtain ⟨qhXr0, qhXr1, qhXr2, qhXr3, qhXr4, qhXr5, qhXrF⟩ := hXr_w6.out; have kqhXr : w2.heap.size < w6.heap.size := (by omega)))
    
    have hset := BoxRv.set hB0_w6.out r aor capr
    unfold set6 at hset
    go_wp2
    refine bodyPost_ret (v := .tuple #[.agg #[.int .i64 r.st, .int .i64 r.nx, .slice aor r.cs.length capr, .int .i64 r.fi, .int .i64 r.hg, .int .i64 r.co], .int .i64 o, .string data, .bool y]) (by simp [results, Try.results39, go_sem, *]) rfl ⟨r, aor, capr, o, data, y, rfl, (by omega), hds, okr, ?_, ?_⟩
    · exact (OwnC.chg ownr_w6.out hset.2 (fun b h1 h2 h3 => by (try dsimp only at h3); omega)).mono (by omega) (by have z1 := hset.2.size; omega)
    · exact ((hgw5.trans (hgg6.mono (fun b _ h => by (try dsimp only at h ⊢); omega))).trans (hset.2.mono (T := fun b => w.heap.size ≤ b) (fun b _ h => by (try dsimp only at h ⊢); omega))).ext (fun b h1 h2 => by (try dsimp only at h2); omega)
  · skip
    go_wp2_with fail
    refine (l1PickInt_new (w.heap.size + 1) code [-1, 4611686018427387903] _ _ hcu4 (by simp) (by simp)).mono ?_
    rintro en w5 ⟨o2, rfl, ho2, hcu5, hg5⟩
    have hgg5 : Chg (fun b => b = (w.heap.size + 1)) w4 w5 := (by first | with_reducible exact hg5 | exact Chg.trans (((Ext.refl w4).alloc _).chg _) hg5)
    have hz5 : w4.heap.size ≤ w5.heap.size := hgg5.size
    have hB0_w5 := hide (hB0_w4.out.chg hgg5 (by (try dsimp only); omega))
    have hXr_w5 := hide (hXr_w4.out.chg hgg5 (by (try dsimp only); omega))
    have ownr_w5 := hide (OwnC.chg ownr_w4.out hgg5 (fun b h1 h2 h3 => by (try dsimp only at h3); omega))
    have hgw5 : Chg (fun b => w.heap.size ≤ b) w w5 := hgw4.trans (hgg5.mono (fun b _ h => by (try dsimp only at h ⊢); omega))
    
    have ho3 : -1 ≤ o2 ∧ o2 ≤ 4611686018427387903 := by
      simp only [List.mem_cons, List.not_mem_nil, or_false] at ho2
      omega
    go_wp2_with fail
    refine (l4Data_any (w.heap.size + 1) code 5 _ hcu5 (by omega) (by omega)).mono ?_
    rintro en w6 ⟨data, rfl, hds, hcu6, hg6⟩
    have hgg6 : Chg (fun b => b = (w.heap.size + 1)) w5 w6 := (by first | with_reducible exact hg6 | exact Chg.trans (((Ext.refl w5).alloc _).chg _) hg6)
    have hz6 : w5.heap.size ≤ w6.heap.size := hgg6.size
    have hB0_w6 := hide (hB0_w5.out.chg hgg6 (by (try dsimp only); omega))
    have hXr_w6 := hide (hXr_w5.out.chg hgg6 (by (try dsimp only); omega))
    have ownr_w6 := hide (OwnC.chg ownr_w5.out hgg6 (fun b h1 h2 h3 => by (try dsimp only at h3); omega))
    have hgw6 : Chg (fun b => w.heap.size ≤ b) w w6 := hgw5.trans (hgg6.mono (fun b _ h => by (try dsimp only at h ⊢); omega))
    
    obtain ⟨qhB00, qhB01, qhB02, qhB03, qhB04, qhB05, qhB0F⟩ := hB0_w6.out
    have kqhB0 : w.heap.size < w6.heap.size := by omega
    obtain ⟨qhXr0, qhXr1, qhXr2, qhXr3, qhXr4, qhXr5, qhXrF⟩ := hXr_w6.out
    have kqhXr : w2.heap.size < w6.heap.size := by omega
    have hne0_1 : w.heap.size ≠ w2.heap.size := by omega
    have hne1_0 : w2.heap.size ≠ w.heap.size := by omega
    go_wp2_with fail
    go_region_held3 (fun w' => w'.cell? ⟨w2.heap.size, 0, none⟩ = some (.int .i64 r.st) ∧ w'.cell? ⟨w2.heap.size, 1, none⟩ = some (.int .i64 r.nx) ∧ w'.cell? ⟨w2.heap.size, 2, none⟩ = some (.slice aor r.cs.length capr) ∧ w'.cell? ⟨w2.heap.size, 3, none⟩ = some (.int .i64 r.fi) ∧ w'.cell? ⟨w2.heap.size, 4, none⟩ = some (.int .i64 r.hg) ∧ w'.cell? ⟨w2.heap.size, 5, none⟩ = some (.int .i64 r.co)) (first | go_keep | exact ⟨qhXr0, qhXr1, qhXr2, qhXr3, qhXr4, qhXr5⟩) ((go_at_call 84; refine (l1Once_any (w.heap.size + 1) code 3 _ (by first | exact hcu6 | exact hcu6.drew)).mono ?_; rintro en w7 ⟨y, rfl, hcu7, hg7⟩; have hgg7 : Chg (fun b => b = (w.heap.size + 1)) w6 w7 := (by first | with_reducible exact hg7 | exact Chg.trans ((Ext.refl w6).drew.chg _) hg7); have hz7 : w6.heap.size ≤ w7.heap.size := hgg7.size; have hB0_w7 := hide (BoxRv.chg (w := w6) hB0_w6.out hgg7 (by (try dsimp only); omega)); have hXr_w7 := hide (BoxRv.chg (w := w6) hXr_w6.out hgg7 (by (try dsimp only); omega)); have ownr_w7 := hide (OwnC.chg (w := w6) ownr_w6.out hgg7 (fun b h1 h2 h3 => by (try dsimp only at h3); omega)); clear qhB00 qhB01 qhB02 qhB03 qhB04 qhB05 qhB0F kqhB0 qhXr0 qhXr1 qhXr2 qhXr3 qhXr4 qhXr5 qhXrF kqhXr; obtain ⟨qhB00, qhB01, qhB02, qhB03, qhB04, qhB05, qhB0F⟩ := hB0_w7.out; have kqhB0 : w.heap.size < w7.heap.size := (by omega); obtain ⟨qhXr0, qhXr1, qhXr2, qhXr3, qhXr4, qhXr5, qhXrF⟩ := hXr_w7.out; have kqhXr : w2.heap.size < w7.heap.size := (by omega)))
    
    have hset := BoxRv.set hB0_w7.out r aor capr
    unfold set6 at hset
    go_wp2
    refine bodyPost_ret (v := .tuple #[.agg #[.int .i64 r.st, .int .i64 r.nx, .slice aor r.cs.length capr, .int .i64 r.fi, .int .i64 r.hg, .int .i64 r.co], .int .i64 o2, .string data, .bool y]) (by simp [results, Try.results39, go_sem, *]) rfl ⟨r, aor, capr, o2, data, y, rfl, ho3, hds, okr, ?_, ?_⟩
    · exact (OwnC.chg ownr_w7.out hset.2 (fun b h1 h2 h3 => by (try dsimp only at h3); omega)).mono (by omega) (by have z1 := hset.2.size; omega)
    · exact ((hgw6.trans (hgg7.mono (fun b _ h => by (try dsimp only at h ⊢); omega))).trans (hset.2.mono (T := fun b => w.heap.size ≤ b) (fun b _ h => by (try dsimp only at h ⊢); omega))).ext (fun b h1 h2 => by (try dsimp only at h2); omega)
set_option maxHeartbeats 4000000 in
set_option maxRecDepth 100000 in
theorem DrawRecvName_any (code : Value) (w : World) (hc : CodeAt w w.heap.size code) :
    Calls Try.prog 42 #[code] w (DrewInt w) := by
  go_enter Try.func42, Try.ntmps42
  go_wp2_with fail
  refine (l1New_any code _ hc).mono ?_
  rintro en w1 ⟨rfl, hcu1, hx1⟩
  go_wp2_with fail
  refine (l1Below_pos _ code 8 _ (by omega) hcu1).mono ?_
  rintro en w2 ⟨y, rfl, ⟨y0, y1⟩, hcu2, hg2⟩
  have hwr : IntKind.i64.wrap (y - 1) = y - 1 := IntWalk.i64_in _ (by omega)
  have hx2 : Ext w w2 := ((hx1.chg (fun b => w.heap.size ≤ b)).trans (hg2.mono (fun b _ h => by (try dsimp only at h ⊢); omega))).ext (fun b h1 h2 => by (try dsimp only at h2); omega)
  go_wp2
  go_ret
  exact ⟨y - 1, rfl, hx2⟩
def DrewRv2 (w : World) (en : Ending) (w' : World) : Prop :=
  ∃ (r : Rv) (ao : Option Addr) (cap : Nat) (q : Rv) (bo : Option Addr) (cbp : Nat), en = .returned (.tuple #[.agg #[.int .i64 r.st, .int .i64 r.nx, .slice ao r.cs.length cap, .int .i64 r.fi, .int .i64 r.hg, .int .i64 r.co], .agg #[.int .i64 q.st, .int .i64 q.nx, .slice bo q.cs.length cbp, .int .i64 q.fi, .int .i64 q.hg, .int .i64 q.co]]) ∧ RecOk 6 r ∧ RecOk 6 q ∧ OwnC w.heap.size w'.heap.size w' ao r.cs ∧ OwnC w.heap.size w'.heap.size w' bo q.cs ∧ Ext w w'
theorem l7Copy_rv {m : Nat} (r : Rv) (p : Nat) (ao : Option Addr) (ca : Nat) (w : World) (hx : ReadC w ao r.cs) (hr : RecOk m r) (hm : m ≤ 1048576) :
    Calls Try.prog 74 #[.agg #[.int .i64 r.st, .int .i64 r.nx, .slice ao r.cs.length ca, .int .i64 r.fi, .int .i64 r.hg, .int .i64 r.co]] w fun en w' => ∃ (bo : Option Addr) (cbp : Nat), en = .returned (.agg #[.int .i64 r.st, .int .i64 r.nx, .slice bo r.cs.length cbp, .int .i64 r.fi, .int .i64 r.hg, .int .i64 r.co]) ∧ OwnC w.heap.size w'.heap.size w' bo r.cs ∧ Chg (fun k => k = p) w w' := by
  refine (l7Copy_any _ _ _ _ _ ao _ ca r.cs w hx rfl (Nat.le_trans hr.len hm)).mono ?_
  rintro en w1 ⟨bo, cbp, rfl, ho, hb⟩
  exact ⟨bo, cbp, rfl, ho, hb.chg _⟩
set_option maxHeartbeats 4000000 in
set_option maxRecDepth 100000 in
theorem DrawEqualReceivers_any (code : Value) (w : World) (hc : CodeAt w w.heap.size code) :
    Calls Try.prog 41 #[code] w (DrewRv2 w) := by
  go_enter Try.func41, Try.ntmps41
  go_wp2_with fail
  have hE0 : Ext w ((w.alloc (.cells #[.int .i64 0, .int .i64 0, .slice none 0 0, .int .i64 0, .int .i64 0, .int .i64 0] 26)).alloc (.cells #[.int .i64 0, .int .i64 0, .slice none 0 0, .int .i64 0, .int .i64 0, .int .i64 0] 26)) := ((Ext.refl w).alloc _).alloc _
  refine (l1New_any code _ (hc.grown hE0)).mono ?_
  rintro en w1 ⟨rfl, hcu1, hx1⟩
  simp only [World.size_alloc] at hcu1
  have hz1 : w.heap.size + 3 ≤ w1.heap.size := by have := hcu1.lt; omega
  have hgw1 : Chg (fun b => w.heap.size ≤ b) w w1 := (hE0.trans hx1).chg _
  have hB0 := hide (BoxRv.ext (BoxRv.ext (BoxRv.new w ⟨0, 0, 0, 0, 0, []⟩ none 0 26) ((Ext.refl _).alloc (.cells #[.int .i64 0, .int .i64 0, .slice none 0 0, .int .i64 0, .int .i64 0, .int .i64 0] 26))) hx1)
  have hB1 : Hid (BoxRv (w.heap.size + 1) w1 ⟨0, 0, 0, 0, 0, []⟩ none 0) := hide (by have h := BoxRv.ext (BoxRv.new (w.alloc (.cells #[.int .i64 0, .int .i64 0, .slice none 0 0, .int .i64 0, .int .i64 0, .int .i64 0] 26)) ⟨0, 0, 0, 0, 0, []⟩ none 0 26) hx1; simpa only [World.size_alloc] using h)
  clear hE0 hx1
  go_wp2_with fail
  refine (l7Any_any (w.heap.size + 1 + 1) code _ hcu1).mono ?_
  rintro en w2 ⟨r, aor, capr, rfl, okr, ownr, hcu2, hg2⟩
  have hz2 : w1.heap.size ≤ w2.heap.size := hg2.size
  have hB0_w2 := hide (hB0.out.chg hg2 (by (try dsimp only); omega))
  have hB1_w2 := hide (hB1.out.chg hg2 (by (try dsimp only); omega))
  have ownr_w2 := hide (OwnC.mono (lo' := w1.heap.size) (hi' := w2.heap.size) ownr (Nat.le_refl _) (Nat.le_refl _))
  clear ownr
  have hgw2 : Chg (fun b => w.heap.size ≤ b) w w2 := hgw1.trans (hg2.mono (fun b _ h => by (try dsimp only at h ⊢); omega))
  have hE3 : Ext w2 (w2.alloc (.cells #[.int .i64 r.st, .int .i64 r.nx, .slice aor r.cs.length capr, .int .i64 r.fi, .int .i64 r.hg, .int .i64 r.co] 26)) := (Ext.refl w2).alloc _
  have hXr := hide (BoxRv.new w2 r aor capr 26)
  go_wp2_with fail
  refine (l1Once_any (w.heap.size + 1 + 1) code 2 _ (hcu2.ext hE3)).mono ?_
  rintro en w3 ⟨b, rfl, hcu3, hg3⟩
  have hz3 : w2.heap.size + 1 ≤ w3.heap.size := by have := hg3.size; simpa using this
  have hgg3 : Chg (fun b => b = (w.heap.size + 1 + 1)) w2 w3 := (hE3.chg _).trans hg3
  have hB0_w3 := hide (hB0_w2.out.chg hgg3 (by (try dsimp only); omega))
  have hB1_w3 := hide (hB1_w2.out.chg hgg3 (by (try dsimp only); omega))
  have ownr_w3 := hide (OwnC.chg ownr_w2.out hgg3 (fun b h1 h2 h3 => by (try dsimp only at h3); omega))
  have hXr_w3 := hide (hXr.out.chg hg3 (by (try dsimp only); omega))
  have hgw3 : Chg (fun b => w.heap.size ≤ b) w w3 := hgw2.trans (hgg3.mono (fun b _ h => by (try dsimp only at h ⊢); omega))
  
  cases b
  · skip
    obtain ⟨qhB00, qhB01, qhB02, qhB03, qhB04, qhB05, qhB0F⟩ := hB0_w3.out
    have kqhB0 : w.heap.size < w3.heap.size := by omega
    obtain ⟨qhB10, qhB11, qhB12, qhB13, qhB14, qhB15, qhB1F⟩ := hB1_w3.out
    have kqhB1 : (w.heap.size + 1) < w3.heap.size := by omega
    obtain ⟨qhXr0, qhXr1, qhXr2, qhXr3, qhXr4, qhXr5, qhXrF⟩ := hXr_w3.out
    have kqhXr : w2.heap.size < w3.heap.size := by omega
    have hne0_1 : w.heap.size ≠ (w.heap.size + 1) := by omega
    have hne1_0 : (w.heap.size + 1) ≠ w.heap.size := by omega
    have hne0_2 : w.heap.size ≠ w2.heap.size := by omega
    have hne2_0 : w2.heap.size ≠ w.heap.size := by omega
    have hne1_2 : (w.heap.size + 1) ≠ w2.heap.size := by omega
    have hne2_1 : w2.heap.size ≠ (w.heap.size + 1) := by omega
    go_wp2_with fail
    go_region_held3 (fun w' => w'.cell? ⟨w2.heap.size, 0, none⟩ = some (.int .i64 r.st) ∧ w'.cell? ⟨w2.heap.size, 1, none⟩ = some (.int .i64 r.nx) ∧ w'.cell? ⟨w2.heap.size, 2, none⟩ = some (.slice aor r.cs.length capr) ∧ w'.cell? ⟨w2.heap.size, 3, none⟩ = some (.int .i64 r.fi) ∧ w'.cell? ⟨w2.heap.size, 4, none⟩ = some (.int .i64 r.hg) ∧ w'.cell? ⟨w2.heap.size, 5, none⟩ = some (.int .i64 r.co)) (first | go_keep | exact ⟨qhXr0, qhXr1, qhXr2, qhXr3, qhXr4, qhXr5⟩) ((go_at_call 82; refine (l7Any_any (w.heap.size + 1 + 1) code _ (by first | exact hcu3 | exact hcu3.drew)).mono ?_; rintro en w4 ⟨q, aoq, capq, rfl, okq, ownq, hcu4, hg4⟩; have hgg4 : Chg (fun b => b = (w.heap.size + 1 + 1)) w3 w4 := (by first | with_reducible exact hg4 | exact Chg.trans ((Ext.refl w3).drew.chg _) hg4); have hz4 : w3.heap.size ≤ w4.heap.size := hgg4.size; have ownq_v := hide (OwnC.mono (lo' := w3.heap.size) ownq (Nat.le_refl _) (Nat.le_refl _)); have hB0_w4 := hide (BoxRv.chg (w := w3) hB0_w3.out hgg4 (by (try dsimp only); omega)); have hB1_w4 := hide (BoxRv.chg (w := w3) hB1_w3.out hgg4 (by (try dsimp only); omega)); have hXr_w4 := hide (BoxRv.chg (w := w3) hXr_w3.out hgg4 (by (try dsimp only); omega)); have ownr_w4 := hide (OwnC.chg (w := w3) ownr_w3.out hgg4 (fun b h1 h2 h3 => by (try dsimp only at h3); omega)); clear qhB00 qhB01 qhB02 qhB03 qhB04 qhB05 qhB0F kqhB0 qhB10 qhB11 qhB12 qhB13 qhB14 qhB15 qhB1F kqhB1 qhXr0 qhXr1 qhXr2 qhXr3 qhXr4 qhXr5 qhXrF kqhXr; obtain ⟨qhB00, qhB01, qhB02, qhB03, qhB04, qhB05, qhB0F⟩ := hB0_w4.out; have kqhB0 : w.heap.size < w4.heap.size := (by omega); obtain ⟨qhB10, qhB11, qhB12, qhB13, qhB14, qhB15, qhB1F⟩ := hB1_w4.out; have kqhB1 : (w.heap.size + 1) < w4.heap.size := (by omega); obtain ⟨qhXr0, qhXr1, qhXr2, qhXr3, qhXr4, qhXr5, qhXrF⟩ := hXr_w4.out; have kqhXr : w2.heap.size < w4.heap.size := (by omega)))
    have hset0 := BoxRv.set hB0_w4.out r aor capr
    have hset1 := BoxRv.set (BoxRv.chg hB1_w4.out hset0.2 (by (try dsimp only); omega)) q aoq capq
    unfold set6 at hset0 hset1
    go_wp2
    refine bodyPost_ret (v := .tuple #[.agg #[.int .i64 r.st, .int .i64 r.nx, .slice aor r.cs.length capr, .int .i64 r.fi, .int .i64 r.hg, .int .i64 r.co], .agg #[.int .i64 q.st, .int .i64 q.nx, .slice aoq q.cs.length capq, .int .i64 q.fi, .int .i64 q.hg, .int .i64 q.co]]) (by simp [results, Try.results41, go_sem, *]) rfl ⟨r, aor, capr, q, aoq, capq, rfl, okr, okq, ?_, ?_, ?_⟩
    · exact (OwnC.chg (OwnC.chg ownr_w4.out hset0.2 (fun b h1 h2 h3 => by (try dsimp only at h3); omega)) hset1.2 (fun b h1 h2 h3 => by (try dsimp only at h3); omega)).mono (by omega) (by have z0 := hset0.2.size; have z1 := hset1.2.size; omega)
    · exact (OwnC.chg (OwnC.chg ownq_v.out hset0.2 (fun b h1 h2 h3 => by (try dsimp only at h3); omega)) hset1.2 (fun b h1 h2 h3 => by (try dsimp only at h3); omega)).mono (by omega) (by have z0 := hset0.2.size; have z1 := hset1.2.size; omega)
    · exact (((hgw3.trans (hgg4.mono (fun b _ h => by (try dsimp only at h ⊢); omega))).trans (hset0.2.mono (T := fun b => w.heap.size ≤ b) (fun b _ h => by (try dsimp only at h ⊢); omega))).trans (hset1.2.mono (T := fun b => w.heap.size ≤ b) (fun b _ h => by (try dsimp only at h ⊢); omega))).ext (fun b h1 h2 => by (try dsimp only at h2); omega)
  · skip
    obtain ⟨qhB00, qhB01, qhB02, qhB03, qhB04, qhB05, qhB0F⟩ := hB0_w3.out
    have kqhB0 : w.heap.size < w3.heap.size := by omega
    obtain ⟨qhB10, qhB11, qhB12, qhB13, qhB14, qhB15, qhB1F⟩ := hB1_w3.out
    have kqhB1 : (w.heap.size + 1) < w3.heap.size := by omega
    obtain ⟨qhXr0, qhXr1, qhXr2, qhXr3, qhXr4, qhXr5, qhXrF⟩ := hXr_w3.out
    have kqhXr : w2.heap.size < w3.heap.size := by omega
    have hne0_1 : w.heap.size ≠ (w.heap.size + 1) := by omega
    have hne1_0 : (w.heap.size + 1) ≠ w.heap.size := by omega
    have hne0_2 : w.heap.size ≠ w2.heap.size := by omega
    have hne2_0 : w2.heap.size ≠ w.heap.size := by omega
    have hne1_2 : (w.heap.size + 1) ≠ w2.heap.size := by omega
    have hne2_1 : w2.heap.size ≠ (w.heap.size + 1) := by omega
    go_wp2_with fail
    go_region_held3 (fun w' => w'.cell? ⟨w2.heap.size, 0, none⟩ = some (.int .i64 r.st) ∧ w'.cell? ⟨w2.heap.size, 1, none⟩ = some (.int .i64 r.nx) ∧ w'.cell? ⟨w2.heap.size, 2, none⟩ = some (.slice aor r.cs.length capr) ∧ w'.cell? ⟨w2.heap.size, 3, none⟩ = some (.int .i64 r.fi) ∧ w'.cell? ⟨w2.heap.size, 4, none⟩ = some (.int .i64 r.hg) ∧ w'.cell? ⟨w2.heap.size, 5, none⟩ = some (.int .i64 r.co)) (first | go_keep | exact ⟨qhXr0, qhXr1, qhXr2, qhXr3, qhXr4, qhXr5⟩) ((go_at_call 74; refine (l7Copy_rv r (w.heap.size + 1 + 1) aor capr _ (by first | exact ownr_w3.out.read | exact ownr_w3.out.read.ext (Ext.refl _).drew) okr (by omega)).mono ?_; rintro en w4 ⟨aoq, capq, rfl, ownq, hg4⟩; have hgg4 : Chg (fun b => b = (w.heap.size + 1 + 1)) w3 w4 := (by first | with_reducible exact hg4 | exact Chg.trans ((Ext.refl w3).drew.chg _) hg4); have hz4 : w3.heap.size ≤ w4.heap.size := hgg4.size; have ownq_v := hide (OwnC.mono (lo' := w3.heap.size) ownq (Nat.le_refl _) (Nat.le_refl _)); have hB0_w4 := hide (BoxRv.chg (w := w3) hB0_w3.out hgg4 (by (try dsimp only); omega)); have hB1_w4 := hide (BoxRv.chg (w := w3) hB1_w3.out hgg4 (by (try dsimp only); omega)); have hXr_w4 := hide (BoxRv.chg (w := w3) hXr_w3.out hgg4 (by (try dsimp only); omega)); have ownr_w4 := hide (OwnC.chg (w := w3) ownr_w3.out hgg4 (fun b h1 h2 h3 => by (try dsimp only at h3); omega)); clear qhB00 qhB01 qhB02 qhB03 qhB04 qhB05 qhB0F kqhB0 qhB10 qhB11 qhB12 qhB13 qhB14 qhB15 qhB1F kqhB1 qhXr0 qhXr1 qhXr2 qhXr3 qhXr4 qhXr5 qhXrF kqhXr; obtain ⟨qhB00, qhB01, qhB02, qhB03, qhB04, qhB05, qhB0F⟩ := hB0_w4.out; have kqhB0 : w.heap.size < w4.heap.size := (by omega); obtain ⟨qhB10, qhB11, qhB12, qhB13, qhB14, qhB15, qhB1F⟩ := hB1_w4.out; have kqhB1 : (w.heap.size + 1) < w4.heap.size := (by omega); obtain ⟨qhXr0, qhXr1, qhXr2, qhXr3, qhXr4, qhXr5, qhXrF⟩ := hXr_w4.out; have kqhXr : w2.heap.size < w4.heap.size := (by omega)))
    have hset0 := BoxRv.set hB0_w4.out r aor capr
    have hset1 := BoxRv.set (BoxRv.chg hB1_w4.out hset0.2 (by (try dsimp only); omega)) r aoq capq
    unfold set6 at hset0 hset1
    go_wp2
    refine bodyPost_ret (v := .tuple #[.agg #[.int .i64 r.st, .int .i64 r.nx, .slice aor r.cs.length capr, .int .i64 r.fi, .int .i64 r.hg, .int .i64 r.co], .agg #[.int .i64 r.st, .int .i64 r.nx, .slice aoq r.cs.length capq, .int .i64 r.fi, .int .i64 r.hg, .int .i64 r.co]]) (by simp [results, Try.results41, go_sem, *]) rfl ⟨r, aor, capr, r, aoq, capq, rfl, okr, okr, ?_, ?_, ?_⟩
    · exact (OwnC.chg (OwnC.chg ownr_w4.out hset0.2 (fun b h1 h2 h3 => by (try dsimp only at h3); omega)) hset1.2 (fun b h1 h2 h3 => by (try dsimp only at h3); omega)).mono (by omega) (by have z0 := hset0.2.size; have z1 := hset1.2.size; omega)
    · exact (OwnC.chg (OwnC.chg ownq_v.out hset0.2 (fun b h1 h2 h3 => by (try dsimp only at h3); omega)) hset1.2 (fun b h1 h2 h3 => by (try dsimp only at h3); omega)).mono (by omega) (by have z0 := hset0.2.size; have z1 := hset1.2.size; omega)
    · exact (((hgw3.trans (hgg4.mono (fun b _ h => by (try dsimp only at h ⊢); omega))).trans (hset0.2.mono (T := fun b => w.heap.size ≤ b) (fun b _ h => by (try dsimp only at h ⊢); omega))).trans (hset1.2.mono (T := fun b => w.heap.size ≤ b) (fun b _ h => by (try dsimp only at h ⊢); omega))).ext (fun b h1 h2 => by (try dsimp only at h2); omega)
end Go.Proofs.Ytifhbchlmlaanaa

/-
  Part of the proof: SnZ.
-/
import Derived.Deep.DeepCutAuto
import Derived.Test.YtjhgcbchdnoleaaPDrawRgsqS
import Derived.Test.YtjhgcbchdnoleaaPRingEqqS
import Derived.Test.YtjhgcbchdnoleaaPSnRqS
import Derived.Test.YtjhgcbchdnoleaaPSnNwqS
namespace Go.Proofs.Ytjhgcbchdnoleaa
section
open Go.ChangeShapes Go.WideShapes Go.ChangeAt Go.RowKit
set_option linter.unusedSimpArgs false
set_option linter.unusedVariables false
/-- A drawn sender that can be read. -/
def DrewS1 (w : World) (en : Ending) (w' : World) : Prop :=
  ∃ (s : Sn) (a : Ads) (c1 c2 c3 c4 : Nat), en = .returned (.agg #[.int .i64 s.st, .int .i64 s.z, .int .i64 s.b, .int .i64 s.e, .slice a.r s.xs.length c1, .slice a.p s.p.length c2, .slice a.f s.f.length c3, .slice a.k s.k.length c4, .int .i64 s.fi, .int .i64 s.fk, .int .i64 s.se, .int .i64 s.co]) ∧ SnAny s ∧ ReadSnd w' a ⟨s.xs, s.p, s.f, s.k⟩ ∧ Ext w w'
def DrewSD (w : World) (en : Ending) (w' : World) : Prop :=
  ∃ (s : Sn) (a : Ads) (c1 c2 c3 c4 : Nat) (d : ByteArray), en = .returned (.tuple #[.agg #[.int .i64 s.st, .int .i64 s.z, .int .i64 s.b, .int .i64 s.e, .slice a.r s.xs.length c1, .slice a.p s.p.length c2, .slice a.f s.f.length c3, .slice a.k s.k.length c4, .int .i64 s.fi, .int .i64 s.fk, .int .i64 s.se, .int .i64 s.co], .string d]) ∧ SnAny s ∧ (d.size : Int) ≤ 8 ∧ ReadSnd w' a ⟨s.xs, s.p, s.f, s.k⟩ ∧ Ext w w'
def DrewSI (w : World) (en : Ending) (w' : World) : Prop :=
  ∃ (s : Sn) (a : Ads) (c1 c2 c3 c4 : Nat) (u : Int), en = .returned (.tuple #[.agg #[.int .i64 s.st, .int .i64 s.z, .int .i64 s.b, .int .i64 s.e, .slice a.r s.xs.length c1, .slice a.p s.p.length c2, .slice a.f s.f.length c3, .slice a.k s.k.length c4, .int .i64 s.fi, .int .i64 s.fk, .int .i64 s.se, .int .i64 s.co], .int .i64 u]) ∧ SnAny s ∧ (-1 ≤ u ∧ u ≤ 4) ∧ ReadSnd w' a ⟨s.xs, s.p, s.f, s.k⟩ ∧ Ext w w'
def DrewS2 (w : World) (en : Ending) (w' : World) : Prop :=
  ∃ (s : Sn) (a : Ads) (c1 c2 c3 c4 : Nat) (t : Sn) (g : Ads) (k1 k2 k3 k4 : Nat), en = .returned (.tuple #[.agg #[.int .i64 s.st, .int .i64 s.z, .int .i64 s.b, .int .i64 s.e, .slice a.r s.xs.length c1, .slice a.p s.p.length c2, .slice a.f s.f.length c3, .slice a.k s.k.length c4, .int .i64 s.fi, .int .i64 s.fk, .int .i64 s.se, .int .i64 s.co], .agg #[.int .i64 t.st, .int .i64 t.z, .int .i64 t.b, .int .i64 t.e, .slice g.r t.xs.length k1, .slice g.p t.p.length k2, .slice g.f t.f.length k3, .slice g.k t.k.length k4, .int .i64 t.fi, .int .i64 t.fk, .int .i64 t.se, .int .i64 t.co]]) ∧ SnAny s ∧ SnAny t ∧ ReadSnd w' a ⟨s.xs, s.p, s.f, s.k⟩ ∧ ReadSnd w' g ⟨t.xs, t.p, t.f, t.k⟩ ∧ Ext w w'
theorem DrawNewSender_any (code : Value) (w : World) (hc : CodeAt w w.heap.size code) :
    Calls Try.prog 28 #[code] w fun en w' => ∃ n : Int, en = .returned (.int .i64 n) ∧ (-1 ≤ n ∧ n ≤ 128) ∧ Ext w w' := by
  go_enter Try.func28, Try.ntmps28
  go_wp2_with fail
  refine (DrawNewRing_any code _ hc).mono ?_
  rintro en w1 ⟨n, rfl, hn, hx⟩
  go_wp2
  go_ret
  exact ⟨n, rfl, hn, hx⟩
theorem DrawSendName_any (code : Value) (w : World) (hc : CodeAt w w.heap.size code) :
    Calls Try.prog 32 #[code] w fun en w' => ∃ n : Int, en = .returned (.int .i64 n) ∧ (-1 ≤ n ∧ n ≤ 6) ∧ Ext w w' := by
  go_enter Try.func32, Try.ntmps32
  go_wp2_with fail
  refine (l1New_any code _ hc).mono ?_
  rintro en w1 ⟨rfl, hcu1, hx1⟩
  go_wp2_with fail
  refine (l1Below_pos w.heap.size code 8 _ (by omega) hcu1).mono ?_
  rintro en w2 ⟨y, rfl, ⟨y0, y1⟩, hcu2, hg2⟩
  have hyw : IntKind.i64.wrap (y - 1) = y - 1 := IntWalk.i64_in _ (by omega)
  have hx2 : Ext w w2 := ((hx1.chg (fun b => w.heap.size ≤ b)).trans (hg2.mono xsub)).ext (fun b h1 h2 => by (try dsimp only at h2); omega)
  go_wp2
  go_ret
  exact ⟨y - 1, rfl, by omega, hx2⟩
set_option maxHeartbeats 8000000 in
set_option maxRecDepth 100000 in
theorem DrawCloseSender_any (code : Value) (w : World) (hc : CodeAt w w.heap.size code) :
    Calls Try.prog 21 #[code] w (DrewS1 w) := by
  skip
  go_enter Try.func21, Try.ntmps21
  have hgw0 : Chg (fun b => w.heap.size ≤ b) w w := Chg.refl _ _
  go_wp2_with fail
  refine (l1New_any code _ (hc.grown Ext.go)).mono ?_
  rintro en w1 ⟨rfl, hcuw1, hw1⟩
  (try simp only [World.size_alloc] at hcuw1)
  have hcl := hcuw1.lt
  have gw1 : Chg (fun b => False) w w1 := Chg.trans Chg.go (Ext.chg hw1 _)
  have zw1 := hw1.size
  (try simp at zw1)
  have yw1 : w.heap.size ≤ w1.heap.size := gw1.size
  have hr_w1 := hide (BoxV.chg (BoxV.new w [.int .i64 0, .int .i64 0, .int .i64 0, .int .i64 0, .slice none 0 0, .slice none 0 0, .slice none 0 0, .slice none 0 0, .int .i64 0, .int .i64 0, .int .i64 0, .int .i64 0] 32) (S := fun b => False) (Chg.trans Chg.go (Ext.chg hw1 _)) xom)
  have hgww1 : Chg (fun b => w.heap.size ≤ b) w w1 := Chg.trans hgw0 (Chg.mono (T := fun b => w.heap.size ≤ b) gw1 xsub)
  clear hgw0
  clear gw1 hw1
  obtain ⟨br0, br1, br2, br3, br4, br5, br6, br7, br8, br9, br10, br11, brF, kbr⟩ := BoxV.a12 hr_w1.out
  go_wp2_with fail
  refine (l9Any_any (w.heap.size + 1) code _ (hcuw1.stays (S := fun b => False) Chg.go (fun b h => xom))).mono ?_
  rintro en w2 ⟨s, a, c1, c2, c3, c4, rfl, hok, ho, hcuw2, hw2⟩
  replace hok := hide hok
  have gw2 : Chg (fun b => b = (w.heap.size + 1)) w1 w2 := Chg.trans Chg.go (Chg.mono (T := fun b => b = (w.heap.size + 1)) hw2 xsub)
  have zw2 := hw2.size
  (try simp at zw2)
  have yw2 : w1.heap.size ≤ w2.heap.size := gw2.size
  have hr_w2 := hide (hr_w1.out.chg gw2 xom)
  have hgww2 : Chg (fun b => w.heap.size ≤ b) w w2 := Chg.trans hgww1 (Chg.mono (T := fun b => w.heap.size ≤ b) gw2 xsub)
  clear hr_w1 hgww1 hcuw1 br0 br1 br2 br3 br4 br5 br6 br7 br8 br9 br10 br11 brF kbr
  clear gw2 hw2
  obtain ⟨br0, br1, br2, br3, br4, br5, br6, br7, br8, br9, br10, br11, brF, kbr⟩ := BoxV.a12 hr_w2.out
  (try simp only [World.size_alloc, World.size_drew, World.size_setCell] at ho)
  replace ho := hide ho
  have hset := BoxV.set hr_w2.out [.int .i64 s.st, .int .i64 s.z, .int .i64 s.b, .int .i64 s.e, .slice a.r s.xs.length c1, .slice a.p s.p.length c2, .slice a.f s.f.length c3, .slice a.k s.k.length c4, .int .i64 s.fi, .int .i64 s.fk, .int .i64 s.se, .int .i64 s.co] rfl
  simp only [setFrom, Nat.zero_add, Nat.reduceAdd] at hset
  have hs1r := hide hset.1
  have os1o := hide (OwnSnV.chg ho.out hset.2 xap)
  have gs1 := hgww2.trans (hset.2.mono (T := fun b => w.heap.size ≤ b) xsub)
  have ss1 := hset.2.size
  clear hset
  go_wp2
  refine bodyPost_ret (v := .agg #[.int .i64 s.st, .int .i64 s.z, .int .i64 s.b, .int .i64 s.e, .slice a.r s.xs.length c1, .slice a.p s.p.length c2, .slice a.f s.f.length c3, .slice a.k s.k.length c4, .int .i64 s.fi, .int .i64 s.fk, .int .i64 s.se, .int .i64 s.co]) (by simp [results, Try.results21, go_sem, *]) rfl ⟨s, a, c1, c2, c3, c4, rfl, hok.out, ?_, ?_⟩
  · exact OwnSnV.read os1o.out
  · exact gs1.ext (fun b h1 h2 => by (try dsimp only at h2); omega)
set_option maxHeartbeats 8000000 in
set_option maxRecDepth 100000 in
theorem DrawAckReset_any (code : Value) (w : World) (hc : CodeAt w w.heap.size code) :
    Calls Try.prog 27 #[code] w (DrewS1 w) := by
  skip
  go_enter Try.func27, Try.ntmps27
  have hgw0 : Chg (fun b => w.heap.size ≤ b) w w := Chg.refl _ _
  go_wp2_with fail
  refine (l1New_any code _ (hc.grown Ext.go)).mono ?_
  rintro en w1 ⟨rfl, hcuw1, hw1⟩
  (try simp only [World.size_alloc] at hcuw1)
  have hcl := hcuw1.lt
  have gw1 : Chg (fun b => False) w w1 := Chg.trans Chg.go (Ext.chg hw1 _)
  have zw1 := hw1.size
  (try simp at zw1)
  have yw1 : w.heap.size ≤ w1.heap.size := gw1.size
  have hr_w1 := hide (BoxV.chg (BoxV.new w [.int .i64 0, .int .i64 0, .int .i64 0, .int .i64 0, .slice none 0 0, .slice none 0 0, .slice none 0 0, .slice none 0 0, .int .i64 0, .int .i64 0, .int .i64 0, .int .i64 0] 32) (S := fun b => False) (Chg.trans Chg.go (Ext.chg hw1 _)) xom)
  have hgww1 : Chg (fun b => w.heap.size ≤ b) w w1 := Chg.trans hgw0 (Chg.mono (T := fun b => w.heap.size ≤ b) gw1 xsub)
  clear hgw0
  clear gw1 hw1
  obtain ⟨br0, br1, br2, br3, br4, br5, br6, br7, br8, br9, br10, br11, brF, kbr⟩ := BoxV.a12 hr_w1.out
  go_wp2_with fail
  refine (l9Any_any (w.heap.size + 1) code _ (hcuw1.stays (S := fun b => False) Chg.go (fun b h => xom))).mono ?_
  rintro en w2 ⟨s, a, c1, c2, c3, c4, rfl, hok, ho, hcuw2, hw2⟩
  replace hok := hide hok
  have gw2 : Chg (fun b => b = (w.heap.size + 1)) w1 w2 := Chg.trans Chg.go (Chg.mono (T := fun b => b = (w.heap.size + 1)) hw2 xsub)
  have zw2 := hw2.size
  (try simp at zw2)
  have yw2 : w1.heap.size ≤ w2.heap.size := gw2.size
  have hr_w2 := hide (hr_w1.out.chg gw2 xom)
  have hgww2 : Chg (fun b => w.heap.size ≤ b) w w2 := Chg.trans hgww1 (Chg.mono (T := fun b => w.heap.size ≤ b) gw2 xsub)
  clear hr_w1 hgww1 hcuw1 br0 br1 br2 br3 br4 br5 br6 br7 br8 br9 br10 br11 brF kbr
  clear gw2 hw2
  obtain ⟨br0, br1, br2, br3, br4, br5, br6, br7, br8, br9, br10, br11, brF, kbr⟩ := BoxV.a12 hr_w2.out
  (try simp only [World.size_alloc, World.size_drew, World.size_setCell] at ho)
  replace ho := hide ho
  have hset := BoxV.set hr_w2.out [.int .i64 s.st, .int .i64 s.z, .int .i64 s.b, .int .i64 s.e, .slice a.r s.xs.length c1, .slice a.p s.p.length c2, .slice a.f s.f.length c3, .slice a.k s.k.length c4, .int .i64 s.fi, .int .i64 s.fk, .int .i64 s.se, .int .i64 s.co] rfl
  simp only [setFrom, Nat.zero_add, Nat.reduceAdd] at hset
  have hs1r := hide hset.1
  have os1o := hide (OwnSnV.chg ho.out hset.2 xap)
  have gs1 := hgww2.trans (hset.2.mono (T := fun b => w.heap.size ≤ b) xsub)
  have ss1 := hset.2.size
  clear hset
  go_wp2
  refine bodyPost_ret (v := .agg #[.int .i64 s.st, .int .i64 s.z, .int .i64 s.b, .int .i64 s.e, .slice a.r s.xs.length c1, .slice a.p s.p.length c2, .slice a.f s.f.length c3, .slice a.k s.k.length c4, .int .i64 s.fi, .int .i64 s.fk, .int .i64 s.se, .int .i64 s.co]) (by simp [results, Try.results27, go_sem, *]) rfl ⟨s, a, c1, c2, c3, c4, rfl, hok.out, ?_, ?_⟩
  · exact OwnSnV.read os1o.out
  · exact gs1.ext (fun b h1 h2 => by (try dsimp only at h2); omega)
set_option maxHeartbeats 8000000 in
set_option maxRecDepth 100000 in
theorem DrawWriteSender_any (code : Value) (w : World) (hc : CodeAt w w.heap.size code) :
    Calls Try.prog 15 #[code] w (DrewSD w) := by
  skip
  go_enter Try.func15, Try.ntmps15
  have hgw0 : Chg (fun b => w.heap.size ≤ b) w w := Chg.refl _ _
  go_wp2_with fail
  refine (l1New_any code _ (hc.grown Ext.go)).mono ?_
  rintro en w1 ⟨rfl, hcuw1, hw1⟩
  (try simp only [World.size_alloc] at hcuw1)
  have hcl := hcuw1.lt
  have gw1 : Chg (fun b => False) w w1 := Chg.trans Chg.go (Ext.chg hw1 _)
  have zw1 := hw1.size
  (try simp at zw1)
  have yw1 : w.heap.size ≤ w1.heap.size := gw1.size
  have hr_w1 := hide (BoxV.chg (BoxV.new w [.int .i64 0, .int .i64 0, .int .i64 0, .int .i64 0, .slice none 0 0, .slice none 0 0, .slice none 0 0, .slice none 0 0, .int .i64 0, .int .i64 0, .int .i64 0, .int .i64 0] 32) (S := fun b => False) (Chg.trans Chg.go (Ext.chg hw1 _)) xom)
  have hgww1 : Chg (fun b => w.heap.size ≤ b) w w1 := Chg.trans hgw0 (Chg.mono (T := fun b => w.heap.size ≤ b) gw1 xsub)
  clear hgw0
  clear gw1 hw1
  obtain ⟨br0, br1, br2, br3, br4, br5, br6, br7, br8, br9, br10, br11, brF, kbr⟩ := BoxV.a12 hr_w1.out
  go_wp2_with fail
  refine (l9Any_any (w.heap.size + 1) code _ (hcuw1.stays (S := fun b => False) Chg.go (fun b h => xom))).mono ?_
  rintro en w2 ⟨s, a, c1, c2, c3, c4, rfl, hok, ho, hcuw2, hw2⟩
  replace hok := hide hok
  have gw2 : Chg (fun b => b = (w.heap.size + 1)) w1 w2 := Chg.trans Chg.go (Chg.mono (T := fun b => b = (w.heap.size + 1)) hw2 xsub)
  have zw2 := hw2.size
  (try simp at zw2)
  have yw2 : w1.heap.size ≤ w2.heap.size := gw2.size
  have hr_w2 := hide (hr_w1.out.chg gw2 xom)
  have hgww2 : Chg (fun b => w.heap.size ≤ b) w w2 := Chg.trans hgww1 (Chg.mono (T := fun b => w.heap.size ≤ b) gw2 xsub)
  clear hr_w1 hgww1 hcuw1 br0 br1 br2 br3 br4 br5 br6 br7 br8 br9 br10 br11 brF kbr
  clear gw2 hw2
  obtain ⟨br0, br1, br2, br3, br4, br5, br6, br7, br8, br9, br10, br11, brF, kbr⟩ := BoxV.a12 hr_w2.out
  (try simp only [World.size_alloc, World.size_drew, World.size_setCell] at ho)
  replace ho := hide ho
  go_wp2_with fail
  refine wp_region_flowC (fun b => b = (w.heap.size + 1)) 3 [(0, 1), (1, 1), (2, 0)] (by kernel_rfl) (by kernel_rfl) ?_
  (refine wpC_pure (v := ?_) rfl rfl (by rfl) ?_ ?_; rotate_left; (focus (intro ws hws; obtain ⟨q0, p0⟩ := hws.row (k := w2.heap.size) xpf xom; go_simp; (try with_reducible rfl); done)))
  try simp only [nrm, nrg]
  (refine wpC_pure (v := ?_) rfl rfl (by rfl) ?_ ?_; rotate_left; (focus (intro ws hws; go_simp; (try with_reducible rfl); done)))
  try simp only [nrm, nrg]
  (refine wpC_call 64 ?_ rfl rfl (by rfl) ?_ ?_; rotate_left; (focus (go_simp; (try with_reducible rfl); done)))
  refine (l4Data_any (w.heap.size + 1) code 8 _ (hcuw2.stays (S := fun b => False) Chg.go (fun b h => xom)) (by omega) (by omega)).mono ?_
  rintro en w3 ⟨d, rfl, hd, hcuw3, hw3⟩
  refine ⟨_, rfl, hw3, ?_⟩
  try simp only [nrm, nrg]
  have gw3 : Chg (fun b => b = (w.heap.size + 1)) w2 w3 := Chg.trans Chg.go (Chg.mono (T := fun b => b = (w.heap.size + 1)) hw3 xsub)
  have zw3 := hw3.size
  (try simp at zw3)
  have yw3 : w2.heap.size ≤ w3.heap.size := gw3.size
  have hr_w3 := hide (hr_w2.out.chg gw3 xom)
  have hx_w3 := hide (BoxV.chg (BoxV.new w2 [.int .i64 s.st, .int .i64 s.z, .int .i64 s.b, .int .i64 s.e, .slice a.r s.xs.length c1, .slice a.p s.p.length c2, .slice a.f s.f.length c3, .slice a.k s.k.length c4, .int .i64 s.fi, .int .i64 s.fk, .int .i64 s.se, .int .i64 s.co] 32) (S := fun b => b = (w.heap.size + 1)) (Chg.trans Chg.go (Chg.mono (T := fun b => b = (w.heap.size + 1)) hw3 xsub)) xom)
  have oo_w3 := hide (OwnSnV.chg ho.out gw3 xap)
  have hgww3 : Chg (fun b => w.heap.size ≤ b) w w3 := Chg.trans hgww2 (Chg.mono (T := fun b => w.heap.size ≤ b) gw3 xsub)
  clear hr_w2 ho hgww2 hcuw2 br0 br1 br2 br3 br4 br5 br6 br7 br8 br9 br10 br11 brF kbr
  clear gw3 hw3
  obtain ⟨br0, br1, br2, br3, br4, br5, br6, br7, br8, br9, br10, br11, brF, kbr⟩ := BoxV.a12 hr_w3.out
  obtain ⟨bx0, bx1, bx2, bx3, bx4, bx5, bx6, bx7, bx8, bx9, bx10, bx11, bxF, kbx⟩ := BoxV.a12 hx_w3.out
  have ⟨nerx, nexr⟩ := ne2 (show w.heap.size ≠ w2.heap.size by omega)
  refine wpF_done rfl ?_
  simp only [List.drop_succ_cons, List.drop_zero, List.drop_nil]
  have hset := BoxV.set hr_w3.out [.int .i64 s.st, .int .i64 s.z, .int .i64 s.b, .int .i64 s.e, .slice a.r s.xs.length c1, .slice a.p s.p.length c2, .slice a.f s.f.length c3, .slice a.k s.k.length c4, .int .i64 s.fi, .int .i64 s.fk, .int .i64 s.se, .int .i64 s.co] rfl
  simp only [setFrom, Nat.zero_add, Nat.reduceAdd] at hset
  have hs1x := hide (hx_w3.out.chg hset.2 xom)
  have hs1r := hide hset.1
  have os1o := hide (OwnSnV.chg oo_w3.out hset.2 xap)
  have gs1 := hgww3.trans (hset.2.mono (T := fun b => w.heap.size ≤ b) xsub)
  have ss1 := hset.2.size
  clear hset
  go_wp2
  refine bodyPost_ret (v := .tuple #[.agg #[.int .i64 s.st, .int .i64 s.z, .int .i64 s.b, .int .i64 s.e, .slice a.r s.xs.length c1, .slice a.p s.p.length c2, .slice a.f s.f.length c3, .slice a.k s.k.length c4, .int .i64 s.fi, .int .i64 s.fk, .int .i64 s.se, .int .i64 s.co], .string d]) (by simp [results, Try.results15, go_sem, *]) rfl ⟨s, a, c1, c2, c3, c4, d, rfl, hok.out, hd, ?_, ?_⟩
  · exact OwnSnV.read os1o.out
  · exact gs1.ext (fun b h1 h2 => by (try dsimp only at h2); omega)
set_option maxHeartbeats 8000000 in
set_option maxRecDepth 100000 in
theorem DrawResetSender_any (code : Value) (w : World) (hc : CodeAt w w.heap.size code) :
    Calls Try.prog 24 #[code] w (DrewSI w) := by
  skip
  go_enter Try.func24, Try.ntmps24
  have hgw0 : Chg (fun b => w.heap.size ≤ b) w w := Chg.refl _ _
  go_wp2_with fail
  refine (l1New_any code _ (hc.grown Ext.go)).mono ?_
  rintro en w1 ⟨rfl, hcuw1, hw1⟩
  (try simp only [World.size_alloc] at hcuw1)
  have hcl := hcuw1.lt
  have gw1 : Chg (fun b => False) w w1 := Chg.trans Chg.go (Ext.chg hw1 _)
  have zw1 := hw1.size
  (try simp at zw1)
  have yw1 : w.heap.size ≤ w1.heap.size := gw1.size
  have hr_w1 := hide (BoxV.chg (BoxV.new w [.int .i64 0, .int .i64 0, .int .i64 0, .int .i64 0, .slice none 0 0, .slice none 0 0, .slice none 0 0, .slice none 0 0, .int .i64 0, .int .i64 0, .int .i64 0, .int .i64 0] 32) (S := fun b => False) (Chg.trans Chg.go (Ext.chg hw1 _)) xom)
  have hgww1 : Chg (fun b => w.heap.size ≤ b) w w1 := Chg.trans hgw0 (Chg.mono (T := fun b => w.heap.size ≤ b) gw1 xsub)
  clear hgw0
  clear gw1 hw1
  obtain ⟨br0, br1, br2, br3, br4, br5, br6, br7, br8, br9, br10, br11, brF, kbr⟩ := BoxV.a12 hr_w1.out
  go_wp2_with fail
  refine (l9Any_any (w.heap.size + 1) code _ (hcuw1.stays (S := fun b => False) Chg.go (fun b h => xom))).mono ?_
  rintro en w2 ⟨s, a, c1, c2, c3, c4, rfl, hok, ho, hcuw2, hw2⟩
  replace hok := hide hok
  have gw2 : Chg (fun b => b = (w.heap.size + 1)) w1 w2 := Chg.trans Chg.go (Chg.mono (T := fun b => b = (w.heap.size + 1)) hw2 xsub)
  have zw2 := hw2.size
  (try simp at zw2)
  have yw2 : w1.heap.size ≤ w2.heap.size := gw2.size
  have hr_w2 := hide (hr_w1.out.chg gw2 xom)
  have hgww2 : Chg (fun b => w.heap.size ≤ b) w w2 := Chg.trans hgww1 (Chg.mono (T := fun b => w.heap.size ≤ b) gw2 xsub)
  clear hr_w1 hgww1 hcuw1 br0 br1 br2 br3 br4 br5 br6 br7 br8 br9 br10 br11 brF kbr
  clear gw2 hw2
  obtain ⟨br0, br1, br2, br3, br4, br5, br6, br7, br8, br9, br10, br11, brF, kbr⟩ := BoxV.a12 hr_w2.out
  (try simp only [World.size_alloc, World.size_drew, World.size_setCell] at ho)
  replace ho := hide ho
  go_wp2_with fail
  refine wp_region_flowC (fun b => b = (w.heap.size + 1) ∨ b = w.heap.size) 5 [(0, 1), (1, 1), (2, 0), (3, 1), (4, 0)] (by kernel_rfl) (by kernel_rfl) ?_
  (refine wpC_pure (v := ?_) rfl rfl (by rfl) ?_ ?_; rotate_left; (focus (intro ws hws; obtain ⟨q0, p0⟩ := hws.row (k := w2.heap.size) xpf xom; go_simp; (try with_reducible rfl); done)))
  try simp only [nrm, nrg]
  (refine wpC_pure (v := ?_) rfl rfl (by rfl) ?_ ?_; rotate_left; (focus (intro ws hws; go_simp; (try with_reducible rfl); done)))
  try simp only [nrm, nrg]
  (refine wpC_call 87 ?_ rfl rfl (by rfl) ?_ ?_; rotate_left; (focus (go_simp; (try with_reducible rfl); done)))
  refine (l1Below_pos (w.heap.size + 1) code 6 _ (by omega) (hcuw2.stays (S := fun b => False) Chg.go (fun b h => xom))).mono ?_
  rintro en w3 ⟨u, rfl, ⟨u0, u1⟩, hcuw3, hw3⟩
  refine ⟨_, rfl, (Chg.mono hw3 (fun b _ h => Or.inl h)), ?_⟩
  try simp only [nrm, nrg]
  have huw : IntKind.i64.wrap (u - 1) = u - 1 := IntWalk.i64_in _ (by omega)
  have gw3 : Chg (fun b => b = (w.heap.size + 1)) w2 w3 := Chg.trans Chg.go (Chg.mono (T := fun b => b = (w.heap.size + 1)) hw3 xsub)
  have zw3 := hw3.size
  (try simp at zw3)
  have yw3 : w2.heap.size ≤ w3.heap.size := gw3.size
  have hr_w3 := hide (hr_w2.out.chg gw3 xom)
  have hx_w3 := hide (BoxV.chg (BoxV.new w2 [.int .i64 s.st, .int .i64 s.z, .int .i64 s.b, .int .i64 s.e, .slice a.r s.xs.length c1, .slice a.p s.p.length c2, .slice a.f s.f.length c3, .slice a.k s.k.length c4, .int .i64 s.fi, .int .i64 s.fk, .int .i64 s.se, .int .i64 s.co] 32) (S := fun b => b = (w.heap.size + 1)) (Chg.trans Chg.go (Chg.mono (T := fun b => b = (w.heap.size + 1)) hw3 xsub)) xom)
  have oo_w3 := hide (OwnSnV.chg ho.out gw3 xap)
  have hgww3 : Chg (fun b => w.heap.size ≤ b) w w3 := Chg.trans hgww2 (Chg.mono (T := fun b => w.heap.size ≤ b) gw3 xsub)
  clear hr_w2 ho hgww2 hcuw2 br0 br1 br2 br3 br4 br5 br6 br7 br8 br9 br10 br11 brF kbr
  clear gw3 hw3
  obtain ⟨br0, br1, br2, br3, br4, br5, br6, br7, br8, br9, br10, br11, brF, kbr⟩ := BoxV.a12 hr_w3.out
  obtain ⟨bx0, bx1, bx2, bx3, bx4, bx5, bx6, bx7, bx8, bx9, bx10, bx11, bxF, kbx⟩ := BoxV.a12 hx_w3.out
  have ⟨nerx, nexr⟩ := ne2 (show w.heap.size ≠ w2.heap.size by omega)
  (refine wpC_pure (v := ?_) rfl rfl (by rfl) ?_ ?_; rotate_left; (focus (intro ws hws; go_simp; (try with_reducible rfl); done)))
  try simp only [nrm, nrg]
  (refine wpC_store ?_ rfl rfl (by rfl) ?_ ?_ ?_; rotate_left; (focus (go_simp; (try with_reducible rfl); done)))
  · exact Chg.go
  try simp only [nrm, nrg]
  refine wpF_done rfl ?_
  simp only [List.drop_succ_cons, List.drop_zero, List.drop_nil]
  have hset := BoxV.set hr_w3.out [.int .i64 s.st, .int .i64 s.z, .int .i64 s.b, .int .i64 s.e, .slice a.r s.xs.length c1, .slice a.p s.p.length c2, .slice a.f s.f.length c3, .slice a.k s.k.length c4, .int .i64 s.fi, .int .i64 s.fk, .int .i64 s.se, .int .i64 s.co] rfl
  simp only [setFrom, Nat.zero_add, Nat.reduceAdd] at hset
  have hs1x := hide (hx_w3.out.chg hset.2 xom)
  have hs1r := hide hset.1
  have os1o := hide (OwnSnV.chg oo_w3.out hset.2 xap)
  have gs1 := hgww3.trans (hset.2.mono (T := fun b => w.heap.size ≤ b) xsub)
  have ss1 := hset.2.size
  clear hset
  go_wp2
  refine bodyPost_ret (v := .tuple #[.agg #[.int .i64 s.st, .int .i64 s.z, .int .i64 s.b, .int .i64 s.e, .slice a.r s.xs.length c1, .slice a.p s.p.length c2, .slice a.f s.f.length c3, .slice a.k s.k.length c4, .int .i64 s.fi, .int .i64 s.fk, .int .i64 s.se, .int .i64 s.co], .int .i64 (u - 1)]) (by simp [results, Try.results24, go_sem, *]) rfl ⟨s, a, c1, c2, c3, c4, u - 1, rfl, hok.out, (by omega), ?_, ?_⟩
  · exact OwnSnV.read os1o.out
  · exact gs1.ext (fun b h1 h2 => by (try dsimp only at h2); omega)
set_option maxHeartbeats 8000000 in
set_option maxRecDepth 100000 in
theorem DrawEqualSenders_any (code : Value) (w : World) (hc : CodeAt w w.heap.size code) :
    Calls Try.prog 31 #[code] w (DrewS2 w) := by
  skip
  go_enter Try.func31, Try.ntmps31
  have hgw0 : Chg (fun b => w.heap.size ≤ b) w w := Chg.refl _ _
  go_wp2_with fail
  refine (l1New_any code _ (hc.grown Ext.go)).mono ?_
  rintro en w1 ⟨rfl, hcuw1, hw1⟩
  (try simp only [World.size_alloc] at hcuw1)
  have hcl := hcuw1.lt
  have gw1 : Chg (fun b => False) w w1 := Chg.trans Chg.go (Ext.chg hw1 _)
  have zw1 := hw1.size
  (try simp at zw1)
  have yw1 : w.heap.size ≤ w1.heap.size := gw1.size
  have hr_w1 := hide (BoxV.chg (BoxV.new w [.int .i64 0, .int .i64 0, .int .i64 0, .int .i64 0, .slice none 0 0, .slice none 0 0, .slice none 0 0, .slice none 0 0, .int .i64 0, .int .i64 0, .int .i64 0, .int .i64 0] 32) (S := fun b => False) (Chg.trans Chg.go (Ext.chg hw1 _)) xom)
  have hq_w1 := hide (BoxV.chg (show BoxV (w.heap.size + 1) _ [.int .i64 0, .int .i64 0, .int .i64 0, .int .i64 0, .slice none 0 0, .slice none 0 0, .slice none 0 0, .slice none 0 0, .int .i64 0, .int .i64 0, .int .i64 0, .int .i64 0] from by have h := (BoxV.new (w.alloc (.cells #[.int .i64 0, .int .i64 0, .int .i64 0, .int .i64 0, .slice none 0 0, .slice none 0 0, .slice none 0 0, .slice none 0 0, .int .i64 0, .int .i64 0, .int .i64 0, .int .i64 0] 32)) [.int .i64 0, .int .i64 0, .int .i64 0, .int .i64 0, .slice none 0 0, .slice none 0 0, .slice none 0 0, .slice none 0 0, .int .i64 0, .int .i64 0, .int .i64 0, .int .i64 0] 32); simpa only [World.size_alloc, World.size_drew] using h) (S := fun b => False) (Chg.trans Chg.go (Ext.chg hw1 _)) xom)
  have hgww1 : Chg (fun b => w.heap.size ≤ b) w w1 := Chg.trans hgw0 (Chg.mono (T := fun b => w.heap.size ≤ b) gw1 xsub)
  clear hgw0
  clear gw1 hw1
  obtain ⟨br0, br1, br2, br3, br4, br5, br6, br7, br8, br9, br10, br11, brF, kbr⟩ := BoxV.a12 hr_w1.out
  obtain ⟨bq0, bq1, bq2, bq3, bq4, bq5, bq6, bq7, bq8, bq9, bq10, bq11, bqF, kbq⟩ := BoxV.a12 hq_w1.out
  have ⟨nerq, neqr⟩ := ne2 (show w.heap.size ≠ w.heap.size + 1 by omega)
  go_wp2_with fail
  refine (l9Any_any (w.heap.size + 1 + 1) code _ (hcuw1.stays (S := fun b => False) Chg.go (fun b h => xom))).mono ?_
  rintro en w2 ⟨s, a, c1, c2, c3, c4, rfl, hok, ho, hcuw2, hw2⟩
  replace hok := hide hok
  have gw2 : Chg (fun b => b = (w.heap.size + 1 + 1)) w1 w2 := Chg.trans Chg.go (Chg.mono (T := fun b => b = (w.heap.size + 1 + 1)) hw2 xsub)
  have zw2 := hw2.size
  (try simp at zw2)
  have yw2 : w1.heap.size ≤ w2.heap.size := gw2.size
  have hr_w2 := hide (hr_w1.out.chg gw2 xom)
  have hq_w2 := hide (hq_w1.out.chg gw2 xom)
  have hgww2 : Chg (fun b => w.heap.size ≤ b) w w2 := Chg.trans hgww1 (Chg.mono (T := fun b => w.heap.size ≤ b) gw2 xsub)
  clear hr_w1 hq_w1 hgww1 hcuw1 br0 br1 br2 br3 br4 br5 br6 br7 br8 br9 br10 br11 brF kbr bq0 bq1 bq2 bq3 bq4 bq5 bq6 bq7 bq8 bq9 bq10 bq11 bqF kbq nerq neqr
  clear gw2 hw2
  obtain ⟨br0, br1, br2, br3, br4, br5, br6, br7, br8, br9, br10, br11, brF, kbr⟩ := BoxV.a12 hr_w2.out
  obtain ⟨bq0, bq1, bq2, bq3, bq4, bq5, bq6, bq7, bq8, bq9, bq10, bq11, bqF, kbq⟩ := BoxV.a12 hq_w2.out
  have ⟨nerq, neqr⟩ := ne2 (show w.heap.size ≠ w.heap.size + 1 by omega)
  (try simp only [World.size_alloc, World.size_drew, World.size_setCell] at ho)
  replace ho := hide ho
  have hln := hok.out.len
  have hl1 := hok.out.p
  have hl2 := hok.out.f
  have hl3 := hok.out.k
  go_wp2_with fail
  refine (l1Once_any (w.heap.size + 1 + 1) code 2 _ (hcuw2.stays (S := fun b => False) Chg.go (fun b h => xom))).mono ?_
  rintro en w3 ⟨q8, rfl, hcuw3, hw3⟩
  have gw3 : Chg (fun b => b = (w.heap.size + 1 + 1)) w2 w3 := Chg.trans Chg.go (Chg.mono (T := fun b => b = (w.heap.size + 1 + 1)) hw3 xsub)
  have zw3 := hw3.size
  (try simp at zw3)
  have yw3 : w2.heap.size ≤ w3.heap.size := gw3.size
  have hr_w3 := hide (hr_w2.out.chg gw3 xom)
  have hq_w3 := hide (hq_w2.out.chg gw3 xom)
  have hx_w3 := hide (BoxV.chg (BoxV.new w2 [.int .i64 s.st, .int .i64 s.z, .int .i64 s.b, .int .i64 s.e, .slice a.r s.xs.length c1, .slice a.p s.p.length c2, .slice a.f s.f.length c3, .slice a.k s.k.length c4, .int .i64 s.fi, .int .i64 s.fk, .int .i64 s.se, .int .i64 s.co] 32) (S := fun b => b = (w.heap.size + 1 + 1)) (Chg.trans Chg.go (Chg.mono (T := fun b => b = (w.heap.size + 1 + 1)) hw3 xsub)) xom)
  have oo_w3 := hide (OwnSnV.chg ho.out gw3 xap)
  have hgww3 : Chg (fun b => w.heap.size ≤ b) w w3 := Chg.trans hgww2 (Chg.mono (T := fun b => w.heap.size ≤ b) gw3 xsub)
  clear hr_w2 hq_w2 ho hgww2 hcuw2 br0 br1 br2 br3 br4 br5 br6 br7 br8 br9 br10 br11 brF kbr bq0 bq1 bq2 bq3 bq4 bq5 bq6 bq7 bq8 bq9 bq10 bq11 bqF kbq nerq neqr
  clear gw3 hw3
  obtain ⟨br0, br1, br2, br3, br4, br5, br6, br7, br8, br9, br10, br11, brF, kbr⟩ := BoxV.a12 hr_w3.out
  obtain ⟨bq0, bq1, bq2, bq3, bq4, bq5, bq6, bq7, bq8, bq9, bq10, bq11, bqF, kbq⟩ := BoxV.a12 hq_w3.out
  obtain ⟨bx0, bx1, bx2, bx3, bx4, bx5, bx6, bx7, bx8, bx9, bx10, bx11, bxF, kbx⟩ := BoxV.a12 hx_w3.out
  have ⟨nerq, neqr⟩ := ne2 (show w.heap.size ≠ w.heap.size + 1 by omega)
  have ⟨nerx, nexr⟩ := ne2 (show w.heap.size ≠ w2.heap.size by omega)
  have ⟨neqx, nexq⟩ := ne2 (show w.heap.size + 1 ≠ w2.heap.size by omega)
  cases q8
  · skip
    go_wp2_with fail
    refine wp_region_flowC (fun b => b = (w.heap.size + 1 + 1)) 3 [(0, 1), (1, 1), (2, 0)] (by kernel_rfl) (by kernel_rfl) ?_
    (refine wpC_pure (v := ?_) rfl rfl (by rfl) ?_ ?_; rotate_left; (focus (intro ws hws; obtain ⟨q0, p0⟩ := hws.row (k := w2.heap.size) xpf xom; go_simp; (try with_reducible rfl); done)))
    try simp only [nrm, nrg]
    (refine wpC_pure (v := ?_) rfl rfl (by rfl) ?_ ?_; rotate_left; (focus (intro ws hws; go_simp; (try with_reducible rfl); done)))
    try simp only [nrm, nrg]
    (refine wpC_call 63 ?_ rfl rfl (by rfl) ?_ ?_; rotate_left; (focus (go_simp; (try with_reducible rfl); done)))
    refine (l9Any_any (w.heap.size + 1 + 1) code _ (hcuw3.stays (S := fun b => False) Chg.go (fun b h => xom))).mono ?_
    rintro en v4 ⟨t, g, k1, k2, k3, k4, rfl, hok2, hg_, hcuv4, hv4⟩
    refine ⟨_, rfl, hv4, ?_⟩
    try simp only [nrm, nrg]
    replace hok2 := hide hok2
    have gv4 : Chg (fun b => b = (w.heap.size + 1 + 1)) w3 v4 := Chg.trans Chg.go (Chg.mono (T := fun b => b = (w.heap.size + 1 + 1)) hv4 xsub)
    have zv4 := hv4.size
    (try simp at zv4)
    have yv4 : w3.heap.size ≤ v4.heap.size := gv4.size
    have hr_v4 := hide (hr_w3.out.chg gv4 xom)
    have hq_v4 := hide (hq_w3.out.chg gv4 xom)
    have hx_v4 := hide (hx_w3.out.chg gv4 xom)
    have oo_v4 := hide (OwnSnV.chg oo_w3.out gv4 xap)
    have hgwv4 : Chg (fun b => w.heap.size ≤ b) w v4 := Chg.trans hgww3 (Chg.mono (T := fun b => w.heap.size ≤ b) gv4 xsub)
    clear hr_w3 hq_w3 hx_w3 oo_w3 hgww3 hcuw3 br0 br1 br2 br3 br4 br5 br6 br7 br8 br9 br10 br11 brF kbr bq0 bq1 bq2 bq3 bq4 bq5 bq6 bq7 bq8 bq9 bq10 bq11 bqF kbq bx0 bx1 bx2 bx3 bx4 bx5 bx6 bx7 bx8 bx9 bx10 bx11 bxF kbx nerq neqr nerx nexr neqx nexq
    clear gv4 hv4
    obtain ⟨br0, br1, br2, br3, br4, br5, br6, br7, br8, br9, br10, br11, brF, kbr⟩ := BoxV.a12 hr_v4.out
    obtain ⟨bq0, bq1, bq2, bq3, bq4, bq5, bq6, bq7, bq8, bq9, bq10, bq11, bqF, kbq⟩ := BoxV.a12 hq_v4.out
    obtain ⟨bx0, bx1, bx2, bx3, bx4, bx5, bx6, bx7, bx8, bx9, bx10, bx11, bxF, kbx⟩ := BoxV.a12 hx_v4.out
    have ⟨nerq, neqr⟩ := ne2 (show w.heap.size ≠ w.heap.size + 1 by omega)
    have ⟨nerx, nexr⟩ := ne2 (show w.heap.size ≠ w2.heap.size by omega)
    have ⟨neqx, nexq⟩ := ne2 (show w.heap.size + 1 ≠ w2.heap.size by omega)
    (try simp only [World.size_alloc, World.size_drew, World.size_setCell] at hg_)
    replace hg_ := hide hg_
    refine wpF_done rfl ?_
    simp only [List.drop_succ_cons, List.drop_zero, List.drop_nil]
    have hset := BoxV.set hr_v4.out [.int .i64 s.st, .int .i64 s.z, .int .i64 s.b, .int .i64 s.e, .slice a.r s.xs.length c1, .slice a.p s.p.length c2, .slice a.f s.f.length c3, .slice a.k s.k.length c4, .int .i64 s.fi, .int .i64 s.fk, .int .i64 s.se, .int .i64 s.co] rfl
    simp only [setFrom, Nat.zero_add, Nat.reduceAdd] at hset
    have hs1q := hide (hq_v4.out.chg hset.2 xom)
    have hs1x := hide (hx_v4.out.chg hset.2 xom)
    have hs1r := hide hset.1
    have os1o := hide (OwnSnV.chg oo_v4.out hset.2 xap)
    have os1g := hide (OwnSnV.chg hg_.out hset.2 xap)
    have gs1 := hgwv4.trans (hset.2.mono (T := fun b => w.heap.size ≤ b) xsub)
    have ss1 := hset.2.size
    clear hset
    have hset := BoxV.set hs1q.out [.int .i64 t.st, .int .i64 t.z, .int .i64 t.b, .int .i64 t.e, .slice g.r t.xs.length k1, .slice g.p t.p.length k2, .slice g.f t.f.length k3, .slice g.k t.k.length k4, .int .i64 t.fi, .int .i64 t.fk, .int .i64 t.se, .int .i64 t.co] rfl
    simp only [setFrom, Nat.zero_add, Nat.reduceAdd] at hset
    have hs2r := hide (hs1r.out.chg hset.2 xom)
    have hs2x := hide (hs1x.out.chg hset.2 xom)
    have hs2q := hide hset.1
    have os2o := hide (OwnSnV.chg os1o.out hset.2 xap)
    have os2g := hide (OwnSnV.chg os1g.out hset.2 xap)
    have gs2 := gs1.trans (hset.2.mono (T := fun b => w.heap.size ≤ b) xsub)
    have ss2 := hset.2.size
    clear hset
    go_wp2
    refine bodyPost_ret (v := .tuple #[.agg #[.int .i64 s.st, .int .i64 s.z, .int .i64 s.b, .int .i64 s.e, .slice a.r s.xs.length c1, .slice a.p s.p.length c2, .slice a.f s.f.length c3, .slice a.k s.k.length c4, .int .i64 s.fi, .int .i64 s.fk, .int .i64 s.se, .int .i64 s.co], .agg #[.int .i64 t.st, .int .i64 t.z, .int .i64 t.b, .int .i64 t.e, .slice g.r t.xs.length k1, .slice g.p t.p.length k2, .slice g.f t.f.length k3, .slice g.k t.k.length k4, .int .i64 t.fi, .int .i64 t.fk, .int .i64 t.se, .int .i64 t.co]]) (by simp [results, Try.results31, go_sem, *]) rfl ⟨s, a, c1, c2, c3, c4, t, g, k1, k2, k3, k4, rfl, hok.out, hok2.out, ?_, ?_, ?_⟩
    · exact OwnSnV.read os2o.out
    · exact OwnSnV.read os2g.out
    · exact gs2.ext (fun b h1 h2 => by (try dsimp only at h2); omega)
  · skip
    go_wp2_with fail
    refine wp_region_flowC (fun b => b = (w.heap.size + 1 + 1)) 3 [(0, 1), (1, 1), (2, 0)] (by kernel_rfl) (by kernel_rfl) ?_
    iterate 2 ((refine wpC_pure (v := ?_) rfl rfl (by rfl) ?_ ?_; rotate_left; (focus (intro ws hws; obtain ⟨q0, p0⟩ := hws.row (k := w2.heap.size) xpf xom; go_simp; (try with_reducible rfl); done))); try simp only [nrm, nrg])
    (refine wpC_call 52 ?_ rfl rfl (by rfl) ?_ ?_; rotate_left; (focus (go_simp; (try with_reducible rfl); done)))
    refine (l9Copy_any s a c1 c2 c3 c4 _ (OwnSnV.read (OwnSnV.chg (S := fun b => b = (w.heap.size + 1 + 1)) oo_w3.out Chg.go xap)) (by omega) (by omega)).mono ?_
    rintro en v4 ⟨g1, g2, g3, g4, k1, k2, k3, k4, rfl, hg_, hv4⟩
    refine ⟨_, rfl, (Ext.chg hv4 _), ?_⟩
    try simp only [nrm, nrg]
    have gv4 : Chg (fun b => False) w3 v4 := Chg.trans Chg.go (Ext.chg hv4 _)
    have zv4 := hv4.size
    (try simp at zv4)
    have yv4 : w3.heap.size ≤ v4.heap.size := gv4.size
    have hr_v4 := hide (hr_w3.out.chg gv4 xom)
    have hq_v4 := hide (hq_w3.out.chg gv4 xom)
    have hx_v4 := hide (hx_w3.out.chg gv4 xom)
    have oo_v4 := hide (OwnSnV.chg oo_w3.out gv4 xap)
    have hgwv4 : Chg (fun b => w.heap.size ≤ b) w v4 := Chg.trans hgww3 (Chg.mono (T := fun b => w.heap.size ≤ b) gv4 xsub)
    have hcuv4 := hcuw3.stays gv4 (fun b h => xom)
    clear hr_w3 hq_w3 hx_w3 oo_w3 hgww3 hcuw3 br0 br1 br2 br3 br4 br5 br6 br7 br8 br9 br10 br11 brF kbr bq0 bq1 bq2 bq3 bq4 bq5 bq6 bq7 bq8 bq9 bq10 bq11 bqF kbq bx0 bx1 bx2 bx3 bx4 bx5 bx6 bx7 bx8 bx9 bx10 bx11 bxF kbx nerq neqr nerx nexr neqx nexq
    clear gv4 hv4
    obtain ⟨br0, br1, br2, br3, br4, br5, br6, br7, br8, br9, br10, br11, brF, kbr⟩ := BoxV.a12 hr_v4.out
    obtain ⟨bq0, bq1, bq2, bq3, bq4, bq5, bq6, bq7, bq8, bq9, bq10, bq11, bqF, kbq⟩ := BoxV.a12 hq_v4.out
    obtain ⟨bx0, bx1, bx2, bx3, bx4, bx5, bx6, bx7, bx8, bx9, bx10, bx11, bxF, kbx⟩ := BoxV.a12 hx_v4.out
    have ⟨nerq, neqr⟩ := ne2 (show w.heap.size ≠ w.heap.size + 1 by omega)
    have ⟨nerx, nexr⟩ := ne2 (show w.heap.size ≠ w2.heap.size by omega)
    have ⟨neqx, nexq⟩ := ne2 (show w.heap.size + 1 ≠ w2.heap.size by omega)
    (try simp only [World.size_alloc, World.size_drew, World.size_setCell] at hg_)
    replace hg_ := hide hg_
    refine wpF_done rfl ?_
    simp only [List.drop_succ_cons, List.drop_zero, List.drop_nil]
    have hset := BoxV.set hr_v4.out [.int .i64 s.st, .int .i64 s.z, .int .i64 s.b, .int .i64 s.e, .slice a.r s.xs.length c1, .slice a.p s.p.length c2, .slice a.f s.f.length c3, .slice a.k s.k.length c4, .int .i64 s.fi, .int .i64 s.fk, .int .i64 s.se, .int .i64 s.co] rfl
    simp only [setFrom, Nat.zero_add, Nat.reduceAdd] at hset
    have hs1q := hide (hq_v4.out.chg hset.2 xom)
    have hs1x := hide (hx_v4.out.chg hset.2 xom)
    have hs1r := hide hset.1
    have os1o := hide (OwnSnV.chg oo_v4.out hset.2 xap)
    have os1g := hide (OwnSnV.chg hg_.out hset.2 xap)
    have gs1 := hgwv4.trans (hset.2.mono (T := fun b => w.heap.size ≤ b) xsub)
    have ss1 := hset.2.size
    clear hset
    have hset := BoxV.set hs1q.out [.int .i64 s.st, .int .i64 s.z, .int .i64 s.b, .int .i64 s.e, .slice g1 s.xs.length k1, .slice g2 s.p.length k2, .slice g3 s.f.length k3, .slice g4 s.k.length k4, .int .i64 s.fi, .int .i64 s.fk, .int .i64 s.se, .int .i64 s.co] rfl
    simp only [setFrom, Nat.zero_add, Nat.reduceAdd] at hset
    have hs2r := hide (hs1r.out.chg hset.2 xom)
    have hs2x := hide (hs1x.out.chg hset.2 xom)
    have hs2q := hide hset.1
    have os2o := hide (OwnSnV.chg os1o.out hset.2 xap)
    have os2g := hide (OwnSnV.chg os1g.out hset.2 xap)
    have gs2 := gs1.trans (hset.2.mono (T := fun b => w.heap.size ≤ b) xsub)
    have ss2 := hset.2.size
    clear hset
    go_wp2
    refine bodyPost_ret (v := .tuple #[.agg #[.int .i64 s.st, .int .i64 s.z, .int .i64 s.b, .int .i64 s.e, .slice a.r s.xs.length c1, .slice a.p s.p.length c2, .slice a.f s.f.length c3, .slice a.k s.k.length c4, .int .i64 s.fi, .int .i64 s.fk, .int .i64 s.se, .int .i64 s.co], .agg #[.int .i64 s.st, .int .i64 s.z, .int .i64 s.b, .int .i64 s.e, .slice g1 s.xs.length k1, .slice g2 s.p.length k2, .slice g3 s.f.length k3, .slice g4 s.k.length k4, .int .i64 s.fi, .int .i64 s.fk, .int .i64 s.se, .int .i64 s.co]]) (by simp [results, Try.results31, go_sem, *]) rfl ⟨s, a, c1, c2, c3, c4, s, ⟨g1, g2, g3, g4⟩, k1, k2, k3, k4, rfl, hok.out, hok.out, ?_, ?_, ?_⟩
    · exact OwnSnV.read os2o.out
    · exact OwnSnV.read os2g.out
    · exact gs2.ext (fun b h1 h2 => by (try dsimp only at h2); omega)
end
end Go.Proofs.Ytjhgcbchdnoleaa

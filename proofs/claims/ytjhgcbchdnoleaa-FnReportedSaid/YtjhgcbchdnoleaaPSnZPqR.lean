/-
  Part of the proof: SnZP.
-/
import Derived.Test.YtjhgcbchdnoleaaPSnStepqR
import Derived.Test.YtjhgcbchdnoleaaPSnZPqPR
namespace Go.Proofs.Ytjhgcbchdnoleaa
section
open Go.ChangeShapes Go.WideShapes Go.ChangeAt Go.RowKit
set_option linter.unusedSimpArgs false
set_option linter.unusedVariables false
/-- A drawn sender of the call's own, and a piece. -/
def DrewSPo (w : World) (en : Ending) (w' : World) : Prop :=
  ∃ (s : Sn) (a : Ads) (c1 c2 c3 c4 : Nat) (o : Int) (d : ByteArray) (fin : Bool), en = .returned (.tuple #[.agg #[.int .i64 s.st, .int .i64 s.z, .int .i64 s.b, .int .i64 s.e, .slice a.r s.xs.length c1, .slice a.p s.p.length c2, .slice a.f s.f.length c3, .slice a.k s.k.length c4, .int .i64 s.fi, .int .i64 s.fk, .int .i64 s.se, .int .i64 s.co], .agg #[.int .i64 o, .string d, .bool fin]]) ∧ SnAny s ∧ (-1 ≤ o ∧ o ≤ 1000) ∧ (d.size : Int) ≤ 1000 ∧ OwnSnV w.heap.size w'.heap.size w' a c2 ⟨s.xs, s.p, s.f, s.k⟩ ∧ Ext w w'
set_option maxHeartbeats 8000000 in
set_option maxRecDepth 100000 in
theorem l9Report_any (code : Value) (w : World) (hc : CodeAt w w.heap.size code) :
    Calls Try.prog 95 #[code] w (DrewSPo w) := by
  skip
  go_enter Try.func95, Try.ntmps95
  have hgw0 : Chg (fun b => w.heap.size ≤ b) w w := Chg.refl _ _
  go_wp2_with fail
  refine (l1New_any code _ (hc.grown Ext.go)).mono ?_
  rintro en w1 ⟨rfl, hcuw1, hw1⟩
  (try simp only [World.size_alloc] at hcuw1)
  have hcl := hcuw1.lt
  have gw1 : Chg (fun b => False) w w1 := Chg.trans Chg.go (Ext.chg hw1 _)
  have zw1 := hw1.size
  (try simp at zw1)
  have yw1 : w.heap.size ≤ w1.heap.size := gw1.size
  have hr_w1 := hide (BoxV.chg (BoxV.new w [.int .i64 0, .int .i64 0, .int .i64 0, .int .i64 0, .slice none 0 0, .slice none 0 0, .slice none 0 0, .slice none 0 0, .int .i64 0, .int .i64 0, .int .i64 0, .int .i64 0] 32) (S := fun b => False) (Chg.trans Chg.go (Ext.chg hw1 _)) xom)
  have hq_w1 := hide (BoxV.chg (show BoxV (w.heap.size + 1) _ [.int .i64 0, .string ⟨#[]⟩, .bool false] from by have h := (BoxV.new (w.alloc (.cells #[.int .i64 0, .int .i64 0, .int .i64 0, .int .i64 0, .slice none 0 0, .slice none 0 0, .slice none 0 0, .slice none 0 0, .int .i64 0, .int .i64 0, .int .i64 0, .int .i64 0] 32)) [.int .i64 0, .string ⟨#[]⟩, .bool false] 55); simpa only [World.size_alloc, World.size_drew] using h) (S := fun b => False) (Chg.trans Chg.go (Ext.chg hw1 _)) xom)
  have hgww1 : Chg (fun b => w.heap.size ≤ b) w w1 := Chg.trans hgw0 (Chg.mono (T := fun b => w.heap.size ≤ b) gw1 xsub)
  clear hgw0
  clear gw1 hw1
  obtain ⟨br0, br1, br2, br3, br4, br5, br6, br7, br8, br9, br10, br11, brF, kbr⟩ := BoxV.a12 hr_w1.out
  obtain ⟨bq0, bq1, bq2, bqF, kbq⟩ := BoxV.a3 hq_w1.out
  have ⟨nerq, neqr⟩ := ne2 (show w.heap.size ≠ w.heap.size + 1 by omega)
  go_wp2_with fail
  refine (l9Any_any (w.heap.size + 1 + 1) code _ (hcuw1.stays (S := fun b => False) Chg.go (fun b h => xom))).mono ?_
  rintro en w2 ⟨s, a, c1, c2, c3, c4, rfl, hok, ho, hcuw2, hw2⟩
  replace hok := hide hok
  have gw2 : Chg (fun b => b = (w.heap.size + 1 + 1)) w1 w2 := Chg.trans Chg.go (Chg.mono (T := fun b => b = (w.heap.size + 1 + 1)) hw2 xsub)
  have zw2 := hw2.size
  (try simp at zw2)
  have yw2 : w1.heap.size ≤ w2.heap.size := gw2.size
  have hr_w2 := hide (hr_w1.out.chg gw2 xom)
  have hq_w2 := hide (hq_w1.out.chg gw2 xom)
  have hgww2 : Chg (fun b => w.heap.size ≤ b) w w2 := Chg.trans hgww1 (Chg.mono (T := fun b => w.heap.size ≤ b) gw2 xsub)
  clear hr_w1 hq_w1 hgww1 hcuw1 br0 br1 br2 br3 br4 br5 br6 br7 br8 br9 br10 br11 brF kbr bq0 bq1 bq2 bqF kbq nerq neqr
  clear gw2 hw2
  obtain ⟨br0, br1, br2, br3, br4, br5, br6, br7, br8, br9, br10, br11, brF, kbr⟩ := BoxV.a12 hr_w2.out
  obtain ⟨bq0, bq1, bq2, bqF, kbq⟩ := BoxV.a3 hq_w2.out
  have ⟨nerq, neqr⟩ := ne2 (show w.heap.size ≠ w.heap.size + 1 by omega)
  (try simp only [World.size_alloc, World.size_drew, World.size_setCell] at ho)
  replace ho := hide ho
  go_wp2_with fail
  refine (l9Some_any (w.heap.size + 1 + 1) code s a c1 c2 c3 c4 _ _ _ (hcuw2.stays (S := fun b => False) Chg.go (fun b h => xom)) hok.out (OwnSnV.chg (S := fun b => b = (w.heap.size + 1 + 1)) ho.out Chg.go xap) (by omega) xpf).mono ?_
  rintro en w3 ⟨o, d, fin, rfl, ho1, hds, hcuw3, hw3⟩
  have gw3 : Chg (fun b => b = (w.heap.size + 1 + 1)) w2 w3 := Chg.trans Chg.go (Chg.mono (T := fun b => b = (w.heap.size + 1 + 1)) hw3 xsub)
  have zw3 := hw3.size
  (try simp at zw3)
  have yw3 : w2.heap.size ≤ w3.heap.size := gw3.size
  have hr_w3 := hide (hr_w2.out.chg gw3 xom)
  have hq_w3 := hide (hq_w2.out.chg gw3 xom)
  have hx_w3 := hide (BoxV.chg (BoxV.new w2 [.int .i64 s.st, .int .i64 s.z, .int .i64 s.b, .int .i64 s.e, .slice a.r s.xs.length c1, .slice a.p s.p.length c2, .slice a.f s.f.length c3, .slice a.k s.k.length c4, .int .i64 s.fi, .int .i64 s.fk, .int .i64 s.se, .int .i64 s.co] 32) (S := fun b => b = (w.heap.size + 1 + 1)) (Chg.trans Chg.go (Chg.mono (T := fun b => b = (w.heap.size + 1 + 1)) hw3 xsub)) xom)
  have oo_w3 := hide (OwnSnV.chg ho.out gw3 xap)
  have hgww3 : Chg (fun b => w.heap.size ≤ b) w w3 := Chg.trans hgww2 (Chg.mono (T := fun b => w.heap.size ≤ b) gw3 xsub)
  clear hr_w2 hq_w2 ho hgww2 hcuw2 br0 br1 br2 br3 br4 br5 br6 br7 br8 br9 br10 br11 brF kbr bq0 bq1 bq2 bqF kbq nerq neqr
  clear gw3 hw3
  obtain ⟨br0, br1, br2, br3, br4, br5, br6, br7, br8, br9, br10, br11, brF, kbr⟩ := BoxV.a12 hr_w3.out
  obtain ⟨bq0, bq1, bq2, bqF, kbq⟩ := BoxV.a3 hq_w3.out
  obtain ⟨bx0, bx1, bx2, bx3, bx4, bx5, bx6, bx7, bx8, bx9, bx10, bx11, bxF, kbx⟩ := BoxV.a12 hx_w3.out
  have ⟨nerq, neqr⟩ := ne2 (show w.heap.size ≠ w.heap.size + 1 by omega)
  have ⟨nerx, nexr⟩ := ne2 (show w.heap.size ≠ w2.heap.size by omega)
  have ⟨neqx, nexq⟩ := ne2 (show w.heap.size + 1 ≠ w2.heap.size by omega)
  go_wp2_with fail
  refine (l1Once_any (w.heap.size + 1 + 1) code 4 _ (hcuw3.stays (S := fun b => False) Chg.go (fun b h => xom))).mono ?_
  rintro en w4 ⟨q8, rfl, hcuw4, hw4⟩
  have gw4 : Chg (fun b => b = (w.heap.size + 1 + 1)) w3 w4 := Chg.trans Chg.go (Chg.mono (T := fun b => b = (w.heap.size + 1 + 1)) hw4 xsub)
  have zw4 := hw4.size
  (try simp at zw4)
  have yw4 : w3.heap.size ≤ w4.heap.size := gw4.size
  have hr_w4 := hide (hr_w3.out.chg gw4 xom)
  have hq_w4 := hide (hq_w3.out.chg gw4 xom)
  have hx_w4 := hide (hx_w3.out.chg gw4 xom)
  have hy_w4 := hide (BoxV.chg (BoxV.new w3 [.int .i64 o, .string d, .bool fin] 55) (S := fun b => b = (w.heap.size + 1 + 1)) (Chg.trans Chg.go (Chg.mono (T := fun b => b = (w.heap.size + 1 + 1)) hw4 xsub)) xom)
  have oo_w4 := hide (OwnSnV.chg oo_w3.out gw4 xap)
  have hgww4 : Chg (fun b => w.heap.size ≤ b) w w4 := Chg.trans hgww3 (Chg.mono (T := fun b => w.heap.size ≤ b) gw4 xsub)
  clear hr_w3 hq_w3 hx_w3 oo_w3 hgww3 hcuw3 br0 br1 br2 br3 br4 br5 br6 br7 br8 br9 br10 br11 brF kbr bq0 bq1 bq2 bqF kbq bx0 bx1 bx2 bx3 bx4 bx5 bx6 bx7 bx8 bx9 bx10 bx11 bxF kbx nerq neqr nerx nexr neqx nexq
  clear gw4 hw4
  obtain ⟨br0, br1, br2, br3, br4, br5, br6, br7, br8, br9, br10, br11, brF, kbr⟩ := BoxV.a12 hr_w4.out
  obtain ⟨bq0, bq1, bq2, bqF, kbq⟩ := BoxV.a3 hq_w4.out
  obtain ⟨bx0, bx1, bx2, bx3, bx4, bx5, bx6, bx7, bx8, bx9, bx10, bx11, bxF, kbx⟩ := BoxV.a12 hx_w4.out
  obtain ⟨by0, by1, by2, byF, kby⟩ := BoxV.a3 hy_w4.out
  have ⟨nerq, neqr⟩ := ne2 (show w.heap.size ≠ w.heap.size + 1 by omega)
  have ⟨nerx, nexr⟩ := ne2 (show w.heap.size ≠ w2.heap.size by omega)
  have ⟨nery, neyr⟩ := ne2 (show w.heap.size ≠ w3.heap.size by omega)
  have ⟨neqx, nexq⟩ := ne2 (show w.heap.size + 1 ≠ w2.heap.size by omega)
  have ⟨neqy, neyq⟩ := ne2 (show w.heap.size + 1 ≠ w3.heap.size by omega)
  have ⟨nexy, neyx⟩ := ne2 (show w2.heap.size ≠ w3.heap.size by omega)
  cases q8
  · skip
    go_wp2_with fail
    refine wp_region_flowC (fun b => b = (w.heap.size + 1 + 1) ∨ b = w.heap.size) 3 [(0, 1), (1, 1), (2, 0)] (by kernel_rfl) (by kernel_rfl) ?_
    (refine wpC_pure (v := ?_) rfl rfl (by rfl) ?_ ?_; rotate_left; (focus (intro ws hws; obtain ⟨q0, p0⟩ := hws.row (k := w2.heap.size) xpf xom; go_simp; (try with_reducible rfl); done)))
    try simp only [nrm, nrg]
    (refine wpC_pure (v := ?_) rfl rfl (by rfl) ?_ ?_; rotate_left; (focus (intro ws hws; obtain ⟨q0, p0⟩ := hws.row (k := w3.heap.size) xpf xom; go_simp; (try with_reducible rfl); done)))
    try simp only [nrm, nrg]
    (refine wpC_store ?_ rfl rfl (by rfl) ?_ ?_ ?_; rotate_left; (focus (go_simp; (try with_reducible rfl); done)))
    · exact Chg.undrew Chg.go
    try simp only [nrm, nrg]
    refine wpF_done rfl ?_
    simp only [List.drop_succ_cons, List.drop_zero, List.drop_nil]
    have hset := BoxV.set hr_w4.out [.int .i64 s.st, .int .i64 s.z, .int .i64 s.b, .int .i64 s.e, .slice a.r s.xs.length c1, .slice a.p s.p.length c2, .slice a.f s.f.length c3, .slice a.k s.k.length c4, .int .i64 s.fi, .int .i64 s.fk, .int .i64 s.se, .int .i64 s.co] rfl
    simp only [setFrom, Nat.zero_add, Nat.reduceAdd] at hset
    have hs1q := hide (hq_w4.out.chg hset.2 xom)
    have hs1x := hide (hx_w4.out.chg hset.2 xom)
    have hs1y := hide (hy_w4.out.chg hset.2 xom)
    have hs1r := hide hset.1
    have os1o := hide (OwnSnV.chg oo_w4.out hset.2 xap)
    have gs1 := hgww4.trans (hset.2.mono (T := fun b => w.heap.size ≤ b) xsub)
    have ss1 := hset.2.size
    clear hset
    have hset := BoxV.set hs1q.out [.int .i64 o, .string d, .bool fin] rfl
    simp only [setFrom, Nat.zero_add, Nat.reduceAdd] at hset
    have hs2r := hide (hs1r.out.chg hset.2 xom)
    have hs2x := hide (hs1x.out.chg hset.2 xom)
    have hs2y := hide (hs1y.out.chg hset.2 xom)
    have hs2q := hide hset.1
    have os2o := hide (OwnSnV.chg os1o.out hset.2 xap)
    have gs2 := gs1.trans (hset.2.mono (T := fun b => w.heap.size ≤ b) xsub)
    have ss2 := hset.2.size
    clear hset
    have hvr := hide (hs2r.out.ext ((Ext.refl _).drew))
    have hvq := hide (hs2q.out.ext ((Ext.refl _).drew))
    have hvx := hide (hs2x.out.ext ((Ext.refl _).drew))
    have hvy := hide (hs2y.out.ext ((Ext.refl _).drew))
    have ovo := hide (OwnSnV.chg (S := fun _ => False) os2o.out (Chg.drew (Chg.refl _ _)) xap)
    have gv := gs2.trans (Chg.drew (Chg.refl _ _))
    go_wp2
    obtain ⟨wf, hwf⟩ : ∃ u, u = (((((((((((((((w4.setCell ⟨w.heap.size, 0, none⟩ (.int .i64 s.st)).setCell ⟨w.heap.size, 1, none⟩ (.int .i64 s.z)).setCell ⟨w.heap.size, 2, none⟩ (.int .i64 s.b)).setCell ⟨w.heap.size, 3, none⟩ (.int .i64 s.e)).setCell ⟨w.heap.size, 4, none⟩ (.slice a.r s.xs.length c1)).setCell ⟨w.heap.size, 5, none⟩ (.slice a.p s.p.length c2)).setCell ⟨w.heap.size, 6, none⟩ (.slice a.f s.f.length c3)).setCell ⟨w.heap.size, 7, none⟩ (.slice a.k s.k.length c4)).setCell ⟨w.heap.size, 8, none⟩ (.int .i64 s.fi)).setCell ⟨w.heap.size, 9, none⟩ (.int .i64 s.fk)).setCell ⟨w.heap.size, 10, none⟩ (.int .i64 s.se)).setCell ⟨w.heap.size, 11, none⟩ (.int .i64 s.co)).setCell ⟨w.heap.size + 1, 0, none⟩ (.int .i64 o)).setCell ⟨w.heap.size + 1, 1, none⟩ (.string d)).setCell ⟨w.heap.size + 1, 2, none⟩ (.bool fin)).drew := ⟨_, rfl⟩
    rw [← hwf]
    rw [← hwf] at hvr hvq ovo gv
    have hzf : w4.heap.size ≤ wf.heap.size := by rw [hwf]; simp
    clear hwf
    clear br0 br1 br2 br3 br4 br5 br6 br7 br8 br9 br10 br11 brF kbr bq0 bq1 bq2 bqF kbq bx0 bx1 bx2 bx3 bx4 bx5 bx6 bx7 bx8 bx9 bx10 bx11 bxF kbx by0 by1 by2 byF kby nerq neqr nerx nexr nery neyr neqx nexq neqy neyq nexy neyx
    have er0 := hvr.out.c 0 _ rfl
    have er1 := hvr.out.c 1 _ rfl
    have er2 := hvr.out.c 2 _ rfl
    have er3 := hvr.out.c 3 _ rfl
    have er4 := hvr.out.c 4 _ rfl
    have er5 := hvr.out.c 5 _ rfl
    have er6 := hvr.out.c 6 _ rfl
    have er7 := hvr.out.c 7 _ rfl
    have er8 := hvr.out.c 8 _ rfl
    have er9 := hvr.out.c 9 _ rfl
    have er10 := hvr.out.c 10 _ rfl
    have er11 := hvr.out.c 11 _ rfl
    have eq0 := hvq.out.c 0 _ rfl
    have eq1 := hvq.out.c 1 _ rfl
    have eq2 := hvq.out.c 2 _ rfl
    refine bodyPost_ret (v := .tuple #[.agg #[.int .i64 s.st, .int .i64 s.z, .int .i64 s.b, .int .i64 s.e, .slice a.r s.xs.length c1, .slice a.p s.p.length c2, .slice a.f s.f.length c3, .slice a.k s.k.length c4, .int .i64 s.fi, .int .i64 s.fk, .int .i64 s.se, .int .i64 s.co], .agg #[.int .i64 o, .string d, .bool fin]]) (by simp [results, Try.results95, go_sem, *]) rfl ⟨s, a, c1, c2, c3, c4, o, d, fin, rfl, hok.out, ho1, hds, ?_, ?_⟩
    · exact OwnSnV.mono ovo.out (by omega) (by omega)
    · exact gv.ext (fun b h1 h2 => by (try dsimp only at h2); omega)
  · skip
    go_wp2_with fail
    refine (l1Below_pos (w.heap.size + 1 + 1) code 12 _ (by omega) (hcuw4.stays (S := fun b => False) Chg.go (fun b h => xom))).mono ?_
    rintro en d5 ⟨u9, rfl, ⟨u0, u1⟩, hcud5, hd5⟩
    have huw9 : IntKind.i64.wrap (u9 - 1) = u9 - 1 := IntWalk.i64_in _ (by omega)
    have gd5 : Chg (fun b => b = (w.heap.size + 1 + 1)) w4 d5 := Chg.trans Chg.go (Chg.mono (T := fun b => b = (w.heap.size + 1 + 1)) hd5 xsub)
    have zd5 := hd5.size
    (try simp at zd5)
    have yd5 : w4.heap.size ≤ d5.heap.size := gd5.size
    have hr_d5 := hide (hr_w4.out.chg gd5 xom)
    have hq_d5 := hide (hq_w4.out.chg gd5 xom)
    have hx_d5 := hide (hx_w4.out.chg gd5 xom)
    have hy_d5 := hide (hy_w4.out.chg gd5 xom)
    have oo_d5 := hide (OwnSnV.chg oo_w4.out gd5 xap)
    have hgwd5 : Chg (fun b => w.heap.size ≤ b) w d5 := Chg.trans hgww4 (Chg.mono (T := fun b => w.heap.size ≤ b) gd5 xsub)
    clear hr_w4 hq_w4 hx_w4 hy_w4 oo_w4 hgww4 hcuw4 br0 br1 br2 br3 br4 br5 br6 br7 br8 br9 br10 br11 brF kbr bq0 bq1 bq2 bqF kbq bx0 bx1 bx2 bx3 bx4 bx5 bx6 bx7 bx8 bx9 bx10 bx11 bxF kbx by0 by1 by2 byF kby nerq neqr nerx nexr nery neyr neqx nexq neqy neyq nexy neyx
    clear gd5 hd5
    obtain ⟨br0, br1, br2, br3, br4, br5, br6, br7, br8, br9, br10, br11, brF, kbr⟩ := BoxV.a12 hr_d5.out
    obtain ⟨bq0, bq1, bq2, bqF, kbq⟩ := BoxV.a3 hq_d5.out
    obtain ⟨bx0, bx1, bx2, bx3, bx4, bx5, bx6, bx7, bx8, bx9, bx10, bx11, bxF, kbx⟩ := BoxV.a12 hx_d5.out
    obtain ⟨by0, by1, by2, byF, kby⟩ := BoxV.a3 hy_d5.out
    have ⟨nerq, neqr⟩ := ne2 (show w.heap.size ≠ w.heap.size + 1 by omega)
    have ⟨nerx, nexr⟩ := ne2 (show w.heap.size ≠ w2.heap.size by omega)
    have ⟨nery, neyr⟩ := ne2 (show w.heap.size ≠ w3.heap.size by omega)
    have ⟨neqx, nexq⟩ := ne2 (show w.heap.size + 1 ≠ w2.heap.size by omega)
    have ⟨neqy, neyq⟩ := ne2 (show w.heap.size + 1 ≠ w3.heap.size by omega)
    have ⟨nexy, neyx⟩ := ne2 (show w2.heap.size ≠ w3.heap.size by omega)
    go_wp2_with fail
    refine (l4Data_any (w.heap.size + 1 + 1) code 4 _ (hcud5.stays (S := fun b => False) Chg.go (fun b h => xom)) (by omega) (by omega)).mono ?_
    rintro en d6 ⟨d9, rfl, hd9, hcud6, hd6⟩
    have gd6 : Chg (fun b => b = (w.heap.size + 1 + 1)) d5 d6 := Chg.trans Chg.go (Chg.mono (T := fun b => b = (w.heap.size + 1 + 1)) hd6 xsub)
    have zd6 := hd6.size
    (try simp at zd6)
    have yd6 : d5.heap.size ≤ d6.heap.size := gd6.size
    have hr_d6 := hide (hr_d5.out.chg gd6 xom)
    have hq_d6 := hide (hq_d5.out.chg gd6 xom)
    have hx_d6 := hide (hx_d5.out.chg gd6 xom)
    have hy_d6 := hide (hy_d5.out.chg gd6 xom)
    have oo_d6 := hide (OwnSnV.chg oo_d5.out gd6 xap)
    have hgwd6 : Chg (fun b => w.heap.size ≤ b) w d6 := Chg.trans hgwd5 (Chg.mono (T := fun b => w.heap.size ≤ b) gd6 xsub)
    clear hr_d5 hq_d5 hx_d5 hy_d5 oo_d5 hgwd5 hcud5 br0 br1 br2 br3 br4 br5 br6 br7 br8 br9 br10 br11 brF kbr bq0 bq1 bq2 bqF kbq bx0 bx1 bx2 bx3 bx4 bx5 bx6 bx7 bx8 bx9 bx10 bx11 bxF kbx by0 by1 by2 byF kby nerq neqr nerx nexr nery neyr neqx nexq neqy neyq nexy neyx
    clear gd6 hd6
    obtain ⟨br0, br1, br2, br3, br4, br5, br6, br7, br8, br9, br10, br11, brF, kbr⟩ := BoxV.a12 hr_d6.out
    obtain ⟨bq0, bq1, bq2, bqF, kbq⟩ := BoxV.a3 hq_d6.out
    obtain ⟨bx0, bx1, bx2, bx3, bx4, bx5, bx6, bx7, bx8, bx9, bx10, bx11, bxF, kbx⟩ := BoxV.a12 hx_d6.out
    obtain ⟨by0, by1, by2, byF, kby⟩ := BoxV.a3 hy_d6.out
    have ⟨nerq, neqr⟩ := ne2 (show w.heap.size ≠ w.heap.size + 1 by omega)
    have ⟨nerx, nexr⟩ := ne2 (show w.heap.size ≠ w2.heap.size by omega)
    have ⟨nery, neyr⟩ := ne2 (show w.heap.size ≠ w3.heap.size by omega)
    have ⟨neqx, nexq⟩ := ne2 (show w.heap.size + 1 ≠ w2.heap.size by omega)
    have ⟨neqy, neyq⟩ := ne2 (show w.heap.size + 1 ≠ w3.heap.size by omega)
    have ⟨nexy, neyx⟩ := ne2 (show w2.heap.size ≠ w3.heap.size by omega)
    go_wp2_with fail
    refine (l1Once_any (w.heap.size + 1 + 1) code 3 _ (hcud6.stays (S := fun b => False) Chg.go (fun b h => xom))).mono ?_
    rintro en d7 ⟨q9, rfl, hcud7, hd7⟩
    have gd7 : Chg (fun b => b = (w.heap.size + 1 + 1)) d6 d7 := Chg.trans Chg.go (Chg.mono (T := fun b => b = (w.heap.size + 1 + 1)) hd7 xsub)
    have zd7 := hd7.size
    (try simp at zd7)
    have yd7 : d6.heap.size ≤ d7.heap.size := gd7.size
    have hr_d7 := hide (hr_d6.out.chg gd7 xom)
    have hq_d7 := hide (hq_d6.out.chg gd7 xom)
    have hx_d7 := hide (hx_d6.out.chg gd7 xom)
    have hy_d7 := hide (hy_d6.out.chg gd7 xom)
    have oo_d7 := hide (OwnSnV.chg oo_d6.out gd7 xap)
    have hgwd7 : Chg (fun b => w.heap.size ≤ b) w d7 := Chg.trans hgwd6 (Chg.mono (T := fun b => w.heap.size ≤ b) gd7 xsub)
    clear hr_d6 hq_d6 hx_d6 hy_d6 oo_d6 hgwd6 hcud6 br0 br1 br2 br3 br4 br5 br6 br7 br8 br9 br10 br11 brF kbr bq0 bq1 bq2 bqF kbq bx0 bx1 bx2 bx3 bx4 bx5 bx6 bx7 bx8 bx9 bx10 bx11 bxF kbx by0 by1 by2 byF kby nerq neqr nerx nexr nery neyr neqx nexq neqy neyq nexy neyx
    clear gd7 hd7
    obtain ⟨br0, br1, br2, br3, br4, br5, br6, br7, br8, br9, br10, br11, brF, kbr⟩ := BoxV.a12 hr_d7.out
    obtain ⟨bq0, bq1, bq2, bqF, kbq⟩ := BoxV.a3 hq_d7.out
    obtain ⟨bx0, bx1, bx2, bx3, bx4, bx5, bx6, bx7, bx8, bx9, bx10, bx11, bxF, kbx⟩ := BoxV.a12 hx_d7.out
    obtain ⟨by0, by1, by2, byF, kby⟩ := BoxV.a3 hy_d7.out
    have ⟨nerq, neqr⟩ := ne2 (show w.heap.size ≠ w.heap.size + 1 by omega)
    have ⟨nerx, nexr⟩ := ne2 (show w.heap.size ≠ w2.heap.size by omega)
    have ⟨nery, neyr⟩ := ne2 (show w.heap.size ≠ w3.heap.size by omega)
    have ⟨neqx, nexq⟩ := ne2 (show w.heap.size + 1 ≠ w2.heap.size by omega)
    have ⟨neqy, neyq⟩ := ne2 (show w.heap.size + 1 ≠ w3.heap.size by omega)
    have ⟨nexy, neyx⟩ := ne2 (show w2.heap.size ≠ w3.heap.size by omega)
    go_upto_region 6 with fail
    have hset := BoxV.set hy_d7.out [.int .i64 (u9 - 1), .string d9, .bool q9] rfl
    simp only [setFrom, Nat.zero_add, Nat.reduceAdd] at hset
    obtain ⟨d8, h0d8⟩ : ∃ u, u = (((d7.setCell ⟨w3.heap.size, 0, none⟩ (.int .i64 (u9 - 1))).setCell ⟨w3.heap.size, 1, none⟩ (.string d9)).setCell ⟨w3.heap.size, 2, none⟩ (.bool q9)) := ⟨_, rfl⟩
    rw [← h0d8] at hset
    obtain ⟨hset1, hd8⟩ := hset
    replace hset1 := hide hset1
    rw [← h0d8]
    clear h0d8
    have zd8 := hd8.size
    have hr_d8 := hide (hr_d7.out.chg hd8 xom)
    have hq_d8 := hide (hq_d7.out.chg hd8 xom)
    have hx_d8 := hide (hx_d7.out.chg hd8 xom)
    have oo_d8 := hide (OwnSnV.chg oo_d7.out hd8 xap)
    have hgwd8 : Chg (fun b => w.heap.size ≤ b) w d8 := Chg.trans hgwd7 (Chg.mono (T := fun b => w.heap.size ≤ b) hd8 xsub)
    have hcud8 := hcud7.stays hd8 (fun b h => xom)
    clear hr_d7 hq_d7 hx_d7 oo_d7 hgwd7 hcud7 br0 br1 br2 br3 br4 br5 br6 br7 br8 br9 br10 br11 brF kbr bq0 bq1 bq2 bqF kbq bx0 bx1 bx2 bx3 bx4 bx5 bx6 bx7 bx8 bx9 bx10 bx11 bxF kbx by0 by1 by2 byF kby nerq neqr nerx nexr nery neyr neqx nexq neqy neyq nexy neyx hd8
    obtain ⟨br0, br1, br2, br3, br4, br5, br6, br7, br8, br9, br10, br11, brF, kbr⟩ := BoxV.a12 hr_d8.out
    obtain ⟨bq0, bq1, bq2, bqF, kbq⟩ := BoxV.a3 hq_d8.out
    obtain ⟨bx0, bx1, bx2, bx3, bx4, bx5, bx6, bx7, bx8, bx9, bx10, bx11, bxF, kbx⟩ := BoxV.a12 hx_d8.out
    have ⟨nerq, neqr⟩ := ne2 (show w.heap.size ≠ w.heap.size + 1 by omega)
    have ⟨nerx, nexr⟩ := ne2 (show w.heap.size ≠ w2.heap.size by omega)
    have ⟨neqx, nexq⟩ := ne2 (show w.heap.size + 1 ≠ w2.heap.size by omega)
    have hy_d8 := hset1
    clear hset1 hy_d7
    have byF := hy_d8.out.fr
    have kby : w3.heap.size < d8.heap.size := hy_d8.out.lt
    have by0 := hy_d8.out.c 0 _ rfl
    have by1 := hy_d8.out.c 1 _ rfl
    have by2 := hy_d8.out.c 2 _ rfl
    have ⟨nery, neyr⟩ := ne2 (show w.heap.size ≠ w3.heap.size by omega)
    have ⟨neqy, neyq⟩ := ne2 (show w.heap.size + 1 ≠ w3.heap.size by omega)
    have ⟨nexy, neyx⟩ := ne2 (show w2.heap.size ≠ w3.heap.size by omega)
    go_wp2_with fail
    refine wp_region_flowC (fun b => b = (w.heap.size + 1 + 1) ∨ b = w.heap.size) 3 [(0, 1), (1, 1), (2, 0)] (by kernel_rfl) (by kernel_rfl) ?_
    (refine wpC_pure (v := ?_) rfl rfl (by rfl) ?_ ?_; rotate_left; (focus (intro ws hws; obtain ⟨q0, p0⟩ := hws.row (k := w2.heap.size) xpf xom; go_simp; (try with_reducible rfl); done)))
    try simp only [nrm, nrg]
    (refine wpC_pure (v := ?_) rfl rfl (by rfl) ?_ ?_; rotate_left; (focus (intro ws hws; obtain ⟨q0, p0⟩ := hws.row (k := w3.heap.size) xpf xom; go_simp; (try with_reducible rfl); done)))
    try simp only [nrm, nrg]
    (refine wpC_store ?_ rfl rfl (by rfl) ?_ ?_ ?_; rotate_left; (focus (go_simp; (try with_reducible rfl); done)))
    · exact Chg.undrew Chg.go
    try simp only [nrm, nrg]
    refine wpF_done rfl ?_
    simp only [List.drop_succ_cons, List.drop_zero, List.drop_nil]
    have hset := BoxV.set hr_d8.out [.int .i64 s.st, .int .i64 s.z, .int .i64 s.b, .int .i64 s.e, .slice a.r s.xs.length c1, .slice a.p s.p.length c2, .slice a.f s.f.length c3, .slice a.k s.k.length c4, .int .i64 s.fi, .int .i64 s.fk, .int .i64 s.se, .int .i64 s.co] rfl
    simp only [setFrom, Nat.zero_add, Nat.reduceAdd] at hset
    have hs1q := hide (hq_d8.out.chg hset.2 xom)
    have hs1x := hide (hx_d8.out.chg hset.2 xom)
    have hs1y := hide (hy_d8.out.chg hset.2 xom)
    have hs1r := hide hset.1
    have os1o := hide (OwnSnV.chg oo_d8.out hset.2 xap)
    have gs1 := hgwd8.trans (hset.2.mono (T := fun b => w.heap.size ≤ b) xsub)
    have ss1 := hset.2.size
    clear hset
    have hset := BoxV.set hs1q.out [.int .i64 (u9 - 1), .string d9, .bool q9] rfl
    simp only [setFrom, Nat.zero_add, Nat.reduceAdd] at hset
    have hs2r := hide (hs1r.out.chg hset.2 xom)
    have hs2x := hide (hs1x.out.chg hset.2 xom)
    have hs2y := hide (hs1y.out.chg hset.2 xom)
    have hs2q := hide hset.1
    have os2o := hide (OwnSnV.chg os1o.out hset.2 xap)
    have gs2 := gs1.trans (hset.2.mono (T := fun b => w.heap.size ≤ b) xsub)
    have ss2 := hset.2.size
    clear hset
    have hvr := hide (hs2r.out.ext ((Ext.refl _).drew))
    have hvq := hide (hs2q.out.ext ((Ext.refl _).drew))
    have hvx := hide (hs2x.out.ext ((Ext.refl _).drew))
    have hvy := hide (hs2y.out.ext ((Ext.refl _).drew))
    have ovo := hide (OwnSnV.chg (S := fun _ => False) os2o.out (Chg.drew (Chg.refl _ _)) xap)
    have gv := gs2.trans (Chg.drew (Chg.refl _ _))
    go_wp2
    obtain ⟨wf, hwf⟩ : ∃ u, u = (((((((((((((((d8.setCell ⟨w.heap.size, 0, none⟩ (.int .i64 s.st)).setCell ⟨w.heap.size, 1, none⟩ (.int .i64 s.z)).setCell ⟨w.heap.size, 2, none⟩ (.int .i64 s.b)).setCell ⟨w.heap.size, 3, none⟩ (.int .i64 s.e)).setCell ⟨w.heap.size, 4, none⟩ (.slice a.r s.xs.length c1)).setCell ⟨w.heap.size, 5, none⟩ (.slice a.p s.p.length c2)).setCell ⟨w.heap.size, 6, none⟩ (.slice a.f s.f.length c3)).setCell ⟨w.heap.size, 7, none⟩ (.slice a.k s.k.length c4)).setCell ⟨w.heap.size, 8, none⟩ (.int .i64 s.fi)).setCell ⟨w.heap.size, 9, none⟩ (.int .i64 s.fk)).setCell ⟨w.heap.size, 10, none⟩ (.int .i64 s.se)).setCell ⟨w.heap.size, 11, none⟩ (.int .i64 s.co)).setCell ⟨w.heap.size + 1, 0, none⟩ (.int .i64 (u9 - 1))).setCell ⟨w.heap.size + 1, 1, none⟩ (.string d9)).setCell ⟨w.heap.size + 1, 2, none⟩ (.bool q9)).drew := ⟨_, rfl⟩
    rw [← hwf]
    rw [← hwf] at hvr hvq ovo gv
    have hzf : d8.heap.size ≤ wf.heap.size := by rw [hwf]; simp
    clear hwf
    clear br0 br1 br2 br3 br4 br5 br6 br7 br8 br9 br10 br11 brF kbr bq0 bq1 bq2 bqF kbq bx0 bx1 bx2 bx3 bx4 bx5 bx6 bx7 bx8 bx9 bx10 bx11 bxF kbx nerq neqr nerx nexr neqx nexq byF kby by0 by1 by2 nery neyr neqy neyq nexy neyx
    have er0 := hvr.out.c 0 _ rfl
    have er1 := hvr.out.c 1 _ rfl
    have er2 := hvr.out.c 2 _ rfl
    have er3 := hvr.out.c 3 _ rfl
    have er4 := hvr.out.c 4 _ rfl
    have er5 := hvr.out.c 5 _ rfl
    have er6 := hvr.out.c 6 _ rfl
    have er7 := hvr.out.c 7 _ rfl
    have er8 := hvr.out.c 8 _ rfl
    have er9 := hvr.out.c 9 _ rfl
    have er10 := hvr.out.c 10 _ rfl
    have er11 := hvr.out.c 11 _ rfl
    have eq0 := hvq.out.c 0 _ rfl
    have eq1 := hvq.out.c 1 _ rfl
    have eq2 := hvq.out.c 2 _ rfl
    refine bodyPost_ret (v := .tuple #[.agg #[.int .i64 s.st, .int .i64 s.z, .int .i64 s.b, .int .i64 s.e, .slice a.r s.xs.length c1, .slice a.p s.p.length c2, .slice a.f s.f.length c3, .slice a.k s.k.length c4, .int .i64 s.fi, .int .i64 s.fk, .int .i64 s.se, .int .i64 s.co], .agg #[.int .i64 (u9 - 1), .string d9, .bool q9]]) (by simp [results, Try.results95, go_sem, *]) rfl ⟨s, a, c1, c2, c3, c4, (u9 - 1), d9, q9, rfl, hok.out, ⟨by omega, by omega⟩, (by omega), ?_, ?_⟩
    · exact OwnSnV.mono ovo.out (by omega) (by omega)
    · exact gv.ext (fun b h1 h2 => by (try dsimp only at h2); omega)
set_option maxHeartbeats 8000000 in
set_option maxRecDepth 100000 in
theorem DrawAckPiece_any (code : Value) (w : World) (hc : CodeAt w w.heap.size code) :
    Calls Try.prog 36 #[code] w (DrewSP w) := by
  skip
  go_enter Try.func36, Try.ntmps36
  have hgw0 : Chg (fun b => w.heap.size ≤ b) w w := Chg.refl _ _
  go_wp2_with fail
  refine (l9Report_any code _ (hc.grown Ext.go)).mono ?_
  rintro en w1 ⟨s, a, c1, c2, c3, c4, o, d, fin, rfl, hok, ho1, hds, hrd, hw1⟩
  replace hok := hide hok
  have gw1 : Chg (fun b => False) w w1 := Chg.trans Chg.go (Ext.chg hw1 _)
  have zw1 := hw1.size
  (try simp at zw1)
  have yw1 : w.heap.size ≤ w1.heap.size := gw1.size
  have hr_w1 := hide (BoxV.chg (BoxV.new w [.int .i64 0, .int .i64 0, .int .i64 0, .int .i64 0, .slice none 0 0, .slice none 0 0, .slice none 0 0, .slice none 0 0, .int .i64 0, .int .i64 0, .int .i64 0, .int .i64 0] 32) (S := fun b => False) (Chg.trans Chg.go (Ext.chg hw1 _)) xom)
  have hq_w1 := hide (BoxV.chg (show BoxV (w.heap.size + 1) _ [.int .i64 0, .string ⟨#[]⟩, .bool false] from by have h := (BoxV.new (w.alloc (.cells #[.int .i64 0, .int .i64 0, .int .i64 0, .int .i64 0, .slice none 0 0, .slice none 0 0, .slice none 0 0, .slice none 0 0, .int .i64 0, .int .i64 0, .int .i64 0, .int .i64 0] 32)) [.int .i64 0, .string ⟨#[]⟩, .bool false] 55); simpa only [World.size_alloc, World.size_drew] using h) (S := fun b => False) (Chg.trans Chg.go (Ext.chg hw1 _)) xom)
  have hgww1 : Chg (fun b => w.heap.size ≤ b) w w1 := Chg.trans hgw0 (Chg.mono (T := fun b => w.heap.size ≤ b) gw1 xsub)
  clear hgw0
  clear gw1 hw1
  obtain ⟨br0, br1, br2, br3, br4, br5, br6, br7, br8, br9, br10, br11, brF, kbr⟩ := BoxV.a12 hr_w1.out
  obtain ⟨bq0, bq1, bq2, bqF, kbq⟩ := BoxV.a3 hq_w1.out
  have ⟨nerq, neqr⟩ := ne2 (show w.heap.size ≠ w.heap.size + 1 by omega)
  (try simp only [World.size_alloc, World.size_drew, World.size_setCell] at hrd)
  replace hrd := hide hrd
  go_upto_region 2 with fail
  obtain ⟨w2, h0w2⟩ : ∃ u, u = ((w1.alloc (.cells #[.int .i64 s.st, .int .i64 s.z, .int .i64 s.b, .int .i64 s.e, .slice a.r s.xs.length c1, .slice a.p s.p.length c2, .slice a.f s.f.length c3, .slice a.k s.k.length c4, .int .i64 s.fi, .int .i64 s.fk, .int .i64 s.se, .int .i64 s.co] 32)).alloc (.cells #[.int .i64 o, .string d, .bool fin] 55)) := ⟨_, rfl⟩
  rw [← h0w2]
  have hw2 : Ext ((w1.alloc (.cells #[.int .i64 s.st, .int .i64 s.z, .int .i64 s.b, .int .i64 s.e, .slice a.r s.xs.length c1, .slice a.p s.p.length c2, .slice a.f s.f.length c3, .slice a.k s.k.length c4, .int .i64 s.fi, .int .i64 s.fk, .int .i64 s.se, .int .i64 s.co] 32)).alloc (.cells #[.int .i64 o, .string d, .bool fin] 55)) w2 := h0w2 ▸ Ext.go
  have gw2 : Chg (fun b => False) w1 w2 := Chg.trans Chg.go (Ext.chg hw2 _)
  have zw2 := hw2.size
  (try simp at zw2)
  have yw2 : w1.heap.size ≤ w2.heap.size := gw2.size
  have hr_w2 := hide (hr_w1.out.chg gw2 xom)
  have hq_w2 := hide (hq_w1.out.chg gw2 xom)
  have hx_w2 := hide (BoxV.chg (BoxV.new w1 [.int .i64 s.st, .int .i64 s.z, .int .i64 s.b, .int .i64 s.e, .slice a.r s.xs.length c1, .slice a.p s.p.length c2, .slice a.f s.f.length c3, .slice a.k s.k.length c4, .int .i64 s.fi, .int .i64 s.fk, .int .i64 s.se, .int .i64 s.co] 32) (S := fun b => False) (Chg.trans Chg.go (Ext.chg hw2 _)) xom)
  have hy_w2 := hide (BoxV.chg (show BoxV (w1.heap.size + 1) _ [.int .i64 o, .string d, .bool fin] from by have h := (BoxV.new (w1.alloc (.cells #[.int .i64 s.st, .int .i64 s.z, .int .i64 s.b, .int .i64 s.e, .slice a.r s.xs.length c1, .slice a.p s.p.length c2, .slice a.f s.f.length c3, .slice a.k s.k.length c4, .int .i64 s.fi, .int .i64 s.fk, .int .i64 s.se, .int .i64 s.co] 32)) [.int .i64 o, .string d, .bool fin] 55); simpa only [World.size_alloc, World.size_drew] using h) (S := fun b => False) (Chg.trans Chg.go (Ext.chg hw2 _)) xom)
  have oo_w2 := hide (OwnSnV.chg hrd.out gw2 xap)
  have hgww2 : Chg (fun b => w.heap.size ≤ b) w w2 := Chg.trans hgww1 (Chg.mono (T := fun b => w.heap.size ≤ b) gw2 xsub)
  clear hr_w1 hq_w1 hrd hgww1 br0 br1 br2 br3 br4 br5 br6 br7 br8 br9 br10 br11 brF kbr bq0 bq1 bq2 bqF kbq nerq neqr
  clear gw2 hw2
  obtain ⟨br0, br1, br2, br3, br4, br5, br6, br7, br8, br9, br10, br11, brF, kbr⟩ := BoxV.a12 hr_w2.out
  obtain ⟨bq0, bq1, bq2, bqF, kbq⟩ := BoxV.a3 hq_w2.out
  obtain ⟨bx0, bx1, bx2, bx3, bx4, bx5, bx6, bx7, bx8, bx9, bx10, bx11, bxF, kbx⟩ := BoxV.a12 hx_w2.out
  obtain ⟨by0, by1, by2, byF, kby⟩ := BoxV.a3 hy_w2.out
  have ⟨nerq, neqr⟩ := ne2 (show w.heap.size ≠ w.heap.size + 1 by omega)
  have ⟨nerx, nexr⟩ := ne2 (show w.heap.size ≠ w1.heap.size by omega)
  have ⟨nery, neyr⟩ := ne2 (show w.heap.size ≠ w1.heap.size + 1 by omega)
  have ⟨neqx, nexq⟩ := ne2 (show w.heap.size + 1 ≠ w1.heap.size by omega)
  have ⟨neqy, neyq⟩ := ne2 (show w.heap.size + 1 ≠ w1.heap.size + 1 by omega)
  have ⟨nexy, neyx⟩ := ne2 (show w1.heap.size ≠ w1.heap.size + 1 by omega)
  clear h0w2
  go_wp2_with fail
  refine wp_region_flowC (fun b => b = w.heap.size) 3 [(0, 1), (1, 1), (2, 0)] (by kernel_rfl) (by kernel_rfl) ?_
  (refine wpC_pure (v := ?_) rfl rfl (by rfl) ?_ ?_; rotate_left; (focus (intro ws hws; obtain ⟨q0, p0⟩ := hws.row (k := w1.heap.size) xpf xom; go_simp; (try with_reducible rfl); done)))
  try simp only [nrm, nrg]
  (refine wpC_pure (v := ?_) rfl rfl (by rfl) ?_ ?_; rotate_left; (focus (intro ws hws; obtain ⟨q0, p0⟩ := hws.row (k := w1.heap.size + 1) xpf xom; go_simp; (try with_reducible rfl); done)))
  try simp only [nrm, nrg]
  (refine wpC_store ?_ rfl rfl (by rfl) ?_ ?_ ?_; rotate_left; (focus (go_simp; (try with_reducible rfl); done)))
  · exact Chg.undrew Chg.go
  try simp only [nrm, nrg]
  refine wpF_done rfl ?_
  simp only [List.drop_succ_cons, List.drop_zero, List.drop_nil]
  have hset := BoxV.set hr_w2.out [.int .i64 s.st, .int .i64 s.z, .int .i64 s.b, .int .i64 s.e, .slice a.r s.xs.length c1, .slice a.p s.p.length c2, .slice a.f s.f.length c3, .slice a.k s.k.length c4, .int .i64 s.fi, .int .i64 s.fk, .int .i64 s.se, .int .i64 s.co] rfl
  simp only [setFrom, Nat.zero_add, Nat.reduceAdd] at hset
  have hs1q := hide (hq_w2.out.chg hset.2 xom)
  have hs1x := hide (hx_w2.out.chg hset.2 xom)
  have hs1y := hide (hy_w2.out.chg hset.2 xom)
  have hs1r := hide hset.1
  have os1o := hide (OwnSnV.chg oo_w2.out hset.2 xap)
  have gs1 := hgww2.trans (hset.2.mono (T := fun b => w.heap.size ≤ b) xsub)
  have ss1 := hset.2.size
  clear hset
  have hset := BoxV.set hs1q.out [.int .i64 o, .string d, .bool fin] rfl
  simp only [setFrom, Nat.zero_add, Nat.reduceAdd] at hset
  have hs2r := hide (hs1r.out.chg hset.2 xom)
  have hs2x := hide (hs1x.out.chg hset.2 xom)
  have hs2y := hide (hs1y.out.chg hset.2 xom)
  have hs2q := hide hset.1
  have os2o := hide (OwnSnV.chg os1o.out hset.2 xap)
  have gs2 := gs1.trans (hset.2.mono (T := fun b => w.heap.size ≤ b) xsub)
  have ss2 := hset.2.size
  clear hset
  have hvr := hide (hs2r.out.ext ((Ext.refl _).drew))
  have hvq := hide (hs2q.out.ext ((Ext.refl _).drew))
  have hvx := hide (hs2x.out.ext ((Ext.refl _).drew))
  have hvy := hide (hs2y.out.ext ((Ext.refl _).drew))
  have ovo := hide (OwnSnV.chg (S := fun _ => False) os2o.out (Chg.drew (Chg.refl _ _)) xap)
  have gv := gs2.trans (Chg.drew (Chg.refl _ _))
  go_wp2
  obtain ⟨wf, hwf⟩ : ∃ u, u = (((((((((((((((w2.setCell ⟨w.heap.size, 0, none⟩ (.int .i64 s.st)).setCell ⟨w.heap.size, 1, none⟩ (.int .i64 s.z)).setCell ⟨w.heap.size, 2, none⟩ (.int .i64 s.b)).setCell ⟨w.heap.size, 3, none⟩ (.int .i64 s.e)).setCell ⟨w.heap.size, 4, none⟩ (.slice a.r s.xs.length c1)).setCell ⟨w.heap.size, 5, none⟩ (.slice a.p s.p.length c2)).setCell ⟨w.heap.size, 6, none⟩ (.slice a.f s.f.length c3)).setCell ⟨w.heap.size, 7, none⟩ (.slice a.k s.k.length c4)).setCell ⟨w.heap.size, 8, none⟩ (.int .i64 s.fi)).setCell ⟨w.heap.size, 9, none⟩ (.int .i64 s.fk)).setCell ⟨w.heap.size, 10, none⟩ (.int .i64 s.se)).setCell ⟨w.heap.size, 11, none⟩ (.int .i64 s.co)).setCell ⟨w.heap.size + 1, 0, none⟩ (.int .i64 o)).setCell ⟨w.heap.size + 1, 1, none⟩ (.string d)).setCell ⟨w.heap.size + 1, 2, none⟩ (.bool fin)).drew := ⟨_, rfl⟩
  rw [← hwf]
  rw [← hwf] at hvr hvq ovo gv
  have hzf : w2.heap.size ≤ wf.heap.size := by rw [hwf]; simp
  clear hwf
  clear br0 br1 br2 br3 br4 br5 br6 br7 br8 br9 br10 br11 brF kbr bq0 bq1 bq2 bqF kbq bx0 bx1 bx2 bx3 bx4 bx5 bx6 bx7 bx8 bx9 bx10 bx11 bxF kbx by0 by1 by2 byF kby nerq neqr nerx nexr nery neyr neqx nexq neqy neyq nexy neyx
  have er0 := hvr.out.c 0 _ rfl
  have er1 := hvr.out.c 1 _ rfl
  have er2 := hvr.out.c 2 _ rfl
  have er3 := hvr.out.c 3 _ rfl
  have er4 := hvr.out.c 4 _ rfl
  have er5 := hvr.out.c 5 _ rfl
  have er6 := hvr.out.c 6 _ rfl
  have er7 := hvr.out.c 7 _ rfl
  have er8 := hvr.out.c 8 _ rfl
  have er9 := hvr.out.c 9 _ rfl
  have er10 := hvr.out.c 10 _ rfl
  have er11 := hvr.out.c 11 _ rfl
  have eq0 := hvq.out.c 0 _ rfl
  have eq1 := hvq.out.c 1 _ rfl
  have eq2 := hvq.out.c 2 _ rfl
  refine bodyPost_ret (v := .tuple #[.agg #[.int .i64 s.st, .int .i64 s.z, .int .i64 s.b, .int .i64 s.e, .slice a.r s.xs.length c1, .slice a.p s.p.length c2, .slice a.f s.f.length c3, .slice a.k s.k.length c4, .int .i64 s.fi, .int .i64 s.fk, .int .i64 s.se, .int .i64 s.co], .agg #[.int .i64 o, .string d, .bool fin]]) (by simp [results, Try.results36, go_sem, *]) rfl ⟨s, a, c1, c2, c3, c4, o, d, fin, rfl, hok.out, ho1, hds, ?_, ?_⟩
  · exact OwnSnV.read ovo.out
  · exact gv.ext (fun b h1 h2 => by (try dsimp only at h2); omega)
end
end Go.Proofs.Ytjhgcbchdnoleaa

/-
  Part of the proof: SnZ.
-/
import Derived.Deep.DeepCutAuto
import Derived.Test.YtjhgcbchdnoleaaPSnLPqP
import Derived.Test.YtjhgcbchdnoleaaPSnNqP
import Derived.Test.YtjhgcbchdnoleaaPSnZqPR
namespace Go.Proofs.Ytjhgcbchdnoleaa
section
open Go.ChangeShapes Go.WideShapes Go.ChangeAt Go.RowKit
set_option linter.unusedSimpArgs false
set_option linter.unusedVariables false
def DrewSII (w : World) (en : Ending) (w' : World) : Prop :=
  ∃ (s : Sn) (a : Ads) (c1 c2 c3 c4 : Nat) (u l : Int), en = .returned (.tuple #[.agg #[.int .i64 s.st, .int .i64 s.z, .int .i64 s.b, .int .i64 s.e, .slice a.r s.xs.length c1, .slice a.p s.p.length c2, .slice a.f s.f.length c3, .slice a.k s.k.length c4, .int .i64 s.fi, .int .i64 s.fk, .int .i64 s.se, .int .i64 s.co], .int .i64 u, .int .i64 l]) ∧ SnAny s ∧ (-1 ≤ u ∧ u ≤ 6) ∧ (-1 ≤ l ∧ l ≤ 100) ∧ ReadSnd w' a ⟨s.xs, s.p, s.f, s.k⟩ ∧ Ext w w'
set_option maxHeartbeats 8000000 in
set_option maxRecDepth 100000 in
theorem DrawNextPiece_any (code : Value) (w : World) (hc : CodeAt w w.heap.size code) :
    Calls Try.prog 43 #[code] w (DrewSII w) := by
  skip
  go_enter Try.func43, Try.ntmps43
  have hgw0 : Chg (fun b => w.heap.size ≤ b) w w := Chg.refl _ _
  go_wp2_with fail
  refine (l1New_any code _ (hc.grown Ext.go)).mono ?_
  rintro en w1 ⟨rfl, hcuw1, hw1⟩
  (try simp only [World.size_alloc] at hcuw1)
  have hcl := hcuw1.lt
  have gw1 : Chg (fun b => False) w w1 := Chg.trans Chg.go (Ext.chg hw1 _)
  have zw1 := hw1.size
  (try simp at zw1)
  have yw1 : w.heap.size ≤ w1.heap.size := gw1.size
  have hr_w1 := hide (BoxV.chg (BoxV.new w [.int .i64 0, .int .i64 0, .int .i64 0, .int .i64 0, .slice none 0 0, .slice none 0 0, .slice none 0 0, .slice none 0 0, .int .i64 0, .int .i64 0, .int .i64 0, .int .i64 0] 32) (S := fun b => False) (Chg.trans Chg.go (Ext.chg hw1 _)) xom)
  have hgww1 : Chg (fun b => w.heap.size ≤ b) w w1 := Chg.trans hgw0 (Chg.mono (T := fun b => w.heap.size ≤ b) gw1 xsub)
  clear hgw0
  clear gw1 hw1
  obtain ⟨br0, br1, br2, br3, br4, br5, br6, br7, br8, br9, br10, br11, brF, kbr⟩ := BoxV.a12 hr_w1.out
  go_wp2_with fail
  refine (l9Any_any (w.heap.size + 1) code _ (hcuw1.stays (S := fun b => False) Chg.go (fun b h => xom))).mono ?_
  rintro en w2 ⟨s, a, c1, c2, c3, c4, rfl, hok, ho, hcuw2, hw2⟩
  replace hok := hide hok
  have gw2 : Chg (fun b => b = (w.heap.size + 1)) w1 w2 := Chg.trans Chg.go (Chg.mono (T := fun b => b = (w.heap.size + 1)) hw2 xsub)
  have zw2 := hw2.size
  (try simp at zw2)
  have yw2 : w1.heap.size ≤ w2.heap.size := gw2.size
  have hr_w2 := hide (hr_w1.out.chg gw2 xom)
  have hgww2 : Chg (fun b => w.heap.size ≤ b) w w2 := Chg.trans hgww1 (Chg.mono (T := fun b => w.heap.size ≤ b) gw2 xsub)
  clear hr_w1 hgww1 hcuw1 br0 br1 br2 br3 br4 br5 br6 br7 br8 br9 br10 br11 brF kbr
  clear gw2 hw2
  obtain ⟨br0, br1, br2, br3, br4, br5, br6, br7, br8, br9, br10, br11, brF, kbr⟩ := BoxV.a12 hr_w2.out
  (try simp only [World.size_alloc, World.size_drew, World.size_setCell] at ho)
  replace ho := hide ho
  go_wp2_with fail
  refine (l1Below_pos (w.heap.size + 1) code 8 _ (by omega) (hcuw2.stays (S := fun b => False) Chg.go (fun b h => xom))).mono ?_
  rintro en w3 ⟨u, rfl, ⟨u0, u1⟩, hcuw3, hw3⟩
  have huw : IntKind.i64.wrap (u - 1) = u - 1 := IntWalk.i64_in _ (by omega)
  have gw3 : Chg (fun b => b = (w.heap.size + 1)) w2 w3 := Chg.trans Chg.go (Chg.mono (T := fun b => b = (w.heap.size + 1)) hw3 xsub)
  have zw3 := hw3.size
  (try simp at zw3)
  have yw3 : w2.heap.size ≤ w3.heap.size := gw3.size
  have hr_w3 := hide (hr_w2.out.chg gw3 xom)
  have hx_w3 := hide (BoxV.chg (BoxV.new w2 [.int .i64 s.st, .int .i64 s.z, .int .i64 s.b, .int .i64 s.e, .slice a.r s.xs.length c1, .slice a.p s.p.length c2, .slice a.f s.f.length c3, .slice a.k s.k.length c4, .int .i64 s.fi, .int .i64 s.fk, .int .i64 s.se, .int .i64 s.co] 32) (S := fun b => b = (w.heap.size + 1)) (Chg.trans Chg.go (Chg.mono (T := fun b => b = (w.heap.size + 1)) hw3 xsub)) xom)
  have oo_w3 := hide (OwnSnV.chg ho.out gw3 xap)
  have hgww3 : Chg (fun b => w.heap.size ≤ b) w w3 := Chg.trans hgww2 (Chg.mono (T := fun b => w.heap.size ≤ b) gw3 xsub)
  clear hr_w2 ho hgww2 hcuw2 br0 br1 br2 br3 br4 br5 br6 br7 br8 br9 br10 br11 brF kbr
  clear gw3 hw3
  obtain ⟨br0, br1, br2, br3, br4, br5, br6, br7, br8, br9, br10, br11, brF, kbr⟩ := BoxV.a12 hr_w3.out
  obtain ⟨bx0, bx1, bx2, bx3, bx4, bx5, bx6, bx7, bx8, bx9, bx10, bx11, bxF, kbx⟩ := BoxV.a12 hx_w3.out
  have ⟨nerx, nexr⟩ := ne2 (show w.heap.size ≠ w2.heap.size by omega)
  go_wp2_with fail
  refine wp_region_flowC (fun b => b = (w.heap.size + 1) ∨ b = w.heap.size) 6 [(0, 1), (1, 1), (2, 1), (3, 0), (4, 0), (5, 0)] (by kernel_rfl) (by kernel_rfl) ?_
  (refine wpC_pure (v := ?_) rfl rfl (by rfl) ?_ ?_; rotate_left; (focus (intro ws hws; obtain ⟨q0, p0⟩ := hws.row (k := w2.heap.size) xpf xom; go_simp; (try with_reducible rfl); done)))
  try simp only [nrm, nrg]
  iterate 2 ((refine wpC_pure (v := ?_) rfl rfl (by rfl) ?_ ?_; rotate_left; (focus (intro ws hws; go_simp; (try with_reducible rfl); done))); try simp only [nrm, nrg])
  refine wpC_made (.slice (some ⟨w3.heap.size, 0, none⟩) 5 5) (w3.drew.alloc (.cells #[(.int .i64 (-1)), (.int .i64 0), (.int .i64 3), (.int .i64 8), (.int .i64 100)] 3)) rfl rfl (by rfl) (by go_simp) (Chg.alloc (Chg.refl _ _) _) ?_
  try simp only [nrm, nrg]
  (refine wpC_call 101 ?_ rfl rfl (by rfl) ?_ ?_; rotate_left; (focus (go_simp; (try with_reducible rfl); done)))
  refine (l1PickInt_new (w.heap.size + 1) code [-1, 0, 3, 8, 100] 3 w3.drew hcuw3.drew (by decide) (by decide)).mono ?_
  rintro en w4 ⟨v, rfl, hv, hcuw4, hw4⟩
  refine ⟨_, rfl, (Chg.mono hw4 (fun b _ h => Or.inl h)), ?_⟩
  try simp only [nrm, nrg]
  have hvb : -1 ≤ v ∧ v ≤ 100 := by simp at hv; omega
  clear hv
  have gw4 : Chg (fun b => b = (w.heap.size + 1)) w3 w4 := Chg.trans Chg.go (Chg.mono (T := fun b => b = (w.heap.size + 1)) hw4 xsub)
  have zw4 := hw4.size
  (try simp at zw4)
  have yw4 : w3.heap.size ≤ w4.heap.size := gw4.size
  have hr_w4 := hide (hr_w3.out.chg gw4 xom)
  have hx_w4 := hide (hx_w3.out.chg gw4 xom)
  have oo_w4 := hide (OwnSnV.chg oo_w3.out gw4 xap)
  have hgww4 : Chg (fun b => w.heap.size ≤ b) w w4 := Chg.trans hgww3 (Chg.mono (T := fun b => w.heap.size ≤ b) gw4 xsub)
  clear hr_w3 hx_w3 oo_w3 hgww3 hcuw3 br0 br1 br2 br3 br4 br5 br6 br7 br8 br9 br10 br11 brF kbr bx0 bx1 bx2 bx3 bx4 bx5 bx6 bx7 bx8 bx9 bx10 bx11 bxF kbx nerx nexr
  clear gw4 hw4
  obtain ⟨br0, br1, br2, br3, br4, br5, br6, br7, br8, br9, br10, br11, brF, kbr⟩ := BoxV.a12 hr_w4.out
  obtain ⟨bx0, bx1, bx2, bx3, bx4, bx5, bx6, bx7, bx8, bx9, bx10, bx11, bxF, kbx⟩ := BoxV.a12 hx_w4.out
  have ⟨nerx, nexr⟩ := ne2 (show w.heap.size ≠ w2.heap.size by omega)
  (refine wpC_store ?_ rfl rfl (by rfl) ?_ ?_ ?_; rotate_left; (focus (go_simp; (try with_reducible rfl); done)))
  · exact Chg.go
  try simp only [nrm, nrg]
  refine wpF_done rfl ?_
  simp only [List.drop_succ_cons, List.drop_zero, List.drop_nil]
  have hset := BoxV.set hr_w4.out [.int .i64 s.st, .int .i64 s.z, .int .i64 s.b, .int .i64 s.e, .slice a.r s.xs.length c1, .slice a.p s.p.length c2, .slice a.f s.f.length c3, .slice a.k s.k.length c4, .int .i64 s.fi, .int .i64 s.fk, .int .i64 s.se, .int .i64 s.co] rfl
  simp only [setFrom, Nat.zero_add, Nat.reduceAdd] at hset
  have hs1x := hide (hx_w4.out.chg hset.2 xom)
  have hs1r := hide hset.1
  have os1o := hide (OwnSnV.chg oo_w4.out hset.2 xap)
  have gs1 := hgww4.trans (hset.2.mono (T := fun b => w.heap.size ≤ b) xsub)
  have ss1 := hset.2.size
  clear hset
  go_wp2
  refine bodyPost_ret (v := .tuple #[.agg #[.int .i64 s.st, .int .i64 s.z, .int .i64 s.b, .int .i64 s.e, .slice a.r s.xs.length c1, .slice a.p s.p.length c2, .slice a.f s.f.length c3, .slice a.k s.k.length c4, .int .i64 s.fi, .int .i64 s.fk, .int .i64 s.se, .int .i64 s.co], .int .i64 (u - 1), .int .i64 v]) (by simp [results, Try.results43, go_sem, *]) rfl ⟨s, a, c1, c2, c3, c4, u - 1, v, rfl, hok.out, (by omega), hvb, ?_, ?_⟩
  · exact OwnSnV.read os1o.out
  · exact gs1.ext (fun b h1 h2 => by (try dsimp only at h2); omega)
end
end Go.Proofs.Ytjhgcbchdnoleaa

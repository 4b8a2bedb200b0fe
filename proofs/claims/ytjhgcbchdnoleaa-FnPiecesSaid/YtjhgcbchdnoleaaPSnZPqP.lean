/-
  Part of the proof: SnZP.
-/
import Derived.Test.YtjhgcbchdnoleaaPSnZqP
import Derived.Test.YtjhgcbchdnoleaaPSnZPqPR
namespace Go.Proofs.Ytjhgcbchdnoleaa
section
open Go.ChangeShapes Go.WideShapes Go.ChangeAt Go.RowKit
set_option linter.unusedSimpArgs false
set_option linter.unusedVariables false
set_option maxHeartbeats 8000000 in
set_option maxRecDepth 100000 in
theorem DrawSendPiece_any (code : Value) (w : World) (hc : CodeAt w w.heap.size code) :
    Calls Try.prog 48 #[code] w (DrewSP w) := by
  skip
  go_enter Try.func48, Try.ntmps48
  have hgw0 : Chg (fun b => w.heap.size ≤ b) w w := Chg.refl _ _
  go_wp2_with fail
  refine (l1New_any code _ (hc.grown Ext.go)).mono ?_
  rintro en w1 ⟨rfl, hcuw1, hw1⟩
  (try simp only [World.size_alloc] at hcuw1)
  have hcl := hcuw1.lt
  have gw1 : Chg (fun b => False) w w1 := Chg.trans Chg.go (Ext.chg hw1 _)
  have zw1 := hw1.size
  (try simp at zw1)
  have yw1 : w.heap.size ≤ w1.heap.size := gw1.size
  have hr_w1 := hide (BoxV.chg (BoxV.new w [.int .i64 0, .int .i64 0, .int .i64 0, .int .i64 0, .slice none 0 0, .slice none 0 0, .slice none 0 0, .slice none 0 0, .int .i64 0, .int .i64 0, .int .i64 0, .int .i64 0] 32) (S := fun b => False) (Chg.trans Chg.go (Ext.chg hw1 _)) xom)
  have hq_w1 := hide (BoxV.chg (show BoxV (w.heap.size + 1) _ [.int .i64 0, .string ⟨#[]⟩, .bool false] from by have h := (BoxV.new (w.alloc (.cells #[.int .i64 0, .int .i64 0, .int .i64 0, .int .i64 0, .slice none 0 0, .slice none 0 0, .slice none 0 0, .slice none 0 0, .int .i64 0, .int .i64 0, .int .i64 0, .int .i64 0] 32)) [.int .i64 0, .string ⟨#[]⟩, .bool false] 55); simpa only [World.size_alloc, World.size_drew] using h) (S := fun b => False) (Chg.trans Chg.go (Ext.chg hw1 _)) xom)
  have hgww1 : Chg (fun b => w.heap.size ≤ b) w w1 := Chg.trans hgw0 (Chg.mono (T := fun b => w.heap.size ≤ b) gw1 xsub)
  clear hgw0
  clear gw1 hw1
  obtain ⟨br0, br1, br2, br3, br4, br5, br6, br7, br8, br9, br10, br11, brF, kbr⟩ := BoxV.a12 hr_w1.out
  obtain ⟨bq0, bq1, bq2, bqF, kbq⟩ := BoxV.a3 hq_w1.out
  have ⟨nerq, neqr⟩ := ne2 (show w.heap.size ≠ w.heap.size + 1 by omega)
  go_wp2_with fail
  refine (l9Any_any (w.heap.size + 1 + 1) code _ (hcuw1.stays (S := fun b => False) Chg.go (fun b h => xom))).mono ?_
  rintro en w2 ⟨s, a, c1, c2, c3, c4, rfl, hok, ho, hcuw2, hw2⟩
  replace hok := hide hok
  have gw2 : Chg (fun b => b = (w.heap.size + 1 + 1)) w1 w2 := Chg.trans Chg.go (Chg.mono (T := fun b => b = (w.heap.size + 1 + 1)) hw2 xsub)
  have zw2 := hw2.size
  (try simp at zw2)
  have yw2 : w1.heap.size ≤ w2.heap.size := gw2.size
  have hr_w2 := hide (hr_w1.out.chg gw2 xom)
  have hq_w2 := hide (hq_w1.out.chg gw2 xom)
  have hgww2 : Chg (fun b => w.heap.size ≤ b) w w2 := Chg.trans hgww1 (Chg.mono (T := fun b => w.heap.size ≤ b) gw2 xsub)
  clear hr_w1 hq_w1 hgww1 hcuw1 br0 br1 br2 br3 br4 br5 br6 br7 br8 br9 br10 br11 brF kbr bq0 bq1 bq2 bqF kbq nerq neqr
  clear gw2 hw2
  obtain ⟨br0, br1, br2, br3, br4, br5, br6, br7, br8, br9, br10, br11, brF, kbr⟩ := BoxV.a12 hr_w2.out
  obtain ⟨bq0, bq1, bq2, bqF, kbq⟩ := BoxV.a3 hq_w2.out
  have ⟨nerq, neqr⟩ := ne2 (show w.heap.size ≠ w.heap.size + 1 by omega)
  (try simp only [World.size_alloc, World.size_drew, World.size_setCell] at ho)
  replace ho := hide ho
  have hsm := hide hok.out.same
  have hln := hok.out.len
  have hle := hok.out.e
  have hl1 := hok.out.p
  have hl2 := hok.out.f
  have hl3 := hok.out.k
  have hV := hide (fun (h : actV (sndS s) s = true) => any_vld hok.out h)
  go_upto_region 3 with fail
  obtain ⟨w3, h0w3⟩ : ∃ u, u = (w2.alloc (.cells #[.int .i64 s.st, .int .i64 s.z, .int .i64 s.b, .int .i64 s.e, .slice a.r s.xs.length c1, .slice a.p s.p.length c2, .slice a.f s.f.length c3, .slice a.k s.k.length c4, .int .i64 s.fi, .int .i64 s.fk, .int .i64 s.se, .int .i64 s.co] 32)) := ⟨_, rfl⟩
  rw [← h0w3]
  have hw3 : Ext (w2.alloc (.cells #[.int .i64 s.st, .int .i64 s.z, .int .i64 s.b, .int .i64 s.e, .slice a.r s.xs.length c1, .slice a.p s.p.length c2, .slice a.f s.f.length c3, .slice a.k s.k.length c4, .int .i64 s.fi, .int .i64 s.fk, .int .i64 s.se, .int .i64 s.co] 32)) w3 := h0w3 ▸ Ext.go
  have gw3 : Chg (fun b => False) w2 w3 := Chg.trans Chg.go (Ext.chg hw3 _)
  have zw3 := hw3.size
  (try simp at zw3)
  have yw3 : w2.heap.size ≤ w3.heap.size := gw3.size
  have hr_w3 := hide (hr_w2.out.chg gw3 xom)
  have hq_w3 := hide (hq_w2.out.chg gw3 xom)
  have hx_w3 := hide (BoxV.chg (BoxV.new w2 [.int .i64 s.st, .int .i64 s.z, .int .i64 s.b, .int .i64 s.e, .slice a.r s.xs.length c1, .slice a.p s.p.length c2, .slice a.f s.f.length c3, .slice a.k s.k.length c4, .int .i64 s.fi, .int .i64 s.fk, .int .i64 s.se, .int .i64 s.co] 32) (S := fun b => False) (Chg.trans Chg.go (Ext.chg hw3 _)) xom)
  have oo_w3 := hide (OwnSnV.chg ho.out gw3 xap)
  have hgww3 : Chg (fun b => w.heap.size ≤ b) w w3 := Chg.trans hgww2 (Chg.mono (T := fun b => w.heap.size ≤ b) gw3 xsub)
  have hcuw3 := hcuw2.stays gw3 (fun b h => xom)
  clear hr_w2 hq_w2 ho hgww2 hcuw2 br0 br1 br2 br3 br4 br5 br6 br7 br8 br9 br10 br11 brF kbr bq0 bq1 bq2 bqF kbq nerq neqr
  clear gw3 hw3
  obtain ⟨br0, br1, br2, br3, br4, br5, br6, br7, br8, br9, br10, br11, brF, kbr⟩ := BoxV.a12 hr_w3.out
  obtain ⟨bq0, bq1, bq2, bqF, kbq⟩ := BoxV.a3 hq_w3.out
  obtain ⟨bx0, bx1, bx2, bx3, bx4, bx5, bx6, bx7, bx8, bx9, bx10, bx11, bxF, kbx⟩ := BoxV.a12 hx_w3.out
  have ⟨nerq, neqr⟩ := ne2 (show w.heap.size ≠ w.heap.size + 1 by omega)
  have ⟨nerx, nexr⟩ := ne2 (show w.heap.size ≠ w2.heap.size by omega)
  have ⟨neqx, nexq⟩ := ne2 (show w.heap.size + 1 ≠ w2.heap.size by omega)
  clear h0w3
  go_cut [6, 7] (fun tq tr wx => ∃ (Bq : Nat) (o : Int) (d : ByteArray) (fin is : Bool), tq = .pointer (some ⟨Bq, 0, none⟩) ∧ tr = .bool is ∧ w3.heap.size ≤ Bq ∧ BoxV Bq wx [.int .i64 o, .string d, .bool fin] ∧ (-1 ≤ o ∧ o ≤ 1000) ∧ (d.size : Int) ≤ 1000 ∧ BoxV (w.heap.size) wx [.int .i64 0, .int .i64 0, .int .i64 0, .int .i64 0, .slice none 0 0, .slice none 0 0, .slice none 0 0, .slice none 0 0, .int .i64 0, .int .i64 0, .int .i64 0, .int .i64 0] ∧ BoxV (w.heap.size + 1) wx [.int .i64 0, .string ⟨#[]⟩, .bool false] ∧ BoxV (w2.heap.size) wx [.int .i64 s.st, .int .i64 s.z, .int .i64 s.b, .int .i64 s.e, .slice a.r s.xs.length c1, .slice a.p s.p.length c2, .slice a.f s.f.length c3, .slice a.k s.k.length c4, .int .i64 s.fi, .int .i64 s.fk, .int .i64 s.se, .int .i64 s.co] ∧ OwnSnV (w.heap.size + 1 + 1 + 1) w3.heap.size wx a c2 ⟨s.xs, s.p, s.f, s.k⟩ ∧ CurAt wx (w.heap.size + 1 + 1) code ∧ Chg (fun b => w.heap.size ≤ b) w wx ∧ w3.heap.size ≤ wx.heap.size)
  case first =>
    go_wp2_with fail
    refine wp_region_flowC (fun b => b = (w.heap.size + 1 + 1) ∨ w3.heap.size ≤ b) 10 [(0, 1), (1, 1), (2, 10), (3, 1), (4, 10), (5, 1), (6, 1), (7, 1), (8, 0), (9, 0)] (by kernel_rfl) (by kernel_rfl) ?_
    (refine wpC_pure (v := ?_) rfl rfl (by rfl) ?_ ?_; rotate_left; (focus (intro ws hws; obtain ⟨q0, p0⟩ := hws.row (k := w2.heap.size) xpf xom; go_simp; (try with_reducible rfl); done)))
    try simp only [nrm, nrg]
    (refine wpC_pure (v := ?_) rfl rfl (by rfl) ?_ ?_; rotate_left; (focus (intro ws hws; go_simp; (try with_reducible rfl); done)))
    try simp only [nrm, nrg]
    (refine wpF_forkCA (o2 := [(0, 1), (1, 1), (8, 4), (2, 0), (3, 1), (4, 0), (5, 1), (6, 1), (7, 1), (9, 0)]) 87 ?_ (.pointer (some ⟨w3.heap.size, 0, none⟩)) (w3.drew.alloc (.cells #[.int .i64 0, .string ⟨#[]⟩, .bool false] 55)) rfl rfl rfl (by kernel_rfl) rfl rfl (Chg.refl _ _) (by rfl) (by rfl) ?_ (by go_simp) (Chg.alloc (Chg.refl _ _) _) ?_ ?_; rotate_left; (focus (go_simp; (try with_reducible rfl); done)))
    · skip
      refine (l1Below_pos (w.heap.size + 1 + 1) code 5 _ (by omega) (hcuw3.stays (S := fun b => False) Chg.go (fun b h => xom))).mono ?_
      rintro en e4 ⟨u, rfl, ⟨u0, u1⟩, hcue4, he4⟩
      refine ⟨_, rfl, (Chg.mono he4 (fun b _ h => Or.inl h)), ?_⟩
      try simp only [nrm, nrg]
      have huw : IntKind.i64.wrap (1 + u) = 1 + u := IntWalk.i64_in _ (by omega)
      have ge4 : Chg (fun b => b = (w.heap.size + 1 + 1)) w3 e4 := Chg.trans Chg.go (Chg.mono (T := fun b => b = (w.heap.size + 1 + 1)) he4 xsub)
      have ze4 := he4.size
      (try simp at ze4)
      have ye4 : w3.heap.size ≤ e4.heap.size := ge4.size
      have hr_e4 := hide (hr_w3.out.chg ge4 xom)
      have hq_e4 := hide (hq_w3.out.chg ge4 xom)
      have hx_e4 := hide (hx_w3.out.chg ge4 xom)
      have oo_e4 := hide (OwnSnV.chg oo_w3.out ge4 xap)
      have hgwe4 : Chg (fun b => w.heap.size ≤ b) w e4 := Chg.trans hgww3 (Chg.mono (T := fun b => w.heap.size ≤ b) ge4 xsub)
      clear hr_w3 hq_w3 hx_w3 oo_w3 hgww3 hcuw3 br0 br1 br2 br3 br4 br5 br6 br7 br8 br9 br10 br11 brF kbr bq0 bq1 bq2 bqF kbq bx0 bx1 bx2 bx3 bx4 bx5 bx6 bx7 bx8 bx9 bx10 bx11 bxF kbx nerq neqr nerx nexr neqx nexq
      clear ge4 he4
      obtain ⟨br0, br1, br2, br3, br4, br5, br6, br7, br8, br9, br10, br11, brF, kbr⟩ := BoxV.a12 hr_e4.out
      obtain ⟨bq0, bq1, bq2, bqF, kbq⟩ := BoxV.a3 hq_e4.out
      obtain ⟨bx0, bx1, bx2, bx3, bx4, bx5, bx6, bx7, bx8, bx9, bx10, bx11, bxF, kbx⟩ := BoxV.a12 hx_e4.out
      have ⟨nerq, neqr⟩ := ne2 (show w.heap.size ≠ w.heap.size + 1 by omega)
      have ⟨nerx, nexr⟩ := ne2 (show w.heap.size ≠ w2.heap.size by omega)
      have ⟨neqx, nexq⟩ := ne2 (show w.heap.size + 1 ≠ w2.heap.size by omega)
      (refine wpC_pure (v := ?_) rfl rfl (by rfl) ?_ ?_; rotate_left; (focus (intro ws hws; go_simp; (try with_reducible rfl); done)))
      try simp only [nrm, nrg]
      (refine wpF_forkCA (o2 := [(0, 1), (1, 1), (2, 10), (3, 1), (8, 6), (4, 0), (5, 1), (6, 1), (7, 1), (9, 0)]) 45 ?_ (.pointer (some ⟨e4.heap.size, 0, none⟩)) (e4.alloc (.cells #[.int .i64 0, .string ⟨#[]⟩, .bool false] 55)) rfl rfl rfl (by kernel_rfl) rfl rfl (Chg.refl _ _) (by rfl) (by rfl) ?_ (by go_simp) (Chg.alloc (Chg.refl _ _) _) ?_ ?_; rotate_left; (focus (go_simp; (try with_reducible rfl); done)))
      · skip
        refine (NextPiece_spec s a c1 c2 c3 c4 (1 + u) 100 _ (OwnSnV.read (OwnSnV.chg (S := fun b => b = (w.heap.size + 1 + 1)) oo_e4.out Chg.go xap)) (by omega) (by omega) (by omega) (by omega) (by omega)).mono ?_
        rintro en e5 ⟨rfl, he5⟩
        refine ⟨_, rfl, (Ext.chg he5 _), ?_⟩
        try simp only [nrm, nrg]
        have hnb := nx_bd (m := 1 + u) (l := 100) hV.out (by omega)
        obtain ⟨⟨o, d, fin⟩, hP⟩ : ∃ P, Hid (nxP (sndS s) s (1 + u) 100 = P) := ⟨_, hide rfl⟩
        obtain ⟨is, hI⟩ : ∃ q, Hid (nxB (sndS s) s (1 + u) 100 = q) := ⟨_, hide rfl⟩
        rw [hP.out, hI.out]
        rw [hP.out] at hnb
        dsimp only at hnb ⊢
        have ge5 : Chg (fun b => False) e4 e5 := Chg.trans Chg.go (Ext.chg he5 _)
        have ze5 := he5.size
        (try simp at ze5)
        have ye5 : e4.heap.size ≤ e5.heap.size := ge5.size
        have hr_e5 := hide (hr_e4.out.chg ge5 xom)
        have hq_e5 := hide (hq_e4.out.chg ge5 xom)
        have hx_e5 := hide (hx_e4.out.chg ge5 xom)
        have oo_e5 := hide (OwnSnV.chg oo_e4.out ge5 xap)
        have hgwe5 : Chg (fun b => w.heap.size ≤ b) w e5 := Chg.trans hgwe4 (Chg.mono (T := fun b => w.heap.size ≤ b) ge5 xsub)
        have hcue5 := hcue4.stays ge5 (fun b h => xom)
        clear hr_e4 hq_e4 hx_e4 oo_e4 hgwe4 hcue4 br0 br1 br2 br3 br4 br5 br6 br7 br8 br9 br10 br11 brF kbr bq0 bq1 bq2 bqF kbq bx0 bx1 bx2 bx3 bx4 bx5 bx6 bx7 bx8 bx9 bx10 bx11 bxF kbx nerq neqr nerx nexr neqx nexq
        clear ge5 he5
        obtain ⟨br0, br1, br2, br3, br4, br5, br6, br7, br8, br9, br10, br11, brF, kbr⟩ := BoxV.a12 hr_e5.out
        obtain ⟨bq0, bq1, bq2, bqF, kbq⟩ := BoxV.a3 hq_e5.out
        obtain ⟨bx0, bx1, bx2, bx3, bx4, bx5, bx6, bx7, bx8, bx9, bx10, bx11, bxF, kbx⟩ := BoxV.a12 hx_e5.out
        have ⟨nerq, neqr⟩ := ne2 (show w.heap.size ≠ w.heap.size + 1 by omega)
        have ⟨nerx, nexr⟩ := ne2 (show w.heap.size ≠ w2.heap.size by omega)
        have ⟨neqx, nexq⟩ := ne2 (show w.heap.size + 1 ≠ w2.heap.size by omega)
        iterate 3 ((refine wpC_pure (v := ?_) rfl rfl (by rfl) ?_ ?_; rotate_left; (focus (intro ws hws; go_simp; (try with_reducible rfl); done))); try simp only [nrm, nrg])
        refine wpC_made (.pointer (some ⟨e5.heap.size, 0, none⟩)) (e5.alloc (.cells #[.int .i64 0, .string ⟨#[]⟩, .bool false] 55)) rfl rfl (by rfl) (by go_simp) (Chg.alloc (Chg.refl _ _) _) ?_
        try simp only [nrm, nrg]
        obtain ⟨e6, h0e6⟩ : ∃ u, u = (e5.alloc (.cells #[.int .i64 0, .string ⟨#[]⟩, .bool false] 55)) := ⟨_, rfl⟩
        rw [← h0e6]
        have he6 : Ext (e5.alloc (.cells #[.int .i64 0, .string ⟨#[]⟩, .bool false] 55)) e6 := h0e6 ▸ Ext.go
        have ge6 : Chg (fun b => False) e5 e6 := Chg.trans Chg.go (Ext.chg he6 _)
        have ze6 := he6.size
        (try simp at ze6)
        have ye6 : e5.heap.size ≤ e6.heap.size := ge6.size
        have hr_e6 := hide (hr_e5.out.chg ge6 xom)
        have hq_e6 := hide (hq_e5.out.chg ge6 xom)
        have hx_e6 := hide (hx_e5.out.chg ge6 xom)
        have hy_e6 := hide (BoxV.chg (BoxV.new e5 [.int .i64 0, .string ⟨#[]⟩, .bool false] 55) (S := fun b => False) (Chg.trans Chg.go (Ext.chg he6 _)) xom)
        have oo_e6 := hide (OwnSnV.chg oo_e5.out ge6 xap)
        have hgwe6 : Chg (fun b => w.heap.size ≤ b) w e6 := Chg.trans hgwe5 (Chg.mono (T := fun b => w.heap.size ≤ b) ge6 xsub)
        have hcue6 := hcue5.stays ge6 (fun b h => xom)
        clear hr_e5 hq_e5 hx_e5 oo_e5 hgwe5 hcue5 br0 br1 br2 br3 br4 br5 br6 br7 br8 br9 br10 br11 brF kbr bq0 bq1 bq2 bqF kbq bx0 bx1 bx2 bx3 bx4 bx5 bx6 bx7 bx8 bx9 bx10 bx11 bxF kbx nerq neqr nerx nexr neqx nexq
        clear ge6 he6
        obtain ⟨br0, br1, br2, br3, br4, br5, br6, br7, br8, br9, br10, br11, brF, kbr⟩ := BoxV.a12 hr_e6.out
        obtain ⟨bq0, bq1, bq2, bqF, kbq⟩ := BoxV.a3 hq_e6.out
        obtain ⟨bx0, bx1, bx2, bx3, bx4, bx5, bx6, bx7, bx8, bx9, bx10, bx11, bxF, kbx⟩ := BoxV.a12 hx_e6.out
        obtain ⟨by0, by1, by2, byF, kby⟩ := BoxV.a3 hy_e6.out
        have ⟨nerq, neqr⟩ := ne2 (show w.heap.size ≠ w.heap.size + 1 by omega)
        have ⟨nerx, nexr⟩ := ne2 (show w.heap.size ≠ w2.heap.size by omega)
        have ⟨nery, neyr⟩ := ne2 (show w.heap.size ≠ e5.heap.size by omega)
        have ⟨neqx, nexq⟩ := ne2 (show w.heap.size + 1 ≠ w2.heap.size by omega)
        have ⟨neqy, neyq⟩ := ne2 (show w.heap.size + 1 ≠ e5.heap.size by omega)
        have ⟨nexy, neyx⟩ := ne2 (show w2.heap.size ≠ e5.heap.size by omega)
        clear h0e6
        (refine wpC_store ?_ rfl rfl (by rfl) ?_ ?_ ?_; rotate_left; (focus (go_simp; (try with_reducible rfl); done)))
        · exact Chg.go
        try simp only [nrm, nrg]
        refine wpF_done rfl ?_
        simp only [List.drop_succ_cons, List.drop_zero, List.drop_nil]
        have hset := BoxV.set hy_e6.out [.int .i64 o, .string d, .bool fin] rfl
        simp only [setFrom, Nat.zero_add, Nat.reduceAdd] at hset
        have hzr := hide (hr_e6.out.chg hset.2 xom)
        have hzq := hide (hq_e6.out.chg hset.2 xom)
        have hzx := hide (hx_e6.out.chg hset.2 xom)
        have hzy := hide hset.1
        have ozo := hide (OwnSnV.chg oo_e6.out hset.2 xap)
        have uz := hcue6.stays hset.2 (fun b h => xom)
        have gz := hgwe6.trans (hset.2.mono (T := fun b => w.heap.size ≤ b) xsub)
        have sz := hset.2.size
        clear hset
        go_wp2_with fail
        go_meet
        exact ⟨_, o, d, fin, is, rfl, rfl, by omega, hzy.out, hnb.1, hnb.2, hzr.out, hzq.out, hzx.out, ozo.out.mono (by omega) (by omega), uz, gz, by omega⟩
      · skip
        try simp only [nrm, nrg]
        (refine wpC_call 45 ?_ rfl rfl (by rfl) ?_ ?_; rotate_left; (focus (go_simp; (try with_reducible rfl); done)))
        refine (NextPiece_spec s a c1 c2 c3 c4 (1 + u) 100 _ (OwnSnV.read (OwnSnV.chg (S := fun b => b = (w.heap.size + 1 + 1)) oo_e4.out Chg.go xap)) (by omega) (by omega) (by omega) (by omega) (by omega)).mono ?_
        rintro en e5 ⟨rfl, he5⟩
        refine ⟨_, rfl, (Ext.chg he5 _), ?_⟩
        try simp only [nrm, nrg]
        have hnb := nx_bd (m := 1 + u) (l := 100) hV.out (by omega)
        obtain ⟨⟨o, d, fin⟩, hP⟩ : ∃ P, Hid (nxP (sndS s) s (1 + u) 100 = P) := ⟨_, hide rfl⟩
        obtain ⟨is, hI⟩ : ∃ q, Hid (nxB (sndS s) s (1 + u) 100 = q) := ⟨_, hide rfl⟩
        rw [hP.out, hI.out]
        rw [hP.out] at hnb
        dsimp only at hnb ⊢
        have ge5 : Chg (fun b => False) e4 e5 := Chg.trans Chg.go (Ext.chg he5 _)
        have ze5 := he5.size
        (try simp at ze5)
        have ye5 : e4.heap.size ≤ e5.heap.size := ge5.size
        have hr_e5 := hide (hr_e4.out.chg ge5 xom)
        have hq_e5 := hide (hq_e4.out.chg ge5 xom)
        have hx_e5 := hide (hx_e4.out.chg ge5 xom)
        have hy_e5 := hide (BoxV.chg (BoxV.new e4 [.int .i64 0, .string ⟨#[]⟩, .bool false] 55) (S := fun b => False) (Chg.trans Chg.go (Ext.chg he5 _)) xom)
        have oo_e5 := hide (OwnSnV.chg oo_e4.out ge5 xap)
        have hgwe5 : Chg (fun b => w.heap.size ≤ b) w e5 := Chg.trans hgwe4 (Chg.mono (T := fun b => w.heap.size ≤ b) ge5 xsub)
        have hcue5 := hcue4.stays ge5 (fun b h => xom)
        clear hr_e4 hq_e4 hx_e4 oo_e4 hgwe4 hcue4 br0 br1 br2 br3 br4 br5 br6 br7 br8 br9 br10 br11 brF kbr bq0 bq1 bq2 bqF kbq bx0 bx1 bx2 bx3 bx4 bx5 bx6 bx7 bx8 bx9 bx10 bx11 bxF kbx nerq neqr nerx nexr neqx nexq
        clear ge5 he5
        obtain ⟨br0, br1, br2, br3, br4, br5, br6, br7, br8, br9, br10, br11, brF, kbr⟩ := BoxV.a12 hr_e5.out
        obtain ⟨bq0, bq1, bq2, bqF, kbq⟩ := BoxV.a3 hq_e5.out
        obtain ⟨bx0, bx1, bx2, bx3, bx4, bx5, bx6, bx7, bx8, bx9, bx10, bx11, bxF, kbx⟩ := BoxV.a12 hx_e5.out
        obtain ⟨by0, by1, by2, byF, kby⟩ := BoxV.a3 hy_e5.out
        have ⟨nerq, neqr⟩ := ne2 (show w.heap.size ≠ w.heap.size + 1 by omega)
        have ⟨nerx, nexr⟩ := ne2 (show w.heap.size ≠ w2.heap.size by omega)
        have ⟨nery, neyr⟩ := ne2 (show w.heap.size ≠ e4.heap.size by omega)
        have ⟨neqx, nexq⟩ := ne2 (show w.heap.size + 1 ≠ w2.heap.size by omega)
        have ⟨neqy, neyq⟩ := ne2 (show w.heap.size + 1 ≠ e4.heap.size by omega)
        have ⟨nexy, neyx⟩ := ne2 (show w2.heap.size ≠ e4.heap.size by omega)
        iterate 3 ((refine wpC_pure (v := ?_) rfl rfl (by rfl) ?_ ?_; rotate_left; (focus (intro ws hws; go_simp; (try with_reducible rfl); done))); try simp only [nrm, nrg])
        (refine wpC_store ?_ rfl rfl (by rfl) ?_ ?_ ?_; rotate_left; (focus (go_simp; (try with_reducible rfl); done)))
        · exact Chg.go
        try simp only [nrm, nrg]
        refine wpF_done rfl ?_
        simp only [List.drop_succ_cons, List.drop_zero, List.drop_nil]
        have hset := BoxV.set hy_e5.out [.int .i64 o, .string d, .bool fin] rfl
        simp only [setFrom, Nat.zero_add, Nat.reduceAdd] at hset
        have hzr := hide (hr_e5.out.chg hset.2 xom)
        have hzq := hide (hq_e5.out.chg hset.2 xom)
        have hzx := hide (hx_e5.out.chg hset.2 xom)
        have hzy := hide hset.1
        have ozo := hide (OwnSnV.chg oo_e5.out hset.2 xap)
        have uz := hcue5.stays hset.2 (fun b h => xom)
        have gz := hgwe5.trans (hset.2.mono (T := fun b => w.heap.size ≤ b) xsub)
        have sz := hset.2.size
        clear hset
        go_wp2_with fail
        go_meet
        exact ⟨_, o, d, fin, is, rfl, rfl, by omega, hzy.out, hnb.1, hnb.2, hzr.out, hzq.out, hzx.out, ozo.out.mono (by omega) (by omega), uz, gz, by omega⟩
    · skip
      try simp only [nrm, nrg]
      (refine wpC_call 87 ?_ rfl rfl (by rfl) ?_ ?_; rotate_left; (focus (go_simp; (try with_reducible rfl); done)))
      refine (l1Below_pos (w.heap.size + 1 + 1) code 5 _ (by omega) (hcuw3.stays (S := fun b => False) Chg.go (fun b h => xom))).mono ?_
      rintro en e4 ⟨u, rfl, ⟨u0, u1⟩, hcue4, he4⟩
      refine ⟨_, rfl, (Chg.mono he4 (fun b _ h => Or.inl h)), ?_⟩
      try simp only [nrm, nrg]
      have huw : IntKind.i64.wrap (1 + u) = 1 + u := IntWalk.i64_in _ (by omega)
      have ge4 : Chg (fun b => b = (w.heap.size + 1 + 1)) w3 e4 := Chg.trans Chg.go (Chg.mono (T := fun b => b = (w.heap.size + 1 + 1)) he4 xsub)
      have ze4 := he4.size
      (try simp at ze4)
      have ye4 : w3.heap.size ≤ e4.heap.size := ge4.size
      have hr_e4 := hide (hr_w3.out.chg ge4 xom)
      have hq_e4 := hide (hq_w3.out.chg ge4 xom)
      have hx_e4 := hide (hx_w3.out.chg ge4 xom)
      have hy_e4 := hide (BoxV.chg (show BoxV (w3.heap.size) _ [.int .i64 0, .string ⟨#[]⟩, .bool false] from by have h := (BoxV.new w3.drew [.int .i64 0, .string ⟨#[]⟩, .bool false] 55); simpa only [World.size_alloc, World.size_drew] using h) (S := fun b => b = (w.heap.size + 1 + 1)) (Chg.trans Chg.go (Chg.mono (T := fun b => b = (w.heap.size + 1 + 1)) he4 xsub)) xom)
      have oo_e4 := hide (OwnSnV.chg oo_w3.out ge4 xap)
      have hgwe4 : Chg (fun b => w.heap.size ≤ b) w e4 := Chg.trans hgww3 (Chg.mono (T := fun b => w.heap.size ≤ b) ge4 xsub)
      clear hr_w3 hq_w3 hx_w3 oo_w3 hgww3 hcuw3 br0 br1 br2 br3 br4 br5 br6 br7 br8 br9 br10 br11 brF kbr bq0 bq1 bq2 bqF kbq bx0 bx1 bx2 bx3 bx4 bx5 bx6 bx7 bx8 bx9 bx10 bx11 bxF kbx nerq neqr nerx nexr neqx nexq
      clear ge4 he4
      obtain ⟨br0, br1, br2, br3, br4, br5, br6, br7, br8, br9, br10, br11, brF, kbr⟩ := BoxV.a12 hr_e4.out
      obtain ⟨bq0, bq1, bq2, bqF, kbq⟩ := BoxV.a3 hq_e4.out
      obtain ⟨bx0, bx1, bx2, bx3, bx4, bx5, bx6, bx7, bx8, bx9, bx10, bx11, bxF, kbx⟩ := BoxV.a12 hx_e4.out
      obtain ⟨by0, by1, by2, byF, kby⟩ := BoxV.a3 hy_e4.out
      have ⟨nerq, neqr⟩ := ne2 (show w.heap.size ≠ w.heap.size + 1 by omega)
      have ⟨nerx, nexr⟩ := ne2 (show w.heap.size ≠ w2.heap.size by omega)
      have ⟨nery, neyr⟩ := ne2 (show w.heap.size ≠ w3.heap.size by omega)
      have ⟨neqx, nexq⟩ := ne2 (show w.heap.size + 1 ≠ w2.heap.size by omega)
      have ⟨neqy, neyq⟩ := ne2 (show w.heap.size + 1 ≠ w3.heap.size by omega)
      have ⟨nexy, neyx⟩ := ne2 (show w2.heap.size ≠ w3.heap.size by omega)
      (refine wpC_pure (v := ?_) rfl rfl (by rfl) ?_ ?_; rotate_left; (focus (intro ws hws; go_simp; (try with_reducible rfl); done)))
      try simp only [nrm, nrg]
      (refine wpC_call 45 ?_ rfl rfl (by rfl) ?_ ?_; rotate_left; (focus (go_simp; (try with_reducible rfl); done)))
      refine (NextPiece_spec s a c1 c2 c3 c4 (1 + u) 100 _ (OwnSnV.read (OwnSnV.chg (S := fun b => b = (w.heap.size + 1 + 1)) oo_e4.out Chg.go xap)) (by omega) (by omega) (by omega) (by omega) (by omega)).mono ?_
      rintro en e5 ⟨rfl, he5⟩
      refine ⟨_, rfl, (Ext.chg he5 _), ?_⟩
      try simp only [nrm, nrg]
      have hnb := nx_bd (m := 1 + u) (l := 100) hV.out (by omega)
      obtain ⟨⟨o, d, fin⟩, hP⟩ : ∃ P, Hid (nxP (sndS s) s (1 + u) 100 = P) := ⟨_, hide rfl⟩
      obtain ⟨is, hI⟩ : ∃ q, Hid (nxB (sndS s) s (1 + u) 100 = q) := ⟨_, hide rfl⟩
      rw [hP.out, hI.out]
      rw [hP.out] at hnb
      dsimp only at hnb ⊢
      have ge5 : Chg (fun b => False) e4 e5 := Chg.trans Chg.go (Ext.chg he5 _)
      have ze5 := he5.size
      (try simp at ze5)
      have ye5 : e4.heap.size ≤ e5.heap.size := ge5.size
      have hr_e5 := hide (hr_e4.out.chg ge5 xom)
      have hq_e5 := hide (hq_e4.out.chg ge5 xom)
      have hx_e5 := hide (hx_e4.out.chg ge5 xom)
      have hy_e5 := hide (hy_e4.out.chg ge5 xom)
      have oo_e5 := hide (OwnSnV.chg oo_e4.out ge5 xap)
      have hgwe5 : Chg (fun b => w.heap.size ≤ b) w e5 := Chg.trans hgwe4 (Chg.mono (T := fun b => w.heap.size ≤ b) ge5 xsub)
      have hcue5 := hcue4.stays ge5 (fun b h => xom)
      clear hr_e4 hq_e4 hx_e4 hy_e4 oo_e4 hgwe4 hcue4 br0 br1 br2 br3 br4 br5 br6 br7 br8 br9 br10 br11 brF kbr bq0 bq1 bq2 bqF kbq bx0 bx1 bx2 bx3 bx4 bx5 bx6 bx7 bx8 bx9 bx10 bx11 bxF kbx by0 by1 by2 byF kby nerq neqr nerx nexr nery neyr neqx nexq neqy neyq nexy neyx
      clear ge5 he5
      obtain ⟨br0, br1, br2, br3, br4, br5, br6, br7, br8, br9, br10, br11, brF, kbr⟩ := BoxV.a12 hr_e5.out
      obtain ⟨bq0, bq1, bq2, bqF, kbq⟩ := BoxV.a3 hq_e5.out
      obtain ⟨bx0, bx1, bx2, bx3, bx4, bx5, bx6, bx7, bx8, bx9, bx10, bx11, bxF, kbx⟩ := BoxV.a12 hx_e5.out
      obtain ⟨by0, by1, by2, byF, kby⟩ := BoxV.a3 hy_e5.out
      have ⟨nerq, neqr⟩ := ne2 (show w.heap.size ≠ w.heap.size + 1 by omega)
      have ⟨nerx, nexr⟩ := ne2 (show w.heap.size ≠ w2.heap.size by omega)
      have ⟨nery, neyr⟩ := ne2 (show w.heap.size ≠ w3.heap.size by omega)
      have ⟨neqx, nexq⟩ := ne2 (show w.heap.size + 1 ≠ w2.heap.size by omega)
      have ⟨neqy, neyq⟩ := ne2 (show w.heap.size + 1 ≠ w3.heap.size by omega)
      have ⟨nexy, neyx⟩ := ne2 (show w2.heap.size ≠ w3.heap.size by omega)
      iterate 3 ((refine wpC_pure (v := ?_) rfl rfl (by rfl) ?_ ?_; rotate_left; (focus (intro ws hws; go_simp; (try with_reducible rfl); done))); try simp only [nrm, nrg])
      (refine wpC_store ?_ rfl rfl (by rfl) ?_ ?_ ?_; rotate_left; (focus (go_simp; (try with_reducible rfl); done)))
      · exact Chg.go
      try simp only [nrm, nrg]
      refine wpF_done rfl ?_
      simp only [List.drop_succ_cons, List.drop_zero, List.drop_nil]
      have hset := BoxV.set hy_e5.out [.int .i64 o, .string d, .bool fin] rfl
      simp only [setFrom, Nat.zero_add, Nat.reduceAdd] at hset
      have hzr := hide (hr_e5.out.chg hset.2 xom)
      have hzq := hide (hq_e5.out.chg hset.2 xom)
      have hzx := hide (hx_e5.out.chg hset.2 xom)
      have hzy := hide hset.1
      have ozo := hide (OwnSnV.chg oo_e5.out hset.2 xap)
      have uz := hcue5.stays hset.2 (fun b h => xom)
      have gz := hgwe5.trans (hset.2.mono (T := fun b => w.heap.size ≤ b) xsub)
      have sz := hset.2.size
      clear hset
      go_wp2_with fail
      go_meet
      exact ⟨_, o, d, fin, is, rfl, rfl, by omega, hzy.out, hnb.1, hnb.2, hzr.out, hzq.out, hzx.out, ozo.out.mono (by omega) (by omega), uz, gz, by omega⟩
  case rest =>
    obtain ⟨wx, hwe⟩ : ∃ u, u = wc := ⟨_, rfl⟩
    subst hwe
    obtain ⟨Bq, o, d, fin, is, rfl, rfl, hBw, kBy, ho1, hds, kBr, kBq, kBx, kown, kcu, kgw, hsz⟩ := hcut
    clear br0 br1 br2 br3 br4 br5 br6 br7 br8 br9 br10 br11 brF kbr bq0 bq1 bq2 bqF kbq bx0 bx1 bx2 bx3 bx4 bx5 bx6 bx7 bx8 bx9 bx10 bx11 bxF kbx nerq neqr nerx nexr neqx nexq hr_w3 hq_w3 hx_w3 oo_w3 hcuw3 hgww3
    have hBy := hide kBy
    clear kBy
    have hBr := hide kBr
    clear kBr
    have hBq := hide kBq
    clear kBq
    have hBx := hide kBx
    clear kBx
    replace kown := hide kown
    obtain ⟨br0, br1, br2, br3, br4, br5, br6, br7, br8, br9, br10, br11, brF, kbr⟩ := BoxV.a12 hBr.out
    obtain ⟨bq0, bq1, bq2, bqF, kbq⟩ := BoxV.a3 hBq.out
    obtain ⟨bx0, bx1, bx2, bx3, bx4, bx5, bx6, bx7, bx8, bx9, bx10, bx11, bxF, kbx⟩ := BoxV.a12 hBx.out
    obtain ⟨by0, by1, by2, byF, kby⟩ := BoxV.a3 hBy.out
    have ⟨nerq, neqr⟩ := ne2 (show w.heap.size ≠ w.heap.size + 1 by omega)
    have ⟨nerx, nexr⟩ := ne2 (show w.heap.size ≠ w2.heap.size by omega)
    have ⟨nery, neyr⟩ := ne2 (show w.heap.size ≠ Bq by omega)
    have ⟨neqx, nexq⟩ := ne2 (show w.heap.size + 1 ≠ w2.heap.size by omega)
    have ⟨neqy, neyq⟩ := ne2 (show w.heap.size + 1 ≠ Bq by omega)
    have ⟨nexy, neyx⟩ := ne2 (show w2.heap.size ≠ Bq by omega)
    cases is
    · skip
      go_wp2_with fail
      refine (l1Below_pos (w.heap.size + 1 + 1) code 12 _ (by omega) (kcu.stays (S := fun b => False) Chg.go (fun b h => xom))).mono ?_
      rintro en d4 ⟨u9, rfl, ⟨u0, u1⟩, hcud4, hd4⟩
      have huw9 : IntKind.i64.wrap (u9 - 1) = u9 - 1 := IntWalk.i64_in _ (by omega)
      have gd4 : Chg (fun b => b = (w.heap.size + 1 + 1)) wx d4 := Chg.trans Chg.go (Chg.mono (T := fun b => b = (w.heap.size + 1 + 1)) hd4 xsub)
      have zd4 := hd4.size
      (try simp at zd4)
      have yd4 : wx.heap.size ≤ d4.heap.size := gd4.size
      have hr_d4 := hide (hBr.out.chg gd4 xom)
      have hq_d4 := hide (hBq.out.chg gd4 xom)
      have hx_d4 := hide (hBx.out.chg gd4 xom)
      have hy_d4 := hide (hBy.out.chg gd4 xom)
      have oo_d4 := hide (OwnSnV.chg kown.out gd4 xap)
      have hgwd4 : Chg (fun b => w.heap.size ≤ b) w d4 := Chg.trans kgw (Chg.mono (T := fun b => w.heap.size ≤ b) gd4 xsub)
      clear hBr hBq hBx hBy kown kgw kcu br0 br1 br2 br3 br4 br5 br6 br7 br8 br9 br10 br11 brF kbr bq0 bq1 bq2 bqF kbq bx0 bx1 bx2 bx3 bx4 bx5 bx6 bx7 bx8 bx9 bx10 bx11 bxF kbx by0 by1 by2 byF kby nerq neqr nerx nexr nery neyr neqx nexq neqy neyq nexy neyx
      clear gd4 hd4
      obtain ⟨br0, br1, br2, br3, br4, br5, br6, br7, br8, br9, br10, br11, brF, kbr⟩ := BoxV.a12 hr_d4.out
      obtain ⟨bq0, bq1, bq2, bqF, kbq⟩ := BoxV.a3 hq_d4.out
      obtain ⟨bx0, bx1, bx2, bx3, bx4, bx5, bx6, bx7, bx8, bx9, bx10, bx11, bxF, kbx⟩ := BoxV.a12 hx_d4.out
      obtain ⟨by0, by1, by2, byF, kby⟩ := BoxV.a3 hy_d4.out
      have ⟨nerq, neqr⟩ := ne2 (show w.heap.size ≠ w.heap.size + 1 by omega)
      have ⟨nerx, nexr⟩ := ne2 (show w.heap.size ≠ w2.heap.size by omega)
      have ⟨nery, neyr⟩ := ne2 (show w.heap.size ≠ Bq by omega)
      have ⟨neqx, nexq⟩ := ne2 (show w.heap.size + 1 ≠ w2.heap.size by omega)
      have ⟨neqy, neyq⟩ := ne2 (show w.heap.size + 1 ≠ Bq by omega)
      have ⟨nexy, neyx⟩ := ne2 (show w2.heap.size ≠ Bq by omega)
      go_wp2_with fail
      refine (l4Data_any (w.heap.size + 1 + 1) code 4 _ (hcud4.stays (S := fun b => False) Chg.go (fun b h => xom)) (by omega) (by omega)).mono ?_
      rintro en d5 ⟨d9, rfl, hd9, hcud5, hd5⟩
      have gd5 : Chg (fun b => b = (w.heap.size + 1 + 1)) d4 d5 := Chg.trans Chg.go (Chg.mono (T := fun b => b = (w.heap.size + 1 + 1)) hd5 xsub)
      have zd5 := hd5.size
      (try simp at zd5)
      have yd5 : d4.heap.size ≤ d5.heap.size := gd5.size
      have hr_d5 := hide (hr_d4.out.chg gd5 xom)
      have hq_d5 := hide (hq_d4.out.chg gd5 xom)
      have hx_d5 := hide (hx_d4.out.chg gd5 xom)
      have hy_d5 := hide (hy_d4.out.chg gd5 xom)
      have oo_d5 := hide (OwnSnV.chg oo_d4.out gd5 xap)
      have hgwd5 : Chg (fun b => w.heap.size ≤ b) w d5 := Chg.trans hgwd4 (Chg.mono (T := fun b => w.heap.size ≤ b) gd5 xsub)
      clear hr_d4 hq_d4 hx_d4 hy_d4 oo_d4 hgwd4 hcud4 br0 br1 br2 br3 br4 br5 br6 br7 br8 br9 br10 br11 brF kbr bq0 bq1 bq2 bqF kbq bx0 bx1 bx2 bx3 bx4 bx5 bx6 bx7 bx8 bx9 bx10 bx11 bxF kbx by0 by1 by2 byF kby nerq neqr nerx nexr nery neyr neqx nexq neqy neyq nexy neyx
      clear gd5 hd5
      obtain ⟨br0, br1, br2, br3, br4, br5, br6, br7, br8, br9, br10, br11, brF, kbr⟩ := BoxV.a12 hr_d5.out
      obtain ⟨bq0, bq1, bq2, bqF, kbq⟩ := BoxV.a3 hq_d5.out
      obtain ⟨bx0, bx1, bx2, bx3, bx4, bx5, bx6, bx7, bx8, bx9, bx10, bx11, bxF, kbx⟩ := BoxV.a12 hx_d5.out
      obtain ⟨by0, by1, by2, byF, kby⟩ := BoxV.a3 hy_d5.out
      have ⟨nerq, neqr⟩ := ne2 (show w.heap.size ≠ w.heap.size + 1 by omega)
      have ⟨nerx, nexr⟩ := ne2 (show w.heap.size ≠ w2.heap.size by omega)
      have ⟨nery, neyr⟩ := ne2 (show w.heap.size ≠ Bq by omega)
      have ⟨neqx, nexq⟩ := ne2 (show w.heap.size + 1 ≠ w2.heap.size by omega)
      have ⟨neqy, neyq⟩ := ne2 (show w.heap.size + 1 ≠ Bq by omega)
      have ⟨nexy, neyx⟩ := ne2 (show w2.heap.size ≠ Bq by omega)
      go_wp2_with fail
      refine (l1Once_any (w.heap.size + 1 + 1) code 3 _ (hcud5.stays (S := fun b => False) Chg.go (fun b h => xom))).mono ?_
      rintro en d6 ⟨q9, rfl, hcud6, hd6⟩
      have gd6 : Chg (fun b => b = (w.heap.size + 1 + 1)) d5 d6 := Chg.trans Chg.go (Chg.mono (T := fun b => b = (w.heap.size + 1 + 1)) hd6 xsub)
      have zd6 := hd6.size
      (try simp at zd6)
      have yd6 : d5.heap.size ≤ d6.heap.size := gd6.size
      have hr_d6 := hide (hr_d5.out.chg gd6 xom)
      have hq_d6 := hide (hq_d5.out.chg gd6 xom)
      have hx_d6 := hide (hx_d5.out.chg gd6 xom)
      have hy_d6 := hide (hy_d5.out.chg gd6 xom)
      have oo_d6 := hide (OwnSnV.chg oo_d5.out gd6 xap)
      have hgwd6 : Chg (fun b => w.heap.size ≤ b) w d6 := Chg.trans hgwd5 (Chg.mono (T := fun b => w.heap.size ≤ b) gd6 xsub)
      clear hr_d5 hq_d5 hx_d5 hy_d5 oo_d5 hgwd5 hcud5 br0 br1 br2 br3 br4 br5 br6 br7 br8 br9 br10 br11 brF kbr bq0 bq1 bq2 bqF kbq bx0 bx1 bx2 bx3 bx4 bx5 bx6 bx7 bx8 bx9 bx10 bx11 bxF kbx by0 by1 by2 byF kby nerq neqr nerx nexr nery neyr neqx nexq neqy neyq nexy neyx
      clear gd6 hd6
      obtain ⟨br0, br1, br2, br3, br4, br5, br6, br7, br8, br9, br10, br11, brF, kbr⟩ := BoxV.a12 hr_d6.out
      obtain ⟨bq0, bq1, bq2, bqF, kbq⟩ := BoxV.a3 hq_d6.out
      obtain ⟨bx0, bx1, bx2, bx3, bx4, bx5, bx6, bx7, bx8, bx9, bx10, bx11, bxF, kbx⟩ := BoxV.a12 hx_d6.out
      obtain ⟨by0, by1, by2, byF, kby⟩ := BoxV.a3 hy_d6.out
      have ⟨nerq, neqr⟩ := ne2 (show w.heap.size ≠ w.heap.size + 1 by omega)
      have ⟨nerx, nexr⟩ := ne2 (show w.heap.size ≠ w2.heap.size by omega)
      have ⟨nery, neyr⟩ := ne2 (show w.heap.size ≠ Bq by omega)
      have ⟨neqx, nexq⟩ := ne2 (show w.heap.size + 1 ≠ w2.heap.size by omega)
      have ⟨neqy, neyq⟩ := ne2 (show w.heap.size + 1 ≠ Bq by omega)
      have ⟨nexy, neyx⟩ := ne2 (show w2.heap.size ≠ Bq by omega)
      go_upto_region 6 with fail
      have hset := BoxV.set hy_d6.out [.int .i64 (u9 - 1), .string d9, .bool q9] rfl
      simp only [setFrom, Nat.zero_add, Nat.reduceAdd] at hset
      obtain ⟨d7, h0d7⟩ : ∃ u, u = (((d6.setCell ⟨Bq, 0, none⟩ (.int .i64 (u9 - 1))).setCell ⟨Bq, 1, none⟩ (.string d9)).setCell ⟨Bq, 2, none⟩ (.bool q9)) := ⟨_, rfl⟩
      rw [← h0d7] at hset
      obtain ⟨hset1, hd7⟩ := hset
      replace hset1 := hide hset1
      rw [← h0d7]
      clear h0d7
      have zd7 := hd7.size
      have hr_d7 := hide (hr_d6.out.chg hd7 xom)
      have hq_d7 := hide (hq_d6.out.chg hd7 xom)
      have hx_d7 := hide (hx_d6.out.chg hd7 xom)
      have oo_d7 := hide (OwnSnV.chg oo_d6.out hd7 xap)
      have hgwd7 : Chg (fun b => w.heap.size ≤ b) w d7 := Chg.trans hgwd6 (Chg.mono (T := fun b => w.heap.size ≤ b) hd7 xsub)
      have hcud7 := hcud6.stays hd7 (fun b h => xom)
      clear hr_d6 hq_d6 hx_d6 oo_d6 hgwd6 hcud6 br0 br1 br2 br3 br4 br5 br6 br7 br8 br9 br10 br11 brF kbr bq0 bq1 bq2 bqF kbq bx0 bx1 bx2 bx3 bx4 bx5 bx6 bx7 bx8 bx9 bx10 bx11 bxF kbx by0 by1 by2 byF kby nerq neqr nerx nexr nery neyr neqx nexq neqy neyq nexy neyx hd7
      obtain ⟨br0, br1, br2, br3, br4, br5, br6, br7, br8, br9, br10, br11, brF, kbr⟩ := BoxV.a12 hr_d7.out
      obtain ⟨bq0, bq1, bq2, bqF, kbq⟩ := BoxV.a3 hq_d7.out
      obtain ⟨bx0, bx1, bx2, bx3, bx4, bx5, bx6, bx7, bx8, bx9, bx10, bx11, bxF, kbx⟩ := BoxV.a12 hx_d7.out
      have ⟨nerq, neqr⟩ := ne2 (show w.heap.size ≠ w.heap.size + 1 by omega)
      have ⟨nerx, nexr⟩ := ne2 (show w.heap.size ≠ w2.heap.size by omega)
      have ⟨neqx, nexq⟩ := ne2 (show w.heap.size + 1 ≠ w2.heap.size by omega)
      have hy_d7 := hset1
      clear hset1 hy_d6
      have byF := hy_d7.out.fr
      have kby : Bq < d7.heap.size := hy_d7.out.lt
      have by0 := hy_d7.out.c 0 _ rfl
      have by1 := hy_d7.out.c 1 _ rfl
      have by2 := hy_d7.out.c 2 _ rfl
      have ⟨nery, neyr⟩ := ne2 (show w.heap.size ≠ Bq by omega)
      have ⟨neqy, neyq⟩ := ne2 (show w.heap.size + 1 ≠ Bq by omega)
      have ⟨nexy, neyx⟩ := ne2 (show w2.heap.size ≠ Bq by omega)
      go_wp2_with fail
      refine wp_region_flowC (fun b => b = (w.heap.size + 1 + 1) ∨ b = w.heap.size) 3 [(0, 1), (1, 1), (2, 0)] (by kernel_rfl) (by kernel_rfl) ?_
      (refine wpC_pure (v := ?_) rfl rfl (by rfl) ?_ ?_; rotate_left; (focus (intro ws hws; obtain ⟨q0, p0⟩ := hws.row (k := w2.heap.size) xpf xom; go_simp; (try with_reducible rfl); done)))
      try simp only [nrm, nrg]
      (refine wpC_pure (v := ?_) rfl rfl (by rfl) ?_ ?_; rotate_left; (focus (intro ws hws; obtain ⟨q0, p0⟩ := hws.row (k := Bq) xpf xom; go_simp; (try with_reducible rfl); done)))
      try simp only [nrm, nrg]
      (refine wpC_store ?_ rfl rfl (by rfl) ?_ ?_ ?_; rotate_left; (focus (go_simp; (try with_reducible rfl); done)))
      · exact Chg.undrew Chg.go
      try simp only [nrm, nrg]
      refine wpF_done rfl ?_
      simp only [List.drop_succ_cons, List.drop_zero, List.drop_nil]
      have hset := BoxV.set hr_d7.out [.int .i64 s.st, .int .i64 s.z, .int .i64 s.b, .int .i64 s.e, .slice a.r s.xs.length c1, .slice a.p s.p.length c2, .slice a.f s.f.length c3, .slice a.k s.k.length c4, .int .i64 s.fi, .int .i64 s.fk, .int .i64 s.se, .int .i64 s.co] rfl
      simp only [setFrom, Nat.zero_add, Nat.reduceAdd] at hset
      have hs1q := hide (hq_d7.out.chg hset.2 xom)
      have hs1x := hide (hx_d7.out.chg hset.2 xom)
      have hs1y := hide (hy_d7.out.chg hset.2 xom)
      have hs1r := hide hset.1
      have os1o := hide (OwnSnV.chg oo_d7.out hset.2 xap)
      have gs1 := hgwd7.trans (hset.2.mono (T := fun b => w.heap.size ≤ b) xsub)
      have ss1 := hset.2.size
      clear hset
      have hset := BoxV.set hs1q.out [.int .i64 (u9 - 1), .string d9, .bool q9] rfl
      simp only [setFrom, Nat.zero_add, Nat.reduceAdd] at hset
      have hs2r := hide (hs1r.out.chg hset.2 xom)
      have hs2x := hide (hs1x.out.chg hset.2 xom)
      have hs2y := hide (hs1y.out.chg hset.2 xom)
      have hs2q := hide hset.1
      have os2o := hide (OwnSnV.chg os1o.out hset.2 xap)
      have gs2 := gs1.trans (hset.2.mono (T := fun b => w.heap.size ≤ b) xsub)
      have ss2 := hset.2.size
      clear hset
      have hvr := hide (hs2r.out.ext ((Ext.refl _).drew))
      have hvq := hide (hs2q.out.ext ((Ext.refl _).drew))
      have hvx := hide (hs2x.out.ext ((Ext.refl _).drew))
      have hvy := hide (hs2y.out.ext ((Ext.refl _).drew))
      have ovo := hide (OwnSnV.chg (S := fun _ => False) os2o.out (Chg.drew (Chg.refl _ _)) xap)
      have gv := gs2.trans (Chg.drew (Chg.refl _ _))
      go_wp2
      obtain ⟨wf, hwf⟩ : ∃ u, u = (((((((((((((((d7.setCell ⟨w.heap.size, 0, none⟩ (.int .i64 s.st)).setCell ⟨w.heap.size, 1, none⟩ (.int .i64 s.z)).setCell ⟨w.heap.size, 2, none⟩ (.int .i64 s.b)).setCell ⟨w.heap.size, 3, none⟩ (.int .i64 s.e)).setCell ⟨w.heap.size, 4, none⟩ (.slice a.r s.xs.length c1)).setCell ⟨w.heap.size, 5, none⟩ (.slice a.p s.p.length c2)).setCell ⟨w.heap.size, 6, none⟩ (.slice a.f s.f.length c3)).setCell ⟨w.heap.size, 7, none⟩ (.slice a.k s.k.length c4)).setCell ⟨w.heap.size, 8, none⟩ (.int .i64 s.fi)).setCell ⟨w.heap.size, 9, none⟩ (.int .i64 s.fk)).setCell ⟨w.heap.size, 10, none⟩ (.int .i64 s.se)).setCell ⟨w.heap.size, 11, none⟩ (.int .i64 s.co)).setCell ⟨w.heap.size + 1, 0, none⟩ (.int .i64 (u9 - 1))).setCell ⟨w.heap.size + 1, 1, none⟩ (.string d9)).setCell ⟨w.heap.size + 1, 2, none⟩ (.bool q9)).drew := ⟨_, rfl⟩
      rw [← hwf]
      rw [← hwf] at hvr hvq ovo gv
      have hzf : d7.heap.size ≤ wf.heap.size := by rw [hwf]; simp
      clear hwf
      clear br0 br1 br2 br3 br4 br5 br6 br7 br8 br9 br10 br11 brF kbr bq0 bq1 bq2 bqF kbq bx0 bx1 bx2 bx3 bx4 bx5 bx6 bx7 bx8 bx9 bx10 bx11 bxF kbx nerq neqr nerx nexr neqx nexq byF kby by0 by1 by2 nery neyr neqy neyq nexy neyx
      have er0 := hvr.out.c 0 _ rfl
      have er1 := hvr.out.c 1 _ rfl
      have er2 := hvr.out.c 2 _ rfl
      have er3 := hvr.out.c 3 _ rfl
      have er4 := hvr.out.c 4 _ rfl
      have er5 := hvr.out.c 5 _ rfl
      have er6 := hvr.out.c 6 _ rfl
      have er7 := hvr.out.c 7 _ rfl
      have er8 := hvr.out.c 8 _ rfl
      have er9 := hvr.out.c 9 _ rfl
      have er10 := hvr.out.c 10 _ rfl
      have er11 := hvr.out.c 11 _ rfl
      have eq0 := hvq.out.c 0 _ rfl
      have eq1 := hvq.out.c 1 _ rfl
      have eq2 := hvq.out.c 2 _ rfl
      refine bodyPost_ret (v := .tuple #[.agg #[.int .i64 s.st, .int .i64 s.z, .int .i64 s.b, .int .i64 s.e, .slice a.r s.xs.length c1, .slice a.p s.p.length c2, .slice a.f s.f.length c3, .slice a.k s.k.length c4, .int .i64 s.fi, .int .i64 s.fk, .int .i64 s.se, .int .i64 s.co], .agg #[.int .i64 (u9 - 1), .string d9, .bool q9]]) (by simp [results, Try.results48, go_sem, *]) rfl ⟨s, a, c1, c2, c3, c4, (u9 - 1), d9, q9, rfl, hok.out, ⟨by omega, by omega⟩, (by omega), ?_, ?_⟩
      · exact OwnSnV.read ovo.out
      · exact gv.ext (fun b h1 h2 => by (try dsimp only at h2); omega)
    · skip
      go_wp2_with fail
      refine (l1Once_any (w.heap.size + 1 + 1) code 4 _ (kcu.stays (S := fun b => False) Chg.go (fun b h => xom))).mono ?_
      rintro en d4 ⟨q8, rfl, hcud4, hd4⟩
      have gd4 : Chg (fun b => b = (w.heap.size + 1 + 1)) wx d4 := Chg.trans Chg.go (Chg.mono (T := fun b => b = (w.heap.size + 1 + 1)) hd4 xsub)
      have zd4 := hd4.size
      (try simp at zd4)
      have yd4 : wx.heap.size ≤ d4.heap.size := gd4.size
      have hr_d4 := hide (hBr.out.chg gd4 xom)
      have hq_d4 := hide (hBq.out.chg gd4 xom)
      have hx_d4 := hide (hBx.out.chg gd4 xom)
      have hy_d4 := hide (hBy.out.chg gd4 xom)
      have oo_d4 := hide (OwnSnV.chg kown.out gd4 xap)
      have hgwd4 : Chg (fun b => w.heap.size ≤ b) w d4 := Chg.trans kgw (Chg.mono (T := fun b => w.heap.size ≤ b) gd4 xsub)
      clear hBr hBq hBx hBy kown kgw kcu br0 br1 br2 br3 br4 br5 br6 br7 br8 br9 br10 br11 brF kbr bq0 bq1 bq2 bqF kbq bx0 bx1 bx2 bx3 bx4 bx5 bx6 bx7 bx8 bx9 bx10 bx11 bxF kbx by0 by1 by2 byF kby nerq neqr nerx nexr nery neyr neqx nexq neqy neyq nexy neyx
      clear gd4 hd4
      obtain ⟨br0, br1, br2, br3, br4, br5, br6, br7, br8, br9, br10, br11, brF, kbr⟩ := BoxV.a12 hr_d4.out
      obtain ⟨bq0, bq1, bq2, bqF, kbq⟩ := BoxV.a3 hq_d4.out
      obtain ⟨bx0, bx1, bx2, bx3, bx4, bx5, bx6, bx7, bx8, bx9, bx10, bx11, bxF, kbx⟩ := BoxV.a12 hx_d4.out
      obtain ⟨by0, by1, by2, byF, kby⟩ := BoxV.a3 hy_d4.out
      have ⟨nerq, neqr⟩ := ne2 (show w.heap.size ≠ w.heap.size + 1 by omega)
      have ⟨nerx, nexr⟩ := ne2 (show w.heap.size ≠ w2.heap.size by omega)
      have ⟨nery, neyr⟩ := ne2 (show w.heap.size ≠ Bq by omega)
      have ⟨neqx, nexq⟩ := ne2 (show w.heap.size + 1 ≠ w2.heap.size by omega)
      have ⟨neqy, neyq⟩ := ne2 (show w.heap.size + 1 ≠ Bq by omega)
      have ⟨nexy, neyx⟩ := ne2 (show w2.heap.size ≠ Bq by omega)
      cases q8
      · skip
        go_wp2_with fail
        refine wp_region_flowC (fun b => b = (w.heap.size + 1 + 1) ∨ b = w.heap.size) 3 [(0, 1), (1, 1), (2, 0)] (by kernel_rfl) (by kernel_rfl) ?_
        (refine wpC_pure (v := ?_) rfl rfl (by rfl) ?_ ?_; rotate_left; (focus (intro ws hws; obtain ⟨q0, p0⟩ := hws.row (k := w2.heap.size) xpf xom; go_simp; (try with_reducible rfl); done)))
        try simp only [nrm, nrg]
        (refine wpC_pure (v := ?_) rfl rfl (by rfl) ?_ ?_; rotate_left; (focus (intro ws hws; obtain ⟨q0, p0⟩ := hws.row (k := Bq) xpf xom; go_simp; (try with_reducible rfl); done)))
        try simp only [nrm, nrg]
        (refine wpC_store ?_ rfl rfl (by rfl) ?_ ?_ ?_; rotate_left; (focus (go_simp; (try with_reducible rfl); done)))
        · exact Chg.undrew Chg.go
        try simp only [nrm, nrg]
        refine wpF_done rfl ?_
        simp only [List.drop_succ_cons, List.drop_zero, List.drop_nil]
        have hset := BoxV.set hr_d4.out [.int .i64 s.st, .int .i64 s.z, .int .i64 s.b, .int .i64 s.e, .slice a.r s.xs.length c1, .slice a.p s.p.length c2, .slice a.f s.f.length c3, .slice a.k s.k.length c4, .int .i64 s.fi, .int .i64 s.fk, .int .i64 s.se, .int .i64 s.co] rfl
        simp only [setFrom, Nat.zero_add, Nat.reduceAdd] at hset
        have hs1q := hide (hq_d4.out.chg hset.2 xom)
        have hs1x := hide (hx_d4.out.chg hset.2 xom)
        have hs1y := hide (hy_d4.out.chg hset.2 xom)
        have hs1r := hide hset.1
        have os1o := hide (OwnSnV.chg oo_d4.out hset.2 xap)
        have gs1 := hgwd4.trans (hset.2.mono (T := fun b => w.heap.size ≤ b) xsub)
        have ss1 := hset.2.size
        clear hset
        have hset := BoxV.set hs1q.out [.int .i64 o, .string d, .bool fin] rfl
        simp only [setFrom, Nat.zero_add, Nat.reduceAdd] at hset
        have hs2r := hide (hs1r.out.chg hset.2 xom)
        have hs2x := hide (hs1x.out.chg hset.2 xom)
        have hs2y := hide (hs1y.out.chg hset.2 xom)
        have hs2q := hide hset.1
        have os2o := hide (OwnSnV.chg os1o.out hset.2 xap)
        have gs2 := gs1.trans (hset.2.mono (T := fun b => w.heap.size ≤ b) xsub)
        have ss2 := hset.2.size
        clear hset
        have hvr := hide (hs2r.out.ext ((Ext.refl _).drew))
        have hvq := hide (hs2q.out.ext ((Ext.refl _).drew))
        have hvx := hide (hs2x.out.ext ((Ext.refl _).drew))
        have hvy := hide (hs2y.out.ext ((Ext.refl _).drew))
        have ovo := hide (OwnSnV.chg (S := fun _ => False) os2o.out (Chg.drew (Chg.refl _ _)) xap)
        have gv := gs2.trans (Chg.drew (Chg.refl _ _))
        go_wp2
        obtain ⟨wf, hwf⟩ : ∃ u, u = (((((((((((((((d4.setCell ⟨w.heap.size, 0, none⟩ (.int .i64 s.st)).setCell ⟨w.heap.size, 1, none⟩ (.int .i64 s.z)).setCell ⟨w.heap.size, 2, none⟩ (.int .i64 s.b)).setCell ⟨w.heap.size, 3, none⟩ (.int .i64 s.e)).setCell ⟨w.heap.size, 4, none⟩ (.slice a.r s.xs.length c1)).setCell ⟨w.heap.size, 5, none⟩ (.slice a.p s.p.length c2)).setCell ⟨w.heap.size, 6, none⟩ (.slice a.f s.f.length c3)).setCell ⟨w.heap.size, 7, none⟩ (.slice a.k s.k.length c4)).setCell ⟨w.heap.size, 8, none⟩ (.int .i64 s.fi)).setCell ⟨w.heap.size, 9, none⟩ (.int .i64 s.fk)).setCell ⟨w.heap.size, 10, none⟩ (.int .i64 s.se)).setCell ⟨w.heap.size, 11, none⟩ (.int .i64 s.co)).setCell ⟨w.heap.size + 1, 0, none⟩ (.int .i64 o)).setCell ⟨w.heap.size + 1, 1, none⟩ (.string d)).setCell ⟨w.heap.size + 1, 2, none⟩ (.bool fin)).drew := ⟨_, rfl⟩
        rw [← hwf]
        rw [← hwf] at hvr hvq ovo gv
        have hzf : d4.heap.size ≤ wf.heap.size := by rw [hwf]; simp
        clear hwf
        clear br0 br1 br2 br3 br4 br5 br6 br7 br8 br9 br10 br11 brF kbr bq0 bq1 bq2 bqF kbq bx0 bx1 bx2 bx3 bx4 bx5 bx6 bx7 bx8 bx9 bx10 bx11 bxF kbx by0 by1 by2 byF kby nerq neqr nerx nexr nery neyr neqx nexq neqy neyq nexy neyx
        have er0 := hvr.out.c 0 _ rfl
        have er1 := hvr.out.c 1 _ rfl
        have er2 := hvr.out.c 2 _ rfl
        have er3 := hvr.out.c 3 _ rfl
        have er4 := hvr.out.c 4 _ rfl
        have er5 := hvr.out.c 5 _ rfl
        have er6 := hvr.out.c 6 _ rfl
        have er7 := hvr.out.c 7 _ rfl
        have er8 := hvr.out.c 8 _ rfl
        have er9 := hvr.out.c 9 _ rfl
        have er10 := hvr.out.c 10 _ rfl
        have er11 := hvr.out.c 11 _ rfl
        have eq0 := hvq.out.c 0 _ rfl
        have eq1 := hvq.out.c 1 _ rfl
        have eq2 := hvq.out.c 2 _ rfl
        refine bodyPost_ret (v := .tuple #[.agg #[.int .i64 s.st, .int .i64 s.z, .int .i64 s.b, .int .i64 s.e, .slice a.r s.xs.length c1, .slice a.p s.p.length c2, .slice a.f s.f.length c3, .slice a.k s.k.length c4, .int .i64 s.fi, .int .i64 s.fk, .int .i64 s.se, .int .i64 s.co], .agg #[.int .i64 o, .string d, .bool fin]]) (by simp [results, Try.results48, go_sem, *]) rfl ⟨s, a, c1, c2, c3, c4, o, d, fin, rfl, hok.out, ho1, hds, ?_, ?_⟩
        · exact OwnSnV.read ovo.out
        · exact gv.ext (fun b h1 h2 => by (try dsimp only at h2); omega)
      · skip
        go_wp2_with fail
        refine (l1Below_pos (w.heap.size + 1 + 1) code 12 _ (by omega) (hcud4.stays (S := fun b => False) Chg.go (fun b h => xom))).mono ?_
        rintro en d5 ⟨u9, rfl, ⟨u0, u1⟩, hcud5, hd5⟩
        have huw9 : IntKind.i64.wrap (u9 - 1) = u9 - 1 := IntWalk.i64_in _ (by omega)
        have gd5 : Chg (fun b => b = (w.heap.size + 1 + 1)) d4 d5 := Chg.trans Chg.go (Chg.mono (T := fun b => b = (w.heap.size + 1 + 1)) hd5 xsub)
        have zd5 := hd5.size
        (try simp at zd5)
        have yd5 : d4.heap.size ≤ d5.heap.size := gd5.size
        have hr_d5 := hide (hr_d4.out.chg gd5 xom)
        have hq_d5 := hide (hq_d4.out.chg gd5 xom)
        have hx_d5 := hide (hx_d4.out.chg gd5 xom)
        have hy_d5 := hide (hy_d4.out.chg gd5 xom)
        have oo_d5 := hide (OwnSnV.chg oo_d4.out gd5 xap)
        have hgwd5 : Chg (fun b => w.heap.size ≤ b) w d5 := Chg.trans hgwd4 (Chg.mono (T := fun b => w.heap.size ≤ b) gd5 xsub)
        clear hr_d4 hq_d4 hx_d4 hy_d4 oo_d4 hgwd4 hcud4 br0 br1 br2 br3 br4 br5 br6 br7 br8 br9 br10 br11 brF kbr bq0 bq1 bq2 bqF kbq bx0 bx1 bx2 bx3 bx4 bx5 bx6 bx7 bx8 bx9 bx10 bx11 bxF kbx by0 by1 by2 byF kby nerq neqr nerx nexr nery neyr neqx nexq neqy neyq nexy neyx
        clear gd5 hd5
        obtain ⟨br0, br1, br2, br3, br4, br5, br6, br7, br8, br9, br10, br11, brF, kbr⟩ := BoxV.a12 hr_d5.out
        obtain ⟨bq0, bq1, bq2, bqF, kbq⟩ := BoxV.a3 hq_d5.out
        obtain ⟨bx0, bx1, bx2, bx3, bx4, bx5, bx6, bx7, bx8, bx9, bx10, bx11, bxF, kbx⟩ := BoxV.a12 hx_d5.out
        obtain ⟨by0, by1, by2, byF, kby⟩ := BoxV.a3 hy_d5.out
        have ⟨nerq, neqr⟩ := ne2 (show w.heap.size ≠ w.heap.size + 1 by omega)
        have ⟨nerx, nexr⟩ := ne2 (show w.heap.size ≠ w2.heap.size by omega)
        have ⟨nery, neyr⟩ := ne2 (show w.heap.size ≠ Bq by omega)
        have ⟨neqx, nexq⟩ := ne2 (show w.heap.size + 1 ≠ w2.heap.size by omega)
        have ⟨neqy, neyq⟩ := ne2 (show w.heap.size + 1 ≠ Bq by omega)
        have ⟨nexy, neyx⟩ := ne2 (show w2.heap.size ≠ Bq by omega)
        go_wp2_with fail
        refine (l4Data_any (w.heap.size + 1 + 1) code 4 _ (hcud5.stays (S := fun b => False) Chg.go (fun b h => xom)) (by omega) (by omega)).mono ?_
        rintro en d6 ⟨d9, rfl, hd9, hcud6, hd6⟩
        have gd6 : Chg (fun b => b = (w.heap.size + 1 + 1)) d5 d6 := Chg.trans Chg.go (Chg.mono (T := fun b => b = (w.heap.size + 1 + 1)) hd6 xsub)
        have zd6 := hd6.size
        (try simp at zd6)
        have yd6 : d5.heap.size ≤ d6.heap.size := gd6.size
        have hr_d6 := hide (hr_d5.out.chg gd6 xom)
        have hq_d6 := hide (hq_d5.out.chg gd6 xom)
        have hx_d6 := hide (hx_d5.out.chg gd6 xom)
        have hy_d6 := hide (hy_d5.out.chg gd6 xom)
        have oo_d6 := hide (OwnSnV.chg oo_d5.out gd6 xap)
        have hgwd6 : Chg (fun b => w.heap.size ≤ b) w d6 := Chg.trans hgwd5 (Chg.mono (T := fun b => w.heap.size ≤ b) gd6 xsub)
        clear hr_d5 hq_d5 hx_d5 hy_d5 oo_d5 hgwd5 hcud5 br0 br1 br2 br3 br4 br5 br6 br7 br8 br9 br10 br11 brF kbr bq0 bq1 bq2 bqF kbq bx0 bx1 bx2 bx3 bx4 bx5 bx6 bx7 bx8 bx9 bx10 bx11 bxF kbx by0 by1 by2 byF kby nerq neqr nerx nexr nery neyr neqx nexq neqy neyq nexy neyx
        clear gd6 hd6
        obtain ⟨br0, br1, br2, br3, br4, br5, br6, br7, br8, br9, br10, br11, brF, kbr⟩ := BoxV.a12 hr_d6.out
        obtain ⟨bq0, bq1, bq2, bqF, kbq⟩ := BoxV.a3 hq_d6.out
        obtain ⟨bx0, bx1, bx2, bx3, bx4, bx5, bx6, bx7, bx8, bx9, bx10, bx11, bxF, kbx⟩ := BoxV.a12 hx_d6.out
        obtain ⟨by0, by1, by2, byF, kby⟩ := BoxV.a3 hy_d6.out
        have ⟨nerq, neqr⟩ := ne2 (show w.heap.size ≠ w.heap.size + 1 by omega)
        have ⟨nerx, nexr⟩ := ne2 (show w.heap.size ≠ w2.heap.size by omega)
        have ⟨nery, neyr⟩ := ne2 (show w.heap.size ≠ Bq by omega)
        have ⟨neqx, nexq⟩ := ne2 (show w.heap.size + 1 ≠ w2.heap.size by omega)
        have ⟨neqy, neyq⟩ := ne2 (show w.heap.size + 1 ≠ Bq by omega)
        have ⟨nexy, neyx⟩ := ne2 (show w2.heap.size ≠ Bq by omega)
        go_wp2_with fail
        refine (l1Once_any (w.heap.size + 1 + 1) code 3 _ (hcud6.stays (S := fun b => False) Chg.go (fun b h => xom))).mono ?_
        rintro en d7 ⟨q9, rfl, hcud7, hd7⟩
        have gd7 : Chg (fun b => b = (w.heap.size + 1 + 1)) d6 d7 := Chg.trans Chg.go (Chg.mono (T := fun b => b = (w.heap.size + 1 + 1)) hd7 xsub)
        have zd7 := hd7.size
        (try simp at zd7)
        have yd7 : d6.heap.size ≤ d7.heap.size := gd7.size
        have hr_d7 := hide (hr_d6.out.chg gd7 xom)
        have hq_d7 := hide (hq_d6.out.chg gd7 xom)
        have hx_d7 := hide (hx_d6.out.chg gd7 xom)
        have hy_d7 := hide (hy_d6.out.chg gd7 xom)
        have oo_d7 := hide (OwnSnV.chg oo_d6.out gd7 xap)
        have hgwd7 : Chg (fun b => w.heap.size ≤ b) w d7 := Chg.trans hgwd6 (Chg.mono (T := fun b => w.heap.size ≤ b) gd7 xsub)
        clear hr_d6 hq_d6 hx_d6 hy_d6 oo_d6 hgwd6 hcud6 br0 br1 br2 br3 br4 br5 br6 br7 br8 br9 br10 br11 brF kbr bq0 bq1 bq2 bqF kbq bx0 bx1 bx2 bx3 bx4 bx5 bx6 bx7 bx8 bx9 bx10 bx11 bxF kbx by0 by1 by2 byF kby nerq neqr nerx nexr nery neyr neqx nexq neqy neyq nexy neyx
        clear gd7 hd7
        obtain ⟨br0, br1, br2, br3, br4, br5, br6, br7, br8, br9, br10, br11, brF, kbr⟩ := BoxV.a12 hr_d7.out
        obtain ⟨bq0, bq1, bq2, bqF, kbq⟩ := BoxV.a3 hq_d7.out
        obtain ⟨bx0, bx1, bx2, bx3, bx4, bx5, bx6, bx7, bx8, bx9, bx10, bx11, bxF, kbx⟩ := BoxV.a12 hx_d7.out
        obtain ⟨by0, by1, by2, byF, kby⟩ := BoxV.a3 hy_d7.out
        have ⟨nerq, neqr⟩ := ne2 (show w.heap.size ≠ w.heap.size + 1 by omega)
        have ⟨nerx, nexr⟩ := ne2 (show w.heap.size ≠ w2.heap.size by omega)
        have ⟨nery, neyr⟩ := ne2 (show w.heap.size ≠ Bq by omega)
        have ⟨neqx, nexq⟩ := ne2 (show w.heap.size + 1 ≠ w2.heap.size by omega)
        have ⟨neqy, neyq⟩ := ne2 (show w.heap.size + 1 ≠ Bq by omega)
        have ⟨nexy, neyx⟩ := ne2 (show w2.heap.size ≠ Bq by omega)
        go_upto_region 6 with fail
        have hset := BoxV.set hy_d7.out [.int .i64 (u9 - 1), .string d9, .bool q9] rfl
        simp only [setFrom, Nat.zero_add, Nat.reduceAdd] at hset
        obtain ⟨d8, h0d8⟩ : ∃ u, u = (((d7.setCell ⟨Bq, 0, none⟩ (.int .i64 (u9 - 1))).setCell ⟨Bq, 1, none⟩ (.string d9)).setCell ⟨Bq, 2, none⟩ (.bool q9)) := ⟨_, rfl⟩
        rw [← h0d8] at hset
        obtain ⟨hset1, hd8⟩ := hset
        replace hset1 := hide hset1
        rw [← h0d8]
        clear h0d8
        have zd8 := hd8.size
        have hr_d8 := hide (hr_d7.out.chg hd8 xom)
        have hq_d8 := hide (hq_d7.out.chg hd8 xom)
        have hx_d8 := hide (hx_d7.out.chg hd8 xom)
        have oo_d8 := hide (OwnSnV.chg oo_d7.out hd8 xap)
        have hgwd8 : Chg (fun b => w.heap.size ≤ b) w d8 := Chg.trans hgwd7 (Chg.mono (T := fun b => w.heap.size ≤ b) hd8 xsub)
        have hcud8 := hcud7.stays hd8 (fun b h => xom)
        clear hr_d7 hq_d7 hx_d7 oo_d7 hgwd7 hcud7 br0 br1 br2 br3 br4 br5 br6 br7 br8 br9 br10 br11 brF kbr bq0 bq1 bq2 bqF kbq bx0 bx1 bx2 bx3 bx4 bx5 bx6 bx7 bx8 bx9 bx10 bx11 bxF kbx by0 by1 by2 byF kby nerq neqr nerx nexr nery neyr neqx nexq neqy neyq nexy neyx hd8
        obtain ⟨br0, br1, br2, br3, br4, br5, br6, br7, br8, br9, br10, br11, brF, kbr⟩ := BoxV.a12 hr_d8.out
        obtain ⟨bq0, bq1, bq2, bqF, kbq⟩ := BoxV.a3 hq_d8.out
        obtain ⟨bx0, bx1, bx2, bx3, bx4, bx5, bx6, bx7, bx8, bx9, bx10, bx11, bxF, kbx⟩ := BoxV.a12 hx_d8.out
        have ⟨nerq, neqr⟩ := ne2 (show w.heap.size ≠ w.heap.size + 1 by omega)
        have ⟨nerx, nexr⟩ := ne2 (show w.heap.size ≠ w2.heap.size by omega)
        have ⟨neqx, nexq⟩ := ne2 (show w.heap.size + 1 ≠ w2.heap.size by omega)
        have hy_d8 := hset1
        clear hset1 hy_d7
        have byF := hy_d8.out.fr
        have kby : Bq < d8.heap.size := hy_d8.out.lt
        have by0 := hy_d8.out.c 0 _ rfl
        have by1 := hy_d8.out.c 1 _ rfl
        have by2 := hy_d8.out.c 2 _ rfl
        have ⟨nery, neyr⟩ := ne2 (show w.heap.size ≠ Bq by omega)
        have ⟨neqy, neyq⟩ := ne2 (show w.heap.size + 1 ≠ Bq by omega)
        have ⟨nexy, neyx⟩ := ne2 (show w2.heap.size ≠ Bq by omega)
        go_wp2_with fail
        refine wp_region_flowC (fun b => b = (w.heap.size + 1 + 1) ∨ b = w.heap.size) 3 [(0, 1), (1, 1), (2, 0)] (by kernel_rfl) (by kernel_rfl) ?_
        (refine wpC_pure (v := ?_) rfl rfl (by rfl) ?_ ?_; rotate_left; (focus (intro ws hws; obtain ⟨q0, p0⟩ := hws.row (k := w2.heap.size) xpf xom; go_simp; (try with_reducible rfl); done)))
        try simp only [nrm, nrg]
        (refine wpC_pure (v := ?_) rfl rfl (by rfl) ?_ ?_; rotate_left; (focus (intro ws hws; obtain ⟨q0, p0⟩ := hws.row (k := Bq) xpf xom; go_simp; (try with_reducible rfl); done)))
        try simp only [nrm, nrg]
        (refine wpC_store ?_ rfl rfl (by rfl) ?_ ?_ ?_; rotate_left; (focus (go_simp; (try with_reducible rfl); done)))
        · exact Chg.undrew Chg.go
        try simp only [nrm, nrg]
        refine wpF_done rfl ?_
        simp only [List.drop_succ_cons, List.drop_zero, List.drop_nil]
        have hset := BoxV.set hr_d8.out [.int .i64 s.st, .int .i64 s.z, .int .i64 s.b, .int .i64 s.e, .slice a.r s.xs.length c1, .slice a.p s.p.length c2, .slice a.f s.f.length c3, .slice a.k s.k.length c4, .int .i64 s.fi, .int .i64 s.fk, .int .i64 s.se, .int .i64 s.co] rfl
        simp only [setFrom, Nat.zero_add, Nat.reduceAdd] at hset
        have hs1q := hide (hq_d8.out.chg hset.2 xom)
        have hs1x := hide (hx_d8.out.chg hset.2 xom)
        have hs1y := hide (hy_d8.out.chg hset.2 xom)
        have hs1r := hide hset.1
        have os1o := hide (OwnSnV.chg oo_d8.out hset.2 xap)
        have gs1 := hgwd8.trans (hset.2.mono (T := fun b => w.heap.size ≤ b) xsub)
        have ss1 := hset.2.size
        clear hset
        have hset := BoxV.set hs1q.out [.int .i64 (u9 - 1), .string d9, .bool q9] rfl
        simp only [setFrom, Nat.zero_add, Nat.reduceAdd] at hset
        have hs2r := hide (hs1r.out.chg hset.2 xom)
        have hs2x := hide (hs1x.out.chg hset.2 xom)
        have hs2y := hide (hs1y.out.chg hset.2 xom)
        have hs2q := hide hset.1
        have os2o := hide (OwnSnV.chg os1o.out hset.2 xap)
        have gs2 := gs1.trans (hset.2.mono (T := fun b => w.heap.size ≤ b) xsub)
        have ss2 := hset.2.size
        clear hset
        have hvr := hide (hs2r.out.ext ((Ext.refl _).drew))
        have hvq := hide (hs2q.out.ext ((Ext.refl _).drew))
        have hvx := hide (hs2x.out.ext ((Ext.refl _).drew))
        have hvy := hide (hs2y.out.ext ((Ext.refl _).drew))
        have ovo := hide (OwnSnV.chg (S := fun _ => False) os2o.out (Chg.drew (Chg.refl _ _)) xap)
        have gv := gs2.trans (Chg.drew (Chg.refl _ _))
        go_wp2
        obtain ⟨wf, hwf⟩ : ∃ u, u = (((((((((((((((d8.setCell ⟨w.heap.size, 0, none⟩ (.int .i64 s.st)).setCell ⟨w.heap.size, 1, none⟩ (.int .i64 s.z)).setCell ⟨w.heap.size, 2, none⟩ (.int .i64 s.b)).setCell ⟨w.heap.size, 3, none⟩ (.int .i64 s.e)).setCell ⟨w.heap.size, 4, none⟩ (.slice a.r s.xs.length c1)).setCell ⟨w.heap.size, 5, none⟩ (.slice a.p s.p.length c2)).setCell ⟨w.heap.size, 6, none⟩ (.slice a.f s.f.length c3)).setCell ⟨w.heap.size, 7, none⟩ (.slice a.k s.k.length c4)).setCell ⟨w.heap.size, 8, none⟩ (.int .i64 s.fi)).setCell ⟨w.heap.size, 9, none⟩ (.int .i64 s.fk)).setCell ⟨w.heap.size, 10, none⟩ (.int .i64 s.se)).setCell ⟨w.heap.size, 11, none⟩ (.int .i64 s.co)).setCell ⟨w.heap.size + 1, 0, none⟩ (.int .i64 (u9 - 1))).setCell ⟨w.heap.size + 1, 1, none⟩ (.string d9)).setCell ⟨w.heap.size + 1, 2, none⟩ (.bool q9)).drew := ⟨_, rfl⟩
        rw [← hwf]
        rw [← hwf] at hvr hvq ovo gv
        have hzf : d8.heap.size ≤ wf.heap.size := by rw [hwf]; simp
        clear hwf
        clear br0 br1 br2 br3 br4 br5 br6 br7 br8 br9 br10 br11 brF kbr bq0 bq1 bq2 bqF kbq bx0 bx1 bx2 bx3 bx4 bx5 bx6 bx7 bx8 bx9 bx10 bx11 bxF kbx nerq neqr nerx nexr neqx nexq byF kby by0 by1 by2 nery neyr neqy neyq nexy neyx
        have er0 := hvr.out.c 0 _ rfl
        have er1 := hvr.out.c 1 _ rfl
        have er2 := hvr.out.c 2 _ rfl
        have er3 := hvr.out.c 3 _ rfl
        have er4 := hvr.out.c 4 _ rfl
        have er5 := hvr.out.c 5 _ rfl
        have er6 := hvr.out.c 6 _ rfl
        have er7 := hvr.out.c 7 _ rfl
        have er8 := hvr.out.c 8 _ rfl
        have er9 := hvr.out.c 9 _ rfl
        have er10 := hvr.out.c 10 _ rfl
        have er11 := hvr.out.c 11 _ rfl
        have eq0 := hvq.out.c 0 _ rfl
        have eq1 := hvq.out.c 1 _ rfl
        have eq2 := hvq.out.c 2 _ rfl
        refine bodyPost_ret (v := .tuple #[.agg #[.int .i64 s.st, .int .i64 s.z, .int .i64 s.b, .int .i64 s.e, .slice a.r s.xs.length c1, .slice a.p s.p.length c2, .slice a.f s.f.length c3, .slice a.k s.k.length c4, .int .i64 s.fi, .int .i64 s.fk, .int .i64 s.se, .int .i64 s.co], .agg #[.int .i64 (u9 - 1), .string d9, .bool q9]]) (by simp [results, Try.results48, go_sem, *]) rfl ⟨s, a, c1, c2, c3, c4, (u9 - 1), d9, q9, rfl, hok.out, ⟨by omega, by omega⟩, (by omega), ?_, ?_⟩
        · exact OwnSnV.read ovo.out
        · exact gv.ext (fun b h1 h2 => by (try dsimp only at h2); omega)
end
end Go.Proofs.Ytjhgcbchdnoleaa

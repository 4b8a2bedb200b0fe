/-
  Part of the proof: SnK.
-/
import Derived.Test.YtjhgcbchdnoleaaPG9
import Derived.Test.YtjhgcbchdnoleaaPRgC
namespace Go.Proofs.Ytjhgcbchdnoleaa
section
open Go.ChangeShapes Go.WideShapes Go.ChangeAt Go.RowKit
set_option linter.unusedSimpArgs false
set_option linter.unusedVariables false
set_option maxHeartbeats 8000000 in
set_option maxRecDepth 100000 in
theorem AckPiece_spec (s : Sn) (a : Ads) (c1 c2 c3 c4 : Nat) (o : Int) (d : ByteArray) (fin : Bool) (w : World) (hx : ReadSnd w a ⟨s.xs, s.p, s.f, s.k⟩) (hl : s.xs.length ≤ 1048576) (hsum : s.p.length + s.f.length + s.k.length ≤ 1048576) (ho : -1000000 ≤ o ∧ o ≤ 1000000) (hds : (d.size : Int) ≤ 1000000) (he : -1 ≤ s.e ∧ s.e ≤ 1000) (hV : actV (sndS s) s = true → Vld s) :
    Calls Try.prog 38 #[.agg #[.int .i64 s.st, .int .i64 s.z, .int .i64 s.b, .int .i64 s.e, .slice a.r s.xs.length c1, .slice a.p s.p.length c2, .slice a.f s.f.length c3, .slice a.k s.k.length c4, .int .i64 s.fi, .int .i64 s.fk, .int .i64 s.se, .int .i64 s.co], .agg #[.int .i64 o, .string d, .bool fin]] w (NewSn (akX (sndS s) s o d fin) w) := by
  have hde := str_empty d
  have hwh : IntKind.i64.wrap (o + (d.size : Int)) = o + (d.size : Int) := IntWalk.i64_in _ (by omega)
  obtain ⟨st, z, b, e, xs, p, f, k, fi, fk, se, co⟩ := s
  obtain ⟨ar, ap, af, ak⟩ := a
  dsimp only at *
  have hx' := hide hx
  clear hx
  generalize hv : sndS ⟨st, z, b, e, xs, p, f, k, fi, fk, se, co⟩ = v at *
  replace hv := hide hv
  replace hV := hide hV
  skip
  go_enter Try.func38, Try.ntmps38
  have hgw0 : Chg (fun b => w.heap.size ≤ b) w w := Chg.refl _ _
  go_wp2_with fail
  refine (l9Copy_any ⟨st, z, b, e, xs, p, f, k, fi, fk, se, co⟩ ⟨ar, ap, af, ak⟩ c1 c2 c3 c4 _ (hx'.out.ext (Chg.ext (S := fun b => w.heap.size ≤ b) (Chg.trans hgw0 (Chg.mono (S := fun b => False) (T := fun b => w.heap.size ≤ b) Chg.go xsub)) (fun b h1 h2 => by (try dsimp only at h2); omega))) hl (by (try dsimp only); omega)).mono ?_
  rintro en w1 ⟨d1, d2, d3, d4, cd1, cd2, cd3, cd4, rfl, ownd, hw1⟩
  have gw1 : Chg (fun b => False) w w1 := Chg.trans Chg.go (Ext.chg hw1 _)
  have zw1 := hw1.size
  (try simp at zw1)
  have yw1 : w.heap.size ≤ w1.heap.size := gw1.size
  have hs_w1 := hide (BoxV.chg (BoxV.new w [.int .i64 st, .int .i64 z, .int .i64 b, .int .i64 e, .slice ar xs.length c1, .slice ap p.length c2, .slice af f.length c3, .slice ak k.length c4, .int .i64 fi, .int .i64 fk, .int .i64 se, .int .i64 co] 32) (S := fun b => False) (Chg.trans Chg.go (Ext.chg hw1 _)) xom)
  have hp_w1 := hide (BoxV.chg (show BoxV (w.heap.size + 1) _ [.int .i64 o, .string d, .bool fin] from by have h := (BoxV.new (w.alloc (.cells #[.int .i64 st, .int .i64 z, .int .i64 b, .int .i64 e, .slice ar xs.length c1, .slice ap p.length c2, .slice af f.length c3, .slice ak k.length c4, .int .i64 fi, .int .i64 fk, .int .i64 se, .int .i64 co] 32)) [.int .i64 o, .string d, .bool fin] 55); simpa only [World.size_alloc, World.size_drew] using h) (S := fun b => False) (Chg.trans Chg.go (Ext.chg hw1 _)) xom)
  have hr_w1 := hide (BoxV.chg (show BoxV (w.heap.size + 1 + 1) _ [.int .i64 0, .int .i64 0, .int .i64 0, .int .i64 0, .slice none 0 0, .slice none 0 0, .slice none 0 0, .slice none 0 0, .int .i64 0, .int .i64 0, .int .i64 0, .int .i64 0] from by have h := (BoxV.new ((w.alloc (.cells #[.int .i64 st, .int .i64 z, .int .i64 b, .int .i64 e, .slice ar xs.length c1, .slice ap p.length c2, .slice af f.length c3, .slice ak k.length c4, .int .i64 fi, .int .i64 fk, .int .i64 se, .int .i64 co] 32)).alloc (.cells #[.int .i64 o, .string d, .bool fin] 55)) [.int .i64 0, .int .i64 0, .int .i64 0, .int .i64 0, .slice none 0 0, .slice none 0 0, .slice none 0 0, .slice none 0 0, .int .i64 0, .int .i64 0, .int .i64 0, .int .i64 0] 32); simpa only [World.size_alloc, World.size_drew] using h) (S := fun b => False) (Chg.trans Chg.go (Ext.chg hw1 _)) xom)
  have hgww1 : Chg (fun b => w.heap.size ≤ b) w w1 := Chg.trans hgw0 (Chg.mono (T := fun b => w.heap.size ≤ b) gw1 xsub)
  clear hgw0
  clear gw1 hw1
  obtain ⟨bs0, bs1, bs2, bs3, bs4, bs5, bs6, bs7, bs8, bs9, bs10, bs11, bsF, kbs⟩ := BoxV.a12 hs_w1.out
  obtain ⟨bp0, bp1, bp2, bpF, kbp⟩ := BoxV.a3 hp_w1.out
  obtain ⟨br0, br1, br2, br3, br4, br5, br6, br7, br8, br9, br10, br11, brF, kbr⟩ := BoxV.a12 hr_w1.out
  have ⟨nesp, neps⟩ := ne2 (show w.heap.size ≠ w.heap.size + 1 by omega)
  have ⟨nesr, ners⟩ := ne2 (show w.heap.size ≠ w.heap.size + 1 + 1 by omega)
  have ⟨nepr, nerp⟩ := ne2 (show w.heap.size + 1 ≠ w.heap.size + 1 + 1 by omega)
  (try simp only [World.size_alloc, World.size_drew, World.size_setCell] at ownd)
  replace ownd := hide ownd
  go_wp2_with fail
  refine (IsSender_spec ⟨st, z, b, e, xs, p, f, k, fi, fk, se, co⟩ ⟨ar, ap, af, ak⟩ c1 c2 c3 c4 _ (hx'.out.ext (Chg.ext (S := fun b => w.heap.size ≤ b) (Chg.trans hgww1 (Chg.mono (S := fun b => False) (T := fun b => w.heap.size ≤ b) Chg.go xsub)) (fun b h1 h2 => by (try dsimp only at h2); omega))) hl (by (try dsimp only); omega) (by (try dsimp only); omega)).mono ?_
  rintro en w2 ⟨rfl, hw2⟩
  rw [hv.out]
  have gw2 : Chg (fun b => False) w1 w2 := Chg.trans Chg.go (Ext.chg hw2 _)
  have zw2 := hw2.size
  (try simp at zw2)
  have yw2 : w1.heap.size ≤ w2.heap.size := gw2.size
  have hs_w2 := hide (hs_w1.out.chg gw2 xom)
  have hp_w2 := hide (hp_w1.out.chg gw2 xom)
  have hr_w2 := hide (hr_w1.out.chg gw2 xom)
  have hx_w2 := hide (BoxV.chg (BoxV.new w1 [.int .i64 st, .int .i64 z, .int .i64 b, .int .i64 e, .slice d1 xs.length cd1, .slice d2 p.length cd2, .slice d3 f.length cd3, .slice d4 k.length cd4, .int .i64 fi, .int .i64 fk, .int .i64 se, .int .i64 co] 32) (S := fun b => False) (Chg.trans Chg.go (Ext.chg hw2 _)) xom)
  have ox_w2 := hide (OwnSnV.chg ownd.out gw2 xap)
  have hgww2 : Chg (fun b => w.heap.size ≤ b) w w2 := Chg.trans hgww1 (Chg.mono (T := fun b => w.heap.size ≤ b) gw2 xsub)
  clear hs_w1 hp_w1 hr_w1 ownd hgww1 bs0 bs1 bs2 bs3 bs4 bs5 bs6 bs7 bs8 bs9 bs10 bs11 bsF kbs bp0 bp1 bp2 bpF kbp br0 br1 br2 br3 br4 br5 br6 br7 br8 br9 br10 br11 brF kbr nesp neps nesr ners nepr nerp
  clear gw2 hw2
  obtain ⟨bs0, bs1, bs2, bs3, bs4, bs5, bs6, bs7, bs8, bs9, bs10, bs11, bsF, kbs⟩ := BoxV.a12 hs_w2.out
  obtain ⟨bp0, bp1, bp2, bpF, kbp⟩ := BoxV.a3 hp_w2.out
  obtain ⟨br0, br1, br2, br3, br4, br5, br6, br7, br8, br9, br10, br11, brF, kbr⟩ := BoxV.a12 hr_w2.out
  obtain ⟨bx0, bx1, bx2, bx3, bx4, bx5, bx6, bx7, bx8, bx9, bx10, bx11, bxF, kbx⟩ := BoxV.a12 hx_w2.out
  have ⟨nesp, neps⟩ := ne2 (show w.heap.size ≠ w.heap.size + 1 by omega)
  have ⟨nesr, ners⟩ := ne2 (show w.heap.size ≠ w.heap.size + 1 + 1 by omega)
  have ⟨nesx, nexs⟩ := ne2 (show w.heap.size ≠ w1.heap.size by omega)
  have ⟨nepr, nerp⟩ := ne2 (show w.heap.size + 1 ≠ w.heap.size + 1 + 1 by omega)
  have ⟨nepx, nexp⟩ := ne2 (show w.heap.size + 1 ≠ w1.heap.size by omega)
  have ⟨nerx, nexr⟩ := ne2 (show w.heap.size + 1 + 1 ≠ w1.heap.size by omega)
  rcases v with _ | _
  · skip
    go_wp2
    rw [akX_no (hear_v (act_no (by simp)))]
    refine bodyPost_ret (v := .agg #[.int .i64 st, .int .i64 z, .int .i64 b, .int .i64 e, .slice d1 xs.length cd1, .slice d2 p.length cd2, .slice d3 f.length cd3, .slice d4 k.length cd4, .int .i64 fi, .int .i64 fk, .int .i64 se, .int .i64 co]) (by simp [results, Try.results38, go_sem, *]) rfl ⟨d1, d2, d3, d4, cd1, cd2, cd3, cd4, rfl, ?_, ?_⟩
    · exact OwnSnV.mono (OwnSnV.chg (S := fun b => b = w.heap.size + 1 + 1) ox_w2.out Chg.go xap) xpf xpf
    · exact (Chg.ext (S := fun b => w.heap.size ≤ b) (Chg.trans hgww2 (Chg.mono (S := fun b => b = w.heap.size + 1 + 1) (T := fun b => w.heap.size ≤ b) Chg.go xsub)) (fun b h1 h2 => by (try dsimp only at h2); omega))
  by_cases h2 : st ≤ 2
  rotate_left
  · have h2e : decide (2 < st) = true := decide_eq_true (by omega)
    have hc := hear_v (o := o) (d := d) (fin := fin) (act_no (s := ⟨st, z, b, e, xs, p, f, k, fi, fk, se, co⟩) (v := true) (by dsimp only; omega))
    replace h2 := hide h2
    go_wp2
    rw [akX_no (hc)]
    refine bodyPost_ret (v := .agg #[.int .i64 st, .int .i64 z, .int .i64 b, .int .i64 e, .slice d1 xs.length cd1, .slice d2 p.length cd2, .slice d3 f.length cd3, .slice d4 k.length cd4, .int .i64 fi, .int .i64 fk, .int .i64 se, .int .i64 co]) (by simp [results, Try.results38, go_sem, *]) rfl ⟨d1, d2, d3, d4, cd1, cd2, cd3, cd4, rfl, ?_, ?_⟩
    · exact OwnSnV.mono (OwnSnV.chg (S := fun b => b = w.heap.size + 1 + 1) ox_w2.out Chg.go xap) xpf xpf
    · exact (Chg.ext (S := fun b => w.heap.size ≤ b) (Chg.trans hgww2 (Chg.mono (S := fun b => b = w.heap.size + 1 + 1) (T := fun b => w.heap.size ≤ b) Chg.go xsub)) (fun b h1 h2 => by (try dsimp only at h2); omega))
  have h2e : decide (2 < st) = false := decide_eq_false (by omega)
  have hact := hide (actV_iff.2 ⟨rfl, (sndS_st hv.out).1, h2⟩)
  go_wp2_with fail
  refine (l9Piece_any ⟨st, z, b, e, xs, p, f, k, fi, fk, se, co⟩ ⟨ar, ap, af, ak⟩ c1 c2 c3 c4 o d fin _ (by omega) (by (try dsimp only); omega) (by omega)).mono ?_
  rintro en w3 ⟨rfl, hw3⟩
  have gw3 : Chg (fun b => False) w2 w3 := Chg.trans Chg.go (Ext.chg hw3 _)
  have zw3 := hw3.size
  (try simp at zw3)
  have yw3 : w2.heap.size ≤ w3.heap.size := gw3.size
  have hs_w3 := hide (hs_w2.out.chg gw3 xom)
  have hp_w3 := hide (hp_w2.out.chg gw3 xom)
  have hr_w3 := hide (hr_w2.out.chg gw3 xom)
  have hx_w3 := hide (hx_w2.out.chg gw3 xom)
  have ox_w3 := hide (OwnSnV.chg ox_w2.out gw3 xap)
  have hgww3 : Chg (fun b => w.heap.size ≤ b) w w3 := Chg.trans hgww2 (Chg.mono (T := fun b => w.heap.size ≤ b) gw3 xsub)
  clear hs_w2 hp_w2 hr_w2 hx_w2 ox_w2 hgww2 bs0 bs1 bs2 bs3 bs4 bs5 bs6 bs7 bs8 bs9 bs10 bs11 bsF kbs bp0 bp1 bp2 bpF kbp br0 br1 br2 br3 br4 br5 br6 br7 br8 br9 br10 br11 brF kbr bx0 bx1 bx2 bx3 bx4 bx5 bx6 bx7 bx8 bx9 bx10 bx11 bxF kbx nesp neps nesr ners nesx nexs nepr nerp nepx nexp nerx nexr
  clear gw3 hw3
  obtain ⟨bs0, bs1, bs2, bs3, bs4, bs5, bs6, bs7, bs8, bs9, bs10, bs11, bsF, kbs⟩ := BoxV.a12 hs_w3.out
  obtain ⟨bp0, bp1, bp2, bpF, kbp⟩ := BoxV.a3 hp_w3.out
  obtain ⟨br0, br1, br2, br3, br4, br5, br6, br7, br8, br9, br10, br11, brF, kbr⟩ := BoxV.a12 hr_w3.out
  obtain ⟨bx0, bx1, bx2, bx3, bx4, bx5, bx6, bx7, bx8, bx9, bx10, bx11, bxF, kbx⟩ := BoxV.a12 hx_w3.out
  have ⟨nesp, neps⟩ := ne2 (show w.heap.size ≠ w.heap.size + 1 by omega)
  have ⟨nesr, ners⟩ := ne2 (show w.heap.size ≠ w.heap.size + 1 + 1 by omega)
  have ⟨nesx, nexs⟩ := ne2 (show w.heap.size ≠ w1.heap.size by omega)
  have ⟨nepr, nerp⟩ := ne2 (show w.heap.size + 1 ≠ w.heap.size + 1 + 1 by omega)
  have ⟨nepx, nexp⟩ := ne2 (show w.heap.size + 1 ≠ w1.heap.size by omega)
  have ⟨nerx, nexr⟩ := ne2 (show w.heap.size + 1 + 1 ≠ w1.heap.size by omega)
  rcases Bool.eq_false_or_eq_true (pieceIn ⟨st, z, b, e, xs, p, f, k, fi, fk, se, co⟩ o d.size fin) with hin | hin
  rotate_left
  · rw [hin]
    go_wp2
    rw [akX_no (hear_i hin)]
    refine bodyPost_ret (v := .agg #[.int .i64 st, .int .i64 z, .int .i64 b, .int .i64 e, .slice d1 xs.length cd1, .slice d2 p.length cd2, .slice d3 f.length cd3, .slice d4 k.length cd4, .int .i64 fi, .int .i64 fk, .int .i64 se, .int .i64 co]) (by simp [results, Try.results38, go_sem, *]) rfl ⟨d1, d2, d3, d4, cd1, cd2, cd3, cd4, rfl, ?_, ?_⟩
    · exact OwnSnV.mono (OwnSnV.chg (S := fun b => b = w.heap.size + 1 + 1) ox_w3.out Chg.go xap) xpf xpf
    · exact (Chg.ext (S := fun b => w.heap.size ≤ b) (Chg.trans hgww3 (Chg.mono (S := fun b => b = w.heap.size + 1 + 1) (T := fun b => w.heap.size ≤ b) Chg.go xsub)) (fun b h1 h2 => by (try dsimp only at h2); omega))
  rw [hin]
  obtain ⟨C, hC⟩ : ∃ C, Hid (hit f o d.size = C) := ⟨_, hide rfl⟩
  obtain ⟨LT, hLT⟩ : ∃ L, Hid (C.foldl addR k = L) := ⟨_, hide rfl⟩
  obtain ⟨LF, hLF⟩ : ∃ L, Hid (C.foldl remR f = L) := ⟨_, hide rfl⟩
  have hCl := comR_len f (o, o + (d.size : Int))
  rw [show comR f (o, o + (d.size : Int)) = C from hC.out] at hCl
  have hVl := hide (hV.out hact.out)
  have hpi := pieceIn_bd hin
  have hls := hVl.out.lens he.2
  dsimp only at hls hpi
  have hobx := hide (OwnSnB.of (B := w1.heap.size) (hi' := w3.heap.size) ox_w3.out (by omega) (by omega))
  clear ox_w3
  obtain ⟨q0, hq0⟩ : ∃ q, d.toList.isEmpty = q := ⟨_, rfl⟩
  have h0q := hide (hq0.symm.trans hde)
  clear hde
  go_upto_if 29 with fail
  go_cut [] (fun wx => ∃ (qt qf : Option Addr) (ct cf : Nat), BoxV (w.heap.size) wx [.int .i64 st, .int .i64 z, .int .i64 b, .int .i64 e, .slice ar xs.length c1, .slice ap p.length c2, .slice af f.length c3, .slice ak k.length c4, .int .i64 fi, .int .i64 fk, .int .i64 se, .int .i64 co] ∧ BoxV (w.heap.size + 1) wx [.int .i64 o, .string d, .bool fin] ∧ BoxV (w.heap.size + 1 + 1) wx [.int .i64 0, .int .i64 0, .int .i64 0, .int .i64 0, .slice none 0 0, .slice none 0 0, .slice none 0 0, .slice none 0 0, .int .i64 0, .int .i64 0, .int .i64 0, .int .i64 0] ∧ BoxV (w1.heap.size) wx [.int .i64 st, .int .i64 z, .int .i64 b, .int .i64 e, .slice d1 xs.length cd1, .slice d2 p.length cd2, .slice qf LF.length cf, .slice qt LT.length ct, .int .i64 fi, .int .i64 fk, .int .i64 se, .int .i64 co] ∧ OwnSnB (w1.heap.size) (w.heap.size + 3) wx.heap.size wx ⟨d1, d2, qf, qt⟩ cd2 ⟨xs, p, LF, LT⟩ ∧ Chg (fun b => w.heap.size ≤ b) w wx ∧ w3.heap.size ≤ wx.heap.size)
  case first =>
    cases q0
    rotate_left
    · have h0 : d.size = 0 := of_decide_eq_true h0q.out.symm
      have hCn : C = [] := by rw [← hC.out]; unfold hit; rw [h0]; exact if_neg (by simp [rgFine])
      have e1 : LT = k := by rw [← hLT.out, hCn]; rfl
      have e2 : LF = f := by rw [← hLF.out, hCn]; rfl
      clear h0 hCn
      go_wp2_with fail
      go_meet
      rw [e1, e2]
      exact ⟨d4, d3, cd4, cd3, hs_w3.out, hp_w3.out, hr_w3.out, hx_w3.out, hobx.out, hgww3, Nat.le_refl _⟩
    go_wp2_with fail
    refine wp_region_flowC (fun _ => False) 5 [(0, 1), (1, 1), (2, 1), (3, 0), (4, 0)] (by kernel_rfl) (by kernel_rfl) ?_
    (refine wpC_pure (v := ?_) rfl rfl (by rfl) ?_ ?_; rotate_left; (focus (intro ws hws; go_simp; (try with_reducible rfl); done)))
    try simp only [nrm, nrg]
    (refine wpC_pure (v := ?_) rfl rfl (by rfl) ?_ ?_; rotate_left; (focus (intro ws hws; obtain ⟨q0, p0⟩ := hws.row (k := w.heap.size) xpf xom; go_simp; (try with_reducible rfl); done)))
    try simp only [nrm, nrg]
    (refine wpC_pure (v := ?_) rfl rfl (by rfl) ?_ ?_; rotate_left; (focus (intro ws hws; obtain ⟨q0, p0⟩ := hws.row (k := w.heap.size + 1) xpf xom; go_simp; (try with_reducible rfl); done)))
    try simp only [nrm, nrg]
    (refine wpC_call 98 ?_ rfl rfl (by rfl) ?_ ?_; rotate_left; (focus (go_simp; (try with_reducible rfl); done)))
    refine (l9Range_any o d fin _ (by omega) (by omega)).mono ?_
    rintro en a4 ⟨rfl, ha4⟩
    refine ⟨_, rfl, (Ext.chg ha4 _), ?_⟩
    try simp only [nrm, nrg]
    have ga4 : Chg (fun b => False) w3 a4 := Chg.trans Chg.go (Ext.chg ha4 _)
    have za4 := ha4.size
    (try simp at za4)
    have ya4 : w3.heap.size ≤ a4.heap.size := ga4.size
    have hs_a4 := hide (hs_w3.out.chg ga4 xom)
    have hp_a4 := hide (hp_w3.out.chg ga4 xom)
    have hr_a4 := hide (hr_w3.out.chg ga4 xom)
    have hx_a4 := hide (hx_w3.out.chg ga4 xom)
    have ox_a4 := hide (OwnSnB.chg hobx.out ga4 xap)
    have hgwa4 : Chg (fun b => w.heap.size ≤ b) w a4 := Chg.trans hgww3 (Chg.mono (T := fun b => w.heap.size ≤ b) ga4 xsub)
    clear hs_w3 hp_w3 hr_w3 hx_w3 hobx hgww3 bs0 bs1 bs2 bs3 bs4 bs5 bs6 bs7 bs8 bs9 bs10 bs11 bsF kbs bp0 bp1 bp2 bpF kbp br0 br1 br2 br3 br4 br5 br6 br7 br8 br9 br10 br11 brF kbr bx0 bx1 bx2 bx3 bx4 bx5 bx6 bx7 bx8 bx9 bx10 bx11 bxF kbx nesp neps nesr ners nesx nexs nepr nerp nepx nexp nerx nexr
    clear ga4 ha4
    obtain ⟨bs0, bs1, bs2, bs3, bs4, bs5, bs6, bs7, bs8, bs9, bs10, bs11, bsF, kbs⟩ := BoxV.a12 hs_a4.out
    obtain ⟨bp0, bp1, bp2, bpF, kbp⟩ := BoxV.a3 hp_a4.out
    obtain ⟨br0, br1, br2, br3, br4, br5, br6, br7, br8, br9, br10, br11, brF, kbr⟩ := BoxV.a12 hr_a4.out
    obtain ⟨bx0, bx1, bx2, bx3, bx4, bx5, bx6, bx7, bx8, bx9, bx10, bx11, bxF, kbx⟩ := BoxV.a12 hx_a4.out
    have ⟨nesp, neps⟩ := ne2 (show w.heap.size ≠ w.heap.size + 1 by omega)
    have ⟨nesr, ners⟩ := ne2 (show w.heap.size ≠ w.heap.size + 1 + 1 by omega)
    have ⟨nesx, nexs⟩ := ne2 (show w.heap.size ≠ w1.heap.size by omega)
    have ⟨nepr, nerp⟩ := ne2 (show w.heap.size + 1 ≠ w.heap.size + 1 + 1 by omega)
    have ⟨nepx, nexp⟩ := ne2 (show w.heap.size + 1 ≠ w1.heap.size by omega)
    have ⟨nerx, nexr⟩ := ne2 (show w.heap.size + 1 + 1 ≠ w1.heap.size by omega)
    refine wpC_made (.slice (some ⟨a4.heap.size, 0, none⟩) 1 1) (a4.alloc (.cells #[.int .i64 o, .int .i64 (o + (d.size : Int))] 61)) rfl rfl (by rfl) (by go_simp) (Chg.alloc (Chg.refl _ _) _) ?_
    try simp only [nrm, nrg]
    refine wpF_done rfl ?_
    simp only [List.drop_succ_cons, List.drop_zero, List.drop_nil]
    go_wp2_with fail
    refine (CommonRanges_spec o (o + (d.size : Int)) af (some ⟨a4.heap.size, 0, none⟩) f.length c3 1 f _ (hx'.out.f.ext (Chg.ext (S := fun b => w.heap.size ≤ b) (Chg.trans hgwa4 (Chg.mono (S := fun b => False) (T := fun b => w.heap.size ≤ b) Chg.go xsub)) (fun b h1 h2 => by (try dsimp only at h2); omega))) (by exact read_made _ _ (by simp)) rfl (by omega)).mono ?_
    rintro en a5 ⟨ac, cc, rfl, owc, ha5⟩
    replace owc := own_ranges' owc
    have hC2 := hC.out
    unfold hit at hC2
    rw [hC2] at owc ⊢
    clear hC2
    have ga5 : Chg (fun b => False) a4 a5 := Chg.trans Chg.go (Ext.chg ha5 _)
    have za5 := ha5.size
    (try simp at za5)
    have ya5 : a4.heap.size ≤ a5.heap.size := ga5.size
    have hs_a5 := hide (hs_a4.out.chg ga5 xom)
    have hp_a5 := hide (hp_a4.out.chg ga5 xom)
    have hr_a5 := hide (hr_a4.out.chg ga5 xom)
    have hx_a5 := hide (hx_a4.out.chg ga5 xom)
    have ox_a5 := hide (OwnSnB.chg ox_a4.out ga5 xap)
    have hgwa5 : Chg (fun b => w.heap.size ≤ b) w a5 := Chg.trans hgwa4 (Chg.mono (T := fun b => w.heap.size ≤ b) ga5 xsub)
    clear hs_a4 hp_a4 hr_a4 hx_a4 ox_a4 hgwa4 bs0 bs1 bs2 bs3 bs4 bs5 bs6 bs7 bs8 bs9 bs10 bs11 bsF kbs bp0 bp1 bp2 bpF kbp br0 br1 br2 br3 br4 br5 br6 br7 br8 br9 br10 br11 brF kbr bx0 bx1 bx2 bx3 bx4 bx5 bx6 bx7 bx8 bx9 bx10 bx11 bxF kbx nesp neps nesr ners nesx nexs nepr nerp nepx nexp nerx nexr
    clear ga5 ha5
    obtain ⟨bs0, bs1, bs2, bs3, bs4, bs5, bs6, bs7, bs8, bs9, bs10, bs11, bsF, kbs⟩ := BoxV.a12 hs_a5.out
    obtain ⟨bp0, bp1, bp2, bpF, kbp⟩ := BoxV.a3 hp_a5.out
    obtain ⟨br0, br1, br2, br3, br4, br5, br6, br7, br8, br9, br10, br11, brF, kbr⟩ := BoxV.a12 hr_a5.out
    obtain ⟨bx0, bx1, bx2, bx3, bx4, bx5, bx6, bx7, bx8, bx9, bx10, bx11, bxF, kbx⟩ := BoxV.a12 hx_a5.out
    have ⟨nesp, neps⟩ := ne2 (show w.heap.size ≠ w.heap.size + 1 by omega)
    have ⟨nesr, ners⟩ := ne2 (show w.heap.size ≠ w.heap.size + 1 + 1 by omega)
    have ⟨nesx, nexs⟩ := ne2 (show w.heap.size ≠ w1.heap.size by omega)
    have ⟨nepr, nerp⟩ := ne2 (show w.heap.size + 1 ≠ w.heap.size + 1 + 1 by omega)
    have ⟨nepx, nexp⟩ := ne2 (show w.heap.size + 1 ≠ w1.heap.size by omega)
    have ⟨nerx, nexr⟩ := ne2 (show w.heap.size + 1 + 1 ≠ w1.heap.size by omega)
    (try simp only [World.size_alloc, World.size_drew, World.size_setCell] at owc)
    replace owc := hide owc
    go_wp2_with fail
    go_loopw [7] (fun i wr => ∃ (k0 : Nat) (L M : List Rg) (qt qf : Option Addr) (ct cf : Nat), i = .int .i64 k0 ∧ k0 ≤ C.length ∧ Hid ((C.take k0).foldl addR k = L) ∧ Hid ((C.take k0).foldl remR f = M) ∧ BoxV (w.heap.size) wr [.int .i64 st, .int .i64 z, .int .i64 b, .int .i64 e, .slice ar xs.length c1, .slice ap p.length c2, .slice af f.length c3, .slice ak k.length c4, .int .i64 fi, .int .i64 fk, .int .i64 se, .int .i64 co] ∧ BoxV (w.heap.size + 1) wr [.int .i64 o, .string d, .bool fin] ∧ BoxV (w.heap.size + 1 + 1) wr [.int .i64 0, .int .i64 0, .int .i64 0, .int .i64 0, .slice none 0 0, .slice none 0 0, .slice none 0 0, .slice none 0 0, .int .i64 0, .int .i64 0, .int .i64 0, .int .i64 0] ∧ BoxV (w1.heap.size) wr [.int .i64 st, .int .i64 z, .int .i64 b, .int .i64 e, .slice d1 xs.length cd1, .slice d2 p.length cd2, .slice qf M.length cf, .slice qt L.length ct, .int .i64 fi, .int .i64 fk, .int .i64 se, .int .i64 co] ∧ OwnSnB (w1.heap.size) (w.heap.size + 3) wr.heap.size wr ⟨d1, d2, qf, qt⟩ cd2 ⟨xs, p, M, L⟩ ∧ OwnR (w1.heap.size + 1) a5.heap.size wr ac C ∧ Chg (fun b => w.heap.size ≤ b) w wr ∧ a5.heap.size ≤ wr.heap.size) (fun i _ => C.length - (intOf i).toNat)
    case atStart => exact ⟨0, k, f, d4, d3, cd4, cd3, rfl, Nat.zero_le _, hide rfl, hide rfl, hs_a5.out, hp_a5.out, hr_a5.out, hx_a5.out, ox_a5.out.mono (by omega) (by omega), owc.out.mono (by omega) (by omega), hgwa5, Nat.le_refl _⟩
    case round =>
      clear bs0 bs1 bs2 bs3 bs4 bs5 bs6 bs7 bs8 bs9 bs10 bs11 bsF kbs bp0 bp1 bp2 bpF kbp br0 br1 br2 br3 br4 br5 br6 br7 br8 br9 br10 br11 brF kbr bx0 bx1 bx2 bx3 bx4 bx5 bx6 bx7 bx8 bx9 bx10 bx11 bxF kbx nesp neps nesr ners nesx nexs nepr nerp nepx nexp nerx nexr hs_a5 hp_a5 hr_a5 hx_a5 ox_a5 owc hgwa5
      obtain ⟨k0, L, M, qt, qf, ct, cf, rfl, hk0, hL, hM, hBs, hBp, hBr, hBx, hown, hoc, hgw, hsz⟩ := hrel
      replace hBs := hide hBs
      replace hBp := hide hBp
      replace hBr := hide hBr
      replace hBx := hide hBx
      replace hown := hide hown
      replace hoc := hide hoc
      obtain ⟨bs0, bs1, bs2, bs3, bs4, bs5, bs6, bs7, bs8, bs9, bs10, bs11, bsF, kbs⟩ := BoxV.a12 hBs.out
      obtain ⟨bp0, bp1, bp2, bpF, kbp⟩ := BoxV.a3 hBp.out
      obtain ⟨br0, br1, br2, br3, br4, br5, br6, br7, br8, br9, br10, br11, brF, kbr⟩ := BoxV.a12 hBr.out
      obtain ⟨bx0, bx1, bx2, bx3, bx4, bx5, bx6, bx7, bx8, bx9, bx10, bx11, bxF, kbx⟩ := BoxV.a12 hBx.out
      have ⟨nesp, neps⟩ := ne2 (show w.heap.size ≠ w.heap.size + 1 by omega)
      have ⟨nesr, ners⟩ := ne2 (show w.heap.size ≠ w.heap.size + 1 + 1 by omega)
      have ⟨nesx, nexs⟩ := ne2 (show w.heap.size ≠ w1.heap.size by omega)
      have ⟨nepr, nerp⟩ := ne2 (show w.heap.size + 1 ≠ w.heap.size + 1 + 1 by omega)
      have ⟨nepx, nexp⟩ := ne2 (show w.heap.size + 1 ≠ w1.heap.size by omega)
      have ⟨nerx, nexr⟩ := ne2 (show w.heap.size + 1 + 1 ≠ w1.heap.size by omega)
      have hlL := fold_len (C.take k0) k
      rw [hL.out, List.length_take] at hlL
      have hlM := rem_take_len hVl.out he.2 hpi.1 hpi.2 k0
      dsimp only at hlM
      rw [hC.out, hM.out] at hlM
      by_cases hlt : k0 < C.length
      · skip
        rcases hoc.out with hnil | ⟨bx, off, rfl, hb1, hb2, -, hcx⟩
        · rw [hnil] at hlt; simp at hlt
        obtain ⟨dx, dx2⟩ := hcx k0 hlt
        have i1 : (0 : Int) ≤ (k0 : Int) := by omega
        have i2 : (k0 : Int) < (C.length : Int) := by omega
        have hsa := join_take_succ (p := k) hlt
        have hsr := rem_take_succ (p := f) hlt
        rw [hL.out] at hsa
        rw [hM.out] at hsr
        replace hsa := hide hsa
        replace hsr := hide hsr
        obtain ⟨⟨x1, x2⟩, hx0⟩ : ∃ x : Rg, Hid (C.getD k0 dr = x) := ⟨_, hide rfl⟩
        rw [hx0.out] at dx dx2 hsa hsr
        dsimp only at dx dx2
        clear hcx hx0
        have lbx : bx < wr.heap.size := by omega
        have ⟨nbx, nbx2⟩ := ne2 (show bx ≠ w1.heap.size by omega)
        go_wp2_with fail
        refine wp_region_flowC (fun _ => False) 6 [(0, 1), (1, 1), (2, 1), (3, 1), (4, 1), (5, 1)] (by kernel_rfl) (by kernel_rfl) ?_
        (refine wpC_pure (v := ?_) rfl rfl (by rfl) ?_ ?_; rotate_left; (focus (intro ws hws; go_simp; (try with_reducible rfl); done)))
        try simp only [nrm, nrg]
        (refine wpC_pure (v := ?_) rfl rfl (by rfl) ?_ ?_; rotate_left; (focus (intro ws hws; obtain ⟨q0, p0⟩ := hws.row (k := w1.heap.size) xpf xom; go_simp; (try with_reducible rfl); done)))
        try simp only [nrm, nrg]
        iterate 3 ((refine wpC_pure (v := ?_) rfl rfl (by rfl) ?_ ?_; rotate_left; (focus (intro ws hws; go_simp; (try with_reducible rfl); done))); try simp only [nrm, nrg])
        (refine wpC_pure (v := ?_) rfl rfl (by rfl) ?_ ?_; rotate_left; (focus (intro ws hws; obtain ⟨q0, p0⟩ := hws.row (k := bx) xpf xom; go_simp; (try with_reducible rfl); done)))
        try simp only [nrm, nrg]
        refine wpF_done rfl ?_
        simp only [List.drop_succ_cons, List.drop_zero, List.drop_nil]
        go_wp2_with fail
        refine (RemoveRange_spec x1 x2 qf M.length cf M _ (OwnSnV.read (OwnSnB.snv (OwnSnB.chg (S := fun b => False) hown.out Chg.go xap))).f rfl (by omega)).mono ?_
        rintro en b6 ⟨g3, cg3, rfl, ownf, hb6⟩
        replace ownf := OwnW.own (OwnW.of ownf)
        have gb6 : Chg (fun b => False) wr b6 := Chg.trans Chg.go (Ext.chg hb6 _)
        have zb6 := hb6.size
        (try simp at zb6)
        have yb6 : wr.heap.size ≤ b6.heap.size := gb6.size
        obtain ⟨qo, po⟩ := gb6.row (k := bx) (by omega) xom
        replace dx := (qo _).trans dx
        replace dx2 := (qo _).trans dx2
        clear qo po
        have hs_b6 := hide (hBs.out.chg gb6 xom)
        have hp_b6 := hide (hBp.out.chg gb6 xom)
        have hr_b6 := hide (hBr.out.chg gb6 xom)
        have hx_b6 := hide (hBx.out.chg gb6 xom)
        have ox_b6 := hide (OwnSnB.chg hown.out gb6 xap)
        have oc_b6 := hide (OwnR.chg hoc.out gb6 xap)
        have hgwb6 : Chg (fun b => w.heap.size ≤ b) w b6 := Chg.trans hgw (Chg.mono (T := fun b => w.heap.size ≤ b) gb6 xsub)
        clear hBs hBp hBr hBx hown hoc hgw bs0 bs1 bs2 bs3 bs4 bs5 bs6 bs7 bs8 bs9 bs10 bs11 bsF kbs bp0 bp1 bp2 bpF kbp br0 br1 br2 br3 br4 br5 br6 br7 br8 br9 br10 br11 brF kbr bx0 bx1 bx2 bx3 bx4 bx5 bx6 bx7 bx8 bx9 bx10 bx11 bxF kbx nesp neps nesr ners nesx nexs nepr nerp nepx nexp nerx nexr
        clear gb6 hb6
        obtain ⟨bs0, bs1, bs2, bs3, bs4, bs5, bs6, bs7, bs8, bs9, bs10, bs11, bsF, kbs⟩ := BoxV.a12 hs_b6.out
        obtain ⟨bp0, bp1, bp2, bpF, kbp⟩ := BoxV.a3 hp_b6.out
        obtain ⟨br0, br1, br2, br3, br4, br5, br6, br7, br8, br9, br10, br11, brF, kbr⟩ := BoxV.a12 hr_b6.out
        obtain ⟨bx0, bx1, bx2, bx3, bx4, bx5, bx6, bx7, bx8, bx9, bx10, bx11, bxF, kbx⟩ := BoxV.a12 hx_b6.out
        have ⟨nesp, neps⟩ := ne2 (show w.heap.size ≠ w.heap.size + 1 by omega)
        have ⟨nesr, ners⟩ := ne2 (show w.heap.size ≠ w.heap.size + 1 + 1 by omega)
        have ⟨nesx, nexs⟩ := ne2 (show w.heap.size ≠ w1.heap.size by omega)
        have ⟨nepr, nerp⟩ := ne2 (show w.heap.size + 1 ≠ w.heap.size + 1 + 1 by omega)
        have ⟨nepx, nexp⟩ := ne2 (show w.heap.size + 1 ≠ w1.heap.size by omega)
        have ⟨nerx, nexr⟩ := ne2 (show w.heap.size + 1 + 1 ≠ w1.heap.size by omega)
        (try simp only [World.size_alloc, World.size_drew, World.size_setCell] at ownf)
        replace ownf := hide ownf
        have hnf := hide (OwnSnB.setF (hi' := b6.heap.size) ox_b6.out ownf.out xpf xpf xpf xpf xpf)
        clear ox_b6 ownf
        go_wp2_with fail
        refine wp_region_flowC (fun _ => False) 6 [(0, 1), (1, 1), (2, 1), (3, 1), (4, 1), (5, 1)] (by kernel_rfl) (by kernel_rfl) ?_
        (refine wpC_pure (v := ?_) rfl rfl (by rfl) ?_ ?_; rotate_left; (focus (intro ws hws; go_simp; (try with_reducible rfl); done)))
        try simp only [nrm, nrg]
        (refine wpC_pure (v := ?_) rfl rfl (by rfl) ?_ ?_; rotate_left; (focus (intro ws hws; obtain ⟨q0, p0⟩ := hws.row (k := w1.heap.size) xpf xom; go_simp; (try with_reducible rfl); done)))
        try simp only [nrm, nrg]
        iterate 3 ((refine wpC_pure (v := ?_) rfl rfl (by rfl) ?_ ?_; rotate_left; (focus (intro ws hws; go_simp; (try with_reducible rfl); done))); try simp only [nrm, nrg])
        (refine wpC_pure (v := ?_) rfl rfl (by rfl) ?_ ?_; rotate_left; (focus (intro ws hws; obtain ⟨q0, p0⟩ := hws.row (k := bx) xpf xom; go_simp; (try with_reducible rfl); done)))
        try simp only [nrm, nrg]
        refine wpF_done rfl ?_
        simp only [List.drop_succ_cons, List.drop_zero, List.drop_nil]
        go_wp2_with fail
        refine (AddRangeW_spec x1 x2 qt L.length ct L _ (OwnSnV.read (OwnSnB.snv (OwnSnB.chg (S := fun b => b = w1.heap.size) hnf.out Chg.go xap))).k rfl (by omega)).mono ?_
        rintro en b7 ⟨g4, cg4, rfl, ownt, hb7⟩
        replace ownt := OwnW.own (OwnW.of ownt)
        have gb7 : Chg (fun b => b = w1.heap.size) b6 b7 := Chg.trans Chg.go (Ext.chg hb7 _)
        have zb7 := hb7.size
        (try simp at zb7)
        have yb7 : b6.heap.size ≤ b7.heap.size := gb7.size
        obtain ⟨qo, po⟩ := gb7.row (k := bx) (by omega) xom
        replace dx := (qo _).trans dx
        replace dx2 := (qo _).trans dx2
        clear qo po
        have hs_b7 := hide (hs_b6.out.chg gb7 xom)
        have hp_b7 := hide (hp_b6.out.chg gb7 xom)
        have hr_b7 := hide (hr_b6.out.chg gb7 xom)
        have hsx := (BoxV.set1 hx_b6.out (j := 6) (by simp) (.slice g3 ((remR M (x1, x2)).length) cg3)).1
        simp only [List.set_cons_zero, List.set_cons_succ] at hsx
        have hx_b7 := hide (BoxV.chg hsx (S := fun b => b = 0) (Chg.trans Chg.go (Ext.chg hb7 _)) xom)
        clear hsx
        have ox_b7 := hide (OwnSnB.chg hnf.out gb7 xap)
        have oc_b7 := hide (OwnR.chg oc_b6.out gb7 xap)
        have hgwb7 : Chg (fun b => w.heap.size ≤ b) w b7 := Chg.trans hgwb6 (Chg.mono (T := fun b => w.heap.size ≤ b) gb7 xsub)
        clear hs_b6 hp_b6 hr_b6 hx_b6 hnf oc_b6 hgwb6 bs0 bs1 bs2 bs3 bs4 bs5 bs6 bs7 bs8 bs9 bs10 bs11 bsF kbs bp0 bp1 bp2 bpF kbp br0 br1 br2 br3 br4 br5 br6 br7 br8 br9 br10 br11 brF kbr bx0 bx1 bx2 bx3 bx4 bx5 bx6 bx7 bx8 bx9 bx10 bx11 bxF kbx nesp neps nesr ners nesx nexs nepr nerp nepx nexp nerx nexr
        clear gb7 hb7
        obtain ⟨bs0, bs1, bs2, bs3, bs4, bs5, bs6, bs7, bs8, bs9, bs10, bs11, bsF, kbs⟩ := BoxV.a12 hs_b7.out
        obtain ⟨bp0, bp1, bp2, bpF, kbp⟩ := BoxV.a3 hp_b7.out
        obtain ⟨br0, br1, br2, br3, br4, br5, br6, br7, br8, br9, br10, br11, brF, kbr⟩ := BoxV.a12 hr_b7.out
        obtain ⟨bx0, bx1, bx2, bx3, bx4, bx5, bx6, bx7, bx8, bx9, bx10, bx11, bxF, kbx⟩ := BoxV.a12 hx_b7.out
        have ⟨nesp, neps⟩ := ne2 (show w.heap.size ≠ w.heap.size + 1 by omega)
        have ⟨nesr, ners⟩ := ne2 (show w.heap.size ≠ w.heap.size + 1 + 1 by omega)
        have ⟨nesx, nexs⟩ := ne2 (show w.heap.size ≠ w1.heap.size by omega)
        have ⟨nepr, nerp⟩ := ne2 (show w.heap.size + 1 ≠ w.heap.size + 1 + 1 by omega)
        have ⟨nepx, nexp⟩ := ne2 (show w.heap.size + 1 ≠ w1.heap.size by omega)
        have ⟨nerx, nexr⟩ := ne2 (show w.heap.size + 1 + 1 ≠ w1.heap.size by omega)
        (try simp only [World.size_alloc, World.size_drew, World.size_setCell] at ownt)
        replace ownt := hide ownt
        have hnt := hide (OwnSnB.setK (hi' := b7.heap.size) ox_b7.out ownt.out xpf xpf xpf xpf xpf)
        clear ox_b7 ownt
        have hset := BoxV.set1 hx_b7.out (j := 7) (by simp) (.slice g4 (addR L (x1, x2)).length cg4)
        simp only [List.set_cons_zero, List.set_cons_succ] at hset
        have hzs := hide (hs_b7.out.chg hset.2 xom)
        have hzp := hide (hp_b7.out.chg hset.2 xom)
        have hzr := hide (hr_b7.out.chg hset.2 xom)
        have hzx := hide hset.1
        have ozx := hide (OwnSnB.chg hnt.out hset.2 xap)
        have ozc := hide (OwnR.chg oc_b7.out hset.2 xap)
        have gz := hgwb7.trans (hset.2.mono (T := fun b => w.heap.size ≤ b) xsub)
        have sz := hset.2.size
        clear hset
        go_wp2
        go_roundw
        case rel => exact ⟨k0 + 1, _, _, g4, g3, cg4, cg3, by go_num, by omega, hsa, hsr, hzs.out, hzp.out, hzr.out, hzx.out, ozx.out.mono (by omega) (by omega), ozc.out.mono (by omega) (by omega), gz, by omega⟩
        case measure => simp [intOf]; omega
      · obtain rfl : k0 = C.length := by omega
        have e1 : L = LT := by rw [← hL.out, ← hLT.out, List.take_length]
        have e2 : M = LF := by rw [← hM.out, ← hLF.out, List.take_length]
        subst e1 e2
        go_wp2_with fail
        go_meet
        exact ⟨qt, qf, ct, cf, hBs.out, hBp.out, hBr.out, hBx.out, hown.out, hgw, by omega⟩
  case rest =>
    obtain ⟨wx, hwe⟩ : ∃ u, u = wc := ⟨_, rfl⟩
    subst hwe
    obtain ⟨qt, qf, ct, cf, hBs, hBp, hBr, hBx, hown, hgw, hsz⟩ := hcut
    clear bs0 bs1 bs2 bs3 bs4 bs5 bs6 bs7 bs8 bs9 bs10 bs11 bsF kbs bp0 bp1 bp2 bpF kbp br0 br1 br2 br3 br4 br5 br6 br7 br8 br9 br10 br11 brF kbr bx0 bx1 bx2 bx3 bx4 bx5 bx6 bx7 bx8 bx9 bx10 bx11 bxF kbx nesp neps nesr ners nesx nexs nepr nerp nepx nexp nerx nexr hs_w3 hp_w3 hr_w3 hx_w3 hobx hgww3
    replace hBs := hide hBs
    replace hBp := hide hBp
    replace hBr := hide hBr
    replace hBx := hide hBx
    replace hown := hide hown
    obtain ⟨bs0, bs1, bs2, bs3, bs4, bs5, bs6, bs7, bs8, bs9, bs10, bs11, bsF, kbs⟩ := BoxV.a12 hBs.out
    obtain ⟨bp0, bp1, bp2, bpF, kbp⟩ := BoxV.a3 hBp.out
    obtain ⟨br0, br1, br2, br3, br4, br5, br6, br7, br8, br9, br10, br11, brF, kbr⟩ := BoxV.a12 hBr.out
    obtain ⟨bx0, bx1, bx2, bx3, bx4, bx5, bx6, bx7, bx8, bx9, bx10, bx11, bxF, kbx⟩ := BoxV.a12 hBx.out
    have ⟨nesp, neps⟩ := ne2 (show w.heap.size ≠ w.heap.size + 1 by omega)
    have ⟨nesr, ners⟩ := ne2 (show w.heap.size ≠ w.heap.size + 1 + 1 by omega)
    have ⟨nesx, nexs⟩ := ne2 (show w.heap.size ≠ w1.heap.size by omega)
    have ⟨nepr, nerp⟩ := ne2 (show w.heap.size + 1 ≠ w.heap.size + 1 + 1 by omega)
    have ⟨nepx, nexp⟩ := ne2 (show w.heap.size + 1 ≠ w1.heap.size by omega)
    have ⟨nerx, nexr⟩ := ne2 (show w.heap.size + 1 + 1 ≠ w1.heap.size by omega)
    obtain ⟨FK, hFK⟩ : ∃ q, Hid (finV fin fk 3 = q) := ⟨_, hide rfl⟩
    obtain ⟨Q, hQ⟩ : ∃ q, Hid ((fin && decide (fk = 2)) = q) := ⟨_, hide rfl⟩
    have hFb := finV_bd (fin := fin) (u := 3) hVl.out.hd.fk0 hVl.out.hd.fk1 (by omega) (by omega)
    dsimp only at hFb
    rw [hFK.out] at hFb
    replace hFb := hFb.2.1
    go_upto_region 11 with fail
    go_cut [64] (fun tq wy => tq = .bool Q ∧ wy = wx)
    case first =>
      cases fin
      · go_wp2_with fail
        go_meet
        exact ⟨by rw [← hQ.out]; rfl, rfl⟩
      · by_cases hk2 : fk = 2
        · have hk2e : (fk == 2) = true := by simp [hk2]
          replace hk2 := hide hk2
          go_wp2_with fail
          go_meet
          exact ⟨by rw [← hQ.out, decide_eq_true hk2.out]; rfl, rfl⟩
        · have hk2e : (fk == 2) = false := by simp [hk2]
          replace hk2 := hide hk2
          go_wp2_with fail
          go_meet
          exact ⟨by rw [← hQ.out, decide_eq_false hk2.out]; rfl, rfl⟩
    case rest =>
      obtain ⟨rfl, hwy⟩ := hcut
      subst hwy
      obtain ⟨wx, hwe⟩ : ∃ u, u = wc := ⟨_, rfl⟩
      subst hwe
      have hFq := finV_q fin fk 3
      rw [hFK.out, hQ.out] at hFq
      replace hFq := hide hFq
      go_upto_if 64 with fail
      go_cut [] (fun wz => BoxV (w.heap.size) wz [.int .i64 st, .int .i64 z, .int .i64 b, .int .i64 e, .slice ar xs.length c1, .slice ap p.length c2, .slice af f.length c3, .slice ak k.length c4, .int .i64 fi, .int .i64 fk, .int .i64 se, .int .i64 co] ∧ BoxV (w.heap.size + 1) wz [.int .i64 o, .string d, .bool fin] ∧ BoxV (w.heap.size + 1 + 1) wz [.int .i64 0, .int .i64 0, .int .i64 0, .int .i64 0, .slice none 0 0, .slice none 0 0, .slice none 0 0, .slice none 0 0, .int .i64 0, .int .i64 0, .int .i64 0, .int .i64 0] ∧ BoxV (w1.heap.size) wz [.int .i64 st, .int .i64 z, .int .i64 b, .int .i64 e, .slice d1 xs.length cd1, .slice d2 p.length cd2, .slice qf LF.length cf, .slice qt LT.length ct, .int .i64 fi, .int .i64 FK, .int .i64 se, .int .i64 co] ∧ OwnSnB (w1.heap.size) (w.heap.size + 3) wz.heap.size wz ⟨d1, d2, qf, qt⟩ cd2 ⟨xs, p, LF, LT⟩ ∧ Chg (fun b => w.heap.size ≤ b) w wz ∧ wx.heap.size ≤ wz.heap.size)
      case first =>
        cases Q
        · obtain rfl : FK = fk := hFq.out
          go_wp2_with fail
          go_meet
          exact ⟨hBs.out, hBp.out, hBr.out, hBx.out, hown.out, hgw, Nat.le_refl _⟩
        · obtain rfl : FK = 3 := hFq.out
          have hset := BoxV.set1 hBx.out (j := 9) (by simp) (.int .i64 3)
          simp only [List.set_cons_zero, List.set_cons_succ] at hset
          have hzs := hide (hBs.out.chg hset.2 xom)
          have hzp := hide (hBp.out.chg hset.2 xom)
          have hzr := hide (hBr.out.chg hset.2 xom)
          have hzx := hide hset.1
          have ozx := hide (OwnSnB.chg hown.out hset.2 xap)
          have gz := hgw.trans (hset.2.mono (T := fun b => w.heap.size ≤ b) xsub)
          have sz := hset.2.size
          clear hset
          go_wp2_with fail
          go_meet
          exact ⟨hzs.out, hzp.out, hzr.out, hzx.out, ozx.out.mono (by omega) (by omega), gz, by omega⟩
      case rest =>
        obtain ⟨wz, hwe⟩ : ∃ u, u = wc := ⟨_, rfl⟩
        subst hwe
        obtain ⟨kBs, kBp, kBr, kBx, kown, kgw, hsz2⟩ := hcut
        clear bs0 bs1 bs2 bs3 bs4 bs5 bs6 bs7 bs8 bs9 bs10 bs11 bsF kbs bp0 bp1 bp2 bpF kbp br0 br1 br2 br3 br4 br5 br6 br7 br8 br9 br10 br11 brF kbr bx0 bx1 bx2 bx3 bx4 bx5 bx6 bx7 bx8 bx9 bx10 bx11 bxF kbx nesp neps nesr ners nesx nexs nepr nerp nepx nexp nerx nexr hBs hBp hBr hBx hown hgw
        have hBs := kBs
        have hBp := kBp
        have hBr := kBr
        have hBx := kBx
        have hown := kown
        have hgw := kgw
        clear kBs kBp kBr kBx kown kgw
        replace hBs := hide hBs
        replace hBp := hide hBp
        replace hBr := hide hBr
        replace hBx := hide hBx
        replace hown := hide hown
        obtain ⟨bs0, bs1, bs2, bs3, bs4, bs5, bs6, bs7, bs8, bs9, bs10, bs11, bsF, kbs⟩ := BoxV.a12 hBs.out
        obtain ⟨bp0, bp1, bp2, bpF, kbp⟩ := BoxV.a3 hBp.out
        obtain ⟨br0, br1, br2, br3, br4, br5, br6, br7, br8, br9, br10, br11, brF, kbr⟩ := BoxV.a12 hBr.out
        obtain ⟨bx0, bx1, bx2, bx3, bx4, bx5, bx6, bx7, bx8, bx9, bx10, bx11, bxF, kbx⟩ := BoxV.a12 hBx.out
        have ⟨nesp, neps⟩ := ne2 (show w.heap.size ≠ w.heap.size + 1 by omega)
        have ⟨nesr, ners⟩ := ne2 (show w.heap.size ≠ w.heap.size + 1 + 1 by omega)
        have ⟨nesx, nexs⟩ := ne2 (show w.heap.size ≠ w1.heap.size by omega)
        have ⟨nepr, nerp⟩ := ne2 (show w.heap.size + 1 ≠ w.heap.size + 1 + 1 by omega)
        have ⟨nepx, nexp⟩ := ne2 (show w.heap.size + 1 ≠ w1.heap.size by omega)
        have ⟨nerx, nexr⟩ := ne2 (show w.heap.size + 1 + 1 ≠ w1.heap.size by omega)
        obtain ⟨gb, hgb⟩ : ∃ q, Hid (gapR LT 0 = q) := ⟨_, hide rfl⟩
        obtain ⟨ys, hys⟩ : ∃ q, Hid (setN xs z b (fun _ => 0) (gb - b).toNat = q) := ⟨_, hide rfl⟩
        have hyl : ys.length = xs.length := by rw [← hys.out, setN_length]
        replace hyl := hide hyl
        have hgk := ak_gap hVl.out hpi.1 hpi.2
        unfold akB akK at hgk
        dsimp only at hgk
        rw [hC.out, hLT.out, hgb.out] at hgk
        have hdo : dropOk z b e gb xs = true := by
          unfold dropOk
          rw [hVl.out.hd.ring]
          simp [inB]
          omega
        have hdb : dropB z b e gb xs = gb := by unfold dropB; rw [if_pos hdo]
        have hdc : dropC z b e gb xs = ys := by unfold dropC; rw [if_pos hdo]; exact hys.out
        replace hdb := hide hdb
        replace hdc := hide hdc
        clear hdo
        have hlLT := fold_len C k
        rw [hLT.out] at hlLT
        have hcl := comR_len f (o, o + (d.size : Int))
        rw [show comR f (o, o + (d.size : Int)) = C from hC.out] at hcl
        go_upto_region 13 with fail
        go_cut [8] (fun tq wy => ∃ (B : Nat) (gr : Option Addr) (cr : Nat), tq = .pointer (some ⟨B, 0, none⟩) ∧ wz.heap.size ≤ B ∧ BoxV B wy [.int .i64 z, .int .i64 gb, .int .i64 e, .slice gr ys.length cr] ∧ BoxV (w.heap.size) wy [.int .i64 st, .int .i64 z, .int .i64 b, .int .i64 e, .slice ar xs.length c1, .slice ap p.length c2, .slice af f.length c3, .slice ak k.length c4, .int .i64 fi, .int .i64 fk, .int .i64 se, .int .i64 co] ∧ BoxV (w.heap.size + 1) wy [.int .i64 o, .string d, .bool fin] ∧ BoxV (w.heap.size + 1 + 1) wy [.int .i64 0, .int .i64 0, .int .i64 0, .int .i64 0, .slice none 0 0, .slice none 0 0, .slice none 0 0, .slice none 0 0, .int .i64 0, .int .i64 0, .int .i64 0, .int .i64 0] ∧ BoxV (w1.heap.size) wy [.int .i64 st, .int .i64 z, .int .i64 b, .int .i64 e, .slice d1 xs.length cd1, .slice d2 p.length cd2, .slice qf LF.length cf, .slice qt LT.length ct, .int .i64 fi, .int .i64 FK, .int .i64 se, .int .i64 co] ∧ OwnSnB (w1.heap.size) (w.heap.size + 3) wz.heap.size wy ⟨d1, d2, qf, qt⟩ cd2 ⟨xs, p, LF, LT⟩ ∧ OwnS wz.heap.size wy.heap.size wy gr ys ∧ Chg (fun b => w.heap.size ≤ b) w wy ∧ wz.heap.size ≤ wy.heap.size)
        case first =>
          go_wp2_with fail
          refine wp_region_flowC (fun b => wz.heap.size ≤ b) 11 [(0, 1), (1, 1), (2, 1), (3, 1), (4, 11), (5, 11), (6, 1), (7, 1), (8, 1), (9, 0), (10, 0)] (by kernel_rfl) (by kernel_rfl) ?_
          (refine wpC_pure (v := ?_) rfl rfl (by rfl) ?_ ?_; rotate_left; (focus (intro ws hws; go_simp; (try with_reducible rfl); done)))
          try simp only [nrm, nrg]
          (refine wpC_pure (v := ?_) rfl rfl (by rfl) ?_ ?_; rotate_left; (focus (intro ws hws; obtain ⟨q0, p0⟩ := hws.row (k := w.heap.size) xpf xom; go_simp; (try with_reducible rfl); done)))
          try simp only [nrm, nrg]
          (refine wpC_pure (v := ?_) rfl rfl (by rfl) ?_ ?_; rotate_left; (focus (intro ws hws; go_simp; (try with_reducible rfl); done)))
          try simp only [nrm, nrg]
          (refine wpC_pure (v := ?_) rfl rfl (by rfl) ?_ ?_; rotate_left; (focus (intro ws hws; obtain ⟨q0, p0⟩ := hws.row (k := w1.heap.size) xpf xom; go_simp; (try with_reducible rfl); done)))
          try simp only [nrm, nrg]
          (refine wpF_forkCA (o2 := [(0, 1), (1, 1), (2, 1), (3, 1), (9, 6), (4, 0), (5, 0), (6, 1), (7, 1), (8, 1), (10, 0)]) 85 ?_ (.pointer (some ⟨wz.heap.size, 0, none⟩)) (wz.drew.alloc (.cells #[.int .i64 0, .int .i64 0, .int .i64 0, .slice none 0 0] 29)) rfl rfl rfl (by kernel_rfl) rfl rfl (Chg.refl _ _) (by rfl) (by rfl) ?_ (by go_simp) Chg.go ?_ ?_; rotate_left; (focus (go_simp; (try with_reducible rfl); done)))
          · skip
            refine (FirstGap_spec 0 qt LT.length ct LT _ (OwnSnV.read (OwnSnB.snv (OwnSnB.chg (S := fun b => False) hown.out Chg.go xap))).k rfl (by omega)).mono ?_
            rintro en h4 ⟨rfl, hh4⟩
            refine ⟨_, rfl, Ext.chg hh4 _, ?_⟩
            try simp only [nrm, nrg]
            rw [hgb.out]
            have gh4 : Chg (fun b => False) wz h4 := Chg.trans Chg.go (Ext.chg hh4 _)
            have zh4 := hh4.size
            (try simp at zh4)
            have yh4 : wz.heap.size ≤ h4.heap.size := gh4.size
            have hs_h4 := hide (hBs.out.chg gh4 xom)
            have hp_h4 := hide (hBp.out.chg gh4 xom)
            have hr_h4 := hide (hBr.out.chg gh4 xom)
            have hx_h4 := hide (hBx.out.chg gh4 xom)
            have ox_h4 := hide (OwnSnB.chg hown.out gh4 xap)
            have hgwh4 : Chg (fun b => w.heap.size ≤ b) w h4 := Chg.trans hgw (Chg.mono (T := fun b => w.heap.size ≤ b) gh4 xsub)
            clear hBs hBp hBr hBx hown hgw bs0 bs1 bs2 bs3 bs4 bs5 bs6 bs7 bs8 bs9 bs10 bs11 bsF kbs bp0 bp1 bp2 bpF kbp br0 br1 br2 br3 br4 br5 br6 br7 br8 br9 br10 br11 brF kbr bx0 bx1 bx2 bx3 bx4 bx5 bx6 bx7 bx8 bx9 bx10 bx11 bxF kbx nesp neps nesr ners nesx nexs nepr nerp nepx nexp nerx nexr
            clear gh4 hh4
            obtain ⟨bs0, bs1, bs2, bs3, bs4, bs5, bs6, bs7, bs8, bs9, bs10, bs11, bsF, kbs⟩ := BoxV.a12 hs_h4.out
            obtain ⟨bp0, bp1, bp2, bpF, kbp⟩ := BoxV.a3 hp_h4.out
            obtain ⟨br0, br1, br2, br3, br4, br5, br6, br7, br8, br9, br10, br11, brF, kbr⟩ := BoxV.a12 hr_h4.out
            obtain ⟨bx0, bx1, bx2, bx3, bx4, bx5, bx6, bx7, bx8, bx9, bx10, bx11, bxF, kbx⟩ := BoxV.a12 hx_h4.out
            have ⟨nesp, neps⟩ := ne2 (show w.heap.size ≠ w.heap.size + 1 by omega)
            have ⟨nesr, ners⟩ := ne2 (show w.heap.size ≠ w.heap.size + 1 + 1 by omega)
            have ⟨nesx, nexs⟩ := ne2 (show w.heap.size ≠ w1.heap.size by omega)
            have ⟨nepr, nerp⟩ := ne2 (show w.heap.size + 1 ≠ w.heap.size + 1 + 1 by omega)
            have ⟨nepx, nexp⟩ := ne2 (show w.heap.size + 1 ≠ w1.heap.size by omega)
            have ⟨nerx, nexr⟩ := ne2 (show w.heap.size + 1 + 1 ≠ w1.heap.size by omega)
            (refine wpF_forkCA (o2 := [(0, 1), (1, 1), (2, 1), (3, 1), (4, 11), (9, 7), (5, 0), (6, 1), (7, 1), (8, 1), (10, 0)]) 100 ?_ (.pointer (some ⟨h4.heap.size, 0, none⟩)) (h4.alloc (.cells #[.int .i64 0, .int .i64 0, .int .i64 0, .slice none 0 0] 29)) rfl rfl rfl (by kernel_rfl) rfl rfl (Chg.refl _ _) (by rfl) (by rfl) ?_ (by go_simp) Chg.go ?_ ?_; rotate_left; (focus (go_simp; (try with_reducible rfl); done)))
            · skip
              refine (DropRing_spec z b e gb ar xs.length c1 xs _ (hx'.out.r.ext (Chg.ext (S := fun b => w.heap.size ≤ b) (Chg.trans hgwh4 (Chg.mono (S := fun b => False) (T := fun b => w.heap.size ≤ b) Chg.go xsub)) (fun b h1 h2 => by (try dsimp only at h2); omega))) rfl (by omega) (by omega)).mono ?_
              rintro en h5 ⟨gr, cr, rfl, ownr, hh5⟩
              refine ⟨_, rfl, Ext.chg hh5 _, ?_⟩
              try simp only [nrm, nrg]
              rw [hdb.out, hdc.out] at *
              have gh5 : Chg (fun b => False) h4 h5 := Chg.trans Chg.go (Ext.chg hh5 _)
              have zh5 := hh5.size
              (try simp at zh5)
              have yh5 : h4.heap.size ≤ h5.heap.size := gh5.size
              have hs_h5 := hide (hs_h4.out.chg gh5 xom)
              have hp_h5 := hide (hp_h4.out.chg gh5 xom)
              have hr_h5 := hide (hr_h4.out.chg gh5 xom)
              have hx_h5 := hide (hx_h4.out.chg gh5 xom)
              have ox_h5 := hide (OwnSnB.chg ox_h4.out gh5 xap)
              have hgwh5 : Chg (fun b => w.heap.size ≤ b) w h5 := Chg.trans hgwh4 (Chg.mono (T := fun b => w.heap.size ≤ b) gh5 xsub)
              clear hs_h4 hp_h4 hr_h4 hx_h4 ox_h4 hgwh4 bs0 bs1 bs2 bs3 bs4 bs5 bs6 bs7 bs8 bs9 bs10 bs11 bsF kbs bp0 bp1 bp2 bpF kbp br0 br1 br2 br3 br4 br5 br6 br7 br8 br9 br10 br11 brF kbr bx0 bx1 bx2 bx3 bx4 bx5 bx6 bx7 bx8 bx9 bx10 bx11 bxF kbx nesp neps nesr ners nesx nexs nepr nerp nepx nexp nerx nexr
              clear gh5 hh5
              obtain ⟨bs0, bs1, bs2, bs3, bs4, bs5, bs6, bs7, bs8, bs9, bs10, bs11, bsF, kbs⟩ := BoxV.a12 hs_h5.out
              obtain ⟨bp0, bp1, bp2, bpF, kbp⟩ := BoxV.a3 hp_h5.out
              obtain ⟨br0, br1, br2, br3, br4, br5, br6, br7, br8, br9, br10, br11, brF, kbr⟩ := BoxV.a12 hr_h5.out
              obtain ⟨bx0, bx1, bx2, bx3, bx4, bx5, bx6, bx7, bx8, bx9, bx10, bx11, bxF, kbx⟩ := BoxV.a12 hx_h5.out
              have ⟨nesp, neps⟩ := ne2 (show w.heap.size ≠ w.heap.size + 1 by omega)
              have ⟨nesr, ners⟩ := ne2 (show w.heap.size ≠ w.heap.size + 1 + 1 by omega)
              have ⟨nesx, nexs⟩ := ne2 (show w.heap.size ≠ w1.heap.size by omega)
              have ⟨nepr, nerp⟩ := ne2 (show w.heap.size + 1 ≠ w.heap.size + 1 + 1 by omega)
              have ⟨nepx, nexp⟩ := ne2 (show w.heap.size + 1 ≠ w1.heap.size by omega)
              have ⟨nerx, nexr⟩ := ne2 (show w.heap.size + 1 + 1 ≠ w1.heap.size by omega)
              (try simp only [World.size_alloc, World.size_drew, World.size_setCell] at ownr)
              replace ownr := hide ownr
              iterate 3 ((refine wpC_pure (v := ?_) rfl rfl (by rfl) ?_ ?_; rotate_left; (focus (intro ws hws; go_simp; (try with_reducible rfl); done))); try simp only [nrm, nrg])
              refine wpC_made (.pointer (some ⟨h5.heap.size, 0, none⟩)) (h5.alloc (.cells #[.int .i64 0, .int .i64 0, .int .i64 0, .slice none 0 0] 29)) rfl rfl (by rfl) (by go_simp) Chg.go ?_
              try simp only [nrm, nrg]
              obtain ⟨h6, h0h6⟩ : ∃ u, u = (h5.alloc (.cells #[.int .i64 0, .int .i64 0, .int .i64 0, .slice none 0 0] 29)) := ⟨_, rfl⟩
              rw [← h0h6]
              have hh6 : Ext (h5.alloc (.cells #[.int .i64 0, .int .i64 0, .int .i64 0, .slice none 0 0] 29)) h6 := h0h6 ▸ Ext.go
              have gh6 : Chg (fun b => False) h5 h6 := Chg.trans Chg.go (Ext.chg hh6 _)
              have zh6 := hh6.size
              (try simp at zh6)
              have yh6 : h5.heap.size ≤ h6.heap.size := gh6.size
              have hs_h6 := hide (hs_h5.out.chg gh6 xom)
              have hp_h6 := hide (hp_h5.out.chg gh6 xom)
              have hr_h6 := hide (hr_h5.out.chg gh6 xom)
              have hx_h6 := hide (hx_h5.out.chg gh6 xom)
              have hb_h6 := hide (BoxV.chg (BoxV.new h5 [.int .i64 0, .int .i64 0, .int .i64 0, .slice none 0 0] 29) (S := fun b => False) (Chg.trans Chg.go (Ext.chg hh6 _)) xom)
              have ox_h6 := hide (OwnSnB.chg ox_h5.out gh6 xap)
              have or_h6 := hide (OwnS.chg ownr.out gh6 xap)
              have hgwh6 : Chg (fun b => w.heap.size ≤ b) w h6 := Chg.trans hgwh5 (Chg.mono (T := fun b => w.heap.size ≤ b) gh6 xsub)
              clear hs_h5 hp_h5 hr_h5 hx_h5 ox_h5 ownr hgwh5 bs0 bs1 bs2 bs3 bs4 bs5 bs6 bs7 bs8 bs9 bs10 bs11 bsF kbs bp0 bp1 bp2 bpF kbp br0 br1 br2 br3 br4 br5 br6 br7 br8 br9 br10 br11 brF kbr bx0 bx1 bx2 bx3 bx4 bx5 bx6 bx7 bx8 bx9 bx10 bx11 bxF kbx nesp neps nesr ners nesx nexs nepr nerp nepx nexp nerx nexr
              clear gh6 hh6
              obtain ⟨bs0, bs1, bs2, bs3, bs4, bs5, bs6, bs7, bs8, bs9, bs10, bs11, bsF, kbs⟩ := BoxV.a12 hs_h6.out
              obtain ⟨bp0, bp1, bp2, bpF, kbp⟩ := BoxV.a3 hp_h6.out
              obtain ⟨br0, br1, br2, br3, br4, br5, br6, br7, br8, br9, br10, br11, brF, kbr⟩ := BoxV.a12 hr_h6.out
              obtain ⟨bx0, bx1, bx2, bx3, bx4, bx5, bx6, bx7, bx8, bx9, bx10, bx11, bxF, kbx⟩ := BoxV.a12 hx_h6.out
              obtain ⟨bb0, bb1, bb2, bb3, bbF, kbb⟩ := BoxV.a4 hb_h6.out
              have ⟨nesp, neps⟩ := ne2 (show w.heap.size ≠ w.heap.size + 1 by omega)
              have ⟨nesr, ners⟩ := ne2 (show w.heap.size ≠ w.heap.size + 1 + 1 by omega)
              have ⟨nesx, nexs⟩ := ne2 (show w.heap.size ≠ w1.heap.size by omega)
              have ⟨nesb, nebs⟩ := ne2 (show w.heap.size ≠ h5.heap.size by omega)
              have ⟨nepr, nerp⟩ := ne2 (show w.heap.size + 1 ≠ w.heap.size + 1 + 1 by omega)
              have ⟨nepx, nexp⟩ := ne2 (show w.heap.size + 1 ≠ w1.heap.size by omega)
              have ⟨nepb, nebp⟩ := ne2 (show w.heap.size + 1 ≠ h5.heap.size by omega)
              have ⟨nerx, nexr⟩ := ne2 (show w.heap.size + 1 + 1 ≠ w1.heap.size by omega)
              have ⟨nerb, nebr⟩ := ne2 (show w.heap.size + 1 + 1 ≠ h5.heap.size by omega)
              have ⟨nexb, nebx⟩ := ne2 (show w1.heap.size ≠ h5.heap.size by omega)
              clear h0h6
              (refine wpC_store ?_ rfl rfl (by rfl) ?_ ?_ ?_; rotate_left; (focus (go_simp; (try with_reducible rfl); done)))
              · exact Chg.go
              try simp only [nrm, nrg]
              refine wpF_done rfl ?_
              simp only [List.drop_succ_cons, List.drop_zero, List.drop_nil]
              have hset := BoxV.set hb_h6.out [.int .i64 z, .int .i64 gb, .int .i64 e, .slice gr ys.length cr] rfl
              simp only [setFrom, Nat.zero_add, Nat.reduceAdd] at hset
              have hzs := hide (hs_h6.out.chg hset.2 xom)
              have hzp := hide (hp_h6.out.chg hset.2 xom)
              have hzr := hide (hr_h6.out.chg hset.2 xom)
              have hzx := hide (hx_h6.out.chg hset.2 xom)
              have oz := hide (OwnSnB.chg ox_h6.out hset.2 xap)
              have or := hide (OwnS.chg or_h6.out hset.2 xap)
              have gz := hgwh6.trans (hset.2.mono (T := fun b => w.heap.size ≤ b) xsub)
              have sz := hset.2.size
              have hzb := hide hset.1
              clear hset
              go_wp2_with fail
              go_meet
              exact ⟨_, gr, cr, rfl, by omega, hzb.out, hzs.out, hzp.out, hzr.out, hzx.out, oz.out, or.out.mono (by omega) (by omega), gz, by omega⟩
            · skip
              try simp only [nrm, nrg]
              (refine wpC_call 100 ?_ rfl rfl (by rfl) ?_ ?_; rotate_left; (focus (go_simp; (try with_reducible rfl); done)))
              refine (DropRing_spec z b e gb ar xs.length c1 xs _ (hx'.out.r.ext (Chg.ext (S := fun b => w.heap.size ≤ b) (Chg.trans hgwh4 (Chg.mono (S := fun b => False) (T := fun b => w.heap.size ≤ b) Chg.go xsub)) (fun b h1 h2 => by (try dsimp only at h2); omega))) rfl (by omega) (by omega)).mono ?_
              rintro en h5 ⟨gr, cr, rfl, ownr, hh5⟩
              refine ⟨_, rfl, Ext.chg hh5 _, ?_⟩
              try simp only [nrm, nrg]
              rw [hdb.out, hdc.out] at *
              have gh5 : Chg (fun b => False) h4 h5 := Chg.trans Chg.go (Ext.chg hh5 _)
              have zh5 := hh5.size
              (try simp at zh5)
              have yh5 : h4.heap.size ≤ h5.heap.size := gh5.size
              have hs_h5 := hide (hs_h4.out.chg gh5 xom)
              have hp_h5 := hide (hp_h4.out.chg gh5 xom)
              have hr_h5 := hide (hr_h4.out.chg gh5 xom)
              have hx_h5 := hide (hx_h4.out.chg gh5 xom)
              have hb_h5 := hide (BoxV.chg (BoxV.new h4 [.int .i64 0, .int .i64 0, .int .i64 0, .slice none 0 0] 29) (S := fun b => False) (Chg.trans Chg.go (Ext.chg hh5 _)) xom)
              have ox_h5 := hide (OwnSnB.chg ox_h4.out gh5 xap)
              have hgwh5 : Chg (fun b => w.heap.size ≤ b) w h5 := Chg.trans hgwh4 (Chg.mono (T := fun b => w.heap.size ≤ b) gh5 xsub)
              clear hs_h4 hp_h4 hr_h4 hx_h4 ox_h4 hgwh4 bs0 bs1 bs2 bs3 bs4 bs5 bs6 bs7 bs8 bs9 bs10 bs11 bsF kbs bp0 bp1 bp2 bpF kbp br0 br1 br2 br3 br4 br5 br6 br7 br8 br9 br10 br11 brF kbr bx0 bx1 bx2 bx3 bx4 bx5 bx6 bx7 bx8 bx9 bx10 bx11 bxF kbx nesp neps nesr ners nesx nexs nepr nerp nepx nexp nerx nexr
              clear gh5 hh5
              obtain ⟨bs0, bs1, bs2, bs3, bs4, bs5, bs6, bs7, bs8, bs9, bs10, bs11, bsF, kbs⟩ := BoxV.a12 hs_h5.out
              obtain ⟨bp0, bp1, bp2, bpF, kbp⟩ := BoxV.a3 hp_h5.out
              obtain ⟨br0, br1, br2, br3, br4, br5, br6, br7, br8, br9, br10, br11, brF, kbr⟩ := BoxV.a12 hr_h5.out
              obtain ⟨bx0, bx1, bx2, bx3, bx4, bx5, bx6, bx7, bx8, bx9, bx10, bx11, bxF, kbx⟩ := BoxV.a12 hx_h5.out
              obtain ⟨bb0, bb1, bb2, bb3, bbF, kbb⟩ := BoxV.a4 hb_h5.out
              have ⟨nesp, neps⟩ := ne2 (show w.heap.size ≠ w.heap.size + 1 by omega)
              have ⟨nesr, ners⟩ := ne2 (show w.heap.size ≠ w.heap.size + 1 + 1 by omega)
              have ⟨nesx, nexs⟩ := ne2 (show w.heap.size ≠ w1.heap.size by omega)
              have ⟨nesb, nebs⟩ := ne2 (show w.heap.size ≠ h4.heap.size by omega)
              have ⟨nepr, nerp⟩ := ne2 (show w.heap.size + 1 ≠ w.heap.size + 1 + 1 by omega)
              have ⟨nepx, nexp⟩ := ne2 (show w.heap.size + 1 ≠ w1.heap.size by omega)
              have ⟨nepb, nebp⟩ := ne2 (show w.heap.size + 1 ≠ h4.heap.size by omega)
              have ⟨nerx, nexr⟩ := ne2 (show w.heap.size + 1 + 1 ≠ w1.heap.size by omega)
              have ⟨nerb, nebr⟩ := ne2 (show w.heap.size + 1 + 1 ≠ h4.heap.size by omega)
              have ⟨nexb, nebx⟩ := ne2 (show w1.heap.size ≠ h4.heap.size by omega)
              (try simp only [World.size_alloc, World.size_drew, World.size_setCell] at ownr)
              replace ownr := hide ownr
              iterate 3 ((refine wpC_pure (v := ?_) rfl rfl (by rfl) ?_ ?_; rotate_left; (focus (intro ws hws; go_simp; (try with_reducible rfl); done))); try simp only [nrm, nrg])
              (refine wpC_store ?_ rfl rfl (by rfl) ?_ ?_ ?_; rotate_left; (focus (go_simp; (try with_reducible rfl); done)))
              · exact Chg.go
              try simp only [nrm, nrg]
              refine wpF_done rfl ?_
              simp only [List.drop_succ_cons, List.drop_zero, List.drop_nil]
              have hset := BoxV.set hb_h5.out [.int .i64 z, .int .i64 gb, .int .i64 e, .slice gr ys.length cr] rfl
              simp only [setFrom, Nat.zero_add, Nat.reduceAdd] at hset
              have hzs := hide (hs_h5.out.chg hset.2 xom)
              have hzp := hide (hp_h5.out.chg hset.2 xom)
              have hzr := hide (hr_h5.out.chg hset.2 xom)
              have hzx := hide (hx_h5.out.chg hset.2 xom)
              have oz := hide (OwnSnB.chg ox_h5.out hset.2 xap)
              have or := hide (OwnS.chg ownr.out hset.2 xap)
              have gz := hgwh5.trans (hset.2.mono (T := fun b => w.heap.size ≤ b) xsub)
              have sz := hset.2.size
              have hzb := hide hset.1
              clear hset
              go_wp2_with fail
              go_meet
              exact ⟨_, gr, cr, rfl, by omega, hzb.out, hzs.out, hzp.out, hzr.out, hzx.out, oz.out, or.out.mono (by omega) (by omega), gz, by omega⟩
          · skip
            try simp only [nrm, nrg]
            (refine wpC_call 85 ?_ rfl rfl (by rfl) ?_ ?_; rotate_left; (focus (go_simp; (try with_reducible rfl); done)))
            refine (FirstGap_spec 0 qt LT.length ct LT _ (OwnSnV.read (OwnSnB.snv (OwnSnB.chg (S := fun b => False) hown.out Chg.go xap))).k rfl (by omega)).mono ?_
            rintro en h4 ⟨rfl, hh4⟩
            refine ⟨_, rfl, Ext.chg hh4 _, ?_⟩
            try simp only [nrm, nrg]
            rw [hgb.out]
            have gh4 : Chg (fun b => False) wz h4 := Chg.trans Chg.go (Ext.chg hh4 _)
            have zh4 := hh4.size
            (try simp at zh4)
            have yh4 : wz.heap.size ≤ h4.heap.size := gh4.size
            have hs_h4 := hide (hBs.out.chg gh4 xom)
            have hp_h4 := hide (hBp.out.chg gh4 xom)
            have hr_h4 := hide (hBr.out.chg gh4 xom)
            have hx_h4 := hide (hBx.out.chg gh4 xom)
            have hb_h4 := hide (BoxV.chg (show BoxV (wz.heap.size) _ [.int .i64 0, .int .i64 0, .int .i64 0, .slice none 0 0] from by have h := (BoxV.new wz.drew [.int .i64 0, .int .i64 0, .int .i64 0, .slice none 0 0] 29); simpa only [World.size_alloc, World.size_drew] using h) (S := fun b => False) (Chg.trans Chg.go (Ext.chg hh4 _)) xom)
            have ox_h4 := hide (OwnSnB.chg hown.out gh4 xap)
            have hgwh4 : Chg (fun b => w.heap.size ≤ b) w h4 := Chg.trans hgw (Chg.mono (T := fun b => w.heap.size ≤ b) gh4 xsub)
            clear hBs hBp hBr hBx hown hgw bs0 bs1 bs2 bs3 bs4 bs5 bs6 bs7 bs8 bs9 bs10 bs11 bsF kbs bp0 bp1 bp2 bpF kbp br0 br1 br2 br3 br4 br5 br6 br7 br8 br9 br10 br11 brF kbr bx0 bx1 bx2 bx3 bx4 bx5 bx6 bx7 bx8 bx9 bx10 bx11 bxF kbx nesp neps nesr ners nesx nexs nepr nerp nepx nexp nerx nexr
            clear gh4 hh4
            obtain ⟨bs0, bs1, bs2, bs3, bs4, bs5, bs6, bs7, bs8, bs9, bs10, bs11, bsF, kbs⟩ := BoxV.a12 hs_h4.out
            obtain ⟨bp0, bp1, bp2, bpF, kbp⟩ := BoxV.a3 hp_h4.out
            obtain ⟨br0, br1, br2, br3, br4, br5, br6, br7, br8, br9, br10, br11, brF, kbr⟩ := BoxV.a12 hr_h4.out
            obtain ⟨bx0, bx1, bx2, bx3, bx4, bx5, bx6, bx7, bx8, bx9, bx10, bx11, bxF, kbx⟩ := BoxV.a12 hx_h4.out
            obtain ⟨bb0, bb1, bb2, bb3, bbF, kbb⟩ := BoxV.a4 hb_h4.out
            have ⟨nesp, neps⟩ := ne2 (show w.heap.size ≠ w.heap.size + 1 by omega)
            have ⟨nesr, ners⟩ := ne2 (show w.heap.size ≠ w.heap.size + 1 + 1 by omega)
            have ⟨nesx, nexs⟩ := ne2 (show w.heap.size ≠ w1.heap.size by omega)
            have ⟨nesb, nebs⟩ := ne2 (show w.heap.size ≠ wz.heap.size by omega)
            have ⟨nepr, nerp⟩ := ne2 (show w.heap.size + 1 ≠ w.heap.size + 1 + 1 by omega)
            have ⟨nepx, nexp⟩ := ne2 (show w.heap.size + 1 ≠ w1.heap.size by omega)
            have ⟨nepb, nebp⟩ := ne2 (show w.heap.size + 1 ≠ wz.heap.size by omega)
            have ⟨nerx, nexr⟩ := ne2 (show w.heap.size + 1 + 1 ≠ w1.heap.size by omega)
            have ⟨nerb, nebr⟩ := ne2 (show w.heap.size + 1 + 1 ≠ wz.heap.size by omega)
            have ⟨nexb, nebx⟩ := ne2 (show w1.heap.size ≠ wz.heap.size by omega)
            (refine wpC_call 100 ?_ rfl rfl (by rfl) ?_ ?_; rotate_left; (focus (go_simp; (try with_reducible rfl); done)))
            refine (DropRing_spec z b e gb ar xs.length c1 xs _ (hx'.out.r.ext (Chg.ext (S := fun b => w.heap.size ≤ b) (Chg.trans hgwh4 (Chg.mono (S := fun b => False) (T := fun b => w.heap.size ≤ b) Chg.go xsub)) (fun b h1 h2 => by (try dsimp only at h2); omega))) rfl (by omega) (by omega)).mono ?_
            rintro en h5 ⟨gr, cr, rfl, ownr, hh5⟩
            refine ⟨_, rfl, Ext.chg hh5 _, ?_⟩
            try simp only [nrm, nrg]
            rw [hdb.out, hdc.out] at *
            have gh5 : Chg (fun b => False) h4 h5 := Chg.trans Chg.go (Ext.chg hh5 _)
            have zh5 := hh5.size
            (try simp at zh5)
            have yh5 : h4.heap.size ≤ h5.heap.size := gh5.size
            have hs_h5 := hide (hs_h4.out.chg gh5 xom)
            have hp_h5 := hide (hp_h4.out.chg gh5 xom)
            have hr_h5 := hide (hr_h4.out.chg gh5 xom)
            have hx_h5 := hide (hx_h4.out.chg gh5 xom)
            have hb_h5 := hide (hb_h4.out.chg gh5 xom)
            have ox_h5 := hide (OwnSnB.chg ox_h4.out gh5 xap)
            have hgwh5 : Chg (fun b => w.heap.size ≤ b) w h5 := Chg.trans hgwh4 (Chg.mono (T := fun b => w.heap.size ≤ b) gh5 xsub)
            clear hs_h4 hp_h4 hr_h4 hx_h4 hb_h4 ox_h4 hgwh4 bs0 bs1 bs2 bs3 bs4 bs5 bs6 bs7 bs8 bs9 bs10 bs11 bsF kbs bp0 bp1 bp2 bpF kbp br0 br1 br2 br3 br4 br5 br6 br7 br8 br9 br10 br11 brF kbr bx0 bx1 bx2 bx3 bx4 bx5 bx6 bx7 bx8 bx9 bx10 bx11 bxF kbx bb0 bb1 bb2 bb3 bbF kbb nesp neps nesr ners nesx nexs nesb nebs nepr nerp nepx nexp nepb nebp nerx nexr nerb nebr nexb nebx
            clear gh5 hh5
            obtain ⟨bs0, bs1, bs2, bs3, bs4, bs5, bs6, bs7, bs8, bs9, bs10, bs11, bsF, kbs⟩ := BoxV.a12 hs_h5.out
            obtain ⟨bp0, bp1, bp2, bpF, kbp⟩ := BoxV.a3 hp_h5.out
            obtain ⟨br0, br1, br2, br3, br4, br5, br6, br7, br8, br9, br10, br11, brF, kbr⟩ := BoxV.a12 hr_h5.out
            obtain ⟨bx0, bx1, bx2, bx3, bx4, bx5, bx6, bx7, bx8, bx9, bx10, bx11, bxF, kbx⟩ := BoxV.a12 hx_h5.out
            obtain ⟨bb0, bb1, bb2, bb3, bbF, kbb⟩ := BoxV.a4 hb_h5.out
            have ⟨nesp, neps⟩ := ne2 (show w.heap.size ≠ w.heap.size + 1 by omega)
            have ⟨nesr, ners⟩ := ne2 (show w.heap.size ≠ w.heap.size + 1 + 1 by omega)
            have ⟨nesx, nexs⟩ := ne2 (show w.heap.size ≠ w1.heap.size by omega)
            have ⟨nesb, nebs⟩ := ne2 (show w.heap.size ≠ wz.heap.size by omega)
            have ⟨nepr, nerp⟩ := ne2 (show w.heap.size + 1 ≠ w.heap.size + 1 + 1 by omega)
            have ⟨nepx, nexp⟩ := ne2 (show w.heap.size + 1 ≠ w1.heap.size by omega)
            have ⟨nepb, nebp⟩ := ne2 (show w.heap.size + 1 ≠ wz.heap.size by omega)
            have ⟨nerx, nexr⟩ := ne2 (show w.heap.size + 1 + 1 ≠ w1.heap.size by omega)
            have ⟨nerb, nebr⟩ := ne2 (show w.heap.size + 1 + 1 ≠ wz.heap.size by omega)
            have ⟨nexb, nebx⟩ := ne2 (show w1.heap.size ≠ wz.heap.size by omega)
            (try simp only [World.size_alloc, World.size_drew, World.size_setCell] at ownr)
            replace ownr := hide ownr
            iterate 3 ((refine wpC_pure (v := ?_) rfl rfl (by rfl) ?_ ?_; rotate_left; (focus (intro ws hws; go_simp; (try with_reducible rfl); done))); try simp only [nrm, nrg])
            (refine wpC_store ?_ rfl rfl (by rfl) ?_ ?_ ?_; rotate_left; (focus (go_simp; (try with_reducible rfl); done)))
            · exact Chg.go
            try simp only [nrm, nrg]
            refine wpF_done rfl ?_
            simp only [List.drop_succ_cons, List.drop_zero, List.drop_nil]
            have hset := BoxV.set hb_h5.out [.int .i64 z, .int .i64 gb, .int .i64 e, .slice gr ys.length cr] rfl
            simp only [setFrom, Nat.zero_add, Nat.reduceAdd] at hset
            have hzs := hide (hs_h5.out.chg hset.2 xom)
            have hzp := hide (hp_h5.out.chg hset.2 xom)
            have hzr := hide (hr_h5.out.chg hset.2 xom)
            have hzx := hide (hx_h5.out.chg hset.2 xom)
            have oz := hide (OwnSnB.chg ox_h5.out hset.2 xap)
            have or := hide (OwnS.chg ownr.out hset.2 xap)
            have gz := hgwh5.trans (hset.2.mono (T := fun b => w.heap.size ≤ b) xsub)
            have sz := hset.2.size
            have hzb := hide hset.1
            clear hset
            go_wp2_with fail
            go_meet
            exact ⟨_, gr, cr, rfl, by omega, hzb.out, hzs.out, hzp.out, hzr.out, hzx.out, oz.out, or.out.mono (by omega) (by omega), gz, by omega⟩
        case rest =>
          obtain ⟨wy, hwe⟩ : ∃ u, u = wc := ⟨_, rfl⟩
          subst hwe
          obtain ⟨B, gr, cr, rfl, hBw, kBb, kBs, kBp, kBr, kBx, kown, kor, kgw, hsz3⟩ := hcut
          clear bs0 bs1 bs2 bs3 bs4 bs5 bs6 bs7 bs8 bs9 bs10 bs11 bsF kbs bp0 bp1 bp2 bpF kbp br0 br1 br2 br3 br4 br5 br6 br7 br8 br9 br10 br11 brF kbr bx0 bx1 bx2 bx3 bx4 bx5 bx6 bx7 bx8 bx9 bx10 bx11 bxF kbx nesp neps nesr ners nesx nexs nepr nerp nepx nexp nerx nexr hBs hBp hBr hBx hown hgw
          have hBs := kBs
          have hBp := kBp
          have hBr := kBr
          have hBx := kBx
          have hown := kown
          have hgw := kgw
          have hBb := kBb
          clear kBs kBp kBr kBx kown kgw kBb
          replace kor := hide kor
          replace hBs := hide hBs
          replace hBp := hide hBp
          replace hBr := hide hBr
          replace hBx := hide hBx
          replace hBb := hide hBb
          replace hown := hide hown
          obtain ⟨bs0, bs1, bs2, bs3, bs4, bs5, bs6, bs7, bs8, bs9, bs10, bs11, bsF, kbs⟩ := BoxV.a12 hBs.out
          obtain ⟨bp0, bp1, bp2, bpF, kbp⟩ := BoxV.a3 hBp.out
          obtain ⟨br0, br1, br2, br3, br4, br5, br6, br7, br8, br9, br10, br11, brF, kbr⟩ := BoxV.a12 hBr.out
          obtain ⟨bx0, bx1, bx2, bx3, bx4, bx5, bx6, bx7, bx8, bx9, bx10, bx11, bxF, kbx⟩ := BoxV.a12 hBx.out
          obtain ⟨bb0, bb1, bb2, bb3, bbF, kbb⟩ := BoxV.a4 hBb.out
          have ⟨nesp, neps⟩ := ne2 (show w.heap.size ≠ w.heap.size + 1 by omega)
          have ⟨nesr, ners⟩ := ne2 (show w.heap.size ≠ w.heap.size + 1 + 1 by omega)
          have ⟨nesx, nexs⟩ := ne2 (show w.heap.size ≠ w1.heap.size by omega)
          have ⟨nesb, nebs⟩ := ne2 (show w.heap.size ≠ B by omega)
          have ⟨nepr, nerp⟩ := ne2 (show w.heap.size + 1 ≠ w.heap.size + 1 + 1 by omega)
          have ⟨nepx, nexp⟩ := ne2 (show w.heap.size + 1 ≠ w1.heap.size by omega)
          have ⟨nepb, nebp⟩ := ne2 (show w.heap.size + 1 ≠ B by omega)
          have ⟨nerx, nexr⟩ := ne2 (show w.heap.size + 1 + 1 ≠ w1.heap.size by omega)
          have ⟨nerb, nebr⟩ := ne2 (show w.heap.size + 1 + 1 ≠ B by omega)
          have ⟨nexb, nebx⟩ := ne2 (show w1.heap.size ≠ B by omega)
          have hmr := hide (OwnSnB.setR (hi' := wy.heap.size) hown.out kor.out xpf xpf xpf xpf xpf)
          clear hown kor
          go_wp2_with fail
          refine (state_spec ⟨st, z, gb, e, ys, p, LF, LT, fi, FK, se, co⟩ ⟨gr, d2, qf, qt⟩ cr cd2 cf ct _).mono ?_
          rintro en m4 ⟨rfl, hm4⟩
          rw [stS_I (by (try dsimp only); omega)]
          have gm4 : Chg (fun b => b = w1.heap.size) wy m4 := Chg.trans Chg.go (Ext.chg hm4 _)
          have zm4 := hm4.size
          (try simp at zm4)
          have ym4 : wy.heap.size ≤ m4.heap.size := gm4.size
          have hs_m4 := hide (hBs.out.chg gm4 xom)
          have hp_m4 := hide (hBp.out.chg gm4 xom)
          have hr_m4 := hide (hBr.out.chg gm4 xom)
          have hsx_0 := (BoxV.set1 hBx.out (j := 1) (by simp) (.int .i64 z)).1
          simp only [List.set_cons_zero, List.set_cons_succ] at hsx_0
          have hsx_1 := (BoxV.set1 hsx_0 (j := 2) (by simp) (.int .i64 gb)).1
          simp only [List.set_cons_zero, List.set_cons_succ] at hsx_1
          have hsx_2 := (BoxV.set1 hsx_1 (j := 3) (by simp) (.int .i64 e)).1
          simp only [List.set_cons_zero, List.set_cons_succ] at hsx_2
          have hsx := (BoxV.set1 hsx_2 (j := 4) (by simp) (.slice gr ys.length cr)).1
          simp only [List.set_cons_zero, List.set_cons_succ] at hsx
          have hx_m4 := hide (BoxV.chg hsx (S := fun b => b = 0) (Chg.trans Chg.go (Ext.chg hm4 _)) xom)
          clear hsx
          have hb_m4 := hide (hBb.out.chg gm4 xom)
          have ox_m4 := hide (OwnSnB.chg hmr.out gm4 xap)
          have hgwm4 : Chg (fun b => w.heap.size ≤ b) w m4 := Chg.trans hgw (Chg.mono (T := fun b => w.heap.size ≤ b) gm4 xsub)
          clear hBs hBp hBr hBx hBb hmr hgw bs0 bs1 bs2 bs3 bs4 bs5 bs6 bs7 bs8 bs9 bs10 bs11 bsF kbs bp0 bp1 bp2 bpF kbp br0 br1 br2 br3 br4 br5 br6 br7 br8 br9 br10 br11 brF kbr bx0 bx1 bx2 bx3 bx4 bx5 bx6 bx7 bx8 bx9 bx10 bx11 bxF kbx bb0 bb1 bb2 bb3 bbF kbb nesp neps nesr ners nesx nexs nesb nebs nepr nerp nepx nexp nepb nebp nerx nexr nerb nebr nexb nebx
          clear gm4 hm4
          obtain ⟨bs0, bs1, bs2, bs3, bs4, bs5, bs6, bs7, bs8, bs9, bs10, bs11, bsF, kbs⟩ := BoxV.a12 hs_m4.out
          obtain ⟨bp0, bp1, bp2, bpF, kbp⟩ := BoxV.a3 hp_m4.out
          obtain ⟨br0, br1, br2, br3, br4, br5, br6, br7, br8, br9, br10, br11, brF, kbr⟩ := BoxV.a12 hr_m4.out
          obtain ⟨bx0, bx1, bx2, bx3, bx4, bx5, bx6, bx7, bx8, bx9, bx10, bx11, bxF, kbx⟩ := BoxV.a12 hx_m4.out
          obtain ⟨bb0, bb1, bb2, bb3, bbF, kbb⟩ := BoxV.a4 hb_m4.out
          have ⟨nesp, neps⟩ := ne2 (show w.heap.size ≠ w.heap.size + 1 by omega)
          have ⟨nesr, ners⟩ := ne2 (show w.heap.size ≠ w.heap.size + 1 + 1 by omega)
          have ⟨nesx, nexs⟩ := ne2 (show w.heap.size ≠ w1.heap.size by omega)
          have ⟨nesb, nebs⟩ := ne2 (show w.heap.size ≠ B by omega)
          have ⟨nepr, nerp⟩ := ne2 (show w.heap.size + 1 ≠ w.heap.size + 1 + 1 by omega)
          have ⟨nepx, nexp⟩ := ne2 (show w.heap.size + 1 ≠ w1.heap.size by omega)
          have ⟨nepb, nebp⟩ := ne2 (show w.heap.size + 1 ≠ B by omega)
          have ⟨nerx, nexr⟩ := ne2 (show w.heap.size + 1 + 1 ≠ w1.heap.size by omega)
          have ⟨nerb, nebr⟩ := ne2 (show w.heap.size + 1 + 1 ≠ B by omega)
          have ⟨nexb, nebx⟩ := ne2 (show w1.heap.size ≠ B by omega)
          have hc : hearS true ⟨st, z, b, e, xs, p, f, k, fi, fk, se, co⟩ o d fin = true := by unfold hearS; rw [hact.out, hin]; rfl
          have hX : akX true ⟨st, z, b, e, xs, p, f, k, fi, fk, se, co⟩ o d fin = ⟨stI st gb e FK se, z, gb, e, ys, p, LF, LT, fi, FK, se, co⟩ := by
            unfold akX
            rw [if_pos hc]
            unfold akV akB akK
            dsimp only
            rw [hC.out, hLT.out, hLF.out, hFK.out, hgb.out, hys.out]
          clear hc
          replace hX := hide hX
          go_wp2
          rw [hX.out]
          refine bodyPost_ret (v := .agg #[.int .i64 (stI st gb e FK se), .int .i64 z, .int .i64 gb, .int .i64 e, .slice gr ys.length cr, .slice d2 p.length cd2, .slice qf LF.length cf, .slice qt LT.length ct, .int .i64 fi, .int .i64 FK, .int .i64 se, .int .i64 co]) (by simp [results, Try.results38, go_sem, *]) rfl ⟨gr, d2, qf, qt, cr, cd2, cf, ct, rfl, ?_, ?_⟩
          · exact OwnSnV.mono (OwnSnB.snv (OwnSnB.chg (S := fun b => b = w1.heap.size ∨ b = w.heap.size + 1 + 1) ox_m4.out Chg.go xap)) xpf xpf
          · exact (Chg.ext (S := fun b => w.heap.size ≤ b) (Chg.trans hgwm4 (Chg.mono (S := fun b => b = w1.heap.size ∨ b = w.heap.size + 1 + 1) (T := fun b => w.heap.size ≤ b) Chg.go xsub)) (fun b h1 h2 => by (try dsimp only at h2); omega))
end
end Go.Proofs.Ytjhgcbchdnoleaa

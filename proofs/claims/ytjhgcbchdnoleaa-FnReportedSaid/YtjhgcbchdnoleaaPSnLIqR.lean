/-
  Part of the proof: SnLI.
-/
import Derived.Test.YtjhgcbchdnoleaaPSnStepqR
import Derived.Test.YtjhgcbchdnoleaaPSnIqPR
import Derived.Test.YtjhgcbchdnoleaaPRgCqPR
namespace Go.Proofs.Ytjhgcbchdnoleaa
section
open Go.ChangeShapes Go.WideShapes Go.ChangeAt Go.RowKit
set_option linter.unusedSimpArgs false
set_option linter.unusedVariables false
set_option maxHeartbeats 8000000 in
set_option maxRecDepth 100000 in
theorem settleLose_impl (s : Sn) (a : Ads) (c1 c2 c3 c4 : Nat) (o : Int) (d : ByteArray) (fin : Bool) (w : World) (hx : ReadSnd w a ⟨s.xs, s.p, s.f, s.k⟩) (hl : s.xs.length ≤ 1048576) (hsum : s.p.length + s.f.length + s.k.length ≤ 1048576) (ho : -1000000 ≤ o ∧ o ≤ 1000000) (hds : (d.size : Int) ≤ 1000000) (he : -1 ≤ s.e ∧ s.e ≤ 1000) (hV : actV (sndI s) s = true → Vld s) :
    Calls Try.prog 96 #[.agg #[.int .i64 s.st, .int .i64 s.z, .int .i64 s.b, .int .i64 s.e, .slice a.r s.xs.length c1, .slice a.p s.p.length c2, .slice a.f s.f.length c3, .slice a.k s.k.length c4, .int .i64 s.fi, .int .i64 s.fk, .int .i64 s.se, .int .i64 s.co], .agg #[.int .i64 o, .string d, .bool fin], .bool false] w (NewSn (loX (sndI s) s o d fin) w) := by
  have hde := str_empty d
  have hwh : IntKind.i64.wrap (o + (d.size : Int)) = o + (d.size : Int) := IntWalk.i64_in _ (by omega)
  obtain ⟨st, z, b, e, xs, p, f, k, fi, fk, se, co⟩ := s
  obtain ⟨ar, ap, af, ak⟩ := a
  dsimp only at *
  have hx' := hide hx
  clear hx
  generalize hv : sndI ⟨st, z, b, e, xs, p, f, k, fi, fk, se, co⟩ = v at *
  replace hv := hide hv
  replace hV := hide hV
  skip
  go_enter Try.func96, Try.ntmps96
  have hgw0 : Chg (fun b => w.heap.size ≤ b) w w := Chg.refl _ _
  go_wp2_with fail
  refine (copySender_any ⟨st, z, b, e, xs, p, f, k, fi, fk, se, co⟩ ⟨ar, ap, af, ak⟩ c1 c2 c3 c4 _ (hx'.out.ext (Chg.ext (S := fun b => w.heap.size ≤ b) (Chg.trans hgw0 (Chg.mono (S := fun b => False) (T := fun b => w.heap.size ≤ b) Chg.go xsub)) (fun b h1 h2 => by (try dsimp only at h2); omega))) hl (by (try dsimp only); omega)).mono ?_
  rintro en w1 ⟨d1, d2, d3, d4, cd1, cd2, cd3, cd4, rfl, ownd, hw1⟩
  have gw1 : Chg (fun b => False) w w1 := Chg.trans Chg.go (Ext.chg hw1 _)
  have zw1 := hw1.size
  (try simp at zw1)
  have yw1 : w.heap.size ≤ w1.heap.size := gw1.size
  have hs_w1 := hide (BoxV.chg (BoxV.new w [.int .i64 st, .int .i64 z, .int .i64 b, .int .i64 e, .slice ar xs.length c1, .slice ap p.length c2, .slice af f.length c3, .slice ak k.length c4, .int .i64 fi, .int .i64 fk, .int .i64 se, .int .i64 co] 32) (S := fun b => False) (Chg.trans Chg.go (Ext.chg hw1 _)) xom)
  have hp_w1 := hide (BoxV.chg (show BoxV (w.heap.size + 1) _ [.int .i64 o, .string d, .bool fin] from by have h := (BoxV.new (w.alloc (.cells #[.int .i64 st, .int .i64 z, .int .i64 b, .int .i64 e, .slice ar xs.length c1, .slice ap p.length c2, .slice af f.length c3, .slice ak k.length c4, .int .i64 fi, .int .i64 fk, .int .i64 se, .int .i64 co] 32)) [.int .i64 o, .string d, .bool fin] 55); simpa only [World.size_alloc, World.size_drew] using h) (S := fun b => False) (Chg.trans Chg.go (Ext.chg hw1 _)) xom)
  have hr_w1 := hide (BoxV.chg (show BoxV (w.heap.size + 1 + 1) _ [.int .i64 0, .int .i64 0, .int .i64 0, .int .i64 0, .slice none 0 0, .slice none 0 0, .slice none 0 0, .slice none 0 0, .int .i64 0, .int .i64 0, .int .i64 0, .int .i64 0] from by have h := (BoxV.new ((w.alloc (.cells #[.int .i64 st, .int .i64 z, .int .i64 b, .int .i64 e, .slice ar xs.length c1, .slice ap p.length c2, .slice af f.length c3, .slice ak k.length c4, .int .i64 fi, .int .i64 fk, .int .i64 se, .int .i64 co] 32)).alloc (.cells #[.int .i64 o, .string d, .bool fin] 55)) [.int .i64 0, .int .i64 0, .int .i64 0, .int .i64 0, .slice none 0 0, .slice none 0 0, .slice none 0 0, .slice none 0 0, .int .i64 0, .int .i64 0, .int .i64 0, .int .i64 0] 32); simpa only [World.size_alloc, World.size_drew] using h) (S := fun b => False) (Chg.trans Chg.go (Ext.chg hw1 _)) xom)
  have hgww1 : Chg (fun b => w.heap.size ≤ b) w w1 := Chg.trans hgw0 (Chg.mono (T := fun b => w.heap.size ≤ b) gw1 xsub)
  clear hgw0
  clear gw1 hw1
  obtain ⟨bs0, bs1, bs2, bs3, bs4, bs5, bs6, bs7, bs8, bs9, bs10, bs11, bsF, kbs⟩ := BoxV.a12 hs_w1.out
  obtain ⟨bp0, bp1, bp2, bpF, kbp⟩ := BoxV.a3 hp_w1.out
  obtain ⟨br0, br1, br2, br3, br4, br5, br6, br7, br8, br9, br10, br11, brF, kbr⟩ := BoxV.a12 hr_w1.out
  have ⟨nesp, neps⟩ := ne2 (show w.heap.size ≠ w.heap.size + 1 by omega)
  have ⟨nesr, ners⟩ := ne2 (show w.heap.size ≠ w.heap.size + 1 + 1 by omega)
  have ⟨nepr, nerp⟩ := ne2 (show w.heap.size + 1 ≠ w.heap.size + 1 + 1 by omega)
  (try simp only [World.size_alloc, World.size_drew, World.size_setCell] at ownd)
  replace ownd := hide ownd
  go_wp2_with fail
  refine (isActive_impl ⟨st, z, b, e, xs, p, f, k, fi, fk, se, co⟩ ⟨ar, ap, af, ak⟩ c1 c2 c3 c4 _ (hx'.out.ext (Chg.ext (S := fun b => w.heap.size ≤ b) (Chg.trans hgww1 (Chg.mono (S := fun b => False) (T := fun b => w.heap.size ≤ b) Chg.go xsub)) (fun b h1 h2 => by (try dsimp only at h2); omega))) hl (by (try dsimp only); omega)).mono ?_
  rintro en w2 ⟨rfl, hw2⟩
  rw [hv.out]
  have gw2 : Chg (fun b => False) w1 w2 := Chg.trans Chg.go (Ext.chg hw2 _)
  have zw2 := hw2.size
  (try simp at zw2)
  have yw2 : w1.heap.size ≤ w2.heap.size := gw2.size
  have hs_w2 := hide (hs_w1.out.chg gw2 xom)
  have hp_w2 := hide (hp_w1.out.chg gw2 xom)
  have hr_w2 := hide (hr_w1.out.chg gw2 xom)
  have hx_w2 := hide (BoxV.chg (BoxV.new w1 [.int .i64 st, .int .i64 z, .int .i64 b, .int .i64 e, .slice d1 xs.length cd1, .slice d2 p.length cd2, .slice d3 f.length cd3, .slice d4 k.length cd4, .int .i64 fi, .int .i64 fk, .int .i64 se, .int .i64 co] 32) (S := fun b => False) (Chg.trans Chg.go (Ext.chg hw2 _)) xom)
  have ox_w2 := hide (OwnSnV.chg ownd.out gw2 xap)
  have hgww2 : Chg (fun b => w.heap.size ≤ b) w w2 := Chg.trans hgww1 (Chg.mono (T := fun b => w.heap.size ≤ b) gw2 xsub)
  clear hs_w1 hp_w1 hr_w1 ownd hgww1 bs0 bs1 bs2 bs3 bs4 bs5 bs6 bs7 bs8 bs9 bs10 bs11 bsF kbs bp0 bp1 bp2 bpF kbp br0 br1 br2 br3 br4 br5 br6 br7 br8 br9 br10 br11 brF kbr nesp neps nesr ners nepr nerp
  clear gw2 hw2
  obtain ⟨bs0, bs1, bs2, bs3, bs4, bs5, bs6, bs7, bs8, bs9, bs10, bs11, bsF, kbs⟩ := BoxV.a12 hs_w2.out
  obtain ⟨bp0, bp1, bp2, bpF, kbp⟩ := BoxV.a3 hp_w2.out
  obtain ⟨br0, br1, br2, br3, br4, br5, br6, br7, br8, br9, br10, br11, brF, kbr⟩ := BoxV.a12 hr_w2.out
  obtain ⟨bx0, bx1, bx2, bx3, bx4, bx5, bx6, bx7, bx8, bx9, bx10, bx11, bxF, kbx⟩ := BoxV.a12 hx_w2.out
  have ⟨nesp, neps⟩ := ne2 (show w.heap.size ≠ w.heap.size + 1 by omega)
  have ⟨nesr, ners⟩ := ne2 (show w.heap.size ≠ w.heap.size + 1 + 1 by omega)
  have ⟨nesx, nexs⟩ := ne2 (show w.heap.size ≠ w1.heap.size by omega)
  have ⟨nepr, nerp⟩ := ne2 (show w.heap.size + 1 ≠ w.heap.size + 1 + 1 by omega)
  have ⟨nepx, nexp⟩ := ne2 (show w.heap.size + 1 ≠ w1.heap.size by omega)
  have ⟨nerx, nexr⟩ := ne2 (show w.heap.size + 1 + 1 ≠ w1.heap.size by omega)
  rcases Bool.eq_false_or_eq_true (actV v ⟨st, z, b, e, xs, p, f, k, fi, fk, se, co⟩) with hact | hact
  rotate_left
  · rw [hact]
    go_wp2
    rw [loX_no (hear_v hact)]
    refine bodyPost_ret (v := .agg #[.int .i64 st, .int .i64 z, .int .i64 b, .int .i64 e, .slice d1 xs.length cd1, .slice d2 p.length cd2, .slice d3 f.length cd3, .slice d4 k.length cd4, .int .i64 fi, .int .i64 fk, .int .i64 se, .int .i64 co]) (by simp [results, Try.results96, go_sem, *]) rfl ⟨d1, d2, d3, d4, cd1, cd2, cd3, cd4, rfl, ?_, ?_⟩
    · exact OwnSnV.mono (OwnSnV.chg (S := fun b => b = w.heap.size + 1 + 1) ox_w2.out Chg.go xap) xpf xpf
    · exact (Chg.ext (S := fun b => w.heap.size ≤ b) (Chg.trans hgww2 (Chg.mono (S := fun b => b = w.heap.size + 1 + 1) (T := fun b => w.heap.size ≤ b) Chg.go xsub)) (fun b h1 h2 => by (try dsimp only at h2); omega))
  rw [hact]
  replace hact := hide hact
  go_wp2_with fail
  refine (isInside_any ⟨st, z, b, e, xs, p, f, k, fi, fk, se, co⟩ ⟨ar, ap, af, ak⟩ c1 c2 c3 c4 o d fin _ (by omega) (by (try dsimp only); omega) (by omega)).mono ?_
  rintro en w3 ⟨rfl, hw3⟩
  have gw3 : Chg (fun b => False) w2 w3 := Chg.trans Chg.go (Ext.chg hw3 _)
  have zw3 := hw3.size
  (try simp at zw3)
  have yw3 : w2.heap.size ≤ w3.heap.size := gw3.size
  have hs_w3 := hide (hs_w2.out.chg gw3 xom)
  have hp_w3 := hide (hp_w2.out.chg gw3 xom)
  have hr_w3 := hide (hr_w2.out.chg gw3 xom)
  have hx_w3 := hide (hx_w2.out.chg gw3 xom)
  have ox_w3 := hide (OwnSnV.chg ox_w2.out gw3 xap)
  have hgww3 : Chg (fun b => w.heap.size ≤ b) w w3 := Chg.trans hgww2 (Chg.mono (T := fun b => w.heap.size ≤ b) gw3 xsub)
  clear hs_w2 hp_w2 hr_w2 hx_w2 ox_w2 hgww2 bs0 bs1 bs2 bs3 bs4 bs5 bs6 bs7 bs8 bs9 bs10 bs11 bsF kbs bp0 bp1 bp2 bpF kbp br0 br1 br2 br3 br4 br5 br6 br7 br8 br9 br10 br11 brF kbr bx0 bx1 bx2 bx3 bx4 bx5 bx6 bx7 bx8 bx9 bx10 bx11 bxF kbx nesp neps nesr ners nesx nexs nepr nerp nepx nexp nerx nexr
  clear gw3 hw3
  obtain ⟨bs0, bs1, bs2, bs3, bs4, bs5, bs6, bs7, bs8, bs9, bs10, bs11, bsF, kbs⟩ := BoxV.a12 hs_w3.out
  obtain ⟨bp0, bp1, bp2, bpF, kbp⟩ := BoxV.a3 hp_w3.out
  obtain ⟨br0, br1, br2, br3, br4, br5, br6, br7, br8, br9, br10, br11, brF, kbr⟩ := BoxV.a12 hr_w3.out
  obtain ⟨bx0, bx1, bx2, bx3, bx4, bx5, bx6, bx7, bx8, bx9, bx10, bx11, bxF, kbx⟩ := BoxV.a12 hx_w3.out
  have ⟨nesp, neps⟩ := ne2 (show w.heap.size ≠ w.heap.size + 1 by omega)
  have ⟨nesr, ners⟩ := ne2 (show w.heap.size ≠ w.heap.size + 1 + 1 by omega)
  have ⟨nesx, nexs⟩ := ne2 (show w.heap.size ≠ w1.heap.size by omega)
  have ⟨nepr, nerp⟩ := ne2 (show w.heap.size + 1 ≠ w.heap.size + 1 + 1 by omega)
  have ⟨nepx, nexp⟩ := ne2 (show w.heap.size + 1 ≠ w1.heap.size by omega)
  have ⟨nerx, nexr⟩ := ne2 (show w.heap.size + 1 + 1 ≠ w1.heap.size by omega)
  rcases Bool.eq_false_or_eq_true (pieceIn ⟨st, z, b, e, xs, p, f, k, fi, fk, se, co⟩ o d.size fin) with hin | hin
  rotate_left
  · rw [hin]
    go_wp2
    rw [loX_no (hear_i hin)]
    refine bodyPost_ret (v := .agg #[.int .i64 st, .int .i64 z, .int .i64 b, .int .i64 e, .slice d1 xs.length cd1, .slice d2 p.length cd2, .slice d3 f.length cd3, .slice d4 k.length cd4, .int .i64 fi, .int .i64 fk, .int .i64 se, .int .i64 co]) (by simp [results, Try.results96, go_sem, *]) rfl ⟨d1, d2, d3, d4, cd1, cd2, cd3, cd4, rfl, ?_, ?_⟩
    · exact OwnSnV.mono (OwnSnV.chg (S := fun b => b = w.heap.size + 1 + 1) ox_w3.out Chg.go xap) xpf xpf
    · exact (Chg.ext (S := fun b => w.heap.size ≤ b) (Chg.trans hgww3 (Chg.mono (S := fun b => b = w.heap.size + 1 + 1) (T := fun b => w.heap.size ≤ b) Chg.go xsub)) (fun b h1 h2 => by (try dsimp only at h2); omega))
  rw [hin]
  obtain ⟨C, hC⟩ : ∃ C, Hid (hit f o d.size = C) := ⟨_, hide rfl⟩
  obtain ⟨LT, hLT⟩ : ∃ L, Hid (C.foldl addR p = L) := ⟨_, hide rfl⟩
  obtain ⟨LF, hLF⟩ : ∃ L, Hid (C.foldl remR f = L) := ⟨_, hide rfl⟩
  have hCl := comR_len f (o, o + (d.size : Int))
  rw [show comR f (o, o + (d.size : Int)) = C from hC.out] at hCl
  have hVl := hide (hV.out hact.out)
  have hpi := pieceIn_bd hin
  have hls := hVl.out.lens he.2
  dsimp only at hls hpi
  have hobx := hide (OwnSnB.of (B := w1.heap.size) (hi' := w3.heap.size) ox_w3.out (by omega) (by omega))
  clear ox_w3
  obtain ⟨q0, hq0⟩ : ∃ q, d.toList.isEmpty = q := ⟨_, rfl⟩
  have h0q := hide (hq0.symm.trans hde)
  clear hde
  go_upto_if 29 with fail
  go_cut [] (fun wx => ∃ (qt qf : Option Addr) (ct cf : Nat), BoxV (w.heap.size) wx [.int .i64 st, .int .i64 z, .int .i64 b, .int .i64 e, .slice ar xs.length c1, .slice ap p.length c2, .slice af f.length c3, .slice ak k.length c4, .int .i64 fi, .int .i64 fk, .int .i64 se, .int .i64 co] ∧ BoxV (w.heap.size + 1) wx [.int .i64 o, .string d, .bool fin] ∧ BoxV (w.heap.size + 1 + 1) wx [.int .i64 0, .int .i64 0, .int .i64 0, .int .i64 0, .slice none 0 0, .slice none 0 0, .slice none 0 0, .slice none 0 0, .int .i64 0, .int .i64 0, .int .i64 0, .int .i64 0] ∧ BoxV (w1.heap.size) wx [.int .i64 st, .int .i64 z, .int .i64 b, .int .i64 e, .slice d1 xs.length cd1, .slice qt LT.length ct, .slice qf LF.length cf, .slice d4 k.length cd4, .int .i64 fi, .int .i64 fk, .int .i64 se, .int .i64 co] ∧ OwnSnB (w1.heap.size) (w.heap.size + 3) wx.heap.size wx ⟨d1, qt, qf, d4⟩ ct ⟨xs, LT, LF, k⟩ ∧ Chg (fun b => w.heap.size ≤ b) w wx ∧ w3.heap.size ≤ wx.heap.size)
  case first =>
    cases q0
    rotate_left
    · have h0 : d.size = 0 := of_decide_eq_true h0q.out.symm
      have hCn : C = [] := by rw [← hC.out]; unfold hit; rw [h0]; exact if_neg (by simp [rgFine])
      have e1 : LT = p := by rw [← hLT.out, hCn]; rfl
      have e2 : LF = f := by rw [← hLF.out, hCn]; rfl
      clear h0 hCn
      go_wp2_with fail
      go_meet
      rw [e1, e2]
      exact ⟨d2, d3, cd2, cd3, hs_w3.out, hp_w3.out, hr_w3.out, hx_w3.out, hobx.out, hgww3, Nat.le_refl _⟩
    go_wp2_with fail
    refine (CommonRanges_impl o (o + (d.size : Int)) af (some ⟨w3.heap.size, 0, none⟩) f.length c3 1 f _ (hx'.out.f.ext (Chg.ext (S := fun b => w.heap.size ≤ b) (Chg.trans hgww3 (Chg.mono (S := fun b => False) (T := fun b => w.heap.size ≤ b) Chg.go xsub)) (fun b h1 h2 => by (try dsimp only at h2); omega))) (by exact read_made _ _ (by simp)) rfl (by omega)).mono ?_
    rintro en a4 ⟨ac, cc, rfl, owc, ha4⟩
    replace owc := own_ranges' owc
    have hC2 := hC.out
    unfold hit at hC2
    rw [hC2] at owc ⊢
    clear hC2
    have ga4 : Chg (fun b => False) w3 a4 := Chg.trans Chg.go (Ext.chg ha4 _)
    have za4 := ha4.size
    (try simp at za4)
    have ya4 : w3.heap.size ≤ a4.heap.size := ga4.size
    have hs_a4 := hide (hs_w3.out.chg ga4 xom)
    have hp_a4 := hide (hp_w3.out.chg ga4 xom)
    have hr_a4 := hide (hr_w3.out.chg ga4 xom)
    have hx_a4 := hide (hx_w3.out.chg ga4 xom)
    have ox_a4 := hide (OwnSnB.chg hobx.out ga4 xap)
    have hgwa4 : Chg (fun b => w.heap.size ≤ b) w a4 := Chg.trans hgww3 (Chg.mono (T := fun b => w.heap.size ≤ b) ga4 xsub)
    clear hs_w3 hp_w3 hr_w3 hx_w3 hobx hgww3 bs0 bs1 bs2 bs3 bs4 bs5 bs6 bs7 bs8 bs9 bs10 bs11 bsF kbs bp0 bp1 bp2 bpF kbp br0 br1 br2 br3 br4 br5 br6 br7 br8 br9 br10 br11 brF kbr bx0 bx1 bx2 bx3 bx4 bx5 bx6 bx7 bx8 bx9 bx10 bx11 bxF kbx nesp neps nesr ners nesx nexs nepr nerp nepx nexp nerx nexr
    clear ga4 ha4
    obtain ⟨bs0, bs1, bs2, bs3, bs4, bs5, bs6, bs7, bs8, bs9, bs10, bs11, bsF, kbs⟩ := BoxV.a12 hs_a4.out
    obtain ⟨bp0, bp1, bp2, bpF, kbp⟩ := BoxV.a3 hp_a4.out
    obtain ⟨br0, br1, br2, br3, br4, br5, br6, br7, br8, br9, br10, br11, brF, kbr⟩ := BoxV.a12 hr_a4.out
    obtain ⟨bx0, bx1, bx2, bx3, bx4, bx5, bx6, bx7, bx8, bx9, bx10, bx11, bxF, kbx⟩ := BoxV.a12 hx_a4.out
    have ⟨nesp, neps⟩ := ne2 (show w.heap.size ≠ w.heap.size + 1 by omega)
    have ⟨nesr, ners⟩ := ne2 (show w.heap.size ≠ w.heap.size + 1 + 1 by omega)
    have ⟨nesx, nexs⟩ := ne2 (show w.heap.size ≠ w1.heap.size by omega)
    have ⟨nepr, nerp⟩ := ne2 (show w.heap.size + 1 ≠ w.heap.size + 1 + 1 by omega)
    have ⟨nepx, nexp⟩ := ne2 (show w.heap.size + 1 ≠ w1.heap.size by omega)
    have ⟨nerx, nexr⟩ := ne2 (show w.heap.size + 1 + 1 ≠ w1.heap.size by omega)
    (try simp only [World.size_alloc, World.size_drew, World.size_setCell] at owc)
    replace owc := hide owc
    go_wp2_with fail
    go_loopw [44] (fun i wr => ∃ (k0 : Nat) (L M : List Rg) (qt qf : Option Addr) (ct cf : Nat), i = .int .i64 k0 ∧ k0 ≤ C.length ∧ Hid ((C.take k0).foldl addR p = L) ∧ Hid ((C.take k0).foldl remR f = M) ∧ BoxV (w.heap.size) wr [.int .i64 st, .int .i64 z, .int .i64 b, .int .i64 e, .slice ar xs.length c1, .slice ap p.length c2, .slice af f.length c3, .slice ak k.length c4, .int .i64 fi, .int .i64 fk, .int .i64 se, .int .i64 co] ∧ BoxV (w.heap.size + 1) wr [.int .i64 o, .string d, .bool fin] ∧ BoxV (w.heap.size + 1 + 1) wr [.int .i64 0, .int .i64 0, .int .i64 0, .int .i64 0, .slice none 0 0, .slice none 0 0, .slice none 0 0, .slice none 0 0, .int .i64 0, .int .i64 0, .int .i64 0, .int .i64 0] ∧ BoxV (w1.heap.size) wr [.int .i64 st, .int .i64 z, .int .i64 b, .int .i64 e, .slice d1 xs.length cd1, .slice qt L.length ct, .slice qf M.length cf, .slice d4 k.length cd4, .int .i64 fi, .int .i64 fk, .int .i64 se, .int .i64 co] ∧ OwnSnB (w1.heap.size) (w.heap.size + 3) wr.heap.size wr ⟨d1, qt, qf, d4⟩ ct ⟨xs, L, M, k⟩ ∧ OwnR (w1.heap.size + 1) a4.heap.size wr ac C ∧ Chg (fun b => w.heap.size ≤ b) w wr ∧ a4.heap.size ≤ wr.heap.size) (fun i _ => C.length - (intOf i).toNat)
    case atStart => exact ⟨0, p, f, d2, d3, cd2, cd3, rfl, Nat.zero_le _, hide rfl, hide rfl, hs_a4.out, hp_a4.out, hr_a4.out, hx_a4.out, ox_a4.out.mono (by omega) (by omega), owc.out.mono (by omega) (by omega), hgwa4, Nat.le_refl _⟩
    case round =>
      clear bs0 bs1 bs2 bs3 bs4 bs5 bs6 bs7 bs8 bs9 bs10 bs11 bsF kbs bp0 bp1 bp2 bpF kbp br0 br1 br2 br3 br4 br5 br6 br7 br8 br9 br10 br11 brF kbr bx0 bx1 bx2 bx3 bx4 bx5 bx6 bx7 bx8 bx9 bx10 bx11 bxF kbx nesp neps nesr ners nesx nexs nepr nerp nepx nexp nerx nexr hs_a4 hp_a4 hr_a4 hx_a4 ox_a4 owc hgwa4
      obtain ⟨k0, L, M, qt, qf, ct, cf, rfl, hk0, hL, hM, hBs, hBp, hBr, hBx, hown, hoc, hgw, hsz⟩ := hrel
      replace hBs := hide hBs
      replace hBp := hide hBp
      replace hBr := hide hBr
      replace hBx := hide hBx
      replace hown := hide hown
      replace hoc := hide hoc
      obtain ⟨bs0, bs1, bs2, bs3, bs4, bs5, bs6, bs7, bs8, bs9, bs10, bs11, bsF, kbs⟩ := BoxV.a12 hBs.out
      obtain ⟨bp0, bp1, bp2, bpF, kbp⟩ := BoxV.a3 hBp.out
      obtain ⟨br0, br1, br2, br3, br4, br5, br6, br7, br8, br9, br10, br11, brF, kbr⟩ := BoxV.a12 hBr.out
      obtain ⟨bx0, bx1, bx2, bx3, bx4, bx5, bx6, bx7, bx8, bx9, bx10, bx11, bxF, kbx⟩ := BoxV.a12 hBx.out
      have ⟨nesp, neps⟩ := ne2 (show w.heap.size ≠ w.heap.size + 1 by omega)
      have ⟨nesr, ners⟩ := ne2 (show w.heap.size ≠ w.heap.size + 1 + 1 by omega)
      have ⟨nesx, nexs⟩ := ne2 (show w.heap.size ≠ w1.heap.size by omega)
      have ⟨nepr, nerp⟩ := ne2 (show w.heap.size + 1 ≠ w.heap.size + 1 + 1 by omega)
      have ⟨nepx, nexp⟩ := ne2 (show w.heap.size + 1 ≠ w1.heap.size by omega)
      have ⟨nerx, nexr⟩ := ne2 (show w.heap.size + 1 + 1 ≠ w1.heap.size by omega)
      have hlL := fold_len (C.take k0) p
      rw [hL.out, List.length_take] at hlL
      have hlM := rem_take_len hVl.out he.2 hpi.1 hpi.2 k0
      dsimp only at hlM
      rw [hC.out, hM.out] at hlM
      by_cases hlt : k0 < C.length
      · skip
        rcases hoc.out with hnil | ⟨bx, off, rfl, hb1, hb2, -, hcx⟩
        · rw [hnil] at hlt; simp at hlt
        obtain ⟨dx, dx2⟩ := hcx k0 hlt
        have i1 : (0 : Int) ≤ (k0 : Int) := by omega
        have i2 : (k0 : Int) < (C.length : Int) := by omega
        have hsa := join_take_succ (p := p) hlt
        have hsr := rem_take_succ (p := f) hlt
        rw [hL.out] at hsa
        rw [hM.out] at hsr
        replace hsa := hide hsa
        replace hsr := hide hsr
        obtain ⟨⟨x1, x2⟩, hx0⟩ : ∃ x : Rg, Hid (C.getD k0 dr = x) := ⟨_, hide rfl⟩
        rw [hx0.out] at dx dx2 hsa hsr
        dsimp only at dx dx2
        clear hcx hx0
        have lbx : bx < wr.heap.size := by omega
        have ⟨nbx, nbx2⟩ := ne2 (show bx ≠ w1.heap.size by omega)
        go_wp2_with fail
        refine (RemoveRange_impl x1 x2 qf M.length cf M _ (OwnSnV.read (OwnSnB.snv (OwnSnB.chg (S := fun b => False) hown.out Chg.go xap))).f rfl (by omega)).mono ?_
        rintro en b5 ⟨g3, cg3, rfl, ownf, hb5⟩
        replace ownf := OwnW.own (OwnW.of ownf)
        have gb5 : Chg (fun b => False) wr b5 := Chg.trans Chg.go (Ext.chg hb5 _)
        have zb5 := hb5.size
        (try simp at zb5)
        have yb5 : wr.heap.size ≤ b5.heap.size := gb5.size
        obtain ⟨qo, po⟩ := gb5.row (k := bx) (by omega) xom
        replace dx := (qo _).trans dx
        replace dx2 := (qo _).trans dx2
        clear qo po
        have hs_b5 := hide (hBs.out.chg gb5 xom)
        have hp_b5 := hide (hBp.out.chg gb5 xom)
        have hr_b5 := hide (hBr.out.chg gb5 xom)
        have hx_b5 := hide (hBx.out.chg gb5 xom)
        have hq_b5 := hide (BoxV.chg (BoxV.new wr [.int .i64 x1, .int .i64 x2] 61) (S := fun b => False) (Chg.trans Chg.go (Ext.chg hb5 _)) xom)
        have ox_b5 := hide (OwnSnB.chg hown.out gb5 xap)
        have oc_b5 := hide (OwnR.chg hoc.out gb5 xap)
        have hgwb5 : Chg (fun b => w.heap.size ≤ b) w b5 := Chg.trans hgw (Chg.mono (T := fun b => w.heap.size ≤ b) gb5 xsub)
        clear hBs hBp hBr hBx hown hoc hgw bs0 bs1 bs2 bs3 bs4 bs5 bs6 bs7 bs8 bs9 bs10 bs11 bsF kbs bp0 bp1 bp2 bpF kbp br0 br1 br2 br3 br4 br5 br6 br7 br8 br9 br10 br11 brF kbr bx0 bx1 bx2 bx3 bx4 bx5 bx6 bx7 bx8 bx9 bx10 bx11 bxF kbx nesp neps nesr ners nesx nexs nepr nerp nepx nexp nerx nexr
        clear gb5 hb5
        obtain ⟨bs0, bs1, bs2, bs3, bs4, bs5, bs6, bs7, bs8, bs9, bs10, bs11, bsF, kbs⟩ := BoxV.a12 hs_b5.out
        obtain ⟨bp0, bp1, bp2, bpF, kbp⟩ := BoxV.a3 hp_b5.out
        obtain ⟨br0, br1, br2, br3, br4, br5, br6, br7, br8, br9, br10, br11, brF, kbr⟩ := BoxV.a12 hr_b5.out
        obtain ⟨bx0, bx1, bx2, bx3, bx4, bx5, bx6, bx7, bx8, bx9, bx10, bx11, bxF, kbx⟩ := BoxV.a12 hx_b5.out
        obtain ⟨bq0, bq1, bqF, kbq⟩ := BoxV.a2 hq_b5.out
        have ⟨nesp, neps⟩ := ne2 (show w.heap.size ≠ w.heap.size + 1 by omega)
        have ⟨nesr, ners⟩ := ne2 (show w.heap.size ≠ w.heap.size + 1 + 1 by omega)
        have ⟨nesx, nexs⟩ := ne2 (show w.heap.size ≠ w1.heap.size by omega)
        have ⟨nesq, neqs⟩ := ne2 (show w.heap.size ≠ wr.heap.size by omega)
        have ⟨nepr, nerp⟩ := ne2 (show w.heap.size + 1 ≠ w.heap.size + 1 + 1 by omega)
        have ⟨nepx, nexp⟩ := ne2 (show w.heap.size + 1 ≠ w1.heap.size by omega)
        have ⟨nepq, neqp⟩ := ne2 (show w.heap.size + 1 ≠ wr.heap.size by omega)
        have ⟨nerx, nexr⟩ := ne2 (show w.heap.size + 1 + 1 ≠ w1.heap.size by omega)
        have ⟨nerq, neqr⟩ := ne2 (show w.heap.size + 1 + 1 ≠ wr.heap.size by omega)
        have ⟨nexq, neqx⟩ := ne2 (show w1.heap.size ≠ wr.heap.size by omega)
        (try simp only [World.size_alloc, World.size_drew, World.size_setCell] at ownf)
        replace ownf := hide ownf
        have hnf := hide (OwnSnB.setF (hi' := b5.heap.size) ox_b5.out ownf.out xpf xpf xpf xpf xpf)
        clear ox_b5 ownf
        go_wp2_with fail
        refine wp_region_flowC (fun _ => False) 6 [(0, 1), (1, 1), (2, 1), (3, 1), (4, 1), (5, 0)] (by kernel_rfl) (by kernel_rfl) ?_
        iterate 3 ((refine wpC_pure (v := ?_) rfl rfl (by rfl) ?_ ?_; rotate_left; (focus (intro ws hws; go_simp; (try with_reducible rfl); done))); try simp only [nrm, nrg])
        (refine wpC_pure (v := ?_) rfl rfl (by rfl) ?_ ?_; rotate_left; (focus (intro ws hws; obtain ⟨q0, p0⟩ := hws.row (k := w1.heap.size) xpf xom; go_simp; (try with_reducible rfl); done)))
        try simp only [nrm, nrg]
        (refine wpC_pure (v := ?_) rfl rfl (by rfl) ?_ ?_; rotate_left; (focus (intro ws hws; obtain ⟨q0, p0⟩ := hws.row (k := wr.heap.size) xpf xom; go_simp; (try with_reducible rfl); done)))
        try simp only [nrm, nrg]
        (refine wpC_call 67 ?_ rfl rfl (by rfl) ?_ ?_; rotate_left; (focus (go_simp; (try with_reducible rfl); done)))
        refine (AddRange_impl x1 x2 qt L.length ct L _ (OwnSnV.read (OwnSnB.snv (OwnSnB.chg (S := fun b => b = w1.heap.size) hnf.out Chg.go xap))).p rfl (by omega)).mono ?_
        rintro en b6 ⟨g4, cg4, rfl, ownt, hb6⟩
        refine ⟨_, rfl, (Ext.chg hb6 _), ?_⟩
        try simp only [nrm, nrg]
        replace ownt := OwnW.of ownt
        have gb6 : Chg (fun b => b = w1.heap.size) b5 b6 := Chg.trans Chg.go (Ext.chg hb6 _)
        have zb6 := hb6.size
        (try simp at zb6)
        have yb6 : b5.heap.size ≤ b6.heap.size := gb6.size
        obtain ⟨qo, po⟩ := gb6.row (k := bx) (by omega) xom
        replace dx := (qo _).trans dx
        replace dx2 := (qo _).trans dx2
        clear qo po
        have hs_b6 := hide (hs_b5.out.chg gb6 xom)
        have hp_b6 := hide (hp_b5.out.chg gb6 xom)
        have hr_b6 := hide (hr_b5.out.chg gb6 xom)
        have hsx := (BoxV.set1 hx_b5.out (j := 6) (by simp) (.slice g3 ((remR M (x1, x2)).length) cg3)).1
        simp only [List.set_cons_zero, List.set_cons_succ] at hsx
        have hx_b6 := hide (BoxV.chg hsx (S := fun b => b = 0) (Chg.trans Chg.go (Ext.chg hb6 _)) xom)
        clear hsx
        have hq_b6 := hide (hq_b5.out.chg gb6 xom)
        have ox_b6 := hide (OwnSnB.chg hnf.out gb6 xap)
        have oc_b6 := hide (OwnR.chg oc_b5.out gb6 xap)
        have hgwb6 : Chg (fun b => w.heap.size ≤ b) w b6 := Chg.trans hgwb5 (Chg.mono (T := fun b => w.heap.size ≤ b) gb6 xsub)
        clear hs_b5 hp_b5 hr_b5 hx_b5 hq_b5 hnf oc_b5 hgwb5 bs0 bs1 bs2 bs3 bs4 bs5 bs6 bs7 bs8 bs9 bs10 bs11 bsF kbs bp0 bp1 bp2 bpF kbp br0 br1 br2 br3 br4 br5 br6 br7 br8 br9 br10 br11 brF kbr bx0 bx1 bx2 bx3 bx4 bx5 bx6 bx7 bx8 bx9 bx10 bx11 bxF kbx bq0 bq1 bqF kbq nesp neps nesr ners nesx nexs nesq neqs nepr nerp nepx nexp nepq neqp nerx nexr nerq neqr nexq neqx
        clear gb6 hb6
        obtain ⟨bs0, bs1, bs2, bs3, bs4, bs5, bs6, bs7, bs8, bs9, bs10, bs11, bsF, kbs⟩ := BoxV.a12 hs_b6.out
        obtain ⟨bp0, bp1, bp2, bpF, kbp⟩ := BoxV.a3 hp_b6.out
        obtain ⟨br0, br1, br2, br3, br4, br5, br6, br7, br8, br9, br10, br11, brF, kbr⟩ := BoxV.a12 hr_b6.out
        obtain ⟨bx0, bx1, bx2, bx3, bx4, bx5, bx6, bx7, bx8, bx9, bx10, bx11, bxF, kbx⟩ := BoxV.a12 hx_b6.out
        obtain ⟨bq0, bq1, bqF, kbq⟩ := BoxV.a2 hq_b6.out
        have ⟨nesp, neps⟩ := ne2 (show w.heap.size ≠ w.heap.size + 1 by omega)
        have ⟨nesr, ners⟩ := ne2 (show w.heap.size ≠ w.heap.size + 1 + 1 by omega)
        have ⟨nesx, nexs⟩ := ne2 (show w.heap.size ≠ w1.heap.size by omega)
        have ⟨nesq, neqs⟩ := ne2 (show w.heap.size ≠ wr.heap.size by omega)
        have ⟨nepr, nerp⟩ := ne2 (show w.heap.size + 1 ≠ w.heap.size + 1 + 1 by omega)
        have ⟨nepx, nexp⟩ := ne2 (show w.heap.size + 1 ≠ w1.heap.size by omega)
        have ⟨nepq, neqp⟩ := ne2 (show w.heap.size + 1 ≠ wr.heap.size by omega)
        have ⟨nerx, nexr⟩ := ne2 (show w.heap.size + 1 + 1 ≠ w1.heap.size by omega)
        have ⟨nerq, neqr⟩ := ne2 (show w.heap.size + 1 + 1 ≠ wr.heap.size by omega)
        have ⟨nexq, neqx⟩ := ne2 (show w1.heap.size ≠ wr.heap.size by omega)
        refine wpF_done rfl ?_
        simp only [List.drop_succ_cons, List.drop_zero, List.drop_nil]
        (try simp only [World.size_alloc, World.size_drew, World.size_setCell] at ownt)
        replace ownt := hide ownt
        have hnt := hide (OwnSnB.setP (hi' := b6.heap.size) ox_b6.out ownt.out xpf xpf xpf xpf xpf)
        clear ox_b6 ownt
        have hset := BoxV.set1 hx_b6.out (j := 5) (by simp) (.slice g4 (addR L (x1, x2)).length cg4)
        simp only [List.set_cons_zero, List.set_cons_succ] at hset
        have hzs := hide (hs_b6.out.chg hset.2 xom)
        have hzp := hide (hp_b6.out.chg hset.2 xom)
        have hzr := hide (hr_b6.out.chg hset.2 xom)
        have hzq := hide (hq_b6.out.chg hset.2 xom)
        have hzx := hide hset.1
        have ozx := hide (OwnSnB.chg hnt.out hset.2 xap)
        have ozc := hide (OwnR.chg oc_b6.out hset.2 xap)
        have gz := hgwb6.trans (hset.2.mono (T := fun b => w.heap.size ≤ b) xsub)
        have sz := hset.2.size
        clear hset
        go_wp2
        go_roundw
        case rel => exact ⟨k0 + 1, _, _, g4, g3, cg4, cg3, by go_num, by omega, hsa, hsr, hzs.out, hzp.out, hzr.out, hzx.out, ozx.out.mono (by omega) (by omega), ozc.out.mono (by omega) (by omega), gz, by omega⟩
        case measure => simp [intOf]; omega
      · obtain rfl : k0 = C.length := by omega
        have e1 : L = LT := by rw [← hL.out, ← hLT.out, List.take_length]
        have e2 : M = LF := by rw [← hM.out, ← hLF.out, List.take_length]
        subst e1 e2
        go_wp2_with fail
        go_meet
        exact ⟨qt, qf, ct, cf, hBs.out, hBp.out, hBr.out, hBx.out, hown.out, hgw, by omega⟩
  case rest =>
    obtain ⟨wx, hwe⟩ : ∃ u, u = wc := ⟨_, rfl⟩
    subst hwe
    obtain ⟨qt, qf, ct, cf, hBs, hBp, hBr, hBx, hown, hgw, hsz⟩ := hcut
    clear bs0 bs1 bs2 bs3 bs4 bs5 bs6 bs7 bs8 bs9 bs10 bs11 bsF kbs bp0 bp1 bp2 bpF kbp br0 br1 br2 br3 br4 br5 br6 br7 br8 br9 br10 br11 brF kbr bx0 bx1 bx2 bx3 bx4 bx5 bx6 bx7 bx8 bx9 bx10 bx11 bxF kbx nesp neps nesr ners nesx nexs nepr nerp nepx nexp nerx nexr hs_w3 hp_w3 hr_w3 hx_w3 hobx hgww3
    replace hBs := hide hBs
    replace hBp := hide hBp
    replace hBr := hide hBr
    replace hBx := hide hBx
    replace hown := hide hown
    obtain ⟨bs0, bs1, bs2, bs3, bs4, bs5, bs6, bs7, bs8, bs9, bs10, bs11, bsF, kbs⟩ := BoxV.a12 hBs.out
    obtain ⟨bp0, bp1, bp2, bpF, kbp⟩ := BoxV.a3 hBp.out
    obtain ⟨br0, br1, br2, br3, br4, br5, br6, br7, br8, br9, br10, br11, brF, kbr⟩ := BoxV.a12 hBr.out
    obtain ⟨bx0, bx1, bx2, bx3, bx4, bx5, bx6, bx7, bx8, bx9, bx10, bx11, bxF, kbx⟩ := BoxV.a12 hBx.out
    have ⟨nesp, neps⟩ := ne2 (show w.heap.size ≠ w.heap.size + 1 by omega)
    have ⟨nesr, ners⟩ := ne2 (show w.heap.size ≠ w.heap.size + 1 + 1 by omega)
    have ⟨nesx, nexs⟩ := ne2 (show w.heap.size ≠ w1.heap.size by omega)
    have ⟨nepr, nerp⟩ := ne2 (show w.heap.size + 1 ≠ w.heap.size + 1 + 1 by omega)
    have ⟨nepx, nexp⟩ := ne2 (show w.heap.size + 1 ≠ w1.heap.size by omega)
    have ⟨nerx, nexr⟩ := ne2 (show w.heap.size + 1 + 1 ≠ w1.heap.size by omega)
    obtain ⟨FK, hFK⟩ : ∃ q, Hid (finV fin fk 1 = q) := ⟨_, hide rfl⟩
    obtain ⟨Q, hQ⟩ : ∃ q, Hid ((fin && decide (fk = 2)) = q) := ⟨_, hide rfl⟩
    have hFb := finV_bd (fin := fin) (u := 1) hVl.out.hd.fk0 hVl.out.hd.fk1 (by omega) (by omega)
    dsimp only at hFb
    rw [hFK.out] at hFb
    replace hFb := hFb.2.1
    go_upto_region 14 with fail
    go_cut [67] (fun tq wy => tq = .bool Q ∧ wy = wx)
    case first =>
      cases fin
      · go_wp2_with fail
        go_meet
        exact ⟨by rw [← hQ.out]; rfl, rfl⟩
      · by_cases hk2 : fk = 2
        · have hk2e : (fk == 2) = true := by simp [hk2]
          replace hk2 := hide hk2
          go_wp2_with fail
          go_meet
          exact ⟨by rw [← hQ.out, decide_eq_true hk2.out]; rfl, rfl⟩
        · have hk2e : (fk == 2) = false := by simp [hk2]
          replace hk2 := hide hk2
          go_wp2_with fail
          go_meet
          exact ⟨by rw [← hQ.out, decide_eq_false hk2.out]; rfl, rfl⟩
    case rest =>
      obtain ⟨rfl, hwy⟩ := hcut
      subst hwy
      obtain ⟨wx, hwe⟩ : ∃ u, u = wc := ⟨_, rfl⟩
      subst hwe
      have hFq := finV_q fin fk 1
      rw [hFK.out, hQ.out] at hFq
      replace hFq := hide hFq
      go_upto_if 67 with fail
      go_cut [] (fun wz => BoxV (w.heap.size) wz [.int .i64 st, .int .i64 z, .int .i64 b, .int .i64 e, .slice ar xs.length c1, .slice ap p.length c2, .slice af f.length c3, .slice ak k.length c4, .int .i64 fi, .int .i64 fk, .int .i64 se, .int .i64 co] ∧ BoxV (w.heap.size + 1) wz [.int .i64 o, .string d, .bool fin] ∧ BoxV (w.heap.size + 1 + 1) wz [.int .i64 0, .int .i64 0, .int .i64 0, .int .i64 0, .slice none 0 0, .slice none 0 0, .slice none 0 0, .slice none 0 0, .int .i64 0, .int .i64 0, .int .i64 0, .int .i64 0] ∧ BoxV (w1.heap.size) wz [.int .i64 st, .int .i64 z, .int .i64 b, .int .i64 e, .slice d1 xs.length cd1, .slice qt LT.length ct, .slice qf LF.length cf, .slice d4 k.length cd4, .int .i64 fi, .int .i64 FK, .int .i64 se, .int .i64 co] ∧ OwnSnB (w1.heap.size) (w.heap.size + 3) wz.heap.size wz ⟨d1, qt, qf, d4⟩ ct ⟨xs, LT, LF, k⟩ ∧ Chg (fun b => w.heap.size ≤ b) w wz ∧ wx.heap.size ≤ wz.heap.size)
      case first =>
        cases Q
        · obtain rfl : FK = fk := hFq.out
          go_wp2_with fail
          go_meet
          exact ⟨hBs.out, hBp.out, hBr.out, hBx.out, hown.out, hgw, Nat.le_refl _⟩
        · obtain rfl : FK = 1 := hFq.out
          have hset := BoxV.set1 hBx.out (j := 9) (by simp) (.int .i64 1)
          simp only [List.set_cons_zero, List.set_cons_succ] at hset
          have hzs := hide (hBs.out.chg hset.2 xom)
          have hzp := hide (hBp.out.chg hset.2 xom)
          have hzr := hide (hBr.out.chg hset.2 xom)
          have hzx := hide hset.1
          have ozx := hide (OwnSnB.chg hown.out hset.2 xap)
          have gz := hgw.trans (hset.2.mono (T := fun b => w.heap.size ≤ b) xsub)
          have sz := hset.2.size
          clear hset
          go_wp2_with fail
          go_meet
          exact ⟨hzs.out, hzp.out, hzr.out, hzx.out, ozx.out.mono (by omega) (by omega), gz, by omega⟩
      case rest =>
        obtain ⟨wz, hwe⟩ : ∃ u, u = wc := ⟨_, rfl⟩
        subst hwe
        obtain ⟨kBs, kBp, kBr, kBx, kown, kgw, hsz2⟩ := hcut
        clear bs0 bs1 bs2 bs3 bs4 bs5 bs6 bs7 bs8 bs9 bs10 bs11 bsF kbs bp0 bp1 bp2 bpF kbp br0 br1 br2 br3 br4 br5 br6 br7 br8 br9 br10 br11 brF kbr bx0 bx1 bx2 bx3 bx4 bx5 bx6 bx7 bx8 bx9 bx10 bx11 bxF kbx nesp neps nesr ners nesx nexs nepr nerp nepx nexp nerx nexr hBs hBp hBr hBx hown hgw
        have hBs := kBs
        have hBp := kBp
        have hBr := kBr
        have hBx := kBx
        have hown := kown
        have hgw := kgw
        clear kBs kBp kBr kBx kown kgw
        replace hBs := hide hBs
        replace hBp := hide hBp
        replace hBr := hide hBr
        replace hBx := hide hBx
        replace hown := hide hown
        obtain ⟨bs0, bs1, bs2, bs3, bs4, bs5, bs6, bs7, bs8, bs9, bs10, bs11, bsF, kbs⟩ := BoxV.a12 hBs.out
        obtain ⟨bp0, bp1, bp2, bpF, kbp⟩ := BoxV.a3 hBp.out
        obtain ⟨br0, br1, br2, br3, br4, br5, br6, br7, br8, br9, br10, br11, brF, kbr⟩ := BoxV.a12 hBr.out
        obtain ⟨bx0, bx1, bx2, bx3, bx4, bx5, bx6, bx7, bx8, bx9, bx10, bx11, bxF, kbx⟩ := BoxV.a12 hBx.out
        have ⟨nesp, neps⟩ := ne2 (show w.heap.size ≠ w.heap.size + 1 by omega)
        have ⟨nesr, ners⟩ := ne2 (show w.heap.size ≠ w.heap.size + 1 + 1 by omega)
        have ⟨nesx, nexs⟩ := ne2 (show w.heap.size ≠ w1.heap.size by omega)
        have ⟨nepr, nerp⟩ := ne2 (show w.heap.size + 1 ≠ w.heap.size + 1 + 1 by omega)
        have ⟨nepx, nexp⟩ := ne2 (show w.heap.size + 1 ≠ w1.heap.size by omega)
        have ⟨nerx, nexr⟩ := ne2 (show w.heap.size + 1 + 1 ≠ w1.heap.size by omega)
        go_wp2_with fail
        refine (state_impl ⟨st, z, b, e, xs, LT, LF, k, fi, FK, se, co⟩ ⟨d1, qt, qf, d4⟩ cd1 ct cf cd4 _).mono ?_
        rintro en g4 ⟨rfl, hg4⟩
        have gg4 : Chg (fun b => False) wz g4 := Chg.trans Chg.go (Ext.chg hg4 _)
        have zg4 := hg4.size
        (try simp at zg4)
        have yg4 : wz.heap.size ≤ g4.heap.size := gg4.size
        have hs_g4 := hide (hBs.out.chg gg4 xom)
        have hp_g4 := hide (hBp.out.chg gg4 xom)
        have hr_g4 := hide (hBr.out.chg gg4 xom)
        have hx_g4 := hide (hBx.out.chg gg4 xom)
        have ox_g4 := hide (OwnSnB.chg hown.out gg4 xap)
        have hgwg4 : Chg (fun b => w.heap.size ≤ b) w g4 := Chg.trans hgw (Chg.mono (T := fun b => w.heap.size ≤ b) gg4 xsub)
        clear hBs hBp hBr hBx hown hgw bs0 bs1 bs2 bs3 bs4 bs5 bs6 bs7 bs8 bs9 bs10 bs11 bsF kbs bp0 bp1 bp2 bpF kbp br0 br1 br2 br3 br4 br5 br6 br7 br8 br9 br10 br11 brF kbr bx0 bx1 bx2 bx3 bx4 bx5 bx6 bx7 bx8 bx9 bx10 bx11 bxF kbx nesp neps nesr ners nesx nexs nepr nerp nepx nexp nerx nexr
        clear gg4 hg4
        obtain ⟨bs0, bs1, bs2, bs3, bs4, bs5, bs6, bs7, bs8, bs9, bs10, bs11, bsF, kbs⟩ := BoxV.a12 hs_g4.out
        obtain ⟨bp0, bp1, bp2, bpF, kbp⟩ := BoxV.a3 hp_g4.out
        obtain ⟨br0, br1, br2, br3, br4, br5, br6, br7, br8, br9, br10, br11, brF, kbr⟩ := BoxV.a12 hr_g4.out
        obtain ⟨bx0, bx1, bx2, bx3, bx4, bx5, bx6, bx7, bx8, bx9, bx10, bx11, bxF, kbx⟩ := BoxV.a12 hx_g4.out
        have ⟨nesp, neps⟩ := ne2 (show w.heap.size ≠ w.heap.size + 1 by omega)
        have ⟨nesr, ners⟩ := ne2 (show w.heap.size ≠ w.heap.size + 1 + 1 by omega)
        have ⟨nesx, nexs⟩ := ne2 (show w.heap.size ≠ w1.heap.size by omega)
        have ⟨nepr, nerp⟩ := ne2 (show w.heap.size + 1 ≠ w.heap.size + 1 + 1 by omega)
        have ⟨nepx, nexp⟩ := ne2 (show w.heap.size + 1 ≠ w1.heap.size by omega)
        have ⟨nerx, nexr⟩ := ne2 (show w.heap.size + 1 + 1 ≠ w1.heap.size by omega)
        have hc : hearS v ⟨st, z, b, e, xs, p, f, k, fi, fk, se, co⟩ o d fin = true := by unfold hearS; rw [hact.out, hin]; rfl
        have hX : loX v ⟨st, z, b, e, xs, p, f, k, fi, fk, se, co⟩ o d fin = ⟨stI st b e FK se, z, b, e, xs, LT, LF, k, fi, FK, se, co⟩ := by
          unfold loX
          rw [if_pos hc]
          unfold loV
          dsimp only
          rw [hC.out, hLT.out, hLF.out, hFK.out]
        clear hc
        replace hX := hide hX
        go_wp2
        rw [hX.out]
        refine bodyPost_ret (v := .agg #[.int .i64 (stI st b e FK se), .int .i64 z, .int .i64 b, .int .i64 e, .slice d1 xs.length cd1, .slice qt LT.length ct, .slice qf LF.length cf, .slice d4 k.length cd4, .int .i64 fi, .int .i64 FK, .int .i64 se, .int .i64 co]) (by simp [results, Try.results96, go_sem, *]) rfl ⟨d1, qt, qf, d4, cd1, ct, cf, cd4, rfl, ?_, ?_⟩
        · exact OwnSnV.mono (OwnSnB.snv (OwnSnB.chg (S := fun b => b = w1.heap.size ∨ b = w.heap.size + 1 + 1) ox_g4.out Chg.go xap)) xpf xpf
        · exact (Chg.ext (S := fun b => w.heap.size ≤ b) (Chg.trans hgwg4 (Chg.mono (S := fun b => b = w1.heap.size ∨ b = w.heap.size + 1 + 1) (T := fun b => w.heap.size ≤ b) Chg.go xsub)) (fun b h1 h2 => by (try dsimp only at h2); omega))
end
end Go.Proofs.Ytjhgcbchdnoleaa

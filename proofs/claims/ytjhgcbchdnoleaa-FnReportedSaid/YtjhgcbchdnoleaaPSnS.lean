/-
  Part of the proof: SnS.
-/
import Derived.Test.YtjhgcbchdnoleaaPG9
import Derived.Test.YtjhgcbchdnoleaaPRgC
namespace Go.Proofs.Ytjhgcbchdnoleaa
section
open Go.ChangeShapes Go.WideShapes Go.ChangeAt Go.RowKit
set_option linter.unusedSimpArgs false
set_option linter.unusedVariables false
set_option maxHeartbeats 8000000 in
set_option maxRecDepth 100000 in
theorem SendPiece_spec (s : Sn) (a : Ads) (c1 c2 c3 c4 : Nat) (o : Int) (d : ByteArray) (fin : Bool) (w : World) (hx : ReadSnd w a ⟨s.xs, s.p, s.f, s.k⟩) (hl : s.xs.length ≤ 1048576) (hsum : s.p.length + s.f.length + s.k.length ≤ 1000000) (ho : -1000000 ≤ o ∧ o ≤ 1000000) (hds : (d.size : Int) ≤ 1000000) (he : -1 ≤ s.e ∧ s.e ≤ 4611686018427387903) :
    Calls Try.prog 49 #[.agg #[.int .i64 s.st, .int .i64 s.z, .int .i64 s.b, .int .i64 s.e, .slice a.r s.xs.length c1, .slice a.p s.p.length c2, .slice a.f s.f.length c3, .slice a.k s.k.length c4, .int .i64 s.fi, .int .i64 s.fk, .int .i64 s.se, .int .i64 s.co], .agg #[.int .i64 o, .string d, .bool fin]] w (SnRes (seX (sndS s) s o d fin) (.bool (seOk (sndS s) s o d fin)) w) := by
  have hde := str_empty d
  have hwh : IntKind.i64.wrap (o + (d.size : Int)) = o + (d.size : Int) := IntWalk.i64_in _ (by omega)
  obtain ⟨st, z, b, e, xs, p, f, k, fi, fk, se, co⟩ := s
  obtain ⟨ar, ap, af, ak⟩ := a
  dsimp only at *
  have hx' := hide hx
  clear hx
  generalize hv : sndS ⟨st, z, b, e, xs, p, f, k, fi, fk, se, co⟩ = v at *
  replace hv := hide hv
  obtain ⟨q0, hq0⟩ : ∃ q, d.toList.isEmpty = q := ⟨_, rfl⟩
  have h0q := hide (hq0.symm.trans hde)
  clear hde
  obtain ⟨k1, hk1⟩ : ∃ q, (fk != 1) = q := ⟨_, rfl⟩
  skip
  go_enter Try.func49, Try.ntmps49
  have hgw0 : Chg (fun b => w.heap.size ≤ b) w w := Chg.refl _ _
  go_wp2_with fail
  refine (l9Copy_any ⟨st, z, b, e, xs, p, f, k, fi, fk, se, co⟩ ⟨ar, ap, af, ak⟩ c1 c2 c3 c4 _ (hx'.out.ext (Chg.ext (S := fun b => w.heap.size ≤ b) (Chg.trans hgw0 (Chg.mono (S := fun b => False) (T := fun b => w.heap.size ≤ b) Chg.go xsub)) (fun b h1 h2 => by (try dsimp only at h2); omega))) hl (by (try dsimp only); omega)).mono ?_
  rintro en w1 ⟨d1, d2, d3, d4, cd1, cd2, cd3, cd4, rfl, ownd, hw1⟩
  have gw1 : Chg (fun b => False) w w1 := Chg.trans Chg.go (Ext.chg hw1 _)
  have zw1 := hw1.size
  (try simp at zw1)
  have yw1 : w.heap.size ≤ w1.heap.size := gw1.size
  have hs_w1 := hide (BoxV.chg (BoxV.new w [.int .i64 st, .int .i64 z, .int .i64 b, .int .i64 e, .slice ar xs.length c1, .slice ap p.length c2, .slice af f.length c3, .slice ak k.length c4, .int .i64 fi, .int .i64 fk, .int .i64 se, .int .i64 co] 32) (S := fun b => False) (Chg.trans Chg.go (Ext.chg hw1 _)) xom)
  have hp_w1 := hide (BoxV.chg (show BoxV (w.heap.size + 1) _ [.int .i64 o, .string d, .bool fin] from by have h := (BoxV.new (w.alloc (.cells #[.int .i64 st, .int .i64 z, .int .i64 b, .int .i64 e, .slice ar xs.length c1, .slice ap p.length c2, .slice af f.length c3, .slice ak k.length c4, .int .i64 fi, .int .i64 fk, .int .i64 se, .int .i64 co] 32)) [.int .i64 o, .string d, .bool fin] 55); simpa only [World.size_alloc, World.size_drew] using h) (S := fun b => False) (Chg.trans Chg.go (Ext.chg hw1 _)) xom)
  have hr_w1 := hide (BoxV.chg (show BoxV (w.heap.size + 1 + 1) _ [.int .i64 0, .int .i64 0, .int .i64 0, .int .i64 0, .slice none 0 0, .slice none 0 0, .slice none 0 0, .slice none 0 0, .int .i64 0, .int .i64 0, .int .i64 0, .int .i64 0] from by have h := (BoxV.new ((w.alloc (.cells #[.int .i64 st, .int .i64 z, .int .i64 b, .int .i64 e, .slice ar xs.length c1, .slice ap p.length c2, .slice af f.length c3, .slice ak k.length c4, .int .i64 fi, .int .i64 fk, .int .i64 se, .int .i64 co] 32)).alloc (.cells #[.int .i64 o, .string d, .bool fin] 55)) [.int .i64 0, .int .i64 0, .int .i64 0, .int .i64 0, .slice none 0 0, .slice none 0 0, .slice none 0 0, .slice none 0 0, .int .i64 0, .int .i64 0, .int .i64 0, .int .i64 0] 32); simpa only [World.size_alloc, World.size_drew] using h) (S := fun b => False) (Chg.trans Chg.go (Ext.chg hw1 _)) xom)
  have hgww1 : Chg (fun b => w.heap.size ≤ b) w w1 := Chg.trans hgw0 (Chg.mono (T := fun b => w.heap.size ≤ b) gw1 xsub)
  clear hgw0
  clear gw1 hw1
  obtain ⟨bs0, bs1, bs2, bs3, bs4, bs5, bs6, bs7, bs8, bs9, bs10, bs11, bsF, kbs⟩ := BoxV.a12 hs_w1.out
  obtain ⟨bp0, bp1, bp2, bpF, kbp⟩ := BoxV.a3 hp_w1.out
  obtain ⟨br0, br1, br2, br3, br4, br5, br6, br7, br8, br9, br10, br11, brF, kbr⟩ := BoxV.a12 hr_w1.out
  have ⟨nesp, neps⟩ := ne2 (show w.heap.size ≠ w.heap.size + 1 by omega)
  have ⟨nesr, ners⟩ := ne2 (show w.heap.size ≠ w.heap.size + 1 + 1 by omega)
  have ⟨nepr, nerp⟩ := ne2 (show w.heap.size + 1 ≠ w.heap.size + 1 + 1 by omega)
  (try simp only [World.size_alloc, World.size_drew, World.size_setCell] at ownd)
  replace ownd := hide ownd
  obtain ⟨T, hT⟩ : ∃ T, Hid ((actV v ⟨st, z, b, e, xs, p, f, k, fi, fk, se, co⟩ && (pieceIn ⟨st, z, b, e, xs, p, f, k, fi, fk, se, co⟩ o d.size fin && ((!q0 || fin) && (!fin || !k1)))) = T) := ⟨_, hide rfl⟩
  go_upto_region 2 with fail
  go_cut [43] (fun tq wx => tq = .bool (!T) ∧ BoxV (w.heap.size) wx [.int .i64 st, .int .i64 z, .int .i64 b, .int .i64 e, .slice ar xs.length c1, .slice ap p.length c2, .slice af f.length c3, .slice ak k.length c4, .int .i64 fi, .int .i64 fk, .int .i64 se, .int .i64 co] ∧ BoxV (w.heap.size + 1) wx [.int .i64 o, .string d, .bool fin] ∧ BoxV (w.heap.size + 1 + 1) wx [.int .i64 0, .int .i64 0, .int .i64 0, .int .i64 0, .slice none 0 0, .slice none 0 0, .slice none 0 0, .slice none 0 0, .int .i64 0, .int .i64 0, .int .i64 0, .int .i64 0] ∧ BoxV (w1.heap.size) wx [.int .i64 st, .int .i64 z, .int .i64 b, .int .i64 e, .slice d1 xs.length cd1, .slice d2 p.length cd2, .slice d3 f.length cd3, .slice d4 k.length cd4, .int .i64 fi, .int .i64 fk, .int .i64 se, .int .i64 co] ∧ OwnSnB (w1.heap.size) (w.heap.size + 3) wx.heap.size wx ⟨d1, d2, d3, d4⟩ cd2 ⟨xs, p, f, k⟩ ∧ Chg (fun b => w.heap.size ≤ b) w wx ∧ w1.heap.size + 1 ≤ wx.heap.size)
  case first =>
    go_wp2_with fail
    refine (IsSender_spec ⟨st, z, b, e, xs, p, f, k, fi, fk, se, co⟩ ⟨ar, ap, af, ak⟩ c1 c2 c3 c4 _ (hx'.out.ext (Chg.ext (S := fun b => w.heap.size ≤ b) (Chg.trans hgww1 (Chg.mono (S := fun b => False) (T := fun b => w.heap.size ≤ b) Chg.go xsub)) (fun b h1 h2 => by (try dsimp only at h2); omega))) hl (by (try dsimp only); omega) (by (try dsimp only); omega)).mono ?_
    rintro en a2 ⟨rfl, ha2⟩
    rw [hv.out]
    have ga2 : Chg (fun b => False) w1 a2 := Chg.trans Chg.go (Ext.chg ha2 _)
    have za2 := ha2.size
    (try simp at za2)
    have ya2 : w1.heap.size ≤ a2.heap.size := ga2.size
    have hs_a2 := hide (hs_w1.out.chg ga2 xom)
    have hp_a2 := hide (hp_w1.out.chg ga2 xom)
    have hr_a2 := hide (hr_w1.out.chg ga2 xom)
    have hx_a2 := hide (BoxV.chg (BoxV.new w1 [.int .i64 st, .int .i64 z, .int .i64 b, .int .i64 e, .slice d1 xs.length cd1, .slice d2 p.length cd2, .slice d3 f.length cd3, .slice d4 k.length cd4, .int .i64 fi, .int .i64 fk, .int .i64 se, .int .i64 co] 32) (S := fun b => False) (Chg.trans Chg.go (Ext.chg ha2 _)) xom)
    have ox_a2 := hide (OwnSnV.chg ownd.out ga2 xap)
    have hgwa2 : Chg (fun b => w.heap.size ≤ b) w a2 := Chg.trans hgww1 (Chg.mono (T := fun b => w.heap.size ≤ b) ga2 xsub)
    clear hs_w1 hp_w1 hr_w1 ownd hgww1 bs0 bs1 bs2 bs3 bs4 bs5 bs6 bs7 bs8 bs9 bs10 bs11 bsF kbs bp0 bp1 bp2 bpF kbp br0 br1 br2 br3 br4 br5 br6 br7 br8 br9 br10 br11 brF kbr nesp neps nesr ners nepr nerp
    clear ga2 ha2
    obtain ⟨bs0, bs1, bs2, bs3, bs4, bs5, bs6, bs7, bs8, bs9, bs10, bs11, bsF, kbs⟩ := BoxV.a12 hs_a2.out
    obtain ⟨bp0, bp1, bp2, bpF, kbp⟩ := BoxV.a3 hp_a2.out
    obtain ⟨br0, br1, br2, br3, br4, br5, br6, br7, br8, br9, br10, br11, brF, kbr⟩ := BoxV.a12 hr_a2.out
    obtain ⟨bx0, bx1, bx2, bx3, bx4, bx5, bx6, bx7, bx8, bx9, bx10, bx11, bxF, kbx⟩ := BoxV.a12 hx_a2.out
    have ⟨nesp, neps⟩ := ne2 (show w.heap.size ≠ w.heap.size + 1 by omega)
    have ⟨nesr, ners⟩ := ne2 (show w.heap.size ≠ w.heap.size + 1 + 1 by omega)
    have ⟨nesx, nexs⟩ := ne2 (show w.heap.size ≠ w1.heap.size by omega)
    have ⟨nepr, nerp⟩ := ne2 (show w.heap.size + 1 ≠ w.heap.size + 1 + 1 by omega)
    have ⟨nepx, nexp⟩ := ne2 (show w.heap.size + 1 ≠ w1.heap.size by omega)
    have ⟨nerx, nexr⟩ := ne2 (show w.heap.size + 1 + 1 ≠ w1.heap.size by omega)
    rcases v with _ | _
    · have ha : actV false ⟨st, z, b, e, xs, p, f, k, fi, fk, se, co⟩ = false := act_no (by simp)
      go_wp2_with fail
      go_meet
      exact ⟨by rw [← hT.out, ha]; rfl, hs_a2.out, hp_a2.out, hr_a2.out, hx_a2.out, (OwnSnB.of (B := w1.heap.size) (hi' := a2.heap.size) ox_a2.out (by omega) (by omega)), hgwa2, by omega⟩
    by_cases h2 : st ≤ 2
    rotate_left
    · have h2e : decide (2 < st) = true := decide_eq_true (by omega)
      have ha := act_no (s := ⟨st, z, b, e, xs, p, f, k, fi, fk, se, co⟩) (v := true) (by dsimp only; omega)
      replace h2 := hide h2
      go_wp2_with fail
      go_meet
      exact ⟨by rw [← hT.out, ha]; rfl, hs_a2.out, hp_a2.out, hr_a2.out, hx_a2.out, (OwnSnB.of (B := w1.heap.size) (hi' := a2.heap.size) ox_a2.out (by omega) (by omega)), hgwa2, by omega⟩
    have h2e : decide (2 < st) = false := decide_eq_false (by omega)
    have ha := hide (actV_iff (s := ⟨st, z, b, e, xs, p, f, k, fi, fk, se, co⟩).2 ⟨rfl, (sndS_st hv.out).1, h2⟩)
    go_wp2_with fail
    refine (l9Piece_any ⟨st, z, b, e, xs, p, f, k, fi, fk, se, co⟩ ⟨ar, ap, af, ak⟩ c1 c2 c3 c4 o d fin _ (by omega) (by (try dsimp only); omega) (by omega)).mono ?_
    rintro en a3 ⟨rfl, ha3⟩
    have ga3 : Chg (fun b => False) a2 a3 := Chg.trans Chg.go (Ext.chg ha3 _)
    have za3 := ha3.size
    (try simp at za3)
    have ya3 : a2.heap.size ≤ a3.heap.size := ga3.size
    have hs_a3 := hide (hs_a2.out.chg ga3 xom)
    have hp_a3 := hide (hp_a2.out.chg ga3 xom)
    have hr_a3 := hide (hr_a2.out.chg ga3 xom)
    have hx_a3 := hide (hx_a2.out.chg ga3 xom)
    have ox_a3 := hide (OwnSnV.chg ox_a2.out ga3 xap)
    have hgwa3 : Chg (fun b => w.heap.size ≤ b) w a3 := Chg.trans hgwa2 (Chg.mono (T := fun b => w.heap.size ≤ b) ga3 xsub)
    clear hs_a2 hp_a2 hr_a2 hx_a2 ox_a2 hgwa2 bs0 bs1 bs2 bs3 bs4 bs5 bs6 bs7 bs8 bs9 bs10 bs11 bsF kbs bp0 bp1 bp2 bpF kbp br0 br1 br2 br3 br4 br5 br6 br7 br8 br9 br10 br11 brF kbr bx0 bx1 bx2 bx3 bx4 bx5 bx6 bx7 bx8 bx9 bx10 bx11 bxF kbx nesp neps nesr ners nesx nexs nepr nerp nepx nexp nerx nexr
    clear ga3 ha3
    obtain ⟨bs0, bs1, bs2, bs3, bs4, bs5, bs6, bs7, bs8, bs9, bs10, bs11, bsF, kbs⟩ := BoxV.a12 hs_a3.out
    obtain ⟨bp0, bp1, bp2, bpF, kbp⟩ := BoxV.a3 hp_a3.out
    obtain ⟨br0, br1, br2, br3, br4, br5, br6, br7, br8, br9, br10, br11, brF, kbr⟩ := BoxV.a12 hr_a3.out
    obtain ⟨bx0, bx1, bx2, bx3, bx4, bx5, bx6, bx7, bx8, bx9, bx10, bx11, bxF, kbx⟩ := BoxV.a12 hx_a3.out
    have ⟨nesp, neps⟩ := ne2 (show w.heap.size ≠ w.heap.size + 1 by omega)
    have ⟨nesr, ners⟩ := ne2 (show w.heap.size ≠ w.heap.size + 1 + 1 by omega)
    have ⟨nesx, nexs⟩ := ne2 (show w.heap.size ≠ w1.heap.size by omega)
    have ⟨nepr, nerp⟩ := ne2 (show w.heap.size + 1 ≠ w.heap.size + 1 + 1 by omega)
    have ⟨nepx, nexp⟩ := ne2 (show w.heap.size + 1 ≠ w1.heap.size by omega)
    have ⟨nerx, nexr⟩ := ne2 (show w.heap.size + 1 + 1 ≠ w1.heap.size by omega)
    rcases Bool.eq_false_or_eq_true (pieceIn ⟨st, z, b, e, xs, p, f, k, fi, fk, se, co⟩ o d.size fin) with hin | hin
    rotate_left
    · rw [hin]
      go_wp2_with fail
      go_meet
      exact ⟨by rw [← hT.out, ha.out, hin]; rfl, hs_a3.out, hp_a3.out, hr_a3.out, hx_a3.out, (OwnSnB.of (B := w1.heap.size) (hi' := a3.heap.size) ox_a3.out (by omega) (by omega)), hgwa3, by omega⟩
    rw [hin]
    replace hin := hide hin
    cases fin
    · skip
      cases q0
      · skip
        go_wp2_with fail
        go_meet
        exact ⟨by rw [← hT.out, ha.out, hin.out]; rfl, hs_a3.out, hp_a3.out, hr_a3.out, hx_a3.out, (OwnSnB.of (B := w1.heap.size) (hi' := a3.heap.size) ox_a3.out (by omega) (by omega)), hgwa3, by omega⟩
      · skip
        go_wp2_with fail
        go_meet
        exact ⟨by rw [← hT.out, ha.out, hin.out]; rfl, hs_a3.out, hp_a3.out, hr_a3.out, hx_a3.out, (OwnSnB.of (B := w1.heap.size) (hi' := a3.heap.size) ox_a3.out (by omega) (by omega)), hgwa3, by omega⟩
    · skip
      cases q0
      · skip
        cases k1
        · skip
          go_wp2_with fail
          go_meet
          exact ⟨by rw [← hT.out, ha.out, hin.out]; rfl, hs_a3.out, hp_a3.out, hr_a3.out, hx_a3.out, (OwnSnB.of (B := w1.heap.size) (hi' := a3.heap.size) ox_a3.out (by omega) (by omega)), hgwa3, by omega⟩
        · skip
          go_wp2_with fail
          go_meet
          exact ⟨by rw [← hT.out, ha.out, hin.out]; rfl, hs_a3.out, hp_a3.out, hr_a3.out, hx_a3.out, (OwnSnB.of (B := w1.heap.size) (hi' := a3.heap.size) ox_a3.out (by omega) (by omega)), hgwa3, by omega⟩
      · skip
        cases k1
        · skip
          go_wp2_with fail
          go_meet
          exact ⟨by rw [← hT.out, ha.out, hin.out]; rfl, hs_a3.out, hp_a3.out, hr_a3.out, hx_a3.out, (OwnSnB.of (B := w1.heap.size) (hi' := a3.heap.size) ox_a3.out (by omega) (by omega)), hgwa3, by omega⟩
        · skip
          go_wp2_with fail
          go_meet
          exact ⟨by rw [← hT.out, ha.out, hin.out]; rfl, hs_a3.out, hp_a3.out, hr_a3.out, hx_a3.out, (OwnSnB.of (B := w1.heap.size) (hi' := a3.heap.size) ox_a3.out (by omega) (by omega)), hgwa3, by omega⟩
  case rest =>
    obtain ⟨rfl, kBs, kBp, kBr, kBx, kown, kgw, hsz⟩ := hcut
    clear bs0 bs1 bs2 bs3 bs4 bs5 bs6 bs7 bs8 bs9 bs10 bs11 bsF kbs bp0 bp1 bp2 bpF kbp br0 br1 br2 br3 br4 br5 br6 br7 br8 br9 br10 br11 brF kbr nesp neps nesr ners nepr nerp hs_w1 hp_w1 hr_w1 ownd hgww1
    obtain ⟨wx, hwe⟩ : ∃ u, u = wc := ⟨_, rfl⟩
    subst hwe
    have hBs := hide kBs
    clear kBs
    have hBp := hide kBp
    clear kBp
    have hBr := hide kBr
    clear kBr
    have hBx := hide kBx
    clear kBx
    have hown := hide kown
    clear kown
    have hgw := kgw
    clear kgw
    obtain ⟨bs0, bs1, bs2, bs3, bs4, bs5, bs6, bs7, bs8, bs9, bs10, bs11, bsF, kbs⟩ := BoxV.a12 hBs.out
    obtain ⟨bp0, bp1, bp2, bpF, kbp⟩ := BoxV.a3 hBp.out
    obtain ⟨br0, br1, br2, br3, br4, br5, br6, br7, br8, br9, br10, br11, brF, kbr⟩ := BoxV.a12 hBr.out
    obtain ⟨bx0, bx1, bx2, bx3, bx4, bx5, bx6, bx7, bx8, bx9, bx10, bx11, bxF, kbx⟩ := BoxV.a12 hBx.out
    have ⟨nesp, neps⟩ := ne2 (show w.heap.size ≠ w.heap.size + 1 by omega)
    have ⟨nesr, ners⟩ := ne2 (show w.heap.size ≠ w.heap.size + 1 + 1 by omega)
    have ⟨nesx, nexs⟩ := ne2 (show w.heap.size ≠ w1.heap.size by omega)
    have ⟨nepr, nerp⟩ := ne2 (show w.heap.size + 1 ≠ w.heap.size + 1 + 1 by omega)
    have ⟨nepx, nexp⟩ := ne2 (show w.heap.size + 1 ≠ w1.heap.size by omega)
    have ⟨nerx, nexr⟩ := ne2 (show w.heap.size + 1 + 1 ≠ w1.heap.size by omega)
    have hTe : seOk v ⟨st, z, b, e, xs, p, f, k, fi, fk, se, co⟩ o d fin = (T && (decide (d.size = 0) || decide (comR p (o, (o + (d.size : Int))) = [(o, (o + (d.size : Int)))]))) := by
      rw [← hT.out, h0q.out, ← hk1]
      unfold seOk
      dsimp only
      cases actV v ⟨st, z, b, e, xs, p, f, k, fi, fk, se, co⟩ <;> cases pieceIn ⟨st, z, b, e, xs, p, f, k, fi, fk, se, co⟩ o d.size fin <;> cases fin <;> by_cases e1 : d.size = 0 <;> by_cases e2 : fk = 1 <;> simp [e1, e2]
    replace hTe := hide hTe
    cases T
    · have hno : seOk v ⟨st, z, b, e, xs, p, f, k, fi, fk, se, co⟩ o d fin = false := hTe.out
      replace hno := hide hno
      go_wp2
      rw [seX_no (hno.out), hno.out]
      refine bodyPost_ret (v := .tuple #[.agg #[.int .i64 st, .int .i64 z, .int .i64 b, .int .i64 e, .slice d1 xs.length cd1, .slice d2 p.length cd2, .slice d3 f.length cd3, .slice d4 k.length cd4, .int .i64 fi, .int .i64 fk, .int .i64 se, .int .i64 co], .bool false]) (by simp [results, Try.results49, go_sem, *]) rfl ⟨d1, d2, d3, d4, cd1, cd2, cd3, cd4, rfl, ?_, ?_⟩
      · exact OwnSnV.mono (OwnSnB.snv (OwnSnB.chg (S := fun b => b = w.heap.size + 1 + 1) hown.out Chg.go xap)) xpf xpf
      · exact (Chg.ext (S := fun b => w.heap.size ≤ b) (Chg.trans hgw (Chg.mono (S := fun b => b = w.heap.size + 1 + 1) (T := fun b => w.heap.size ≤ b) Chg.go xsub)) (fun b h1 h2 => by (try dsimp only at h2); omega))
    obtain ⟨LP, hLP⟩ : ∃ L, Hid ((if d.size = 0 then p else remR p (o, (o + (d.size : Int)))) = L) := ⟨_, hide rfl⟩
    obtain ⟨LF, hLF⟩ : ∃ L, Hid ((if d.size = 0 then f else addR f (o, (o + (d.size : Int)))) = L) := ⟨_, hide rfl⟩
    obtain ⟨SE, hSE⟩ : ∃ L, Hid ((if d.size = 0 then se else max se (o + (d.size : Int))) = L) := ⟨_, hide rfl⟩
    have hTp := hT.out
    simp only [Bool.and_eq_true] at hTp
    have hpi := pieceIn_bd hTp.2.1
    dsimp only at hpi
    clear hTp
    go_upto_if 47 with fail
    go_cut [] (fun wy => ∃ (qp qf : Option Addr) (cp cf : Nat), (d.size = 0 ∨ comR p (o, (o + (d.size : Int))) = [(o, (o + (d.size : Int)))]) ∧ BoxV (w.heap.size) wy [.int .i64 st, .int .i64 z, .int .i64 b, .int .i64 e, .slice ar xs.length c1, .slice ap p.length c2, .slice af f.length c3, .slice ak k.length c4, .int .i64 fi, .int .i64 fk, .int .i64 se, .int .i64 co] ∧ BoxV (w.heap.size + 1) wy [.int .i64 o, .string d, .bool fin] ∧ BoxV (w.heap.size + 1 + 1) wy [.int .i64 0, .int .i64 0, .int .i64 0, .int .i64 0, .slice none 0 0, .slice none 0 0, .slice none 0 0, .slice none 0 0, .int .i64 0, .int .i64 0, .int .i64 0, .int .i64 0] ∧ BoxV (w1.heap.size) wy [.int .i64 st, .int .i64 z, .int .i64 b, .int .i64 e, .slice d1 xs.length cd1, .slice qp LP.length cp, .slice qf LF.length cf, .slice d4 k.length cd4, .int .i64 fi, .int .i64 fk, .int .i64 SE, .int .i64 co] ∧ OwnSnB (w1.heap.size) (w.heap.size + 3) wy.heap.size wy ⟨d1, qp, qf, d4⟩ cp ⟨xs, LP, LF, k⟩ ∧ Chg (fun b => w.heap.size ≤ b) w wy ∧ wx.heap.size ≤ wy.heap.size)
    case first =>
      cases q0
      rotate_left
      · have h0 : d.size = 0 := of_decide_eq_true h0q.out.symm
        have e1 : LP = p := by rw [← hLP.out, if_pos h0]
        have e2 : LF = f := by rw [← hLF.out, if_pos h0]
        have e3 : SE = se := by rw [← hSE.out, if_pos h0]
        replace h0 := hide h0
        go_wp2_with fail
        go_meet
        rw [e1, e2, e3]
        exact ⟨d2, d3, cd2, cd3, Or.inl h0.out, hBs.out, hBp.out, hBr.out, hBx.out, hown.out, hgw, Nat.le_refl _⟩
      have h0 : ¬ d.size = 0 := of_decide_eq_false h0q.out.symm
      obtain ⟨C, hC⟩ : ∃ C, Hid (comR p (o, (o + (d.size : Int))) = C) := ⟨_, hide rfl⟩
      have e1 : LP = remR p (o, (o + (d.size : Int))) := by rw [← hLP.out, if_neg h0]
      have e2 : LF = addR f (o, (o + (d.size : Int))) := by rw [← hLF.out, if_neg h0]
      have e3 : max se (o + (d.size : Int)) = SE := by rw [← hSE.out, if_neg h0]
      subst e1 e2
      replace h0 := hide h0
      clear hLP hLF hSE
      have hCl := comR_len p (o, (o + (d.size : Int)))
      rw [hC.out] at hCl
      obtain ⟨CD, hCD⟩ : ∃ q, Hid (decide (C = [(o, (o + (d.size : Int)))]) = q) := ⟨_, hide rfl⟩
      go_wp2_with fail
      refine (l9Range_any o d fin _ (by omega) (by omega)).mono ?_
      rintro en b2 ⟨rfl, hb2⟩
      have gb2 : Chg (fun b => False) wx b2 := Chg.trans Chg.go (Ext.chg hb2 _)
      have zb2 := hb2.size
      (try simp at zb2)
      have yb2 : wx.heap.size ≤ b2.heap.size := gb2.size
      have hs_b2 := hide (hBs.out.chg gb2 xom)
      have hp_b2 := hide (hBp.out.chg gb2 xom)
      have hr_b2 := hide (hBr.out.chg gb2 xom)
      have hx_b2 := hide (hBx.out.chg gb2 xom)
      have ox_b2 := hide (OwnSnB.chg hown.out gb2 xap)
      have hgwb2 : Chg (fun b => w.heap.size ≤ b) w b2 := Chg.trans hgw (Chg.mono (T := fun b => w.heap.size ≤ b) gb2 xsub)
      clear hBs hBp hBr hBx hown hgw bs0 bs1 bs2 bs3 bs4 bs5 bs6 bs7 bs8 bs9 bs10 bs11 bsF kbs bp0 bp1 bp2 bpF kbp br0 br1 br2 br3 br4 br5 br6 br7 br8 br9 br10 br11 brF kbr bx0 bx1 bx2 bx3 bx4 bx5 bx6 bx7 bx8 bx9 bx10 bx11 bxF kbx nesp neps nesr ners nesx nexs nepr nerp nepx nexp nerx nexr
      clear gb2 hb2
      obtain ⟨bs0, bs1, bs2, bs3, bs4, bs5, bs6, bs7, bs8, bs9, bs10, bs11, bsF, kbs⟩ := BoxV.a12 hs_b2.out
      obtain ⟨bp0, bp1, bp2, bpF, kbp⟩ := BoxV.a3 hp_b2.out
      obtain ⟨br0, br1, br2, br3, br4, br5, br6, br7, br8, br9, br10, br11, brF, kbr⟩ := BoxV.a12 hr_b2.out
      obtain ⟨bx0, bx1, bx2, bx3, bx4, bx5, bx6, bx7, bx8, bx9, bx10, bx11, bxF, kbx⟩ := BoxV.a12 hx_b2.out
      have ⟨nesp, neps⟩ := ne2 (show w.heap.size ≠ w.heap.size + 1 by omega)
      have ⟨nesr, ners⟩ := ne2 (show w.heap.size ≠ w.heap.size + 1 + 1 by omega)
      have ⟨nesx, nexs⟩ := ne2 (show w.heap.size ≠ w1.heap.size by omega)
      have ⟨nepr, nerp⟩ := ne2 (show w.heap.size + 1 ≠ w.heap.size + 1 + 1 by omega)
      have ⟨nepx, nexp⟩ := ne2 (show w.heap.size + 1 ≠ w1.heap.size by omega)
      have ⟨nerx, nexr⟩ := ne2 (show w.heap.size + 1 + 1 ≠ w1.heap.size by omega)
      go_wp2_with fail
      refine (CommonRanges_spec o (o + (d.size : Int)) ap (some ⟨b2.heap.size + 1, 0, none⟩) p.length c2 1 p _ (hx'.out.p.ext (Chg.ext (S := fun b => w.heap.size ≤ b) (Chg.trans hgwb2 (Chg.mono (S := fun b => False) (T := fun b => w.heap.size ≤ b) Chg.go xsub)) (fun b h1 h2 => by (try dsimp only at h2); omega))) (by exact read_made _ _ (by simp)) rfl (by omega)).mono ?_
      rintro en b3 ⟨ac, cc, rfl, owc, hb3⟩
      replace owc := own_ranges' owc
      have hC2 := hC.out
      rw [hC2] at owc ⊢
      clear hC2
      have gb3 : Chg (fun b => False) b2 b3 := Chg.trans Chg.go (Ext.chg hb3 _)
      have zb3 := hb3.size
      (try simp at zb3)
      have yb3 : b2.heap.size ≤ b3.heap.size := gb3.size
      have hs_b3 := hide (hs_b2.out.chg gb3 xom)
      have hp_b3 := hide (hp_b2.out.chg gb3 xom)
      have hr_b3 := hide (hr_b2.out.chg gb3 xom)
      have hx_b3 := hide (hx_b2.out.chg gb3 xom)
      have hq_b3 := hide (BoxV.chg (BoxV.new b2 [.int .i64 o, .int .i64 (o + (d.size : Int))] 61) (S := fun b => False) (Chg.trans Chg.go (Ext.chg hb3 _)) xom)
      have ox_b3 := hide (OwnSnB.chg ox_b2.out gb3 xap)
      have hgwb3 : Chg (fun b => w.heap.size ≤ b) w b3 := Chg.trans hgwb2 (Chg.mono (T := fun b => w.heap.size ≤ b) gb3 xsub)
      clear hs_b2 hp_b2 hr_b2 hx_b2 ox_b2 hgwb2 bs0 bs1 bs2 bs3 bs4 bs5 bs6 bs7 bs8 bs9 bs10 bs11 bsF kbs bp0 bp1 bp2 bpF kbp br0 br1 br2 br3 br4 br5 br6 br7 br8 br9 br10 br11 brF kbr bx0 bx1 bx2 bx3 bx4 bx5 bx6 bx7 bx8 bx9 bx10 bx11 bxF kbx nesp neps nesr ners nesx nexs nepr nerp nepx nexp nerx nexr
      clear gb3 hb3
      obtain ⟨bs0, bs1, bs2, bs3, bs4, bs5, bs6, bs7, bs8, bs9, bs10, bs11, bsF, kbs⟩ := BoxV.a12 hs_b3.out
      obtain ⟨bp0, bp1, bp2, bpF, kbp⟩ := BoxV.a3 hp_b3.out
      obtain ⟨br0, br1, br2, br3, br4, br5, br6, br7, br8, br9, br10, br11, brF, kbr⟩ := BoxV.a12 hr_b3.out
      obtain ⟨bx0, bx1, bx2, bx3, bx4, bx5, bx6, bx7, bx8, bx9, bx10, bx11, bxF, kbx⟩ := BoxV.a12 hx_b3.out
      obtain ⟨bq0, bq1, bqF, kbq⟩ := BoxV.a2 hq_b3.out
      have ⟨nesp, neps⟩ := ne2 (show w.heap.size ≠ w.heap.size + 1 by omega)
      have ⟨nesr, ners⟩ := ne2 (show w.heap.size ≠ w.heap.size + 1 + 1 by omega)
      have ⟨nesx, nexs⟩ := ne2 (show w.heap.size ≠ w1.heap.size by omega)
      have ⟨nesq, neqs⟩ := ne2 (show w.heap.size ≠ b2.heap.size by omega)
      have ⟨nepr, nerp⟩ := ne2 (show w.heap.size + 1 ≠ w.heap.size + 1 + 1 by omega)
      have ⟨nepx, nexp⟩ := ne2 (show w.heap.size + 1 ≠ w1.heap.size by omega)
      have ⟨nepq, neqp⟩ := ne2 (show w.heap.size + 1 ≠ b2.heap.size by omega)
      have ⟨nerx, nexr⟩ := ne2 (show w.heap.size + 1 + 1 ≠ w1.heap.size by omega)
      have ⟨nerq, neqr⟩ := ne2 (show w.heap.size + 1 + 1 ≠ b2.heap.size by omega)
      have ⟨nexq, neqx⟩ := ne2 (show w1.heap.size ≠ b2.heap.size by omega)
      (try simp only [World.size_alloc, World.size_drew, World.size_setCell] at owc)
      replace owc := hide owc
      go_upto_region 7 with fail
      go_cut [64] (fun tq wy => tq = .bool (!CD) ∧ Ext b3 wy)
      case first =>
        rcases C with _ | ⟨⟨x1, x2⟩, _ | ⟨x3, t⟩⟩
        · skip
          have hln : (((0 : Nat) : Int) != 1) = true := rfl
          simp only [List.length_nil]
          go_wp2_with fail
          refine wp_region_flowC (fun _ => False) 10 [(0, 1), (1, 1), (2, 1), (3, 1), (4, 1), (5, 1), (6, 1), (7, 1), (8, 1), (9, 1)] (by kernel_rfl) (by kernel_rfl) ?_
          iterate 4 ((refine wpC_pure (v := ?_) rfl rfl (by rfl) ?_ ?_; rotate_left; (focus (intro ws hws; go_simp; (try with_reducible rfl); done))); try simp only [nrm, nrg])
          refine wpC_off rfl rfl (by rfl) ?_
          try simp only [nrm, nrg]
          refine wpC_off rfl rfl (by rfl) ?_
          try simp only [nrm, nrg]
          refine wpC_off rfl rfl (by rfl) ?_
          try simp only [nrm, nrg]
          refine wpC_off rfl rfl (by rfl) ?_
          try simp only [nrm, nrg]
          refine wpC_off rfl rfl (by rfl) ?_
          try simp only [nrm, nrg]
          (refine wpC_pure (v := ?_) rfl rfl (by rfl) ?_ ?_; rotate_left; (focus (intro ws hws; go_simp; (try with_reducible rfl); done)))
          try simp only [nrm, nrg]
          refine wpF_done rfl ?_
          simp only [List.drop_succ_cons, List.drop_zero, List.drop_nil]
          go_wp2_with fail
          go_meet
          exact ⟨by rw [← hCD.out]; simp, (Ext.refl _).drew⟩
        · skip
          rcases (OwnR.read owc.out) with hnil | ⟨by_, off, rfl, hcy⟩
          · simp at hnil
          obtain ⟨cy, cy2⟩ := hcy 0 (by simp)
          simp only [Nat.zero_mul, Nat.add_zero, List.getD_cons_zero] at cy cy2
          clear hcy
          have lby := World.block_lt_of_cell? _ _ cy
          simp only [List.length_cons, List.length_nil]
          by_cases hne : x1 = o ∧ x2 = (o + (d.size : Int))
          · obtain ⟨rfl, hx2⟩ := hne
            subst hx2
            clear hC owc
            go_wp2_with fail
            refine wp_region_flowC (fun _ => False) 10 [(0, 1), (1, 1), (2, 1), (3, 1), (4, 1), (5, 1), (6, 1), (7, 1), (8, 1), (9, 1)] (by kernel_rfl) (by kernel_rfl) ?_
            iterate 6 ((refine wpC_pure (v := ?_) rfl rfl (by rfl) ?_ ?_; rotate_left; (focus (intro ws hws; go_simp; (try with_reducible rfl); done))); try simp only [nrm, nrg])
            (refine wpC_pure (v := ?_) rfl rfl (by rfl) ?_ ?_; rotate_left; (focus (intro ws hws; obtain ⟨q0, p0⟩ := hws.row (k := by_) xpf xom; go_simp; (try with_reducible rfl); done)))
            try simp only [nrm, nrg]
            (refine wpC_pure (v := ?_) rfl rfl (by rfl) ?_ ?_; rotate_left; (focus (intro ws hws; obtain ⟨q0, p0⟩ := hws.row (k := b2.heap.size) xpf xom; go_simp; (try with_reducible rfl); done)))
            try simp only [nrm, nrg]
            refine wpC_pure (v := (.bool false)) rfl rfl (by rfl) ?_ ?_
            focus (intro ws hws; go_simp; (try simp); done)
            try simp only [nrm, nrg]
            (refine wpC_pure (v := ?_) rfl rfl (by rfl) ?_ ?_; rotate_left; (focus (intro ws hws; go_simp; (try with_reducible rfl); done)))
            try simp only [nrm, nrg]
            refine wpF_done rfl ?_
            simp only [List.drop_succ_cons, List.drop_zero, List.drop_nil]
            go_wp2_with fail
            go_meet
            exact ⟨by rw [← hCD.out]; simp, (Ext.refl _).drew⟩
          · have hne2 : ¬ [(x1, x2)] = [(o, (o + (d.size : Int)))] := by simpa using hne
            replace hne := hide hne
            replace hne2 := hide hne2
            clear hC owc
            go_wp2_with fail
            refine wp_region_flowC (fun _ => False) 10 [(0, 1), (1, 1), (2, 1), (3, 1), (4, 1), (5, 1), (6, 1), (7, 1), (8, 1), (9, 1)] (by kernel_rfl) (by kernel_rfl) ?_
            iterate 6 ((refine wpC_pure (v := ?_) rfl rfl (by rfl) ?_ ?_; rotate_left; (focus (intro ws hws; go_simp; (try with_reducible rfl); done))); try simp only [nrm, nrg])
            (refine wpC_pure (v := ?_) rfl rfl (by rfl) ?_ ?_; rotate_left; (focus (intro ws hws; obtain ⟨q0, p0⟩ := hws.row (k := by_) xpf xom; go_simp; (try with_reducible rfl); done)))
            try simp only [nrm, nrg]
            (refine wpC_pure (v := ?_) rfl rfl (by rfl) ?_ ?_; rotate_left; (focus (intro ws hws; obtain ⟨q0, p0⟩ := hws.row (k := b2.heap.size) xpf xom; go_simp; (try with_reducible rfl); done)))
            try simp only [nrm, nrg]
            refine wpC_pure (v := (.bool true)) rfl rfl (by rfl) ?_ ?_
            focus (intro ws hws; (rcases Decidable.em (x1 = o) with e1 | e1 <;> rcases Decidable.em (x2 = (o + (d.size : Int))) with e2 | e2 <;> first | (refine absurd (And.intro e1 e2) hne.out; done) | (go_simp; (try simp [e1, e2]); done)))
            try simp only [nrm, nrg]
            (refine wpC_pure (v := ?_) rfl rfl (by rfl) ?_ ?_; rotate_left; (focus (intro ws hws; go_simp; (try with_reducible rfl); done)))
            try simp only [nrm, nrg]
            refine wpF_done rfl ?_
            simp only [List.drop_succ_cons, List.drop_zero, List.drop_nil]
            go_wp2_with fail
            go_meet
            exact ⟨by rw [← hCD.out, decide_eq_false hne2.out]; rfl, (Ext.refl _).drew⟩
        · skip
          have hln : (((t.length + 1 + 1 : Nat) : Int) != 1) = true := by simp; omega
          have hln2 : ((t.length : Int) + 1 + 1 != 1) = true := by simp; omega
          simp only [List.length_cons]
          go_wp2_with fail
          refine wp_region_flowC (fun _ => False) 10 [(0, 1), (1, 1), (2, 1), (3, 1), (4, 1), (5, 1), (6, 1), (7, 1), (8, 1), (9, 1)] (by kernel_rfl) (by kernel_rfl) ?_
          iterate 4 ((refine wpC_pure (v := ?_) rfl rfl (by rfl) ?_ ?_; rotate_left; (focus (intro ws hws; go_simp; (try with_reducible rfl); done))); try simp only [nrm, nrg])
          refine wpC_off rfl rfl (by rfl) ?_
          try simp only [nrm, nrg]
          refine wpC_off rfl rfl (by rfl) ?_
          try simp only [nrm, nrg]
          refine wpC_off rfl rfl (by rfl) ?_
          try simp only [nrm, nrg]
          refine wpC_off rfl rfl (by rfl) ?_
          try simp only [nrm, nrg]
          refine wpC_off rfl rfl (by rfl) ?_
          try simp only [nrm, nrg]
          (refine wpC_pure (v := ?_) rfl rfl (by rfl) ?_ ?_; rotate_left; (focus (intro ws hws; go_simp; (try with_reducible rfl); done)))
          try simp only [nrm, nrg]
          refine wpF_done rfl ?_
          simp only [List.drop_succ_cons, List.drop_zero, List.drop_nil]
          go_wp2_with fail
          go_meet
          exact ⟨by rw [← hCD.out]; simp, (Ext.refl _).drew⟩
      case rest =>
        obtain ⟨rfl, hcw⟩ := hcut
        obtain ⟨wq, hwe⟩ : ∃ u, u = wc := ⟨_, rfl⟩
        subst hwe
        have gwq : Chg (fun b => False) b3 wq := Chg.trans Chg.go (Ext.chg hcw _)
        have zwq := hcw.size
        (try simp at zwq)
        have ywq : b3.heap.size ≤ wq.heap.size := gwq.size
        have hs_wq := hide (hs_b3.out.chg gwq xom)
        have hp_wq := hide (hp_b3.out.chg gwq xom)
        have hr_wq := hide (hr_b3.out.chg gwq xom)
        have hx_wq := hide (hx_b3.out.chg gwq xom)
        have hq_wq := hide (hq_b3.out.chg gwq xom)
        have ox_wq := hide (OwnSnB.chg ox_b3.out gwq xap)
        have oc_wq := hide (OwnR.chg owc.out gwq xap)
        have hgwwq : Chg (fun b => w.heap.size ≤ b) w wq := Chg.trans hgwb3 (Chg.mono (T := fun b => w.heap.size ≤ b) gwq xsub)
        clear hs_b3 hp_b3 hr_b3 hx_b3 hq_b3 ox_b3 owc hgwb3 bs0 bs1 bs2 bs3 bs4 bs5 bs6 bs7 bs8 bs9 bs10 bs11 bsF kbs bp0 bp1 bp2 bpF kbp br0 br1 br2 br3 br4 br5 br6 br7 br8 br9 br10 br11 brF kbr bx0 bx1 bx2 bx3 bx4 bx5 bx6 bx7 bx8 bx9 bx10 bx11 bxF kbx bq0 bq1 bqF kbq nesp neps nesr ners nesx nexs nesq neqs nepr nerp nepx nexp nepq neqp nerx nexr nerq neqr nexq neqx
        clear gwq hcw
        obtain ⟨bs0, bs1, bs2, bs3, bs4, bs5, bs6, bs7, bs8, bs9, bs10, bs11, bsF, kbs⟩ := BoxV.a12 hs_wq.out
        obtain ⟨bp0, bp1, bp2, bpF, kbp⟩ := BoxV.a3 hp_wq.out
        obtain ⟨br0, br1, br2, br3, br4, br5, br6, br7, br8, br9, br10, br11, brF, kbr⟩ := BoxV.a12 hr_wq.out
        obtain ⟨bx0, bx1, bx2, bx3, bx4, bx5, bx6, bx7, bx8, bx9, bx10, bx11, bxF, kbx⟩ := BoxV.a12 hx_wq.out
        obtain ⟨bq0, bq1, bqF, kbq⟩ := BoxV.a2 hq_wq.out
        have ⟨nesp, neps⟩ := ne2 (show w.heap.size ≠ w.heap.size + 1 by omega)
        have ⟨nesr, ners⟩ := ne2 (show w.heap.size ≠ w.heap.size + 1 + 1 by omega)
        have ⟨nesx, nexs⟩ := ne2 (show w.heap.size ≠ w1.heap.size by omega)
        have ⟨nesq, neqs⟩ := ne2 (show w.heap.size ≠ b2.heap.size by omega)
        have ⟨nepr, nerp⟩ := ne2 (show w.heap.size + 1 ≠ w.heap.size + 1 + 1 by omega)
        have ⟨nepx, nexp⟩ := ne2 (show w.heap.size + 1 ≠ w1.heap.size by omega)
        have ⟨nepq, neqp⟩ := ne2 (show w.heap.size + 1 ≠ b2.heap.size by omega)
        have ⟨nerx, nexr⟩ := ne2 (show w.heap.size + 1 + 1 ≠ w1.heap.size by omega)
        have ⟨nerq, neqr⟩ := ne2 (show w.heap.size + 1 + 1 ≠ b2.heap.size by omega)
        have ⟨nexq, neqx⟩ := ne2 (show w1.heap.size ≠ b2.heap.size by omega)
        cases CD
        · have hno : seOk v ⟨st, z, b, e, xs, p, f, k, fi, fk, se, co⟩ o d fin = false := by rw [hTe.out, hC.out, hCD.out, decide_eq_false h0.out]; rfl
          replace hno := hide hno
          go_wp2
          rw [seX_no (hno.out), hno.out]
          refine bodyPost_ret (v := .tuple #[.agg #[.int .i64 st, .int .i64 z, .int .i64 b, .int .i64 e, .slice d1 xs.length cd1, .slice d2 p.length cd2, .slice d3 f.length cd3, .slice d4 k.length cd4, .int .i64 fi, .int .i64 fk, .int .i64 se, .int .i64 co], .bool false]) (by simp [results, Try.results49, go_sem, *]) rfl ⟨d1, d2, d3, d4, cd1, cd2, cd3, cd4, rfl, ?_, ?_⟩
          · exact OwnSnV.mono (OwnSnB.snv (OwnSnB.chg (S := fun b => b = w.heap.size + 1 + 1) ox_wq.out Chg.go xap)) xpf xpf
          · exact (Chg.ext (S := fun b => w.heap.size ≤ b) (Chg.trans hgwwq (Chg.mono (S := fun b => b = w.heap.size + 1 + 1) (T := fun b => w.heap.size ≤ b) Chg.go xsub)) (fun b h1 h2 => by (try dsimp only at h2); omega))
        have hCe := hide (of_decide_eq_true hCD.out)
        go_wp2_with fail
        refine (RemoveRange_spec o (o + (d.size : Int)) ap p.length c2 p _ (hx'.out.p.ext (Chg.ext (S := fun b => w.heap.size ≤ b) (Chg.trans hgwwq (Chg.mono (S := fun b => False) (T := fun b => w.heap.size ≤ b) Chg.go xsub)) (fun b h1 h2 => by (try dsimp only at h2); omega))) rfl (by omega)).mono ?_
        rintro en f4 ⟨g2, cg2, rfl, ownp, hf4⟩
        replace ownp := OwnW.of ownp
        have gf4 : Chg (fun b => False) wq f4 := Chg.trans Chg.go (Ext.chg hf4 _)
        have zf4 := hf4.size
        (try simp at zf4)
        have yf4 : wq.heap.size ≤ f4.heap.size := gf4.size
        have hs_f4 := hide (hs_wq.out.chg gf4 xom)
        have hp_f4 := hide (hp_wq.out.chg gf4 xom)
        have hr_f4 := hide (hr_wq.out.chg gf4 xom)
        have hx_f4 := hide (hx_wq.out.chg gf4 xom)
        have hq_f4 := hide (hq_wq.out.chg gf4 xom)
        have ox_f4 := hide (OwnSnB.chg ox_wq.out gf4 xap)
        have hgwf4 : Chg (fun b => w.heap.size ≤ b) w f4 := Chg.trans hgwwq (Chg.mono (T := fun b => w.heap.size ≤ b) gf4 xsub)
        clear hs_wq hp_wq hr_wq hx_wq hq_wq ox_wq hgwwq bs0 bs1 bs2 bs3 bs4 bs5 bs6 bs7 bs8 bs9 bs10 bs11 bsF kbs bp0 bp1 bp2 bpF kbp br0 br1 br2 br3 br4 br5 br6 br7 br8 br9 br10 br11 brF kbr bx0 bx1 bx2 bx3 bx4 bx5 bx6 bx7 bx8 bx9 bx10 bx11 bxF kbx bq0 bq1 bqF kbq nesp neps nesr ners nesx nexs nesq neqs nepr nerp nepx nexp nepq neqp nerx nexr nerq neqr nexq neqx
        clear gf4 hf4
        obtain ⟨bs0, bs1, bs2, bs3, bs4, bs5, bs6, bs7, bs8, bs9, bs10, bs11, bsF, kbs⟩ := BoxV.a12 hs_f4.out
        obtain ⟨bp0, bp1, bp2, bpF, kbp⟩ := BoxV.a3 hp_f4.out
        obtain ⟨br0, br1, br2, br3, br4, br5, br6, br7, br8, br9, br10, br11, brF, kbr⟩ := BoxV.a12 hr_f4.out
        obtain ⟨bx0, bx1, bx2, bx3, bx4, bx5, bx6, bx7, bx8, bx9, bx10, bx11, bxF, kbx⟩ := BoxV.a12 hx_f4.out
        obtain ⟨bq0, bq1, bqF, kbq⟩ := BoxV.a2 hq_f4.out
        have ⟨nesp, neps⟩ := ne2 (show w.heap.size ≠ w.heap.size + 1 by omega)
        have ⟨nesr, ners⟩ := ne2 (show w.heap.size ≠ w.heap.size + 1 + 1 by omega)
        have ⟨nesx, nexs⟩ := ne2 (show w.heap.size ≠ w1.heap.size by omega)
        have ⟨nesq, neqs⟩ := ne2 (show w.heap.size ≠ b2.heap.size by omega)
        have ⟨nepr, nerp⟩ := ne2 (show w.heap.size + 1 ≠ w.heap.size + 1 + 1 by omega)
        have ⟨nepx, nexp⟩ := ne2 (show w.heap.size + 1 ≠ w1.heap.size by omega)
        have ⟨nepq, neqp⟩ := ne2 (show w.heap.size + 1 ≠ b2.heap.size by omega)
        have ⟨nerx, nexr⟩ := ne2 (show w.heap.size + 1 + 1 ≠ w1.heap.size by omega)
        have ⟨nerq, neqr⟩ := ne2 (show w.heap.size + 1 + 1 ≠ b2.heap.size by omega)
        have ⟨nexq, neqx⟩ := ne2 (show w1.heap.size ≠ b2.heap.size by omega)
        (try simp only [World.size_alloc, World.size_drew, World.size_setCell] at ownp)
        replace ownp := hide ownp
        have hnp := hide (OwnSnB.setP (hi' := f4.heap.size) ox_f4.out ownp.out xpf xpf xpf xpf xpf)
        clear ox_f4 ownp
        go_wp2_with fail
        refine (AddRangeW_spec o (o + (d.size : Int)) af f.length c3 f _ (hx'.out.f.ext (Chg.ext (S := fun b => w.heap.size ≤ b) (Chg.trans hgwf4 (Chg.mono (S := fun b => b = w1.heap.size) (T := fun b => w.heap.size ≤ b) Chg.go xsub)) (fun b h1 h2 => by (try dsimp only at h2); omega))) rfl (by omega)).mono ?_
        rintro en f5 ⟨g3, cg3, rfl, ownf, hf5⟩
        replace ownf := OwnW.own (OwnW.of ownf)
        have gf5 : Chg (fun b => b = w1.heap.size) f4 f5 := Chg.trans Chg.go (Ext.chg hf5 _)
        have zf5 := hf5.size
        (try simp at zf5)
        have yf5 : f4.heap.size ≤ f5.heap.size := gf5.size
        have hs_f5 := hide (hs_f4.out.chg gf5 xom)
        have hp_f5 := hide (hp_f4.out.chg gf5 xom)
        have hr_f5 := hide (hr_f4.out.chg gf5 xom)
        have hsx := (BoxV.set1 hx_f4.out (j := 5) (by simp) (.slice g2 ((remR p (o, (o + (d.size : Int)))).length) cg2)).1
        simp only [List.set_cons_zero, List.set_cons_succ] at hsx
        have hx_f5 := hide (BoxV.chg hsx (S := fun b => b = 0) (Chg.trans Chg.go (Ext.chg hf5 _)) xom)
        clear hsx
        have hq_f5 := hide (hq_f4.out.chg gf5 xom)
        have ox_f5 := hide (OwnSnB.chg hnp.out gf5 xap)
        have hgwf5 : Chg (fun b => w.heap.size ≤ b) w f5 := Chg.trans hgwf4 (Chg.mono (T := fun b => w.heap.size ≤ b) gf5 xsub)
        clear hs_f4 hp_f4 hr_f4 hx_f4 hq_f4 hnp hgwf4 bs0 bs1 bs2 bs3 bs4 bs5 bs6 bs7 bs8 bs9 bs10 bs11 bsF kbs bp0 bp1 bp2 bpF kbp br0 br1 br2 br3 br4 br5 br6 br7 br8 br9 br10 br11 brF kbr bx0 bx1 bx2 bx3 bx4 bx5 bx6 bx7 bx8 bx9 bx10 bx11 bxF kbx bq0 bq1 bqF kbq nesp neps nesr ners nesx nexs nesq neqs nepr nerp nepx nexp nepq neqp nerx nexr nerq neqr nexq neqx
        clear gf5 hf5
        obtain ⟨bs0, bs1, bs2, bs3, bs4, bs5, bs6, bs7, bs8, bs9, bs10, bs11, bsF, kbs⟩ := BoxV.a12 hs_f5.out
        obtain ⟨bp0, bp1, bp2, bpF, kbp⟩ := BoxV.a3 hp_f5.out
        obtain ⟨br0, br1, br2, br3, br4, br5, br6, br7, br8, br9, br10, br11, brF, kbr⟩ := BoxV.a12 hr_f5.out
        obtain ⟨bx0, bx1, bx2, bx3, bx4, bx5, bx6, bx7, bx8, bx9, bx10, bx11, bxF, kbx⟩ := BoxV.a12 hx_f5.out
        obtain ⟨bq0, bq1, bqF, kbq⟩ := BoxV.a2 hq_f5.out
        have ⟨nesp, neps⟩ := ne2 (show w.heap.size ≠ w.heap.size + 1 by omega)
        have ⟨nesr, ners⟩ := ne2 (show w.heap.size ≠ w.heap.size + 1 + 1 by omega)
        have ⟨nesx, nexs⟩ := ne2 (show w.heap.size ≠ w1.heap.size by omega)
        have ⟨nesq, neqs⟩ := ne2 (show w.heap.size ≠ b2.heap.size by omega)
        have ⟨nepr, nerp⟩ := ne2 (show w.heap.size + 1 ≠ w.heap.size + 1 + 1 by omega)
        have ⟨nepx, nexp⟩ := ne2 (show w.heap.size + 1 ≠ w1.heap.size by omega)
        have ⟨nepq, neqp⟩ := ne2 (show w.heap.size + 1 ≠ b2.heap.size by omega)
        have ⟨nerx, nexr⟩ := ne2 (show w.heap.size + 1 + 1 ≠ w1.heap.size by omega)
        have ⟨nerq, neqr⟩ := ne2 (show w.heap.size + 1 + 1 ≠ b2.heap.size by omega)
        have ⟨nexq, neqx⟩ := ne2 (show w1.heap.size ≠ b2.heap.size by omega)
        (try simp only [World.size_alloc, World.size_drew, World.size_setCell] at ownf)
        replace ownf := hide ownf
        have hnf := hide (OwnSnB.setF (hi' := f5.heap.size) ox_f5.out ownf.out xpf xpf xpf xpf xpf)
        clear ox_f5 ownf
        have hset := BoxV.set1 hx_f5.out (j := 6) (by simp) (.slice g3 (addR f (o, (o + (d.size : Int)))).length cg3)
        simp only [List.set_cons_zero, List.set_cons_succ] at hset
        have hzas := hide (hs_f5.out.chg hset.2 xom)
        have hzap := hide (hp_f5.out.chg hset.2 xom)
        have hzar := hide (hr_f5.out.chg hset.2 xom)
        have hzaq := hide (hq_f5.out.chg hset.2 xom)
        have hzax := hide hset.1
        have ozax := hide (OwnSnB.chg hnf.out hset.2 xap)
        have gza := hgwf5.trans (hset.2.mono (T := fun b => w.heap.size ≤ b) xsub)
        have sza := hset.2.size
        clear hset
        have hset := BoxV.set1 hzax.out (j := 10) (by simp) (.int .i64 SE)
        simp only [List.set_cons_zero, List.set_cons_succ] at hset
        have hzbs := hide (hzas.out.chg hset.2 xom)
        have hzbp := hide (hzap.out.chg hset.2 xom)
        have hzbr := hide (hzar.out.chg hset.2 xom)
        have hzbq := hide (hzaq.out.chg hset.2 xom)
        have hzbx := hide hset.1
        have ozbx := hide (OwnSnB.chg ozax.out hset.2 xap)
        have gzb := gza.trans (hset.2.mono (T := fun b => w.heap.size ≤ b) xsub)
        have szb := hset.2.size
        clear hset
        by_cases hse : se < (o + (d.size : Int))
        · skip
          obtain rfl : SE = (o + (d.size : Int)) := by omega
          clear e3
          go_wp2_with fail
          go_meet
          exact ⟨g2, g3, cg2, cg3, Or.inr (by rw [hC.out]; exact hCe.out), hzbs.out, hzbp.out, hzbr.out, hzbx.out, ozbx.out.mono (by omega) (by omega), gzb, by omega⟩
        · skip
          obtain rfl : SE = se := by omega
          clear e3
          go_wp2_with fail
          go_meet
          exact ⟨g2, g3, cg2, cg3, Or.inr (by rw [hC.out]; exact hCe.out), hzbs.out, hzbp.out, hzbr.out, hzbx.out, ozbx.out.mono (by omega) (by omega), gzb, by omega⟩
    case rest =>
      obtain ⟨qp, qf, cp, cf, hCor, kBs, kBp, kBr, kBx, kown, kgw, hsz2⟩ := hcut
      clear bs0 bs1 bs2 bs3 bs4 bs5 bs6 bs7 bs8 bs9 bs10 bs11 bsF kbs bp0 bp1 bp2 bpF kbp br0 br1 br2 br3 br4 br5 br6 br7 br8 br9 br10 br11 brF kbr bx0 bx1 bx2 bx3 bx4 bx5 bx6 bx7 bx8 bx9 bx10 bx11 bxF kbx nesp neps nesr ners nesx nexs nepr nerp nepx nexp nerx nexr hBs hBp hBr hBx hown hgw
      obtain ⟨wy, hwe⟩ : ∃ u, u = wc := ⟨_, rfl⟩
      subst hwe
      have hBs := hide kBs
      clear kBs
      have hBp := hide kBp
      clear kBp
      have hBr := hide kBr
      clear kBr
      have hBx := hide kBx
      clear kBx
      have hown := hide kown
      clear kown
      have hgw := kgw
      clear kgw
      obtain ⟨bs0, bs1, bs2, bs3, bs4, bs5, bs6, bs7, bs8, bs9, bs10, bs11, bsF, kbs⟩ := BoxV.a12 hBs.out
      obtain ⟨bp0, bp1, bp2, bpF, kbp⟩ := BoxV.a3 hBp.out
      obtain ⟨br0, br1, br2, br3, br4, br5, br6, br7, br8, br9, br10, br11, brF, kbr⟩ := BoxV.a12 hBr.out
      obtain ⟨bx0, bx1, bx2, bx3, bx4, bx5, bx6, bx7, bx8, bx9, bx10, bx11, bxF, kbx⟩ := BoxV.a12 hBx.out
      have ⟨nesp, neps⟩ := ne2 (show w.heap.size ≠ w.heap.size + 1 by omega)
      have ⟨nesr, ners⟩ := ne2 (show w.heap.size ≠ w.heap.size + 1 + 1 by omega)
      have ⟨nesx, nexs⟩ := ne2 (show w.heap.size ≠ w1.heap.size by omega)
      have ⟨nepr, nerp⟩ := ne2 (show w.heap.size + 1 ≠ w.heap.size + 1 + 1 by omega)
      have ⟨nepx, nexp⟩ := ne2 (show w.heap.size + 1 ≠ w1.heap.size by omega)
      have ⟨nerx, nexr⟩ := ne2 (show w.heap.size + 1 + 1 ≠ w1.heap.size by omega)
      have hyes : seOk v ⟨st, z, b, e, xs, p, f, k, fi, fk, se, co⟩ o d fin = true := by
        rw [hTe.out]
        rcases hCor with h | h
        · rw [decide_eq_true h]; rfl
        · rw [decide_eq_true h, Bool.or_true]; rfl
      replace hyes := hide hyes
      clear hCor
      obtain ⟨FK, hFK⟩ : ∃ q, Hid ((if fin = true then 2 else fk) = q) := ⟨_, hide rfl⟩
      go_upto_if 83 with fail
      go_cut [] (fun wz => BoxV (w.heap.size) wz [.int .i64 st, .int .i64 z, .int .i64 b, .int .i64 e, .slice ar xs.length c1, .slice ap p.length c2, .slice af f.length c3, .slice ak k.length c4, .int .i64 fi, .int .i64 fk, .int .i64 se, .int .i64 co] ∧ BoxV (w.heap.size + 1) wz [.int .i64 o, .string d, .bool fin] ∧ BoxV (w.heap.size + 1 + 1) wz [.int .i64 0, .int .i64 0, .int .i64 0, .int .i64 0, .slice none 0 0, .slice none 0 0, .slice none 0 0, .slice none 0 0, .int .i64 0, .int .i64 0, .int .i64 0, .int .i64 0] ∧ BoxV (w1.heap.size) wz [.int .i64 st, .int .i64 z, .int .i64 b, .int .i64 e, .slice d1 xs.length cd1, .slice qp LP.length cp, .slice qf LF.length cf, .slice d4 k.length cd4, .int .i64 fi, .int .i64 FK, .int .i64 SE, .int .i64 co] ∧ OwnSnB (w1.heap.size) (w.heap.size + 3) wz.heap.size wz ⟨d1, qp, qf, d4⟩ cp ⟨xs, LP, LF, k⟩ ∧ Chg (fun b => w.heap.size ≤ b) w wz ∧ wy.heap.size ≤ wz.heap.size)
      case first =>
        cases fin
        · obtain rfl : fk = FK := hFK.out
          go_wp2_with fail
          go_meet
          exact ⟨hBs.out, hBp.out, hBr.out, hBx.out, hown.out, hgw, Nat.le_refl _⟩
        · obtain rfl : 2 = FK := hFK.out
          have hset := BoxV.set1 hBx.out (j := 9) (by simp) (.int .i64 2)
          simp only [List.set_cons_zero, List.set_cons_succ] at hset
          have hzs := hide (hBs.out.chg hset.2 xom)
          have hzp := hide (hBp.out.chg hset.2 xom)
          have hzr := hide (hBr.out.chg hset.2 xom)
          have hzx := hide hset.1
          have ozx := hide (OwnSnB.chg hown.out hset.2 xap)
          have gz := hgw.trans (hset.2.mono (T := fun b => w.heap.size ≤ b) xsub)
          have sz := hset.2.size
          clear hset
          go_wp2_with fail
          go_meet
          exact ⟨hzs.out, hzp.out, hzr.out, hzx.out, ozx.out.mono (by omega) (by omega), gz, by omega⟩
      case rest =>
        obtain ⟨kBs, kBp, kBr, kBx, kown, kgw, hsz3⟩ := hcut
        clear bs0 bs1 bs2 bs3 bs4 bs5 bs6 bs7 bs8 bs9 bs10 bs11 bsF kbs bp0 bp1 bp2 bpF kbp br0 br1 br2 br3 br4 br5 br6 br7 br8 br9 br10 br11 brF kbr bx0 bx1 bx2 bx3 bx4 bx5 bx6 bx7 bx8 bx9 bx10 bx11 bxF kbx nesp neps nesr ners nesx nexs nepr nerp nepx nexp nerx nexr hBs hBp hBr hBx hown hgw
        obtain ⟨wz, hwe⟩ : ∃ u, u = wc := ⟨_, rfl⟩
        subst hwe
        have hBs := hide kBs
        clear kBs
        have hBp := hide kBp
        clear kBp
        have hBr := hide kBr
        clear kBr
        have hBx := hide kBx
        clear kBx
        have hown := hide kown
        clear kown
        have hgw := kgw
        clear kgw
        obtain ⟨bs0, bs1, bs2, bs3, bs4, bs5, bs6, bs7, bs8, bs9, bs10, bs11, bsF, kbs⟩ := BoxV.a12 hBs.out
        obtain ⟨bp0, bp1, bp2, bpF, kbp⟩ := BoxV.a3 hBp.out
        obtain ⟨br0, br1, br2, br3, br4, br5, br6, br7, br8, br9, br10, br11, brF, kbr⟩ := BoxV.a12 hBr.out
        obtain ⟨bx0, bx1, bx2, bx3, bx4, bx5, bx6, bx7, bx8, bx9, bx10, bx11, bxF, kbx⟩ := BoxV.a12 hBx.out
        have ⟨nesp, neps⟩ := ne2 (show w.heap.size ≠ w.heap.size + 1 by omega)
        have ⟨nesr, ners⟩ := ne2 (show w.heap.size ≠ w.heap.size + 1 + 1 by omega)
        have ⟨nesx, nexs⟩ := ne2 (show w.heap.size ≠ w1.heap.size by omega)
        have ⟨nepr, nerp⟩ := ne2 (show w.heap.size + 1 ≠ w.heap.size + 1 + 1 by omega)
        have ⟨nepx, nexp⟩ := ne2 (show w.heap.size + 1 ≠ w1.heap.size by omega)
        have ⟨nerx, nexr⟩ := ne2 (show w.heap.size + 1 + 1 ≠ w1.heap.size by omega)
        have hFb : FK ≤ 3 := by
          have h3 : fk ≤ 3 := (sndS_hd (s := ⟨st, z, b, e, xs, p, f, k, fi, fk, se, co⟩) (by rw [hv.out]; exact (actV_iff.1 (by have := hT.out; simp only [Bool.and_eq_true] at this; exact this.1)).1)).fk1
          rw [← hFK.out]
          split <;> omega
        go_wp2_with fail
        refine (state_spec ⟨st, z, b, e, xs, LP, LF, k, fi, FK, SE, co⟩ ⟨d1, qp, qf, d4⟩ cd1 cp cf cd4 _).mono ?_
        rintro en m2 ⟨rfl, hm2⟩
        rw [stS_I (by (try dsimp only); omega)]
        have gm2 : Chg (fun b => False) wz m2 := Chg.trans Chg.go (Ext.chg hm2 _)
        have zm2 := hm2.size
        (try simp at zm2)
        have ym2 : wz.heap.size ≤ m2.heap.size := gm2.size
        have hs_m2 := hide (hBs.out.chg gm2 xom)
        have hp_m2 := hide (hBp.out.chg gm2 xom)
        have hr_m2 := hide (hBr.out.chg gm2 xom)
        have hx_m2 := hide (hBx.out.chg gm2 xom)
        have ox_m2 := hide (OwnSnB.chg hown.out gm2 xap)
        have hgwm2 : Chg (fun b => w.heap.size ≤ b) w m2 := Chg.trans hgw (Chg.mono (T := fun b => w.heap.size ≤ b) gm2 xsub)
        clear hBs hBp hBr hBx hown hgw bs0 bs1 bs2 bs3 bs4 bs5 bs6 bs7 bs8 bs9 bs10 bs11 bsF kbs bp0 bp1 bp2 bpF kbp br0 br1 br2 br3 br4 br5 br6 br7 br8 br9 br10 br11 brF kbr bx0 bx1 bx2 bx3 bx4 bx5 bx6 bx7 bx8 bx9 bx10 bx11 bxF kbx nesp neps nesr ners nesx nexs nepr nerp nepx nexp nerx nexr
        clear gm2 hm2
        obtain ⟨bs0, bs1, bs2, bs3, bs4, bs5, bs6, bs7, bs8, bs9, bs10, bs11, bsF, kbs⟩ := BoxV.a12 hs_m2.out
        obtain ⟨bp0, bp1, bp2, bpF, kbp⟩ := BoxV.a3 hp_m2.out
        obtain ⟨br0, br1, br2, br3, br4, br5, br6, br7, br8, br9, br10, br11, brF, kbr⟩ := BoxV.a12 hr_m2.out
        obtain ⟨bx0, bx1, bx2, bx3, bx4, bx5, bx6, bx7, bx8, bx9, bx10, bx11, bxF, kbx⟩ := BoxV.a12 hx_m2.out
        have ⟨nesp, neps⟩ := ne2 (show w.heap.size ≠ w.heap.size + 1 by omega)
        have ⟨nesr, ners⟩ := ne2 (show w.heap.size ≠ w.heap.size + 1 + 1 by omega)
        have ⟨nesx, nexs⟩ := ne2 (show w.heap.size ≠ w1.heap.size by omega)
        have ⟨nepr, nerp⟩ := ne2 (show w.heap.size + 1 ≠ w.heap.size + 1 + 1 by omega)
        have ⟨nepx, nexp⟩ := ne2 (show w.heap.size + 1 ≠ w1.heap.size by omega)
        have ⟨nerx, nexr⟩ := ne2 (show w.heap.size + 1 + 1 ≠ w1.heap.size by omega)
        have hX : seX v ⟨st, z, b, e, xs, p, f, k, fi, fk, se, co⟩ o d fin = ⟨stI st b e FK SE, z, b, e, xs, LP, LF, k, fi, FK, SE, co⟩ := by
          rw [seX_yes hyes.out]
          unfold seV
          dsimp only
          rw [hLP.out, hLF.out, hSE.out, hFK.out]
        replace hX := hide hX
        go_wp2
        rw [hX.out, hyes.out]
        refine bodyPost_ret (v := .tuple #[.agg #[.int .i64 (stI st b e FK SE), .int .i64 z, .int .i64 b, .int .i64 e, .slice d1 xs.length cd1, .slice qp LP.length cp, .slice qf LF.length cf, .slice d4 k.length cd4, .int .i64 fi, .int .i64 FK, .int .i64 SE, .int .i64 co], .bool true]) (by simp [results, Try.results49, go_sem, *]) rfl ⟨d1, qp, qf, d4, cd1, cp, cf, cd4, rfl, ?_, ?_⟩
        · exact OwnSnV.mono (OwnSnB.snv (OwnSnB.chg (S := fun b => b = w1.heap.size ∨ b = w.heap.size + 1 + 1) ox_m2.out Chg.go xap)) xpf xpf
        · exact (Chg.ext (S := fun b => w.heap.size ≤ b) (Chg.trans hgwm2 (Chg.mono (S := fun b => b = w1.heap.size ∨ b = w.heap.size + 1 + 1) (T := fun b => w.heap.size ≤ b) Chg.go xsub)) (fun b h1 h2 => by (try dsimp only at h2); omega))
end
end Go.Proofs.Ytjhgcbchdnoleaa

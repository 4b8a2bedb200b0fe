/-
  Part of the proof: IsSndJ.
-/
import Derived.Deep.DeepCutAuto
import Derived.Test.YtjhgcbchdnoleaaPG7
namespace Go.Proofs.Ytjhgcbchdnoleaa
section
open Go.ChangeShapes Go.WideShapes Go.ChangeAt Go.RowKit
set_option linter.unusedSimpArgs false
set_option linter.unusedVariables false
set_option maxHeartbeats 8000000 in
set_option maxRecDepth 100000 in
theorem IsSender_impl (s : Sn) (a : Ads) (c1 c2 c3 c4 : Nat) (w : World) (hx : ReadSnd w a ⟨s.xs, s.p, s.f, s.k⟩) (hl : s.xs.length ≤ 1048576) (hsum : s.p.length + s.f.length + s.k.length ≤ 1048576) :
    Calls Try.prog 19 #[.agg #[.int .i64 s.st, .int .i64 s.z, .int .i64 s.b, .int .i64 s.e, .slice a.r s.xs.length c1, .slice a.p s.p.length c2, .slice a.f s.f.length c3, .slice a.k s.k.length c4, .int .i64 s.fi, .int .i64 s.fk, .int .i64 s.se, .int .i64 s.co]] w fun en w' => en = .returned (.bool (sndI s)) ∧ Ext w w' := by
  obtain ⟨st, z, b, e, xs, p, f, k, fi, fk, se, co⟩ := s
  obtain ⟨ar, ap, af, ak⟩ := a
  dsimp only at *
  have hx' := hide hx
  clear hx
  obtain ⟨R, hR⟩ : ∃ R, Hid (sndI ⟨st, z, b, e, xs, p, f, k, fi, fk, se, co⟩ = R) := ⟨_, hide rfl⟩
  rw [hR.out]
  obtain ⟨HD, hHD⟩ : ∃ R, Hid (sndHd ⟨st, z, b, e, xs, p, f, k, fi, fk, se, co⟩ = R) := ⟨_, hide rfl⟩
  go_enter Try.func19, Try.ntmps19
  go_upto_region 1 with fail
  obtain ⟨w0, hw0⟩ : ∃ u, u = (w.alloc (.cells #[.int .i64 st, .int .i64 z, .int .i64 b, .int .i64 e, .slice ar xs.length c1, .slice ap p.length c2, .slice af f.length c3, .slice ak k.length c4, .int .i64 fi, .int .i64 fk, .int .i64 se, .int .i64 co] 32)) := ⟨_, rfl⟩
  rw [← hw0]
  have x0 : Ext w w0 := hw0 ▸ ((Ext.refl w).alloc _)
  have bx0 : Hid (BoxV w.heap.size w0 [.int .i64 st, .int .i64 z, .int .i64 b, .int .i64 e, .slice ar xs.length c1, .slice ap p.length c2, .slice af f.length c3, .slice ak k.length c4, .int .i64 fi, .int .i64 fk, .int .i64 se, .int .i64 co]) := hide (hw0 ▸ BoxV.new w [.int .i64 st, .int .i64 z, .int .i64 b, .int .i64 e, .slice ar xs.length c1, .slice ap p.length c2, .slice af f.length c3, .slice ak k.length c4, .int .i64 fi, .int .i64 fk, .int .i64 se, .int .i64 co] 32)
  clear hw0
  (try clear d0 d1 d2 d3 d4 d5 d6 d7 d8 d9 d10 d11 dk)
  have d0 := bx0.out.c 0 _ rfl
  have d1 := bx0.out.c 1 _ rfl
  have d2 := bx0.out.c 2 _ rfl
  have d3 := bx0.out.c 3 _ rfl
  have d4 := bx0.out.c 4 _ rfl
  have d5 := bx0.out.c 5 _ rfl
  have d6 := bx0.out.c 6 _ rfl
  have d7 := bx0.out.c 7 _ rfl
  have d8 := bx0.out.c 8 _ rfl
  have d9 := bx0.out.c 9 _ rfl
  have d10 := bx0.out.c 10 _ rfl
  have d11 := bx0.out.c 11 _ rfl
  have dk := bx0.out.lt
  go_cut [47] (fun tq wx => tq = .bool (!HD) ∧ Ext w wx ∧ BoxV w.heap.size wx [.int .i64 st, .int .i64 z, .int .i64 b, .int .i64 e, .slice ar xs.length c1, .slice ap p.length c2, .slice af f.length c3, .slice ak k.length c4, .int .i64 fi, .int .i64 fk, .int .i64 se, .int .i64 co])
  case first =>
    go_wp2_with fail
    refine (IsRing_impl z b e ar _ c1 xs _ (hx'.out.r.ext x0) rfl (by omega)).mono ?_
    rintro en w1 ⟨rfl, hb⟩
    have x1 : Ext w w1 := Ext.trans x0 hb
    have bx1 := hide (bx0.out.ext hb)
    clear hb
    (try clear d0 d1 d2 d3 d4 d5 d6 d7 d8 d9 d10 d11 dk)
    have d0 := bx1.out.c 0 _ rfl
    have d1 := bx1.out.c 1 _ rfl
    have d2 := bx1.out.c 2 _ rfl
    have d3 := bx1.out.c 3 _ rfl
    have d4 := bx1.out.c 4 _ rfl
    have d5 := bx1.out.c 5 _ rfl
    have d6 := bx1.out.c 6 _ rfl
    have d7 := bx1.out.c 7 _ rfl
    have d8 := bx1.out.c 8 _ rfl
    have d9 := bx1.out.c 9 _ rfl
    have d10 := bx1.out.c 10 _ rfl
    have d11 := bx1.out.c 11 _ rfl
    have dk := bx1.out.lt
    obtain ⟨r1, hr1⟩ : ∃ q, Hid (isRing z b e xs = q) := ⟨_, hide rfl⟩
    rw [hr1.out]
    cases r1
    · go_wp2_with fail
      go_meet
      exact ⟨by rw [← hHD.out]; simp [sndHd, hr1.out], x1, bx1.out⟩
    go_wp2_with fail
    refine (IsRanges_impl ap _ c2 p _ (hx'.out.p.ext x1) rfl (by omega)).mono ?_
    rintro en w2 ⟨rfl, hb⟩
    have x2 : Ext w w2 := Ext.trans x1 hb
    have bx2 := hide (bx1.out.ext hb)
    clear hb
    (try clear d0 d1 d2 d3 d4 d5 d6 d7 d8 d9 d10 d11 dk)
    have d0 := bx2.out.c 0 _ rfl
    have d1 := bx2.out.c 1 _ rfl
    have d2 := bx2.out.c 2 _ rfl
    have d3 := bx2.out.c 3 _ rfl
    have d4 := bx2.out.c 4 _ rfl
    have d5 := bx2.out.c 5 _ rfl
    have d6 := bx2.out.c 6 _ rfl
    have d7 := bx2.out.c 7 _ rfl
    have d8 := bx2.out.c 8 _ rfl
    have d9 := bx2.out.c 9 _ rfl
    have d10 := bx2.out.c 10 _ rfl
    have d11 := bx2.out.c 11 _ rfl
    have dk := bx2.out.lt
    obtain ⟨r2, hr2⟩ : ∃ q, Hid (isRgs p = q) := ⟨_, hide rfl⟩
    rw [hr2.out]
    cases r2
    · go_wp2_with fail
      go_meet
      exact ⟨by rw [← hHD.out]; simp [sndHd, hr1.out, hr2.out], x2, bx2.out⟩
    go_wp2_with fail
    refine (IsRanges_impl af _ c3 f _ (hx'.out.f.ext x2) rfl (by omega)).mono ?_
    rintro en w3 ⟨rfl, hb⟩
    have x3 : Ext w w3 := Ext.trans x2 hb
    have bx3 := hide (bx2.out.ext hb)
    clear hb
    (try clear d0 d1 d2 d3 d4 d5 d6 d7 d8 d9 d10 d11 dk)
    have d0 := bx3.out.c 0 _ rfl
    have d1 := bx3.out.c 1 _ rfl
    have d2 := bx3.out.c 2 _ rfl
    have d3 := bx3.out.c 3 _ rfl
    have d4 := bx3.out.c 4 _ rfl
    have d5 := bx3.out.c 5 _ rfl
    have d6 := bx3.out.c 6 _ rfl
    have d7 := bx3.out.c 7 _ rfl
    have d8 := bx3.out.c 8 _ rfl
    have d9 := bx3.out.c 9 _ rfl
    have d10 := bx3.out.c 10 _ rfl
    have d11 := bx3.out.c 11 _ rfl
    have dk := bx3.out.lt
    obtain ⟨r3, hr3⟩ : ∃ q, Hid (isRgs f = q) := ⟨_, hide rfl⟩
    rw [hr3.out]
    cases r3
    · go_wp2_with fail
      go_meet
      exact ⟨by rw [← hHD.out]; simp [sndHd, hr1.out, hr2.out, hr3.out], x3, bx3.out⟩
    go_wp2_with fail
    refine (IsRanges_impl ak _ c4 k _ (hx'.out.k.ext x3) rfl (by omega)).mono ?_
    rintro en w4 ⟨rfl, hb⟩
    have x4 : Ext w w4 := Ext.trans x3 hb
    have bx4 := hide (bx3.out.ext hb)
    clear hb
    (try clear d0 d1 d2 d3 d4 d5 d6 d7 d8 d9 d10 d11 dk)
    have d0 := bx4.out.c 0 _ rfl
    have d1 := bx4.out.c 1 _ rfl
    have d2 := bx4.out.c 2 _ rfl
    have d3 := bx4.out.c 3 _ rfl
    have d4 := bx4.out.c 4 _ rfl
    have d5 := bx4.out.c 5 _ rfl
    have d6 := bx4.out.c 6 _ rfl
    have d7 := bx4.out.c 7 _ rfl
    have d8 := bx4.out.c 8 _ rfl
    have d9 := bx4.out.c 9 _ rfl
    have d10 := bx4.out.c 10 _ rfl
    have d11 := bx4.out.c 11 _ rfl
    have dk := bx4.out.lt
    obtain ⟨r4, hr4⟩ : ∃ q, Hid (isRgs k = q) := ⟨_, hide rfl⟩
    rw [hr4.out]
    cases r4
    · go_wp2_with fail
      go_meet
      exact ⟨by rw [← hHD.out]; simp [sndHd, hr1.out, hr2.out, hr3.out, hr4.out], x4, bx4.out⟩
    go_wp2_with fail
    refine (within_any se 0 e _).mono ?_
    rintro en _ ⟨rfl, rfl⟩
    obtain ⟨r5, hr5⟩ : ∃ q, Hid (inB 0 se e = q) := ⟨_, hide rfl⟩
    rw [hr5.out]
    cases r5
    · go_wp2_with fail
      go_meet
      exact ⟨by rw [← hHD.out]; simp [sndHd, hr1.out, hr2.out, hr3.out, hr4.out, hr5.out], x4, bx4.out⟩
    go_wp2_with fail
    refine (isQuic_any co _).mono ?_
    rintro en _ ⟨rfl, rfl⟩
    obtain ⟨r6, hr6⟩ : ∃ q, Hid (inB 0 co 4611686018427387903 = q) := ⟨_, hide rfl⟩
    rw [hr6.out]
    cases r6
    · go_wp2_with fail
      go_meet
      exact ⟨by rw [← hHD.out]; simp [sndHd, hr1.out, hr2.out, hr3.out, hr4.out, hr5.out, hr6.out], x4, bx4.out⟩
    go_wp2_with fail
    refine (within_any fk 0 3 _).mono ?_
    rintro en _ ⟨rfl, rfl⟩
    obtain ⟨r7, hr7⟩ : ∃ q, Hid (inB 0 fk 3 = q) := ⟨_, hide rfl⟩
    rw [hr7.out]
    cases r7
    · go_wp2_with fail
      go_meet
      exact ⟨by rw [← hHD.out]; simp [sndHd, hr1.out, hr2.out, hr3.out, hr4.out, hr5.out, hr6.out, hr7.out], x4, bx4.out⟩
    go_wp2_with fail
    go_meet
    exact ⟨by rw [← hHD.out]; simp [sndHd, hr1.out, hr2.out, hr3.out, hr4.out, hr5.out, hr6.out, hr7.out], x4, bx4.out⟩
  case rest =>
    obtain ⟨w1, hwe⟩ : ∃ u, u = wc := ⟨_, rfl⟩
    subst hwe
    obtain ⟨rfl, x1, kb⟩ := hcut
    have bx1 := hide kb
    clear kb bx0 x0
    (try clear d0 d1 d2 d3 d4 d5 d6 d7 d8 d9 d10 d11 dk)
    have d0 := bx1.out.c 0 _ rfl
    have d1 := bx1.out.c 1 _ rfl
    have d2 := bx1.out.c 2 _ rfl
    have d3 := bx1.out.c 3 _ rfl
    have d4 := bx1.out.c 4 _ rfl
    have d5 := bx1.out.c 5 _ rfl
    have d6 := bx1.out.c 6 _ rfl
    have d7 := bx1.out.c 7 _ rfl
    have d8 := bx1.out.c 8 _ rfl
    have d9 := bx1.out.c 9 _ rfl
    have d10 := bx1.out.c 10 _ rfl
    have d11 := bx1.out.c 11 _ rfl
    have dk := bx1.out.lt
    cases HD
    · go_wp2
      go_ret
      exact ⟨by rw [← hR.out]; unfold sndI; rw [hHD.out]; rfl, x1⟩
    have hd := hide ((sndHd_iff _).1 hHD.out)
    have hrb := isRing_bd hd.out.ring
    have hs0 := hd.out.se0
    have hs1 := hd.out.se1
    have hf0 := hd.out.fk0
    have hf1 := hd.out.fk1
    dsimp only at hrb hs0 hs1 hf0 hf1
    obtain ⟨RS, hRS⟩ : ∃ q, Hid (isRst ⟨st, z, b, e, xs, p, f, k, fi, fk, se, co⟩ = q) := ⟨_, hide rfl⟩
    go_upto_region 3 with fail
    go_cut [55] (fun tq wx => tq = .bool RS ∧ wx = w1)
    case first =>
      by_cases h4 : st = 4
      · have h4e : (st == 4) = true := by simp [h4]
        have hr : RS = true := by rw [← hRS.out]; simp [isRst, h4]
        replace h4 := hide h4
        go_wp2_with fail
        go_meet
        exact ⟨by rw [hr], rfl⟩
      have h4e : (st == 4) = false := by simp [h4]
      by_cases h5 : st = 5
      · have h5e : (st == 5) = true := by simp [h5]
        have hr : RS = true := by rw [← hRS.out]; simp [isRst, h5]
        replace h5 := hide h5
        go_wp2_with fail
        go_meet
        exact ⟨by rw [hr], rfl⟩
      have h5e : (st == 5) = false := by simp [h5]
      have hr : RS = false := by rw [← hRS.out]; simp [isRst, h4, h5]
      go_wp2_with fail
      go_meet
      exact ⟨by rw [hr], rfl⟩
    case rest =>
      obtain ⟨rfl, hwy⟩ := hcut
      subst hwy
      obtain ⟨w1, hwe⟩ : ∃ u, u = wc := ⟨_, rfl⟩
      subst hwe
      cases RS
      rotate_left
      · skip
        obtain ⟨q1, hq1⟩ : ∃ q, ((p.length : Int) == 0) = q := ⟨_, rfl⟩
        obtain ⟨q2, hq2⟩ : ∃ q, ((f.length : Int) == 0) = q := ⟨_, rfl⟩
        obtain ⟨q3, hq3⟩ : ∃ q, ((k.length : Int) == 0) = q := ⟨_, rfl⟩
        obtain ⟨q4, hq4⟩ : ∃ q, (b == e) = q := ⟨_, rfl⟩
        obtain ⟨q5, hq5⟩ : ∃ q, (fi == se) = q := ⟨_, rfl⟩
        obtain ⟨q6, hq6⟩ : ∃ q, (se == e) = q := ⟨_, rfl⟩
        obtain ⟨q7, hq7⟩ : ∃ q, (fk == 0) = q := ⟨_, rfl⟩
        have hv : R = (q4 && (q1 && (q2 && (q3 && (q5 && (q7 && q6)))))) := by
          rw [← hR.out, ← hq1, ← hq2, ← hq3, ← hq4, ← hq5, ← hq6, ← hq7]
          unfold sndI
          rw [hHD.out, hRS.out]
          simp [sndRst, beq_dec]
        replace hv := hide hv
        cases q1
        · go_wp2
          go_ret
          exact ⟨by rw [hv.out]; simp, x1⟩
        cases q2
        · go_wp2
          go_ret
          exact ⟨by rw [hv.out]; simp, x1⟩
        cases q3
        · go_wp2
          go_ret
          exact ⟨by rw [hv.out]; simp, x1⟩
        cases q4
        · go_wp2
          go_ret
          exact ⟨by rw [hv.out]; simp, x1⟩
        cases q5
        · go_wp2
          go_ret
          exact ⟨by rw [hv.out]; simp, x1⟩
        cases q6
        · go_wp2
          go_ret
          exact ⟨by rw [hv.out]; simp, x1⟩
        cases q7
        · go_wp2
          go_ret
          exact ⟨by rw [hv.out]; simp, x1⟩
        go_wp2
        go_ret
        exact ⟨by rw [hv.out]; simp, x1⟩
      obtain ⟨F, hF⟩ : ∃ q, Hid ((if fk = 0 then (-1 : Int) else e) = q) := ⟨_, hide rfl⟩
      have htl := sndI_tail ⟨st, z, b, e, xs, p, f, k, fi, fk, se, co⟩ hHD.out hRS.out F hF.out.symm
      rw [hR.out] at htl
      dsimp only at htl
      replace htl := hide htl
      obtain ⟨kz, hkz⟩ : ∃ q, (fk == 0) = q := ⟨_, rfl⟩
      have hFk : F = if kz = true then -1 else e := by rw [← hF.out, ← hkz]; simp
      replace hFk := hide hFk
      go_upto_if 107 with fail
      go_cut [4] (fun tq wx => tq = .int .i64 F ∧ wx = w1)
      case first =>
        cases kz
        · go_wp2_with fail
          go_meet
          exact ⟨by rw [hFk.out]; rfl, rfl⟩
        · go_wp2_with fail
          go_meet
          exact ⟨by rw [hFk.out]; rfl, rfl⟩
      case rest =>
        obtain ⟨rfl, hwy⟩ := hcut
        subst hwy
        obtain ⟨w1, hwe⟩ : ∃ u, u = wc := ⟨_, rfl⟩
        subst hwe
        obtain ⟨t1, ht1⟩ : ∃ q, (decide (cntSum p f k = e) && (decide (cntR (joinR p f k) = e) && !endsB (joinR p f k) e)) = q := ⟨_, rfl⟩
        obtain ⟨t2, ht2⟩ : ∃ q, (gapR k 0 == b) = q := ⟨_, rfl⟩
        obtain ⟨t3, ht3⟩ : ∃ q, endsB f se = q := ⟨_, rfl⟩
        obtain ⟨t4, ht4⟩ : ∃ q, endsB k se = q := ⟨_, rfl⟩
        obtain ⟨t5, ht5⟩ : ∃ q, (co == 0) = q := ⟨_, rfl⟩
        obtain ⟨t6, ht6⟩ : ∃ q, (fi == F) = q := ⟨_, rfl⟩
        obtain ⟨t7, ht7⟩ : ∃ q, (st == stI st b e fk se) = q := ⟨_, rfl⟩
        have hv : R = (t1 && (t2 && (!t3 && (!t4 && (t5 && (t6 && t7)))))) := by
          rw [htl.out, ← ht1, ← ht2, ← ht3, ← ht4, ← ht5, ← ht6, ← ht7]
          simp [beq_dec, Bool.and_assoc]
        replace hv := hide hv
        replace ht1 := hide ht1
        replace ht3 := hide ht3
        replace ht4 := hide ht4
        go_wp2_with fail
        refine wp_region_flowE 54 [(0, 1), (1, 1), (2, 1), (3, 1), (4, 1), (5, 1), (6, 1), (7, 1), (8, 1), (9, 0), (10, 1), (11, 1), (12, 1), (14, 1), (15, 1), (16, 1), (13, 0), (17, 1), (18, 1), (19, 1), (20, 1), (21, 1), (22, 1), (23, 1), (24, 0), (25, 1), (26, 1), (27, 1), (28, 1), (29, 1), (30, 1), (31, 1), (32, 0), (33, 1), (34, 1), (35, 1), (36, 1), (37, 1), (38, 1), (39, 1), (40, 1), (41, 1), (42, 1), (43, 1), (44, 1), (45, 1), (46, 1), (47, 1), (48, 1), (49, 1), (50, 0), (51, 1), (52, 1), (53, 1)] (by kernel_rfl) (by kernel_rfl) ?_
        iterate 9 ((refine wpF_pure (v := ?_) rfl rfl (by rfl) ?_ ?_; rotate_left; (focus (intro ws hws; obtain ⟨q0, p0⟩ := hws.row (k := w.heap.size) xpf; go_simp; (try with_reducible rfl); done))); try simp only [Act.put, List.getElem_toArray, List.getElem_cons_zero, List.getElem_cons_succ, List.setIfInBounds_toArray, List.set_cons_zero, List.set_cons_succ])
        (refine wpF_call 76 ?_ rfl rfl (by rfl) ?_ ?_; rotate_left; (focus (go_simp; (try with_reducible rfl); done)))
        refine (areWhole_impl e ap af ak c2 c3 c4 p f k _ (hx'.out.p.ext Ext.go) (hx'.out.f.ext Ext.go) (hx'.out.k.ext Ext.go) (by omega)).mono ?_
        rintro en w2 ⟨rfl, hbw2⟩
        refine ⟨_, rfl, hbw2, ?_⟩
        try simp only [Act.put, List.getElem_toArray, List.getElem_cons_zero, List.getElem_cons_succ, List.setIfInBounds_toArray, List.set_cons_zero, List.set_cons_succ]
        have x2 : Ext w w2 := Ext.trans Ext.go hbw2
        have bx2 := hide (bx1.out.ext (show Ext w1 w2 from Ext.trans Ext.go hbw2))
        (try clear d0 d1 d2 d3 d4 d5 d6 d7 d8 d9 d10 d11 dk)
        have d0 := bx2.out.c 0 _ rfl
        have d1 := bx2.out.c 1 _ rfl
        have d2 := bx2.out.c 2 _ rfl
        have d3 := bx2.out.c 3 _ rfl
        have d4 := bx2.out.c 4 _ rfl
        have d5 := bx2.out.c 5 _ rfl
        have d6 := bx2.out.c 6 _ rfl
        have d7 := bx2.out.c 7 _ rfl
        have d8 := bx2.out.c 8 _ rfl
        have d9 := bx2.out.c 9 _ rfl
        have d10 := bx2.out.c 10 _ rfl
        have d11 := bx2.out.c 11 _ rfl
        have dk := bx2.out.lt
        rw [ht1.out]
        cases t1
        · skip
          iterate 6 ((first | (refine wpF_off rfl rfl (by rfl) ?_) | (refine wpF_pure (v := ?_) rfl rfl (by rfl) ?_ ?_; rotate_left; (focus (intro ws hws; obtain ⟨q0, p0⟩ := hws.row (k := w.heap.size) xpf; go_simp; (try with_reducible rfl); done)))); try simp only [Act.put, List.getElem_toArray, List.getElem_cons_zero, List.getElem_cons_succ, List.setIfInBounds_toArray, List.set_cons_zero, List.set_cons_succ])
          refine wpF_offS rfl rfl (by rfl) ?_
          try simp only [Act.put, List.getElem_toArray, List.getElem_cons_zero, List.getElem_cons_succ, List.setIfInBounds_toArray, List.set_cons_zero, List.set_cons_succ]
          iterate 7 ((first | (refine wpF_off rfl rfl (by rfl) ?_) | (refine wpF_pure (v := ?_) rfl rfl (by rfl) ?_ ?_; rotate_left; (focus (intro ws hws; obtain ⟨q0, p0⟩ := hws.row (k := w.heap.size) xpf; go_simp; (try with_reducible rfl); done)))); try simp only [Act.put, List.getElem_toArray, List.getElem_cons_zero, List.getElem_cons_succ, List.setIfInBounds_toArray, List.set_cons_zero, List.set_cons_succ])
          refine wpF_offS rfl rfl (by rfl) ?_
          try simp only [Act.put, List.getElem_toArray, List.getElem_cons_zero, List.getElem_cons_succ, List.setIfInBounds_toArray, List.set_cons_zero, List.set_cons_succ]
          iterate 7 ((first | (refine wpF_off rfl rfl (by rfl) ?_) | (refine wpF_pure (v := ?_) rfl rfl (by rfl) ?_ ?_; rotate_left; (focus (intro ws hws; obtain ⟨q0, p0⟩ := hws.row (k := w.heap.size) xpf; go_simp; (try with_reducible rfl); done)))); try simp only [Act.put, List.getElem_toArray, List.getElem_cons_zero, List.getElem_cons_succ, List.setIfInBounds_toArray, List.set_cons_zero, List.set_cons_succ])
          refine wpF_offS rfl rfl (by rfl) ?_
          try simp only [Act.put, List.getElem_toArray, List.getElem_cons_zero, List.getElem_cons_succ, List.setIfInBounds_toArray, List.set_cons_zero, List.set_cons_succ]
          iterate 17 ((first | (refine wpF_off rfl rfl (by rfl) ?_) | (refine wpF_pure (v := ?_) rfl rfl (by rfl) ?_ ?_; rotate_left; (focus (intro ws hws; obtain ⟨q0, p0⟩ := hws.row (k := w.heap.size) xpf; go_simp; (try with_reducible rfl); done)))); try simp only [Act.put, List.getElem_toArray, List.getElem_cons_zero, List.getElem_cons_succ, List.setIfInBounds_toArray, List.set_cons_zero, List.set_cons_succ])
          refine wpF_offS rfl rfl (by rfl) ?_
          try simp only [Act.put, List.getElem_toArray, List.getElem_cons_zero, List.getElem_cons_succ, List.setIfInBounds_toArray, List.set_cons_zero, List.set_cons_succ]
          iterate 3 ((first | (refine wpF_off rfl rfl (by rfl) ?_) | (refine wpF_pure (v := ?_) rfl rfl (by rfl) ?_ ?_; rotate_left; (focus (intro ws hws; obtain ⟨q0, p0⟩ := hws.row (k := w.heap.size) xpf; go_simp; (try with_reducible rfl); done)))); try simp only [Act.put, List.getElem_toArray, List.getElem_cons_zero, List.getElem_cons_succ, List.setIfInBounds_toArray, List.set_cons_zero, List.set_cons_succ])
          refine wpF_done rfl ?_
          simp only [List.drop_succ_cons, List.drop_zero, List.drop_nil]
          go_wp2
          go_ret
          exact ⟨by rw [hv.out]; simp, Ext.go⟩
        iterate 6 ((refine wpF_pure (v := ?_) rfl rfl (by rfl) ?_ ?_; rotate_left; (focus (intro ws hws; obtain ⟨q0, p0⟩ := hws.row (k := w.heap.size) xpf; go_simp; (try with_reducible rfl); done))); try simp only [Act.put, List.getElem_toArray, List.getElem_cons_zero, List.getElem_cons_succ, List.setIfInBounds_toArray, List.set_cons_zero, List.set_cons_succ])
        (refine wpF_call 77 ?_ rfl rfl (by rfl) ?_ ?_; rotate_left; (focus (go_simp; (try with_reducible rfl); done)))
        refine (FirstGap_impl 0 ak _ c4 k _ (hx'.out.k.ext Ext.go) rfl (by omega)).mono ?_
        rintro en w3 ⟨rfl, hbw3⟩
        refine ⟨_, rfl, hbw3, ?_⟩
        try simp only [Act.put, List.getElem_toArray, List.getElem_cons_zero, List.getElem_cons_succ, List.setIfInBounds_toArray, List.set_cons_zero, List.set_cons_succ]
        have x3 : Ext w w3 := Ext.trans x2 hbw3
        have bx3 := hide (bx2.out.ext hbw3)
        (try clear d0 d1 d2 d3 d4 d5 d6 d7 d8 d9 d10 d11 dk)
        have d0 := bx3.out.c 0 _ rfl
        have d1 := bx3.out.c 1 _ rfl
        have d2 := bx3.out.c 2 _ rfl
        have d3 := bx3.out.c 3 _ rfl
        have d4 := bx3.out.c 4 _ rfl
        have d5 := bx3.out.c 5 _ rfl
        have d6 := bx3.out.c 6 _ rfl
        have d7 := bx3.out.c 7 _ rfl
        have d8 := bx3.out.c 8 _ rfl
        have d9 := bx3.out.c 9 _ rfl
        have d10 := bx3.out.c 10 _ rfl
        have d11 := bx3.out.c 11 _ rfl
        have dk := bx3.out.lt
        cases t2
        · skip
          iterate 7 ((first | (refine wpF_off rfl rfl (by rfl) ?_) | (refine wpF_pure (v := ?_) rfl rfl (by rfl) ?_ ?_; rotate_left; (focus (intro ws hws; obtain ⟨q0, p0⟩ := hws.row (k := w.heap.size) xpf; go_simp; (try with_reducible rfl); done)))); try simp only [Act.put, List.getElem_toArray, List.getElem_cons_zero, List.getElem_cons_succ, List.setIfInBounds_toArray, List.set_cons_zero, List.set_cons_succ])
          refine wpF_offS rfl rfl (by rfl) ?_
          try simp only [Act.put, List.getElem_toArray, List.getElem_cons_zero, List.getElem_cons_succ, List.setIfInBounds_toArray, List.set_cons_zero, List.set_cons_succ]
          iterate 7 ((first | (refine wpF_off rfl rfl (by rfl) ?_) | (refine wpF_pure (v := ?_) rfl rfl (by rfl) ?_ ?_; rotate_left; (focus (intro ws hws; obtain ⟨q0, p0⟩ := hws.row (k := w.heap.size) xpf; go_simp; (try with_reducible rfl); done)))); try simp only [Act.put, List.getElem_toArray, List.getElem_cons_zero, List.getElem_cons_succ, List.setIfInBounds_toArray, List.set_cons_zero, List.set_cons_succ])
          refine wpF_offS rfl rfl (by rfl) ?_
          try simp only [Act.put, List.getElem_toArray, List.getElem_cons_zero, List.getElem_cons_succ, List.setIfInBounds_toArray, List.set_cons_zero, List.set_cons_succ]
          iterate 17 ((first | (refine wpF_off rfl rfl (by rfl) ?_) | (refine wpF_pure (v := ?_) rfl rfl (by rfl) ?_ ?_; rotate_left; (focus (intro ws hws; obtain ⟨q0, p0⟩ := hws.row (k := w.heap.size) xpf; go_simp; (try with_reducible rfl); done)))); try simp only [Act.put, List.getElem_toArray, List.getElem_cons_zero, List.getElem_cons_succ, List.setIfInBounds_toArray, List.set_cons_zero, List.set_cons_succ])
          refine wpF_offS rfl rfl (by rfl) ?_
          try simp only [Act.put, List.getElem_toArray, List.getElem_cons_zero, List.getElem_cons_succ, List.setIfInBounds_toArray, List.set_cons_zero, List.set_cons_succ]
          iterate 3 ((first | (refine wpF_off rfl rfl (by rfl) ?_) | (refine wpF_pure (v := ?_) rfl rfl (by rfl) ?_ ?_; rotate_left; (focus (intro ws hws; obtain ⟨q0, p0⟩ := hws.row (k := w.heap.size) xpf; go_simp; (try with_reducible rfl); done)))); try simp only [Act.put, List.getElem_toArray, List.getElem_cons_zero, List.getElem_cons_succ, List.setIfInBounds_toArray, List.set_cons_zero, List.set_cons_succ])
          refine wpF_done rfl ?_
          simp only [List.drop_succ_cons, List.drop_zero, List.drop_nil]
          go_wp2
          go_ret
          exact ⟨by rw [hv.out]; simp, Ext.go⟩
        iterate 7 ((refine wpF_pure (v := ?_) rfl rfl (by rfl) ?_ ?_; rotate_left; (focus (intro ws hws; obtain ⟨q0, p0⟩ := hws.row (k := w.heap.size) xpf; go_simp; (try with_reducible rfl); done))); try simp only [Act.put, List.getElem_toArray, List.getElem_cons_zero, List.getElem_cons_succ, List.setIfInBounds_toArray, List.set_cons_zero, List.set_cons_succ])
        (refine wpF_call 78 ?_ rfl rfl (by rfl) ?_ ?_; rotate_left; (focus (go_simp; (try with_reducible rfl); done)))
        refine (endsBehind_impl se af _ c3 f _ (hx'.out.f.ext Ext.go) rfl (by omega)).mono ?_
        rintro en w4 ⟨rfl, hbw4⟩
        refine ⟨_, rfl, hbw4, ?_⟩
        try simp only [Act.put, List.getElem_toArray, List.getElem_cons_zero, List.getElem_cons_succ, List.setIfInBounds_toArray, List.set_cons_zero, List.set_cons_succ]
        have x4 : Ext w w4 := Ext.trans x3 hbw4
        have bx4 := hide (bx3.out.ext hbw4)
        (try clear d0 d1 d2 d3 d4 d5 d6 d7 d8 d9 d10 d11 dk)
        have d0 := bx4.out.c 0 _ rfl
        have d1 := bx4.out.c 1 _ rfl
        have d2 := bx4.out.c 2 _ rfl
        have d3 := bx4.out.c 3 _ rfl
        have d4 := bx4.out.c 4 _ rfl
        have d5 := bx4.out.c 5 _ rfl
        have d6 := bx4.out.c 6 _ rfl
        have d7 := bx4.out.c 7 _ rfl
        have d8 := bx4.out.c 8 _ rfl
        have d9 := bx4.out.c 9 _ rfl
        have d10 := bx4.out.c 10 _ rfl
        have d11 := bx4.out.c 11 _ rfl
        have dk := bx4.out.lt
        rw [ht3.out]
        cases t3
        rotate_left
        · skip
          iterate 7 ((first | (refine wpF_off rfl rfl (by rfl) ?_) | (refine wpF_pure (v := ?_) rfl rfl (by rfl) ?_ ?_; rotate_left; (focus (intro ws hws; obtain ⟨q0, p0⟩ := hws.row (k := w.heap.size) xpf; go_simp; (try with_reducible rfl); done)))); try simp only [Act.put, List.getElem_toArray, List.getElem_cons_zero, List.getElem_cons_succ, List.setIfInBounds_toArray, List.set_cons_zero, List.set_cons_succ])
          refine wpF_offS rfl rfl (by rfl) ?_
          try simp only [Act.put, List.getElem_toArray, List.getElem_cons_zero, List.getElem_cons_succ, List.setIfInBounds_toArray, List.set_cons_zero, List.set_cons_succ]
          iterate 17 ((first | (refine wpF_off rfl rfl (by rfl) ?_) | (refine wpF_pure (v := ?_) rfl rfl (by rfl) ?_ ?_; rotate_left; (focus (intro ws hws; obtain ⟨q0, p0⟩ := hws.row (k := w.heap.size) xpf; go_simp; (try with_reducible rfl); done)))); try simp only [Act.put, List.getElem_toArray, List.getElem_cons_zero, List.getElem_cons_succ, List.setIfInBounds_toArray, List.set_cons_zero, List.set_cons_succ])
          refine wpF_offS rfl rfl (by rfl) ?_
          try simp only [Act.put, List.getElem_toArray, List.getElem_cons_zero, List.getElem_cons_succ, List.setIfInBounds_toArray, List.set_cons_zero, List.set_cons_succ]
          iterate 3 ((first | (refine wpF_off rfl rfl (by rfl) ?_) | (refine wpF_pure (v := ?_) rfl rfl (by rfl) ?_ ?_; rotate_left; (focus (intro ws hws; obtain ⟨q0, p0⟩ := hws.row (k := w.heap.size) xpf; go_simp; (try with_reducible rfl); done)))); try simp only [Act.put, List.getElem_toArray, List.getElem_cons_zero, List.getElem_cons_succ, List.setIfInBounds_toArray, List.set_cons_zero, List.set_cons_succ])
          refine wpF_done rfl ?_
          simp only [List.drop_succ_cons, List.drop_zero, List.drop_nil]
          go_wp2
          go_ret
          exact ⟨by rw [hv.out]; simp, Ext.go⟩
        iterate 7 ((refine wpF_pure (v := ?_) rfl rfl (by rfl) ?_ ?_; rotate_left; (focus (intro ws hws; obtain ⟨q0, p0⟩ := hws.row (k := w.heap.size) xpf; go_simp; (try with_reducible rfl); done))); try simp only [Act.put, List.getElem_toArray, List.getElem_cons_zero, List.getElem_cons_succ, List.setIfInBounds_toArray, List.set_cons_zero, List.set_cons_succ])
        (refine wpF_call 78 ?_ rfl rfl (by rfl) ?_ ?_; rotate_left; (focus (go_simp; (try with_reducible rfl); done)))
        refine (endsBehind_impl se ak _ c4 k _ (hx'.out.k.ext Ext.go) rfl (by omega)).mono ?_
        rintro en w5 ⟨rfl, hbw5⟩
        refine ⟨_, rfl, hbw5, ?_⟩
        try simp only [Act.put, List.getElem_toArray, List.getElem_cons_zero, List.getElem_cons_succ, List.setIfInBounds_toArray, List.set_cons_zero, List.set_cons_succ]
        have x5 : Ext w w5 := Ext.trans x4 hbw5
        have bx5 := hide (bx4.out.ext hbw5)
        (try clear d0 d1 d2 d3 d4 d5 d6 d7 d8 d9 d10 d11 dk)
        have d0 := bx5.out.c 0 _ rfl
        have d1 := bx5.out.c 1 _ rfl
        have d2 := bx5.out.c 2 _ rfl
        have d3 := bx5.out.c 3 _ rfl
        have d4 := bx5.out.c 4 _ rfl
        have d5 := bx5.out.c 5 _ rfl
        have d6 := bx5.out.c 6 _ rfl
        have d7 := bx5.out.c 7 _ rfl
        have d8 := bx5.out.c 8 _ rfl
        have d9 := bx5.out.c 9 _ rfl
        have d10 := bx5.out.c 10 _ rfl
        have d11 := bx5.out.c 11 _ rfl
        have dk := bx5.out.lt
        rw [ht4.out]
        cases t4
        rotate_left
        · skip
          iterate 17 ((first | (refine wpF_off rfl rfl (by rfl) ?_) | (refine wpF_pure (v := ?_) rfl rfl (by rfl) ?_ ?_; rotate_left; (focus (intro ws hws; obtain ⟨q0, p0⟩ := hws.row (k := w.heap.size) xpf; go_simp; (try with_reducible rfl); done)))); try simp only [Act.put, List.getElem_toArray, List.getElem_cons_zero, List.getElem_cons_succ, List.setIfInBounds_toArray, List.set_cons_zero, List.set_cons_succ])
          refine wpF_offS rfl rfl (by rfl) ?_
          try simp only [Act.put, List.getElem_toArray, List.getElem_cons_zero, List.getElem_cons_succ, List.setIfInBounds_toArray, List.set_cons_zero, List.set_cons_succ]
          iterate 3 ((first | (refine wpF_off rfl rfl (by rfl) ?_) | (refine wpF_pure (v := ?_) rfl rfl (by rfl) ?_ ?_; rotate_left; (focus (intro ws hws; obtain ⟨q0, p0⟩ := hws.row (k := w.heap.size) xpf; go_simp; (try with_reducible rfl); done)))); try simp only [Act.put, List.getElem_toArray, List.getElem_cons_zero, List.getElem_cons_succ, List.setIfInBounds_toArray, List.set_cons_zero, List.set_cons_succ])
          refine wpF_done rfl ?_
          simp only [List.drop_succ_cons, List.drop_zero, List.drop_nil]
          go_wp2
          go_ret
          exact ⟨by rw [hv.out]; simp, Ext.go⟩
        iterate 6 ((refine wpF_pure (v := ?_) rfl rfl (by rfl) ?_ ?_; rotate_left; (focus (intro ws hws; obtain ⟨q0, p0⟩ := hws.row (k := w.heap.size) xpf; go_simp; (try with_reducible rfl); done))); try simp only [Act.put, List.getElem_toArray, List.getElem_cons_zero, List.getElem_cons_succ, List.setIfInBounds_toArray, List.set_cons_zero, List.set_cons_succ])
        cases t5
        · skip
          iterate 11 ((first | (refine wpF_off rfl rfl (by rfl) ?_) | (refine wpF_pure (v := ?_) rfl rfl (by rfl) ?_ ?_; rotate_left; (focus (intro ws hws; obtain ⟨q0, p0⟩ := hws.row (k := w.heap.size) xpf; go_simp; (try with_reducible rfl); done)))); try simp only [Act.put, List.getElem_toArray, List.getElem_cons_zero, List.getElem_cons_succ, List.setIfInBounds_toArray, List.set_cons_zero, List.set_cons_succ])
          refine wpF_offS rfl rfl (by rfl) ?_
          try simp only [Act.put, List.getElem_toArray, List.getElem_cons_zero, List.getElem_cons_succ, List.setIfInBounds_toArray, List.set_cons_zero, List.set_cons_succ]
          iterate 3 ((first | (refine wpF_off rfl rfl (by rfl) ?_) | (refine wpF_pure (v := ?_) rfl rfl (by rfl) ?_ ?_; rotate_left; (focus (intro ws hws; obtain ⟨q0, p0⟩ := hws.row (k := w.heap.size) xpf; go_simp; (try with_reducible rfl); done)))); try simp only [Act.put, List.getElem_toArray, List.getElem_cons_zero, List.getElem_cons_succ, List.setIfInBounds_toArray, List.set_cons_zero, List.set_cons_succ])
          refine wpF_done rfl ?_
          simp only [List.drop_succ_cons, List.drop_zero, List.drop_nil]
          go_wp2
          go_ret
          exact ⟨by rw [hv.out]; simp, Ext.go⟩
        iterate 6 ((refine wpF_pure (v := ?_) rfl rfl (by rfl) ?_ ?_; rotate_left; (focus (intro ws hws; obtain ⟨q0, p0⟩ := hws.row (k := w.heap.size) xpf; go_simp; (try with_reducible rfl); done))); try simp only [Act.put, List.getElem_toArray, List.getElem_cons_zero, List.getElem_cons_succ, List.setIfInBounds_toArray, List.set_cons_zero, List.set_cons_succ])
        cases t6
        · skip
          iterate 5 ((first | (refine wpF_off rfl rfl (by rfl) ?_) | (refine wpF_pure (v := ?_) rfl rfl (by rfl) ?_ ?_; rotate_left; (focus (intro ws hws; obtain ⟨q0, p0⟩ := hws.row (k := w.heap.size) xpf; go_simp; (try with_reducible rfl); done)))); try simp only [Act.put, List.getElem_toArray, List.getElem_cons_zero, List.getElem_cons_succ, List.setIfInBounds_toArray, List.set_cons_zero, List.set_cons_succ])
          refine wpF_offS rfl rfl (by rfl) ?_
          try simp only [Act.put, List.getElem_toArray, List.getElem_cons_zero, List.getElem_cons_succ, List.setIfInBounds_toArray, List.set_cons_zero, List.set_cons_succ]
          iterate 3 ((first | (refine wpF_off rfl rfl (by rfl) ?_) | (refine wpF_pure (v := ?_) rfl rfl (by rfl) ?_ ?_; rotate_left; (focus (intro ws hws; obtain ⟨q0, p0⟩ := hws.row (k := w.heap.size) xpf; go_simp; (try with_reducible rfl); done)))); try simp only [Act.put, List.getElem_toArray, List.getElem_cons_zero, List.getElem_cons_succ, List.setIfInBounds_toArray, List.set_cons_zero, List.set_cons_succ])
          refine wpF_done rfl ?_
          simp only [List.drop_succ_cons, List.drop_zero, List.drop_nil]
          go_wp2
          go_ret
          exact ⟨by rw [hv.out]; simp, Ext.go⟩
        iterate 5 ((refine wpF_pure (v := ?_) rfl rfl (by rfl) ?_ ?_; rotate_left; (focus (intro ws hws; obtain ⟨q0, p0⟩ := hws.row (k := w.heap.size) xpf; go_simp; (try with_reducible rfl); done))); try simp only [Act.put, List.getElem_toArray, List.getElem_cons_zero, List.getElem_cons_succ, List.setIfInBounds_toArray, List.set_cons_zero, List.set_cons_succ])
        (refine wpF_call 79 ?_ rfl rfl (by rfl) ?_ ?_; rotate_left; (focus (go_simp; (try with_reducible rfl); done)))
        refine (state_impl ⟨st, z, b, e, xs, p, f, k, fi, fk, se, co⟩ ⟨ar, ap, af, ak⟩ c1 c2 c3 c4 _).mono ?_
        rintro en w6 ⟨rfl, hbw6⟩
        refine ⟨_, rfl, hbw6, ?_⟩
        try simp only [Act.put, List.getElem_toArray, List.getElem_cons_zero, List.getElem_cons_succ, List.setIfInBounds_toArray, List.set_cons_zero, List.set_cons_succ]
        have x6 : Ext w w6 := Ext.trans x5 hbw6
        have bx6 := hide (bx5.out.ext hbw6)
        (try dsimp only)
        (try clear d0 d1 d2 d3 d4 d5 d6 d7 d8 d9 d10 d11 dk)
        have d0 := bx6.out.c 0 _ rfl
        have d1 := bx6.out.c 1 _ rfl
        have d2 := bx6.out.c 2 _ rfl
        have d3 := bx6.out.c 3 _ rfl
        have d4 := bx6.out.c 4 _ rfl
        have d5 := bx6.out.c 5 _ rfl
        have d6 := bx6.out.c 6 _ rfl
        have d7 := bx6.out.c 7 _ rfl
        have d8 := bx6.out.c 8 _ rfl
        have d9 := bx6.out.c 9 _ rfl
        have d10 := bx6.out.c 10 _ rfl
        have d11 := bx6.out.c 11 _ rfl
        have dk := bx6.out.lt
        iterate 3 ((refine wpF_pure (v := ?_) rfl rfl (by rfl) ?_ ?_; rotate_left; (focus (intro ws hws; obtain ⟨q0, p0⟩ := hws.row (k := w.heap.size) xpf; go_simp; (try with_reducible rfl); done))); try simp only [Act.put, List.getElem_toArray, List.getElem_cons_zero, List.getElem_cons_succ, List.setIfInBounds_toArray, List.set_cons_zero, List.set_cons_succ])
        refine wpF_done rfl ?_
        simp only [List.drop_succ_cons, List.drop_zero, List.drop_nil]
        go_wp2
        go_ret
        exact ⟨by rw [hv.out]; simp, x6⟩
end
end Go.Proofs.Ytjhgcbchdnoleaa

/-
  Part of the proof: IsSndT.
-/
import Derived.Deep.DeepCutAuto
import Derived.Test.YtjhgcbchdnoleaaPG7
namespace Go.Proofs.Ytjhgcbchdnoleaa
section
open Go.ChangeShapes Go.WideShapes Go.ChangeAt Go.RowKit
set_option linter.unusedSimpArgs false
set_option linter.unusedVariables false
theorem bne_dec (x y : Int) : (x != y) = !decide (x = y) := by
  by_cases h : x = y <;> simp [h]
theorem sndS_tail (s : Sn) (hd : sndHd s = true) (hn : isRst s = false) (J : List Rg) (hJ : joinR s.p s.f s.k = J) :
    sndS s = (!(((((cntR J != s.e) || (cntSum s.p s.f s.k != s.e)) || (decide (0 < s.e) && ((J.getD 0 dr).2 != s.e))) || (gapR s.k 0 != s.b)) || (s.co != 0)) && (topB s.f s.se && (topB s.k s.se && (!(decide (s.fk = 0) != decide (s.fi = -1)) && (!(!decide (s.fi = -1) && !decide (s.fi = s.e)) && decide (s.st = stS s.st s.b s.e s.fk s.se)))))) := by
  subst hJ
  unfold sndS wholeS
  rw [hd, hn]
  simp only [bne_dec, Bool.true_and, Bool.and_assoc, Bool.not_or, Bool.not_not, Bool.not_and, Bool.false_eq_true, if_false]
theorem topB_succ {l : List Rg} {m : Int} {j : Nat} (hj : j < l.length) : topB (l.take (j + 1)) m = (topB (l.take j) m && decide ((l.getD j dr).2 ≤ m)) := by
  rw [takeR_succ l hj]
  simp [topB]
theorem topB_no {l : List Rg} {m : Int} {j : Nat} (hj : j < l.length) (h : ¬ (l.getD j dr).2 ≤ m) : topB l m = false := by
  rw [Bool.eq_false_iff]
  intro ht
  refine h ((topB_iff l m).1 ht _ ?_)
  rw [List.getD, List.getElem?_eq_getElem hj]
  exact List.getElem_mem hj
theorem l4Quic_any (x : Int) (w : World) : Calls Try.prog 83 #[.int .i64 x] w fun e w' => e = .returned (.bool (inB 0 x 4611686018427387903)) ∧ w = w' := by
  go_enter Try.func83, Try.ntmps83
  go_wp2_with (go_at_call 82; refine (l1In_any _ _ _ _).mono ?_; rintro e w1 ⟨rfl, rfl⟩)
  go_ret
  exact ⟨rfl, rfl⟩
set_option maxHeartbeats 8000000 in
set_option maxRecDepth 100000 in
theorem IsSender_spec (s : Sn) (a : Ads) (c1 c2 c3 c4 : Nat) (w : World) (hx : ReadSnd w a ⟨s.xs, s.p, s.f, s.k⟩) (hl : s.xs.length ≤ 1048576) (hsum : s.p.length + s.f.length + s.k.length ≤ 1048576) (he : s.e ≤ 9223372036854775807) :
    Calls Try.prog 20 #[.agg #[.int .i64 s.st, .int .i64 s.z, .int .i64 s.b, .int .i64 s.e, .slice a.r s.xs.length c1, .slice a.p s.p.length c2, .slice a.f s.f.length c3, .slice a.k s.k.length c4, .int .i64 s.fi, .int .i64 s.fk, .int .i64 s.se, .int .i64 s.co]] w fun en w' => en = .returned (.bool (sndS s)) ∧ Ext w w' := by
  obtain ⟨st, z, b, e, xs, p, f, k, fi, fk, se, co⟩ := s
  obtain ⟨ar, ap, af, ak⟩ := a
  dsimp only at *
  have hx' := hide hx
  clear hx
  obtain ⟨R, hR⟩ : ∃ R, Hid (sndS ⟨st, z, b, e, xs, p, f, k, fi, fk, se, co⟩ = R) := ⟨_, hide rfl⟩
  rw [hR.out]
  obtain ⟨HD, hHD⟩ : ∃ R, Hid (sndHd ⟨st, z, b, e, xs, p, f, k, fi, fk, se, co⟩ = R) := ⟨_, hide rfl⟩
  go_enter Try.func20, Try.ntmps20
  go_upto_region 1 with fail
  obtain ⟨w0, hw0⟩ : ∃ u, u = (w.alloc (.cells #[.int .i64 st, .int .i64 z, .int .i64 b, .int .i64 e, .slice ar xs.length c1, .slice ap p.length c2, .slice af f.length c3, .slice ak k.length c4, .int .i64 fi, .int .i64 fk, .int .i64 se, .int .i64 co] 32)) := ⟨_, rfl⟩
  rw [← hw0]
  have x0 : Ext w w0 := hw0 ▸ ((Ext.refl w).alloc _)
  have bx0 : Hid (BoxV w.heap.size w0 [.int .i64 st, .int .i64 z, .int .i64 b, .int .i64 e, .slice ar xs.length c1, .slice ap p.length c2, .slice af f.length c3, .slice ak k.length c4, .int .i64 fi, .int .i64 fk, .int .i64 se, .int .i64 co]) := hide (hw0 ▸ BoxV.new w [.int .i64 st, .int .i64 z, .int .i64 b, .int .i64 e, .slice ar xs.length c1, .slice ap p.length c2, .slice af f.length c3, .slice ak k.length c4, .int .i64 fi, .int .i64 fk, .int .i64 se, .int .i64 co] 32)
  clear hw0
  (try clear d0 d1 d2 d3 d4 d5 d6 d7 d8 d9 d10 d11 dk)
  have d0 := bx0.out.c 0 _ rfl
  have d1 := bx0.out.c 1 _ rfl
  have d2 := bx0.out.c 2 _ rfl
  have d3 := bx0.out.c 3 _ rfl
  have d4 := bx0.out.c 4 _ rfl
  have d5 := bx0.out.c 5 _ rfl
  have d6 := bx0.out.c 6 _ rfl
  have d7 := bx0.out.c 7 _ rfl
  have d8 := bx0.out.c 8 _ rfl
  have d9 := bx0.out.c 9 _ rfl
  have d10 := bx0.out.c 10 _ rfl
  have d11 := bx0.out.c 11 _ rfl
  have dk := bx0.out.lt
  go_cut [51] (fun tq wx => tq = .bool (!HD) ∧ Ext w wx ∧ BoxV w.heap.size wx [.int .i64 st, .int .i64 z, .int .i64 b, .int .i64 e, .slice ar xs.length c1, .slice ap p.length c2, .slice af f.length c3, .slice ak k.length c4, .int .i64 fi, .int .i64 fk, .int .i64 se, .int .i64 co])
  case first =>
    as_aux_lemma =>
      go_wp2_with fail
      refine (IsRing_spec z b e ar _ c1 xs _ (hx'.out.r.ext x0) rfl (by omega) (by omega)).mono ?_
      rintro en w1 ⟨rfl, hb⟩
      have x1 : Ext w w1 := Ext.trans x0 hb
      have bx1 := hide (bx0.out.ext hb)
      clear hb
      (try clear d0 d1 d2 d3 d4 d5 d6 d7 d8 d9 d10 d11 dk)
      have d0 := bx1.out.c 0 _ rfl
      have d1 := bx1.out.c 1 _ rfl
      have d2 := bx1.out.c 2 _ rfl
      have d3 := bx1.out.c 3 _ rfl
      have d4 := bx1.out.c 4 _ rfl
      have d5 := bx1.out.c 5 _ rfl
      have d6 := bx1.out.c 6 _ rfl
      have d7 := bx1.out.c 7 _ rfl
      have d8 := bx1.out.c 8 _ rfl
      have d9 := bx1.out.c 9 _ rfl
      have d10 := bx1.out.c 10 _ rfl
      have d11 := bx1.out.c 11 _ rfl
      have dk := bx1.out.lt
      obtain ⟨r1, hr1⟩ : ∃ q, Hid (isRing z b e xs = q) := ⟨_, hide rfl⟩
      rw [hr1.out]
      cases r1
      · go_wp2_with fail
        go_meet
        exact ⟨by rw [← hHD.out]; simp [sndHd, hr1.out], x1, bx1.out⟩
      go_wp2_with fail
      refine (IsRanges_spec ap _ c2 p _ (hx'.out.p.ext x1) rfl (by omega)).mono ?_
      rintro en w2 ⟨rfl, hb⟩
      have x2 : Ext w w2 := Ext.trans x1 hb
      have bx2 := hide (bx1.out.ext hb)
      clear hb
      (try clear d0 d1 d2 d3 d4 d5 d6 d7 d8 d9 d10 d11 dk)
      have d0 := bx2.out.c 0 _ rfl
      have d1 := bx2.out.c 1 _ rfl
      have d2 := bx2.out.c 2 _ rfl
      have d3 := bx2.out.c 3 _ rfl
      have d4 := bx2.out.c 4 _ rfl
      have d5 := bx2.out.c 5 _ rfl
      have d6 := bx2.out.c 6 _ rfl
      have d7 := bx2.out.c 7 _ rfl
      have d8 := bx2.out.c 8 _ rfl
      have d9 := bx2.out.c 9 _ rfl
      have d10 := bx2.out.c 10 _ rfl
      have d11 := bx2.out.c 11 _ rfl
      have dk := bx2.out.lt
      obtain ⟨r2, hr2⟩ : ∃ q, Hid (isRgs p = q) := ⟨_, hide rfl⟩
      rw [hr2.out]
      cases r2
      · go_wp2_with fail
        go_meet
        exact ⟨by rw [← hHD.out]; simp [sndHd, hr1.out, hr2.out], x2, bx2.out⟩
      go_wp2_with fail
      refine (IsRanges_spec af _ c3 f _ (hx'.out.f.ext x2) rfl (by omega)).mono ?_
      rintro en w3 ⟨rfl, hb⟩
      have x3 : Ext w w3 := Ext.trans x2 hb
      have bx3 := hide (bx2.out.ext hb)
      clear hb
      (try clear d0 d1 d2 d3 d4 d5 d6 d7 d8 d9 d10 d11 dk)
      have d0 := bx3.out.c 0 _ rfl
      have d1 := bx3.out.c 1 _ rfl
      have d2 := bx3.out.c 2 _ rfl
      have d3 := bx3.out.c 3 _ rfl
      have d4 := bx3.out.c 4 _ rfl
      have d5 := bx3.out.c 5 _ rfl
      have d6 := bx3.out.c 6 _ rfl
      have d7 := bx3.out.c 7 _ rfl
      have d8 := bx3.out.c 8 _ rfl
      have d9 := bx3.out.c 9 _ rfl
      have d10 := bx3.out.c 10 _ rfl
      have d11 := bx3.out.c 11 _ rfl
      have dk := bx3.out.lt
      obtain ⟨r3, hr3⟩ : ∃ q, Hid (isRgs f = q) := ⟨_, hide rfl⟩
      rw [hr3.out]
      cases r3
      · go_wp2_with fail
        go_meet
        exact ⟨by rw [← hHD.out]; simp [sndHd, hr1.out, hr2.out, hr3.out], x3, bx3.out⟩
      go_wp2_with fail
      refine (IsRanges_spec ak _ c4 k _ (hx'.out.k.ext x3) rfl (by omega)).mono ?_
      rintro en w4 ⟨rfl, hb⟩
      have x4 : Ext w w4 := Ext.trans x3 hb
      have bx4 := hide (bx3.out.ext hb)
      clear hb
      (try clear d0 d1 d2 d3 d4 d5 d6 d7 d8 d9 d10 d11 dk)
      have d0 := bx4.out.c 0 _ rfl
      have d1 := bx4.out.c 1 _ rfl
      have d2 := bx4.out.c 2 _ rfl
      have d3 := bx4.out.c 3 _ rfl
      have d4 := bx4.out.c 4 _ rfl
      have d5 := bx4.out.c 5 _ rfl
      have d6 := bx4.out.c 6 _ rfl
      have d7 := bx4.out.c 7 _ rfl
      have d8 := bx4.out.c 8 _ rfl
      have d9 := bx4.out.c 9 _ rfl
      have d10 := bx4.out.c 10 _ rfl
      have d11 := bx4.out.c 11 _ rfl
      have dk := bx4.out.lt
      obtain ⟨r4, hr4⟩ : ∃ q, Hid (isRgs k = q) := ⟨_, hide rfl⟩
      rw [hr4.out]
      cases r4
      · go_wp2_with fail
        go_meet
        exact ⟨by rw [← hHD.out]; simp [sndHd, hr1.out, hr2.out, hr3.out, hr4.out], x4, bx4.out⟩
      go_wp2_with fail
      refine (l1In_any se 0 e _).mono ?_
      rintro en _ ⟨rfl, rfl⟩
      obtain ⟨r5, hr5⟩ : ∃ q, Hid (inB 0 se e = q) := ⟨_, hide rfl⟩
      rw [hr5.out]
      cases r5
      · go_wp2_with fail
        go_meet
        exact ⟨by rw [← hHD.out]; simp [sndHd, hr1.out, hr2.out, hr3.out, hr4.out, hr5.out], x4, bx4.out⟩
      go_wp2_with fail
      refine (l4Quic_any co _).mono ?_
      rintro en _ ⟨rfl, rfl⟩
      obtain ⟨r6, hr6⟩ : ∃ q, Hid (inB 0 co 4611686018427387903 = q) := ⟨_, hide rfl⟩
      rw [hr6.out]
      cases r6
      · go_wp2_with fail
        go_meet
        exact ⟨by rw [← hHD.out]; simp [sndHd, hr1.out, hr2.out, hr3.out, hr4.out, hr5.out, hr6.out], x4, bx4.out⟩
      go_wp2_with fail
      refine (l1In_any fk 0 3 _).mono ?_
      rintro en _ ⟨rfl, rfl⟩
      obtain ⟨r7, hr7⟩ : ∃ q, Hid (inB 0 fk 3 = q) := ⟨_, hide rfl⟩
      rw [hr7.out]
      cases r7
      · go_wp2_with fail
        go_meet
        exact ⟨by rw [← hHD.out]; simp [sndHd, hr1.out, hr2.out, hr3.out, hr4.out, hr5.out, hr6.out, hr7.out], x4, bx4.out⟩
      go_wp2_with fail
      go_meet
      exact ⟨by rw [← hHD.out]; simp [sndHd, hr1.out, hr2.out, hr3.out, hr4.out, hr5.out, hr6.out, hr7.out], x4, bx4.out⟩
  case rest =>
    obtain ⟨w1, hwe⟩ : ∃ u, u = wc := ⟨_, rfl⟩
    subst hwe
    obtain ⟨rfl, x1, kb⟩ := hcut
    have bx1 := hide kb
    clear kb bx0 x0
    (try clear d0 d1 d2 d3 d4 d5 d6 d7 d8 d9 d10 d11 dk)
    have d0 := bx1.out.c 0 _ rfl
    have d1 := bx1.out.c 1 _ rfl
    have d2 := bx1.out.c 2 _ rfl
    have d3 := bx1.out.c 3 _ rfl
    have d4 := bx1.out.c 4 _ rfl
    have d5 := bx1.out.c 5 _ rfl
    have d6 := bx1.out.c 6 _ rfl
    have d7 := bx1.out.c 7 _ rfl
    have d8 := bx1.out.c 8 _ rfl
    have d9 := bx1.out.c 9 _ rfl
    have d10 := bx1.out.c 10 _ rfl
    have d11 := bx1.out.c 11 _ rfl
    have dk := bx1.out.lt
    cases HD
    · as_aux_lemma =>
        go_wp2
        go_ret
        exact ⟨by rw [← hR.out]; unfold sndS; rw [hHD.out]; rfl, x1⟩
    have hd := hide ((sndHd_iff _).1 hHD.out)
    have hrb := isRing_bd hd.out.ring
    have hs0 := hd.out.se0
    have hs1 := hd.out.se1
    have hf0 := hd.out.fk0
    have hf1 := hd.out.fk1
    dsimp only at hrb hs0 hs1 hf0 hf1
    obtain ⟨RS, hRS⟩ : ∃ q, Hid (isRst ⟨st, z, b, e, xs, p, f, k, fi, fk, se, co⟩ = q) := ⟨_, hide rfl⟩
    go_upto_region 3 with fail
    go_cut [59] (fun tq wx => tq = .bool RS ∧ wx = w1)
    case first =>
      as_aux_lemma =>
        by_cases h4 : st = 4
        · have h4e : (st == 4) = true := by simp [h4]
          have hr : RS = true := by rw [← hRS.out]; simp [isRst, h4]
          replace h4 := hide h4
          go_wp2_with fail
          go_meet
          exact ⟨by rw [hr], rfl⟩
        have h4e : (st == 4) = false := by simp [h4]
        by_cases h5 : st = 5
        · have h5e : (st == 5) = true := by simp [h5]
          have hr : RS = true := by rw [← hRS.out]; simp [isRst, h5]
          replace h5 := hide h5
          go_wp2_with fail
          go_meet
          exact ⟨by rw [hr], rfl⟩
        have h5e : (st == 5) = false := by simp [h5]
        have hr : RS = false := by rw [← hRS.out]; simp [isRst, h4, h5]
        go_wp2_with fail
        go_meet
        exact ⟨by rw [hr], rfl⟩
    case rest =>
      obtain ⟨rfl, hwy⟩ := hcut
      subst hwy
      obtain ⟨w1, hwe⟩ : ∃ u, u = wc := ⟨_, rfl⟩
      subst hwe
      cases RS
      rotate_left
      · skip
        as_aux_lemma =>
          obtain ⟨q1, hq1⟩ : ∃ q, ((p.length : Int) == 0) = q := ⟨_, rfl⟩
          obtain ⟨q2, hq2⟩ : ∃ q, ((f.length : Int) == 0) = q := ⟨_, rfl⟩
          obtain ⟨q3, hq3⟩ : ∃ q, ((k.length : Int) == 0) = q := ⟨_, rfl⟩
          obtain ⟨q4, hq4⟩ : ∃ q, (b == e) = q := ⟨_, rfl⟩
          obtain ⟨q5, hq5⟩ : ∃ q, (fi == se) = q := ⟨_, rfl⟩
          obtain ⟨q6, hq6⟩ : ∃ q, (se == e) = q := ⟨_, rfl⟩
          obtain ⟨q7, hq7⟩ : ∃ q, (fk == 0) = q := ⟨_, rfl⟩
          have hv : R = (q4 && (q1 && (q2 && (q3 && (q5 && (q7 && q6)))))) := by
            rw [← hR.out, ← hq1, ← hq2, ← hq3, ← hq4, ← hq5, ← hq6, ← hq7]
            unfold sndS
            rw [hHD.out, hRS.out]
            simp [sndRst, beq_dec]
          replace hv := hide hv
          cases q4
          · go_wp2
            go_ret
            exact ⟨by rw [hv.out]; simp, x1⟩
          cases q1
          · go_wp2
            go_ret
            exact ⟨by rw [hv.out]; simp, x1⟩
          cases q2
          · go_wp2
            go_ret
            exact ⟨by rw [hv.out]; simp, x1⟩
          cases q3
          · go_wp2
            go_ret
            exact ⟨by rw [hv.out]; simp, x1⟩
          cases q5
          · go_wp2
            go_ret
            exact ⟨by rw [hv.out]; simp, x1⟩
          cases q7
          · go_wp2
            go_ret
            exact ⟨by rw [hv.out]; simp, x1⟩
          cases q6
          · go_wp2
            go_ret
            exact ⟨by rw [hv.out]; simp, x1⟩
          go_wp2
          go_ret
          exact ⟨by rw [hv.out]; simp, x1⟩
      obtain ⟨J, hJ⟩ : ∃ J, Hid (joinR p f k = J) := ⟨_, hide rfl⟩
      have hT := sndS_tail ⟨st, z, b, e, xs, p, f, k, fi, fk, se, co⟩ hHD.out hRS.out J hJ.out
      rw [hR.out] at hT
      dsimp only at hT
      replace hT := hide hT
      as_aux_lemma =>
        go_wp2_with fail
        go_loopw [3, 4] (fun t i wr => ∃ (j : Nat) (L : List Rg) (ao1 : Option Addr) (ca1 : Nat), i = .int .i64 j ∧ j ≤ f.length ∧ Hid ((f.take j).foldl addR p = L) ∧ t = .slice ao1 L.length ca1 ∧ Hid (ReadR wr ao1 L) ∧ Ext w1 wr) (fun _ i _ => f.length - (intOf i).toNat)
        case atStart => exact ⟨0, p, _, _, rfl, Nat.zero_le _, hide rfl, rfl, hide (hx'.out.p.ext x1), Ext.refl _⟩
        case round =>
          obtain ⟨w2, hwe⟩ : ∃ x, x = wr := ⟨_, rfl⟩
          subst hwe
          obtain ⟨j, L, ao1, ca1, rfl, hj, hL, rfl, hrd, hg⟩ := hrel
          have x2 : Ext w w2 := x1.trans hg
          have bx2 := hide (bx1.out.ext hg)
          (try clear d0 d1 d2 d3 d4 d5 d6 d7 d8 d9 d10 d11 dk)
          have d0 := bx2.out.c 0 _ rfl
          have d1 := bx2.out.c 1 _ rfl
          have d2 := bx2.out.c 2 _ rfl
          have d3 := bx2.out.c 3 _ rfl
          have d4 := bx2.out.c 4 _ rfl
          have d5 := bx2.out.c 5 _ rfl
          have d6 := bx2.out.c 6 _ rfl
          have d7 := bx2.out.c 7 _ rfl
          have d8 := bx2.out.c 8 _ rfl
          have d9 := bx2.out.c 9 _ rfl
          have d10 := bx2.out.c 10 _ rfl
          have d11 := bx2.out.c 11 _ rfl
          have dk := bx2.out.lt
          have hlenL := fold_len (f.take j) p
          rw [hL.out] at hlenL
          have hlj : (f.take j).length ≤ f.length := by simp; omega
          have hLb : L.length ≤ 1048576 := by omega
          by_cases hlt : j < f.length
          · skip
            as_aux_lemma =>
              have hxq : ReadR w af f := hx'.out.f
              rcases hxq with hnil | ⟨bx, off, rfl, hx⟩
              · rw [hnil] at hlt; simp at hlt
              obtain ⟨cx, cx2⟩ := hx j hlt
              have la : bx < w.heap.size := World.block_lt_of_cell? w _ cx
              have hr := (x2.row la).1
              have e1 := (hr _).trans cx
              have e2 := (hr _).trans cx2
              have i1 : (0 : Int) ≤ (j : Int) := by omega
              have i2 : (j : Int) < (f.length : Int) := by omega
              have lw : bx < w2.heap.size := Nat.lt_of_lt_of_le la x2.size
              have hst := hide (join_take_succ (p := p) hlt)
              rw [hL.out] at hst
              obtain ⟨⟨y1, y2⟩, hx0⟩ : ∃ x : Rg, Hid (f.getD j dr = x) := ⟨_, hide rfl⟩
              rw [hx0.out] at e1 e2 hst
              dsimp only at e1 e2
              clear hx cx cx2 hr hx0
              generalize hm : L.length = m at *
              replace hm := hide hm
              go_wp2_with fail
              refine (AddRange_spec y1 y2 ao1 m ca1 L _ hrd.out hm.out (by omega)).mono ?_
              rintro en w7 ⟨ao7, cap7, rfl, ho7, hb7⟩
              have hr7 := hide ho7.read
              go_wp2
              go_roundw
              case rel => exact ⟨j + 1, _, _, _, by go_num, by omega, hst, rfl, hr7, hg.trans hb7⟩
              case measure => simp [intOf]; omega
          · skip
            as_aux_lemma =>
              obtain rfl : j = f.length := by omega
              have hLf := hide (show f.foldl addR p = L by rw [← hL.out, List.take_length])
              clear hL hlj hlt hj hg
              obtain ⟨L1, hL1⟩ : ∃ L1, L1 = L := ⟨_, rfl⟩
              rw [← hL1] at hLf hrd hlenL ⊢
              clear hL1
              have hl1 : L1.length ≤ p.length + f.length := by simpa using hlenL
              clear hlenL hLb
              go_wp2_with fail
              go_loopw [3, 5] (fun t i wr => ∃ (j : Nat) (L : List Rg) (ao1 : Option Addr) (ca1 : Nat), i = .int .i64 j ∧ j ≤ k.length ∧ Hid ((k.take j).foldl addR L1 = L) ∧ t = .slice ao1 L.length ca1 ∧ Hid (ReadR wr ao1 L) ∧ Ext w2 wr) (fun _ i _ => k.length - (intOf i).toNat)
              case atStart => exact ⟨0, L1, _, _, rfl, Nat.zero_le _, hide rfl, rfl, hrd, Ext.refl _⟩
              case round =>
                obtain ⟨w3, hwe⟩ : ∃ x, x = wr := ⟨_, rfl⟩
                subst hwe
                obtain ⟨j, L, ao1, ca1, rfl, hj, hL, rfl, hrd, hg⟩ := hrel
                have x3 : Ext w w3 := x2.trans hg
                have bx3 := hide (bx2.out.ext hg)
                (try clear d0 d1 d2 d3 d4 d5 d6 d7 d8 d9 d10 d11 dk)
                have d0 := bx3.out.c 0 _ rfl
                have d1 := bx3.out.c 1 _ rfl
                have d2 := bx3.out.c 2 _ rfl
                have d3 := bx3.out.c 3 _ rfl
                have d4 := bx3.out.c 4 _ rfl
                have d5 := bx3.out.c 5 _ rfl
                have d6 := bx3.out.c 6 _ rfl
                have d7 := bx3.out.c 7 _ rfl
                have d8 := bx3.out.c 8 _ rfl
                have d9 := bx3.out.c 9 _ rfl
                have d10 := bx3.out.c 10 _ rfl
                have d11 := bx3.out.c 11 _ rfl
                have dk := bx3.out.lt
                have hlenL := fold_len (k.take j) L1
                rw [hL.out] at hlenL
                have hlj : (k.take j).length ≤ k.length := by simp; omega
                have hLb : L.length ≤ 1048576 := by omega
                by_cases hlt : j < k.length
                · skip
                  as_aux_lemma =>
                    have hxq : ReadR w ak k := hx'.out.k
                    rcases hxq with hnil | ⟨bx, off, rfl, hx⟩
                    · rw [hnil] at hlt; simp at hlt
                    obtain ⟨cx, cx2⟩ := hx j hlt
                    have la : bx < w.heap.size := World.block_lt_of_cell? w _ cx
                    have hr := (x3.row la).1
                    have e1 := (hr _).trans cx
                    have e2 := (hr _).trans cx2
                    have i1 : (0 : Int) ≤ (j : Int) := by omega
                    have i2 : (j : Int) < (k.length : Int) := by omega
                    have lw : bx < w3.heap.size := Nat.lt_of_lt_of_le la x3.size
                    have hst := hide (join_take_succ (p := L1) hlt)
                    rw [hL.out] at hst
                    obtain ⟨⟨y1, y2⟩, hx0⟩ : ∃ x : Rg, Hid (k.getD j dr = x) := ⟨_, hide rfl⟩
                    rw [hx0.out] at e1 e2 hst
                    dsimp only at e1 e2
                    clear hx cx cx2 hr hx0
                    generalize hm : L.length = m at *
                    replace hm := hide hm
                    go_wp2_with fail
                    refine (AddRange_spec y1 y2 ao1 m ca1 L _ hrd.out hm.out (by omega)).mono ?_
                    rintro en w7 ⟨ao7, cap7, rfl, ho7, hb7⟩
                    have hr7 := hide ho7.read
                    go_wp2
                    go_roundw
                    case rel => exact ⟨j + 1, _, _, _, by go_num, by omega, hst, rfl, hr7, hg.trans hb7⟩
                    case measure => simp [intOf]; omega
                · skip
                  as_aux_lemma =>
                    obtain rfl : j = k.length := by omega
                    have hLk := hide (show k.foldl addR L1 = L by rw [← hL.out, List.take_length])
                    clear hL hlj hlt hj hg
                    have hLJ : Hid (L = J) := hide (by rw [← hJ.out, ← hLk.out, ← hLf.out]; simp [joinR, List.foldl_append])
                    obtain rfl : L = J := hLJ.out
                    clear hLk hLf hJ hLJ
                    obtain ⟨q, hq⟩ : ∃ q, Hid (cntSum p f k = q) := ⟨_, hide rfl⟩
                    rw [hq.out] at hT
                    have hqe : IntKind.i64.wrap (IntKind.i64.wrap (cntR p + cntR f) + cntR k) = q := hq.out
                    have hqe2 : wrap64 (wrap64 (cntR p + cntR f) + cntR k) = q := by
                      rw [← hqe, IntWalk.i64_left, IntWalk.i64_left]
                    obtain ⟨a1, ha1⟩ : ∃ o_, (cntR L != e) = o_ := ⟨_, rfl⟩
                    obtain ⟨a2, ha2⟩ : ∃ o_, (q != e) = o_ := ⟨_, rfl⟩
                    obtain ⟨a3, ha3⟩ : ∃ o_, decide (0 < e) = o_ := ⟨_, rfl⟩
                    obtain ⟨a4, ha4⟩ : ∃ o_, ((L.getD 0 dr).2 != e) = o_ := ⟨_, rfl⟩
                    obtain ⟨a5, ha5⟩ : ∃ o_, (gapR k 0 != b) = o_ := ⟨_, rfl⟩
                    obtain ⟨a6, ha6⟩ : ∃ o_, (co != 0) = o_ := ⟨_, rfl⟩
                    obtain ⟨X, hX⟩ : ∃ X, (topB f se && (topB k se && (!(decide (fk = 0) != decide (fi = -1)) && (!(!decide (fi = -1) && !decide (fi = e)) && decide (st = stS st b e fk se))))) = X := ⟨_, rfl⟩
                    have hv : R = (!(((((a1 || a2) || (a3 && a4)) || a5) || a6)) && X) := by
                      rw [hT.out, ha1, ha2, ha3, ha4, ha5, ha6, hX]
                    replace hv := hide hv
                    clear hT
                    replace hX := hide hX
                    replace ha4 := hide ha4
                    as_aux_lemma =>
                      go_wp2_with fail
                      refine wp_region_flowE 12 [(0, 1), (1, 1), (3, 1), (4, 1), (7, 1), (8, 1), (2, 0), (5, 0), (6, 1), (9, 0), (10, 1), (11, 1)] (by kernel_rfl) (by kernel_rfl) ?_
                      iterate 6 ((refine wpF_pure (v := ?_) rfl rfl (by rfl) ?_ ?_; rotate_left; (focus (intro ws hws; obtain ⟨q0, p0⟩ := hws.row (k := w.heap.size) xpf; go_simp; (try with_reducible rfl); done))); try simp only [Act.put, List.getElem_toArray, List.getElem_cons_zero, List.getElem_cons_succ, List.setIfInBounds_toArray, List.set_cons_zero, List.set_cons_succ])
                      (refine wpF_call 84 ?_ rfl rfl (by rfl) ?_ ?_; rotate_left; (focus (go_simp; (try with_reducible rfl); done)))
                      refine (CountNumbers_spec ap _ c2 p _ (hx'.out.p.ext Ext.go) rfl (by omega)).mono ?_
                      rintro en w4 ⟨rfl, hbw4⟩
                      refine ⟨_, rfl, hbw4, ?_⟩
                      try simp only [Act.put, List.getElem_toArray, List.getElem_cons_zero, List.getElem_cons_succ, List.setIfInBounds_toArray, List.set_cons_zero, List.set_cons_succ]
                      have y4 : Ext w3 w4 := Ext.trans Ext.go hbw4
                      have x4 : Ext w w4 := Ext.trans x3 y4
                      have bx4 := hide (bx3.out.ext y4)
                      (try clear d0 d1 d2 d3 d4 d5 d6 d7 d8 d9 d10 d11 dk)
                      have d0 := bx4.out.c 0 _ rfl
                      have d1 := bx4.out.c 1 _ rfl
                      have d2 := bx4.out.c 2 _ rfl
                      have d3 := bx4.out.c 3 _ rfl
                      have d4 := bx4.out.c 4 _ rfl
                      have d5 := bx4.out.c 5 _ rfl
                      have d6 := bx4.out.c 6 _ rfl
                      have d7 := bx4.out.c 7 _ rfl
                      have d8 := bx4.out.c 8 _ rfl
                      have d9 := bx4.out.c 9 _ rfl
                      have d10 := bx4.out.c 10 _ rfl
                      have d11 := bx4.out.c 11 _ rfl
                      have dk := bx4.out.lt
                      (refine wpF_call 84 ?_ rfl rfl (by rfl) ?_ ?_; rotate_left; (focus (go_simp; (try with_reducible rfl); done)))
                      refine (CountNumbers_spec af _ c3 f _ (hx'.out.f.ext Ext.go) rfl (by omega)).mono ?_
                      rintro en w5 ⟨rfl, hbw5⟩
                      refine ⟨_, rfl, hbw5, ?_⟩
                      try simp only [Act.put, List.getElem_toArray, List.getElem_cons_zero, List.getElem_cons_succ, List.setIfInBounds_toArray, List.set_cons_zero, List.set_cons_succ]
                      have y5 : Ext w3 w5 := Ext.trans Ext.go hbw5
                      have x5 : Ext w w5 := Ext.trans x3 y5
                      have bx5 := hide (bx3.out.ext y5)
                      (try clear d0 d1 d2 d3 d4 d5 d6 d7 d8 d9 d10 d11 dk)
                      have d0 := bx5.out.c 0 _ rfl
                      have d1 := bx5.out.c 1 _ rfl
                      have d2 := bx5.out.c 2 _ rfl
                      have d3 := bx5.out.c 3 _ rfl
                      have d4 := bx5.out.c 4 _ rfl
                      have d5 := bx5.out.c 5 _ rfl
                      have d6 := bx5.out.c 6 _ rfl
                      have d7 := bx5.out.c 7 _ rfl
                      have d8 := bx5.out.c 8 _ rfl
                      have d9 := bx5.out.c 9 _ rfl
                      have d10 := bx5.out.c 10 _ rfl
                      have d11 := bx5.out.c 11 _ rfl
                      have dk := bx5.out.lt
                      iterate 1 ((refine wpF_pure (v := ?_) rfl rfl (by rfl) ?_ ?_; rotate_left; (focus (intro ws hws; obtain ⟨q0, p0⟩ := hws.row (k := w.heap.size) xpf; go_simp; (try with_reducible rfl); done))); try simp only [Act.put, List.getElem_toArray, List.getElem_cons_zero, List.getElem_cons_succ, List.setIfInBounds_toArray, List.set_cons_zero, List.set_cons_succ])
                      (refine wpF_call 84 ?_ rfl rfl (by rfl) ?_ ?_; rotate_left; (focus (go_simp; (try with_reducible rfl); done)))
                      refine (CountNumbers_spec ak _ c4 k _ (hx'.out.k.ext Ext.go) rfl (by omega)).mono ?_
                      rintro en w6 ⟨rfl, hbw6⟩
                      refine ⟨_, rfl, hbw6, ?_⟩
                      try simp only [Act.put, List.getElem_toArray, List.getElem_cons_zero, List.getElem_cons_succ, List.setIfInBounds_toArray, List.set_cons_zero, List.set_cons_succ]
                      have y6 : Ext w3 w6 := Ext.trans Ext.go hbw6
                      have x6 : Ext w w6 := Ext.trans x3 y6
                      have bx6 := hide (bx3.out.ext y6)
                      (try clear d0 d1 d2 d3 d4 d5 d6 d7 d8 d9 d10 d11 dk)
                      have d0 := bx6.out.c 0 _ rfl
                      have d1 := bx6.out.c 1 _ rfl
                      have d2 := bx6.out.c 2 _ rfl
                      have d3 := bx6.out.c 3 _ rfl
                      have d4 := bx6.out.c 4 _ rfl
                      have d5 := bx6.out.c 5 _ rfl
                      have d6 := bx6.out.c 6 _ rfl
                      have d7 := bx6.out.c 7 _ rfl
                      have d8 := bx6.out.c 8 _ rfl
                      have d9 := bx6.out.c 9 _ rfl
                      have d10 := bx6.out.c 10 _ rfl
                      have d11 := bx6.out.c 11 _ rfl
                      have dk := bx6.out.lt
                      iterate 2 ((refine wpF_pure (v := ?_) rfl rfl (by rfl) ?_ ?_; rotate_left; (focus (intro ws hws; obtain ⟨q0, p0⟩ := hws.row (k := w.heap.size) xpf; go_simp; (try with_reducible rfl); done))); try simp only [Act.put, List.getElem_toArray, List.getElem_cons_zero, List.getElem_cons_succ, List.setIfInBounds_toArray, List.set_cons_zero, List.set_cons_succ])
                      refine wpF_done rfl ?_
                      simp only [List.drop_succ_cons, List.drop_zero, List.drop_nil]
                      clear hqe hqe2
                      have hr6 := hide (hrd.out.ext y6)
                      clear hrd y4 y5 y6
                      as_aux_lemma =>
                        go_upto_region 15 with fail
                        go_cut [188] (fun tq wx => tq = .bool (((((a1 || a2) || (a3 && a4)) || a5) || a6)) ∧ Ext w6 wx)
                        case first =>
                          as_aux_lemma =>
                            go_wp2_with fail
                            refine wp_region_flowE 43 [(0, 1), (2, 1), (3, 1), (4, 1), (1, 0), (5, 1), (6, 1), (7, 1), (8, 1), (9, 1), (10, 1), (11, 1), (12, 1), (13, 1), (14, 1), (15, 1), (16, 1), (17, 1), (18, 1), (19, 1), (20, 1), (21, 1), (22, 1), (23, 1), (24, 1), (25, 1), (26, 1), (27, 1), (28, 1), (29, 1), (30, 1), (31, 1), (33, 1), (34, 1), (35, 1), (32, 0), (36, 1), (37, 1), (38, 1), (39, 1), (40, 1), (41, 1), (42, 1)] (by kernel_rfl) (by kernel_rfl) ?_
                            iterate 4 ((refine wpF_pure (v := ?_) rfl rfl (by rfl) ?_ ?_; rotate_left; (focus (intro ws hws; obtain ⟨q0, p0⟩ := hws.row (k := w.heap.size) xpf; go_simp; (try with_reducible rfl); done))); try simp only [Act.put, List.getElem_toArray, List.getElem_cons_zero, List.getElem_cons_succ, List.setIfInBounds_toArray, List.set_cons_zero, List.set_cons_succ])
                            (refine wpF_call 84 ?_ rfl rfl (by rfl) ?_ ?_; rotate_left; (focus (go_simp; (try with_reducible rfl); done)))
                            refine (CountNumbers_spec _ _ ca1 L _ (hr6.out.ext Ext.go) rfl (by omega)).mono ?_
                            rintro en w7 ⟨rfl, hbw7⟩
                            refine ⟨_, rfl, hbw7, ?_⟩
                            try simp only [Act.put, List.getElem_toArray, List.getElem_cons_zero, List.getElem_cons_succ, List.setIfInBounds_toArray, List.set_cons_zero, List.set_cons_succ]
                            have x7 : Ext w w7 := Ext.trans Ext.go hbw7
                            have y7 : Ext w6 w7 := Ext.trans Ext.go hbw7
                            have bx7 := hide (bx6.out.ext y7)
                            have hr7 := hide (hr6.out.ext y7)
                            (try clear d0 d1 d2 d3 d4 d5 d6 d7 d8 d9 d10 d11 dk)
                            have d0 := bx7.out.c 0 _ rfl
                            have d1 := bx7.out.c 1 _ rfl
                            have d2 := bx7.out.c 2 _ rfl
                            have d3 := bx7.out.c 3 _ rfl
                            have d4 := bx7.out.c 4 _ rfl
                            have d5 := bx7.out.c 5 _ rfl
                            have d6 := bx7.out.c 6 _ rfl
                            have d7 := bx7.out.c 7 _ rfl
                            have d8 := bx7.out.c 8 _ rfl
                            have d9 := bx7.out.c 9 _ rfl
                            have d10 := bx7.out.c 10 _ rfl
                            have d11 := bx7.out.c 11 _ rfl
                            have dk := bx7.out.lt
                            iterate 1 ((refine wpF_pure (v := ?_) rfl rfl (by rfl) ?_ ?_; rotate_left; (focus (intro ws hws; obtain ⟨q0, p0⟩ := hws.row (k := w.heap.size) xpf; go_simp; (try with_reducible rfl); done))); try simp only [Act.put, List.getElem_toArray, List.getElem_cons_zero, List.getElem_cons_succ, List.setIfInBounds_toArray, List.set_cons_zero, List.set_cons_succ])
                            cases a1
                            rotate_left
                            · skip
                              as_aux_lemma =>
                                iterate 29 ((first | (refine wpF_off rfl rfl (by rfl) ?_) | (refine wpF_pure (v := ?_) rfl rfl (by rfl) ?_ ?_; rotate_left; (focus (intro ws hws; obtain ⟨q0, p0⟩ := hws.row (k := w.heap.size) xpf; go_simp; (try with_reducible rfl); done)))); try simp only [Act.put, List.getElem_toArray, List.getElem_cons_zero, List.getElem_cons_succ, List.setIfInBounds_toArray, List.set_cons_zero, List.set_cons_succ])
                                refine wpF_offS rfl rfl (by rfl) ?_
                                try simp only [Act.put, List.getElem_toArray, List.getElem_cons_zero, List.getElem_cons_succ, List.setIfInBounds_toArray, List.set_cons_zero, List.set_cons_succ]
                                iterate 7 ((first | (refine wpF_off rfl rfl (by rfl) ?_) | (refine wpF_pure (v := ?_) rfl rfl (by rfl) ?_ ?_; rotate_left; (focus (intro ws hws; obtain ⟨q0, p0⟩ := hws.row (k := w.heap.size) xpf; go_simp; (try with_reducible rfl); done)))); try simp only [Act.put, List.getElem_toArray, List.getElem_cons_zero, List.getElem_cons_succ, List.setIfInBounds_toArray, List.set_cons_zero, List.set_cons_succ])
                                refine wpF_done rfl ?_
                                simp only [List.drop_succ_cons, List.drop_zero, List.drop_nil]
                                go_wp2_with fail
                                go_meet
                                exact ⟨by simp, Ext.go⟩
                            iterate 6 ((refine wpF_pure (v := ?_) rfl rfl (by rfl) ?_ ?_; rotate_left; (focus (intro ws hws; obtain ⟨q0, p0⟩ := hws.row (k := w.heap.size) xpf; go_simp; (try with_reducible rfl); done))); try simp only [Act.put, List.getElem_toArray, List.getElem_cons_zero, List.getElem_cons_succ, List.setIfInBounds_toArray, List.set_cons_zero, List.set_cons_succ])
                            cases a2
                            rotate_left
                            · skip
                              as_aux_lemma =>
                                iterate 23 ((first | (refine wpF_off rfl rfl (by rfl) ?_) | (refine wpF_pure (v := ?_) rfl rfl (by rfl) ?_ ?_; rotate_left; (focus (intro ws hws; obtain ⟨q0, p0⟩ := hws.row (k := w.heap.size) xpf; go_simp; (try with_reducible rfl); done)))); try simp only [Act.put, List.getElem_toArray, List.getElem_cons_zero, List.getElem_cons_succ, List.setIfInBounds_toArray, List.set_cons_zero, List.set_cons_succ])
                                refine wpF_offS rfl rfl (by rfl) ?_
                                try simp only [Act.put, List.getElem_toArray, List.getElem_cons_zero, List.getElem_cons_succ, List.setIfInBounds_toArray, List.set_cons_zero, List.set_cons_succ]
                                iterate 7 ((first | (refine wpF_off rfl rfl (by rfl) ?_) | (refine wpF_pure (v := ?_) rfl rfl (by rfl) ?_ ?_; rotate_left; (focus (intro ws hws; obtain ⟨q0, p0⟩ := hws.row (k := w.heap.size) xpf; go_simp; (try with_reducible rfl); done)))); try simp only [Act.put, List.getElem_toArray, List.getElem_cons_zero, List.getElem_cons_succ, List.setIfInBounds_toArray, List.set_cons_zero, List.set_cons_succ])
                                refine wpF_done rfl ?_
                                simp only [List.drop_succ_cons, List.drop_zero, List.drop_nil]
                                go_wp2_with fail
                                go_meet
                                exact ⟨by simp, Ext.go⟩
                            iterate 6 ((refine wpF_pure (v := ?_) rfl rfl (by rfl) ?_ ?_; rotate_left; (focus (intro ws hws; obtain ⟨q0, p0⟩ := hws.row (k := w.heap.size) xpf; go_simp; (try with_reducible rfl); done))); try simp only [Act.put, List.getElem_toArray, List.getElem_cons_zero, List.getElem_cons_succ, List.setIfInBounds_toArray, List.set_cons_zero, List.set_cons_succ])
                            cases a3
                            · skip
                              as_aux_lemma =>
                                iterate 17 ((first | (refine wpF_off rfl rfl (by rfl) ?_) | (refine wpF_pure (v := ?_) rfl rfl (by rfl) ?_ ?_; rotate_left; (focus (intro ws hws; obtain ⟨q0, p0⟩ := hws.row (k := w.heap.size) xpf; go_simp; (try with_reducible rfl); done)))); try simp only [Act.put, List.getElem_toArray, List.getElem_cons_zero, List.getElem_cons_succ, List.setIfInBounds_toArray, List.set_cons_zero, List.set_cons_succ])
                                (refine wpF_call 85 ?_ rfl rfl (by rfl) ?_ ?_; rotate_left; (focus (go_simp; (try with_reducible rfl); done)))
                                refine (FirstGap_spec 0 ak _ c4 k _ (hx'.out.k.ext Ext.go) rfl (by omega)).mono ?_
                                rintro en w8 ⟨rfl, hbw8⟩
                                refine ⟨_, rfl, hbw8, ?_⟩
                                try simp only [Act.put, List.getElem_toArray, List.getElem_cons_zero, List.getElem_cons_succ, List.setIfInBounds_toArray, List.set_cons_zero, List.set_cons_succ]
                                have y8 : Ext w6 w8 := Ext.trans y7 (Ext.trans Ext.go hbw8)
                                have bx8 := hide (bx7.out.ext (show Ext w7 w8 from Ext.trans Ext.go hbw8))
                                (try clear d0 d1 d2 d3 d4 d5 d6 d7 d8 d9 d10 d11 dk)
                                have d0 := bx8.out.c 0 _ rfl
                                have d1 := bx8.out.c 1 _ rfl
                                have d2 := bx8.out.c 2 _ rfl
                                have d3 := bx8.out.c 3 _ rfl
                                have d4 := bx8.out.c 4 _ rfl
                                have d5 := bx8.out.c 5 _ rfl
                                have d6 := bx8.out.c 6 _ rfl
                                have d7 := bx8.out.c 7 _ rfl
                                have d8 := bx8.out.c 8 _ rfl
                                have d9 := bx8.out.c 9 _ rfl
                                have d10 := bx8.out.c 10 _ rfl
                                have d11 := bx8.out.c 11 _ rfl
                                have dk := bx8.out.lt
                                iterate 1 ((refine wpF_pure (v := ?_) rfl rfl (by rfl) ?_ ?_; rotate_left; (focus (intro ws hws; obtain ⟨q0, p0⟩ := hws.row (k := w.heap.size) xpf; go_simp; (try with_reducible rfl); done))); try simp only [Act.put, List.getElem_toArray, List.getElem_cons_zero, List.getElem_cons_succ, List.setIfInBounds_toArray, List.set_cons_zero, List.set_cons_succ])
                                cases a5
                                rotate_left
                                · skip
                                  as_aux_lemma =>
                                    iterate 6 ((first | (refine wpF_off rfl rfl (by rfl) ?_) | (refine wpF_pure (v := ?_) rfl rfl (by rfl) ?_ ?_; rotate_left; (focus (intro ws hws; obtain ⟨q0, p0⟩ := hws.row (k := w.heap.size) xpf; go_simp; (try with_reducible rfl); done)))); try simp only [Act.put, List.getElem_toArray, List.getElem_cons_zero, List.getElem_cons_succ, List.setIfInBounds_toArray, List.set_cons_zero, List.set_cons_succ])
                                    refine wpF_done rfl ?_
                                    simp only [List.drop_succ_cons, List.drop_zero, List.drop_nil]
                                    go_wp2_with fail
                                    go_meet
                                    exact ⟨by simp, Ext.go⟩
                                iterate 5 ((refine wpF_pure (v := ?_) rfl rfl (by rfl) ?_ ?_; rotate_left; (focus (intro ws hws; obtain ⟨q0, p0⟩ := hws.row (k := w.heap.size) xpf; go_simp; (try with_reducible rfl); done))); try simp only [Act.put, List.getElem_toArray, List.getElem_cons_zero, List.getElem_cons_succ, List.setIfInBounds_toArray, List.set_cons_zero, List.set_cons_succ])
                                cases a6
                                rotate_left
                                · skip
                                  as_aux_lemma =>
                                    iterate 1 ((first | (refine wpF_off rfl rfl (by rfl) ?_) | (refine wpF_pure (v := ?_) rfl rfl (by rfl) ?_ ?_; rotate_left; (focus (intro ws hws; obtain ⟨q0, p0⟩ := hws.row (k := w.heap.size) xpf; go_simp; (try with_reducible rfl); done)))); try simp only [Act.put, List.getElem_toArray, List.getElem_cons_zero, List.getElem_cons_succ, List.setIfInBounds_toArray, List.set_cons_zero, List.set_cons_succ])
                                    refine wpF_done rfl ?_
                                    simp only [List.drop_succ_cons, List.drop_zero, List.drop_nil]
                                    go_wp2_with fail
                                    go_meet
                                    exact ⟨by simp, Ext.go⟩
                                iterate 1 ((refine wpF_pure (v := ?_) rfl rfl (by rfl) ?_ ?_; rotate_left; (focus (intro ws hws; obtain ⟨q0, p0⟩ := hws.row (k := w.heap.size) xpf; go_simp; (try with_reducible rfl); done))); try simp only [Act.put, List.getElem_toArray, List.getElem_cons_zero, List.getElem_cons_succ, List.setIfInBounds_toArray, List.set_cons_zero, List.set_cons_succ])
                                refine wpF_done rfl ?_
                                simp only [List.drop_succ_cons, List.drop_zero, List.drop_nil]
                                go_wp2_with fail
                                go_meet
                                exact ⟨by simp, Ext.go⟩
                            · skip
                              have hLp : 0 < L.length := by
                                rcases L with _ | ⟨x, xs'⟩
                                · exfalso
                                  have k1 := of_decide_eq_true ha3
                                  have k0 : cntR ([] : List Rg) = e := by simpa using ha1
                                  have k2 : cntR ([] : List Rg) = 0 := rfl
                                  omega
                                · simp
                              rcases hr7.out with hh | ⟨bl, ol, rfl, hxl⟩
                              · rw [hh] at hLp; simp at hLp
                              obtain ⟨cl, cl2⟩ := hxl 0 hLp
                              obtain ⟨⟨y1, y2⟩, hx0⟩ : ∃ x : Rg, Hid (L.getD 0 dr = x) := ⟨_, hide rfl⟩
                              replace ha4 := ha4.out
                              rw [hx0.out] at cl cl2 ha4
                              dsimp only at cl cl2 ha4
                              have hLi : (0 : Int) < (L.length : Int) := by omega
                              have kbl : bl < w7.heap.size := World.block_lt_of_cell? w7 _ cl
                              clear hxl hx0
                              iterate 9 ((refine wpF_pure (v := ?_) rfl rfl (by rfl) ?_ ?_; rotate_left; (focus (intro ws hws; obtain ⟨q0, p0⟩ := hws.row (k := w.heap.size) xpf; obtain ⟨q1, p1⟩ := hws.row (k := bl) xpf; go_simp; (try with_reducible rfl); done))); try simp only [Act.put, List.getElem_toArray, List.getElem_cons_zero, List.getElem_cons_succ, List.setIfInBounds_toArray, List.set_cons_zero, List.set_cons_succ])
                              cases a4
                              rotate_left
                              · skip
                                as_aux_lemma =>
                                  iterate 8 ((first | (refine wpF_off rfl rfl (by rfl) ?_) | (refine wpF_pure (v := ?_) rfl rfl (by rfl) ?_ ?_; rotate_left; (focus (intro ws hws; obtain ⟨q0, p0⟩ := hws.row (k := w.heap.size) xpf; obtain ⟨q1, p1⟩ := hws.row (k := bl) xpf; go_simp; (try with_reducible rfl); done)))); try simp only [Act.put, List.getElem_toArray, List.getElem_cons_zero, List.getElem_cons_succ, List.setIfInBounds_toArray, List.set_cons_zero, List.set_cons_succ])
                                  refine wpF_offS rfl rfl (by rfl) ?_
                                  try simp only [Act.put, List.getElem_toArray, List.getElem_cons_zero, List.getElem_cons_succ, List.setIfInBounds_toArray, List.set_cons_zero, List.set_cons_succ]
                                  iterate 7 ((first | (refine wpF_off rfl rfl (by rfl) ?_) | (refine wpF_pure (v := ?_) rfl rfl (by rfl) ?_ ?_; rotate_left; (focus (intro ws hws; obtain ⟨q0, p0⟩ := hws.row (k := w.heap.size) xpf; obtain ⟨q1, p1⟩ := hws.row (k := bl) xpf; go_simp; (try with_reducible rfl); done)))); try simp only [Act.put, List.getElem_toArray, List.getElem_cons_zero, List.getElem_cons_succ, List.setIfInBounds_toArray, List.set_cons_zero, List.set_cons_succ])
                                  refine wpF_done rfl ?_
                                  simp only [List.drop_succ_cons, List.drop_zero, List.drop_nil]
                                  go_wp2_with fail
                                  go_meet
                                  exact ⟨by simp, Ext.go⟩
                              iterate 8 ((refine wpF_pure (v := ?_) rfl rfl (by rfl) ?_ ?_; rotate_left; (focus (intro ws hws; obtain ⟨q0, p0⟩ := hws.row (k := w.heap.size) xpf; go_simp; (try with_reducible rfl); done))); try simp only [Act.put, List.getElem_toArray, List.getElem_cons_zero, List.getElem_cons_succ, List.setIfInBounds_toArray, List.set_cons_zero, List.set_cons_succ])
                              (refine wpF_call 85 ?_ rfl rfl (by rfl) ?_ ?_; rotate_left; (focus (go_simp; (try with_reducible rfl); done)))
                              refine (FirstGap_spec 0 ak _ c4 k _ (hx'.out.k.ext Ext.go) rfl (by omega)).mono ?_
                              rintro en w8 ⟨rfl, hbw8⟩
                              refine ⟨_, rfl, hbw8, ?_⟩
                              try simp only [Act.put, List.getElem_toArray, List.getElem_cons_zero, List.getElem_cons_succ, List.setIfInBounds_toArray, List.set_cons_zero, List.set_cons_succ]
                              have y8 : Ext w6 w8 := Ext.trans y7 (Ext.trans Ext.go hbw8)
                              have bx8 := hide (bx7.out.ext (show Ext w7 w8 from Ext.trans Ext.go hbw8))
                              (try clear d0 d1 d2 d3 d4 d5 d6 d7 d8 d9 d10 d11 dk)
                              have d0 := bx8.out.c 0 _ rfl
                              have d1 := bx8.out.c 1 _ rfl
                              have d2 := bx8.out.c 2 _ rfl
                              have d3 := bx8.out.c 3 _ rfl
                              have d4 := bx8.out.c 4 _ rfl
                              have d5 := bx8.out.c 5 _ rfl
                              have d6 := bx8.out.c 6 _ rfl
                              have d7 := bx8.out.c 7 _ rfl
                              have d8 := bx8.out.c 8 _ rfl
                              have d9 := bx8.out.c 9 _ rfl
                              have d10 := bx8.out.c 10 _ rfl
                              have d11 := bx8.out.c 11 _ rfl
                              have dk := bx8.out.lt
                              iterate 1 ((refine wpF_pure (v := ?_) rfl rfl (by rfl) ?_ ?_; rotate_left; (focus (intro ws hws; obtain ⟨q0, p0⟩ := hws.row (k := w.heap.size) xpf; go_simp; (try with_reducible rfl); done))); try simp only [Act.put, List.getElem_toArray, List.getElem_cons_zero, List.getElem_cons_succ, List.setIfInBounds_toArray, List.set_cons_zero, List.set_cons_succ])
                              cases a5
                              rotate_left
                              · skip
                                as_aux_lemma =>
                                  iterate 6 ((first | (refine wpF_off rfl rfl (by rfl) ?_) | (refine wpF_pure (v := ?_) rfl rfl (by rfl) ?_ ?_; rotate_left; (focus (intro ws hws; obtain ⟨q0, p0⟩ := hws.row (k := w.heap.size) xpf; go_simp; (try with_reducible rfl); done)))); try simp only [Act.put, List.getElem_toArray, List.getElem_cons_zero, List.getElem_cons_succ, List.setIfInBounds_toArray, List.set_cons_zero, List.set_cons_succ])
                                  refine wpF_done rfl ?_
                                  simp only [List.drop_succ_cons, List.drop_zero, List.drop_nil]
                                  go_wp2_with fail
                                  go_meet
                                  exact ⟨by simp, Ext.go⟩
                              iterate 5 ((refine wpF_pure (v := ?_) rfl rfl (by rfl) ?_ ?_; rotate_left; (focus (intro ws hws; obtain ⟨q0, p0⟩ := hws.row (k := w.heap.size) xpf; go_simp; (try with_reducible rfl); done))); try simp only [Act.put, List.getElem_toArray, List.getElem_cons_zero, List.getElem_cons_succ, List.setIfInBounds_toArray, List.set_cons_zero, List.set_cons_succ])
                              cases a6
                              rotate_left
                              · skip
                                as_aux_lemma =>
                                  iterate 1 ((first | (refine wpF_off rfl rfl (by rfl) ?_) | (refine wpF_pure (v := ?_) rfl rfl (by rfl) ?_ ?_; rotate_left; (focus (intro ws hws; obtain ⟨q0, p0⟩ := hws.row (k := w.heap.size) xpf; go_simp; (try with_reducible rfl); done)))); try simp only [Act.put, List.getElem_toArray, List.getElem_cons_zero, List.getElem_cons_succ, List.setIfInBounds_toArray, List.set_cons_zero, List.set_cons_succ])
                                  refine wpF_done rfl ?_
                                  simp only [List.drop_succ_cons, List.drop_zero, List.drop_nil]
                                  go_wp2_with fail
                                  go_meet
                                  exact ⟨by simp, Ext.go⟩
                              iterate 1 ((refine wpF_pure (v := ?_) rfl rfl (by rfl) ?_ ?_; rotate_left; (focus (intro ws hws; obtain ⟨q0, p0⟩ := hws.row (k := w.heap.size) xpf; go_simp; (try with_reducible rfl); done))); try simp only [Act.put, List.getElem_toArray, List.getElem_cons_zero, List.getElem_cons_succ, List.setIfInBounds_toArray, List.set_cons_zero, List.set_cons_succ])
                              refine wpF_done rfl ?_
                              simp only [List.drop_succ_cons, List.drop_zero, List.drop_nil]
                              go_wp2_with fail
                              go_meet
                              exact ⟨by simp, Ext.go⟩
                        case rest =>
                          as_aux_lemma =>
                            obtain ⟨w8, hwe⟩ : ∃ u, u = wc := ⟨_, rfl⟩
                            subst hwe
                            obtain ⟨rfl, hg⟩ := hcut
                            have x8 : Ext w w8 := x6.trans hg
                            have bx8 := hide (bx6.out.ext hg)
                            obtain ⟨v5, hv5⟩ : ∃ q, (((((a1 || a2) || (a3 && a4)) || a5) || a6)) = q := ⟨_, rfl⟩
                            rw [hv5] at hv ⊢
                            clear ha1 ha2 ha3 ha4 ha5 ha6 hv5 hr6 hg
                            (try clear d0 d1 d2 d3 d4 d5 d6 d7 d8 d9 d10 d11 dk)
                            have d0 := bx8.out.c 0 _ rfl
                            have d1 := bx8.out.c 1 _ rfl
                            have d2 := bx8.out.c 2 _ rfl
                            have d3 := bx8.out.c 3 _ rfl
                            have d4 := bx8.out.c 4 _ rfl
                            have d5 := bx8.out.c 5 _ rfl
                            have d6 := bx8.out.c 6 _ rfl
                            have d7 := bx8.out.c 7 _ rfl
                            have d8 := bx8.out.c 8 _ rfl
                            have d9 := bx8.out.c 9 _ rfl
                            have d10 := bx8.out.c 10 _ rfl
                            have d11 := bx8.out.c 11 _ rfl
                            have dk := bx8.out.lt
                            cases v5
                            rotate_left
                            · go_wp2
                              go_ret
                              exact ⟨by rw [hv.out]; rfl, x8⟩
                            have hT := hide ((show R = X by rw [hv.out]; rfl).trans hX.out.symm)
                            clear hv
                            go_wp2_with fail
                            go_loopw [7] (fun i wr => ∃ (j : Nat), i = .int .i64 j ∧ j ≤ f.length ∧ Hid (topB (f.take j) se = true) ∧ Ext w8 wr) (fun i _ => f.length - (intOf i).toNat)
                            case atStart => exact ⟨0, rfl, Nat.zero_le _, hide rfl, Ext.refl _⟩
                            case round =>
                              obtain ⟨w9, hwe⟩ : ∃ x, x = wr := ⟨_, rfl⟩
                              subst hwe
                              obtain ⟨j, rfl, hj, hB, hg⟩ := hrel
                              have x9 : Ext w w9 := x8.trans hg
                              have bx9 := hide (bx8.out.ext hg)
                              (try clear d0 d1 d2 d3 d4 d5 d6 d7 d8 d9 d10 d11 dk)
                              have d0 := bx9.out.c 0 _ rfl
                              have d1 := bx9.out.c 1 _ rfl
                              have d2 := bx9.out.c 2 _ rfl
                              have d3 := bx9.out.c 3 _ rfl
                              have d4 := bx9.out.c 4 _ rfl
                              have d5 := bx9.out.c 5 _ rfl
                              have d6 := bx9.out.c 6 _ rfl
                              have d7 := bx9.out.c 7 _ rfl
                              have d8 := bx9.out.c 8 _ rfl
                              have d9 := bx9.out.c 9 _ rfl
                              have d10 := bx9.out.c 10 _ rfl
                              have d11 := bx9.out.c 11 _ rfl
                              have dk := bx9.out.lt
                              by_cases hlt : j < f.length
                              · skip
                                as_aux_lemma =>
                                  have hxq : ReadR w af f := hx'.out.f
                                  rcases hxq with hnil | ⟨bx, off, rfl, hx⟩
                                  · rw [hnil] at hlt; simp at hlt
                                  obtain ⟨cx, cx2⟩ := hx j hlt
                                  have la : bx < w.heap.size := World.block_lt_of_cell? w _ cx
                                  have hr := (x9.row la).1
                                  have e1 := (hr _).trans cx
                                  have e2 := (hr _).trans cx2
                                  have i1 : (0 : Int) ≤ (j : Int) := by omega
                                  have i2 : (j : Int) < (f.length : Int) := by omega
                                  have lw : bx < w9.heap.size := Nat.lt_of_lt_of_le la x9.size
                                  have hst := hide (topB_succ (m := se) hlt)
                                  have hno := fun h => hide (topB_no (m := se) hlt h)
                                  rw [hB.out] at hst
                                  obtain ⟨⟨y1, y2⟩, hx0⟩ : ∃ x : Rg, Hid (f.getD j dr = x) := ⟨_, hide rfl⟩
                                  rw [hx0.out] at e1 e2 hst hno
                                  dsimp only at e1 e2 hst hno
                                  clear hx cx cx2 hr hx0 hB
                                  obtain ⟨t1, ht1⟩ : ∃ q, decide (se < y2) = q := ⟨_, rfl⟩
                                  go_wp2_with fail
                                  refine wp_region_flowE 9 [(0, 1), (1, 1), (2, 1), (3, 1), (4, 1), (5, 1), (6, 1), (7, 1), (8, 1)] (by kernel_rfl) (by kernel_rfl) ?_
                                  iterate 9 ((refine wpF_pure (v := ?_) rfl rfl (by rfl) ?_ ?_; rotate_left; (focus (intro ws hws; obtain ⟨q0, p0⟩ := hws.row (k := w.heap.size) xpf; obtain ⟨q1, p1⟩ := hws.row (k := bx) xpf; go_simp; (try with_reducible rfl); done))); try simp only [Act.put, List.getElem_toArray, List.getElem_cons_zero, List.getElem_cons_succ, List.setIfInBounds_toArray, List.set_cons_zero, List.set_cons_succ])
                                  refine wpF_done rfl ?_
                                  simp only [List.drop_succ_cons, List.drop_zero, List.drop_nil]
                                  cases t1
                                  · have hle : y2 ≤ se := by have := of_decide_eq_false ht1; omega
                                    have hst2 := hide (hst.out.trans (by rw [decide_eq_true hle]))
                                    clear hst hno hle
                                    replace ht1 := hide ht1
                                    go_wp2
                                    go_roundw
                                    case rel => exact ⟨j + 1, by go_num, by omega, hst2, Ext.go⟩
                                    case measure => simp [intOf]; omega
                                  · have hle : ¬ y2 ≤ se := by have := of_decide_eq_true ht1; omega
                                    have hfb := hno (by omega)
                                    have hRv : Hid (R = false) := hide (by rw [hT.out, hfb.out]; rfl)
                                    clear hst hno hfb hle
                                    replace ht1 := hide ht1
                                    go_wp2
                                    go_ret
                                    exact ⟨by rw [hRv.out]; rfl, Ext.go⟩
                              · skip
                                as_aux_lemma =>
                                  obtain rfl : j = f.length := by omega
                                  rw [List.take_length] at hB
                                  replace hT := hide (hT.out.trans (by rw [hB.out, Bool.true_and]))
                                  clear hB hlt hj hg
                                  go_wp2_with fail
                                  go_loopw [8] (fun i wr => ∃ (j : Nat), i = .int .i64 j ∧ j ≤ k.length ∧ Hid (topB (k.take j) se = true) ∧ Ext w9 wr) (fun i _ => k.length - (intOf i).toNat)
                                  case atStart => exact ⟨0, rfl, Nat.zero_le _, hide rfl, Ext.refl _⟩
                                  case round =>
                                    obtain ⟨w10, hwe⟩ : ∃ x, x = wr := ⟨_, rfl⟩
                                    subst hwe
                                    obtain ⟨j, rfl, hj, hB, hg⟩ := hrel
                                    have x10 : Ext w w10 := x9.trans hg
                                    have bx10 := hide (bx9.out.ext hg)
                                    (try clear d0 d1 d2 d3 d4 d5 d6 d7 d8 d9 d10 d11 dk)
                                    have d0 := bx10.out.c 0 _ rfl
                                    have d1 := bx10.out.c 1 _ rfl
                                    have d2 := bx10.out.c 2 _ rfl
                                    have d3 := bx10.out.c 3 _ rfl
                                    have d4 := bx10.out.c 4 _ rfl
                                    have d5 := bx10.out.c 5 _ rfl
                                    have d6 := bx10.out.c 6 _ rfl
                                    have d7 := bx10.out.c 7 _ rfl
                                    have d8 := bx10.out.c 8 _ rfl
                                    have d9 := bx10.out.c 9 _ rfl
                                    have d10 := bx10.out.c 10 _ rfl
                                    have d11 := bx10.out.c 11 _ rfl
                                    have dk := bx10.out.lt
                                    by_cases hlt : j < k.length
                                    · skip
                                      as_aux_lemma =>
                                        have hxq : ReadR w ak k := hx'.out.k
                                        rcases hxq with hnil | ⟨bx, off, rfl, hx⟩
                                        · rw [hnil] at hlt; simp at hlt
                                        obtain ⟨cx, cx2⟩ := hx j hlt
                                        have la : bx < w.heap.size := World.block_lt_of_cell? w _ cx
                                        have hr := (x10.row la).1
                                        have e1 := (hr _).trans cx
                                        have e2 := (hr _).trans cx2
                                        have i1 : (0 : Int) ≤ (j : Int) := by omega
                                        have i2 : (j : Int) < (k.length : Int) := by omega
                                        have lw : bx < w10.heap.size := Nat.lt_of_lt_of_le la x10.size
                                        have hst := hide (topB_succ (m := se) hlt)
                                        have hno := fun h => hide (topB_no (m := se) hlt h)
                                        rw [hB.out] at hst
                                        obtain ⟨⟨y1, y2⟩, hx0⟩ : ∃ x : Rg, Hid (k.getD j dr = x) := ⟨_, hide rfl⟩
                                        rw [hx0.out] at e1 e2 hst hno
                                        dsimp only at e1 e2 hst hno
                                        clear hx cx cx2 hr hx0 hB
                                        obtain ⟨t1, ht1⟩ : ∃ q, decide (se < y2) = q := ⟨_, rfl⟩
                                        go_wp2_with fail
                                        refine wp_region_flowE 9 [(0, 1), (1, 1), (2, 1), (3, 1), (4, 1), (5, 1), (6, 1), (7, 1), (8, 1)] (by kernel_rfl) (by kernel_rfl) ?_
                                        iterate 9 ((refine wpF_pure (v := ?_) rfl rfl (by rfl) ?_ ?_; rotate_left; (focus (intro ws hws; obtain ⟨q0, p0⟩ := hws.row (k := w.heap.size) xpf; obtain ⟨q1, p1⟩ := hws.row (k := bx) xpf; go_simp; (try with_reducible rfl); done))); try simp only [Act.put, List.getElem_toArray, List.getElem_cons_zero, List.getElem_cons_succ, List.setIfInBounds_toArray, List.set_cons_zero, List.set_cons_succ])
                                        refine wpF_done rfl ?_
                                        simp only [List.drop_succ_cons, List.drop_zero, List.drop_nil]
                                        cases t1
                                        · have hle : y2 ≤ se := by have := of_decide_eq_false ht1; omega
                                          have hst2 := hide (hst.out.trans (by rw [decide_eq_true hle]))
                                          clear hst hno hle
                                          replace ht1 := hide ht1
                                          go_wp2
                                          go_roundw
                                          case rel => exact ⟨j + 1, by go_num, by omega, hst2, Ext.go⟩
                                          case measure => simp [intOf]; omega
                                        · have hle : ¬ y2 ≤ se := by have := of_decide_eq_true ht1; omega
                                          have hfb := hno (by omega)
                                          have hRv : Hid (R = false) := hide (by rw [hT.out, hfb.out]; rfl)
                                          clear hst hno hfb hle
                                          replace ht1 := hide ht1
                                          go_wp2
                                          go_ret
                                          exact ⟨by rw [hRv.out]; rfl, Ext.go⟩
                                    · skip
                                      as_aux_lemma =>
                                        obtain rfl : j = k.length := by omega
                                        rw [List.take_length] at hB
                                        replace hT := hide (hT.out.trans (by rw [hB.out, Bool.true_and]))
                                        clear hB hlt hj hg
                                        obtain ⟨v1, hv1⟩ : ∃ q, (fk == 0) = q := ⟨_, rfl⟩
                                        obtain ⟨v2, hv2⟩ : ∃ q, (fi == -1) = q := ⟨_, rfl⟩
                                        obtain ⟨v3, hv3⟩ : ∃ q, (fi != e) = q := ⟨_, rfl⟩
                                        have hv2n : (fi != -1) = !v2 := by rw [← hv2]; rfl
                                        obtain ⟨v4, hv4⟩ : ∃ q, (st == stS st b e fk se) = q := ⟨_, rfl⟩
                                        have hv : R = (!((v1 != v2) || (!v2 && v3)) && v4) := by
                                          rw [hT.out, ← hv1, ← hv2, ← hv3, ← hv4]
                                          simp only [beq_dec, bne_dec, Bool.and_assoc, Bool.not_or]
                                        replace hv := hide hv
                                        clear hT
                                        go_upto_region 27 with fail
                                        go_cut [240] (fun tq wx => tq = .bool ((v1 != v2) || (!v2 && v3)) ∧ wx = w10)
                                        case first =>
                                          cases v1
                                          · cases v2
                                            · go_wp2_with fail
                                              go_meet
                                              exact ⟨rfl, rfl⟩
                                            · go_wp2_with fail
                                              go_meet
                                              exact ⟨rfl, rfl⟩
                                          · cases v2
                                            · go_wp2_with fail
                                              go_meet
                                              exact ⟨rfl, rfl⟩
                                            · go_wp2_with fail
                                              go_meet
                                              exact ⟨rfl, rfl⟩
                                        case rest =>
                                          obtain ⟨rfl, hwy⟩ := hcut
                                          subst hwy
                                          obtain ⟨w10, hwe⟩ : ∃ u, u = wc := ⟨_, rfl⟩
                                          subst hwe
                                          obtain ⟨v5, hv5⟩ : ∃ q, ((v1 != v2) || (!v2 && v3)) = q := ⟨_, rfl⟩
                                          rw [hv5] at hv ⊢
                                          clear hv1 hv2 hv2n hv3 hv5
                                          cases v5
                                          rotate_left
                                          · go_wp2
                                            go_ret
                                            exact ⟨by rw [hv.out]; rfl, x10⟩
                                          as_aux_lemma =>
                                            go_wp2_with fail
                                            refine wp_region_flowE 6 [(0, 1), (1, 1), (2, 1), (3, 0), (4, 1), (5, 1)] (by kernel_rfl) (by kernel_rfl) ?_
                                            iterate 3 ((refine wpF_pure (v := ?_) rfl rfl (by rfl) ?_ ?_; rotate_left; (focus (intro ws hws; obtain ⟨q0, p0⟩ := hws.row (k := w.heap.size) xpf; go_simp; (try with_reducible rfl); done))); try simp only [Act.put, List.getElem_toArray, List.getElem_cons_zero, List.getElem_cons_succ, List.setIfInBounds_toArray, List.set_cons_zero, List.set_cons_succ])
                                            (refine wpF_call 86 ?_ rfl rfl (by rfl) ?_ ?_; rotate_left; (focus (go_simp; (try with_reducible rfl); done)))
                                            refine (state_spec ⟨st, z, b, e, xs, p, f, k, fi, fk, se, co⟩ ⟨ar, ap, af, ak⟩ c1 c2 c3 c4 _).mono ?_
                                            rintro en w11 ⟨rfl, hbw11⟩
                                            refine ⟨_, rfl, hbw11, ?_⟩
                                            try simp only [Act.put, List.getElem_toArray, List.getElem_cons_zero, List.getElem_cons_succ, List.setIfInBounds_toArray, List.set_cons_zero, List.set_cons_succ]
                                            have x11 : Ext w w11 := Ext.trans x10 (Ext.trans Ext.go hbw11)
                                            have bx11 := hide (bx10.out.ext (show Ext w10 w11 from Ext.trans Ext.go hbw11))
                                            (try dsimp only)
                                            (try clear d0 d1 d2 d3 d4 d5 d6 d7 d8 d9 d10 d11 dk)
                                            have d0 := bx11.out.c 0 _ rfl
                                            have d1 := bx11.out.c 1 _ rfl
                                            have d2 := bx11.out.c 2 _ rfl
                                            have d3 := bx11.out.c 3 _ rfl
                                            have d4 := bx11.out.c 4 _ rfl
                                            have d5 := bx11.out.c 5 _ rfl
                                            have d6 := bx11.out.c 6 _ rfl
                                            have d7 := bx11.out.c 7 _ rfl
                                            have d8 := bx11.out.c 8 _ rfl
                                            have d9 := bx11.out.c 9 _ rfl
                                            have d10 := bx11.out.c 10 _ rfl
                                            have d11 := bx11.out.c 11 _ rfl
                                            have dk := bx11.out.lt
                                            iterate 2 ((refine wpF_pure (v := ?_) rfl rfl (by rfl) ?_ ?_; rotate_left; (focus (intro ws hws; obtain ⟨q0, p0⟩ := hws.row (k := w.heap.size) xpf; go_simp; (try with_reducible rfl); done))); try simp only [Act.put, List.getElem_toArray, List.getElem_cons_zero, List.getElem_cons_succ, List.setIfInBounds_toArray, List.set_cons_zero, List.set_cons_succ])
                                            refine wpF_done rfl ?_
                                            simp only [List.drop_succ_cons, List.drop_zero, List.drop_nil]
                                            go_wp2
                                            go_ret
                                            exact ⟨by rw [hv.out]; rfl, x11⟩
end
end Go.Proofs.Ytjhgcbchdnoleaa

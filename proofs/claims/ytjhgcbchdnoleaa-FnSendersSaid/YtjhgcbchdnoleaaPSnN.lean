/-
  Part of the proof: SnN.
-/
import Derived.Test.YtjhgcbchdnoleaaPG9
namespace Go.Proofs.Ytjhgcbchdnoleaa
section
open Go.ChangeShapes Go.WideShapes Go.ChangeAt Go.RowKit
set_option linter.unusedSimpArgs false
set_option linter.unusedVariables false
set_option maxHeartbeats 4000000 in
set_option maxRecDepth 100000 in
theorem NextPiece_spec (s : Sn) (a : Ads) (c1 c2 c3 c4 : Nat) (most limit : Int) (w : World) (hx : ReadSnd w a ⟨s.xs, s.p, s.f, s.k⟩) (hl : s.xs.length ≤ 1048576) (hsum : s.p.length + s.f.length + s.k.length ≤ 1048576) (he : s.e ≤ 9223372036854775807) (hm0 : -1000000 ≤ most ∧ most ≤ 1000000) (hl0 : -1000000 ≤ limit ∧ limit ≤ 1000000) :
    Calls Try.prog 45 #[.agg #[.int .i64 s.st, .int .i64 s.z, .int .i64 s.b, .int .i64 s.e, .slice a.r s.xs.length c1, .slice a.p s.p.length c2, .slice a.f s.f.length c3, .slice a.k s.k.length c4, .int .i64 s.fi, .int .i64 s.fk, .int .i64 s.se, .int .i64 s.co], .int .i64 most, .int .i64 limit] w fun en w' => en = .returned (.tuple #[.agg #[.int .i64 (nxP (sndS s) s most limit).off, .string (nxP (sndS s) s most limit).d, .bool (nxP (sndS s) s most limit).fin], .bool (nxB (sndS s) s most limit)]) ∧ Ext w w' := by
  rcases Bool.eq_false_or_eq_true (sndS s) with hv | hv
  rotate_left
  · skip
    have hact : actV (sndS s) s = false := by
      rw [Bool.eq_false_iff]
      intro h
      have := actV_iff.1 h
      simp_all <;> omega
    obtain ⟨st, z, b, e, xs, p, f, k, fi, fk, se, co⟩ := s
    obtain ⟨ar, ap, af, ak⟩ := a
    dsimp only at *
    have hx' := hide hx
    clear hx
    go_enter Try.func45, Try.ntmps45
    go_wp2_with fail
    refine (IsSender_spec ⟨st, z, b, e, xs, p, f, k, fi, fk, se, co⟩ ⟨ar, ap, af, ak⟩ c1 c2 c3 c4 _ (hx'.out.ext Ext.go) hl hsum he).mono ?_
    rintro en w1 ⟨rfl, hw1⟩
    have zw1 := hw1.size
    (try simp at zw1)
    have kw1_0 := hw1.more (k := w.heap.size) xpf
    obtain ⟨cw1_0, fw1_0⟩ := hw1.row (k := w.heap.size) xpf
    have kw1_1 := hw1.more (k := w.heap.size + 1) xpf
    obtain ⟨cw1_1, fw1_1⟩ := hw1.row (k := w.heap.size + 1) xpf
    have xw1 : Hid (Ext w w1) := hide (Ext.trans Ext.go hw1)
    rw [hv]
    go_wp2
    obtain ⟨hP, hB⟩ := nx_no (m := most) (l := limit) hact
    refine bodyPost_ret (v := .tuple #[.agg #[.int .i64 0, .string ⟨#[]⟩, .bool false], .bool false]) (by simp [results, Try.results45, go_sem, *]) rfl ⟨by rw [hP, hB]; rfl, Ext.go⟩
  have hst := sndS_st hv
  by_cases h2 : s.st ≤ 2
  rotate_left
  · skip
    have h2e : decide (2 < s.st) = true := decide_eq_true (by omega)
    have hact : actV (sndS s) s = false := by
      rw [Bool.eq_false_iff]
      intro h
      have := actV_iff.1 h
      simp_all <;> omega
    replace h2 := hide h2
    obtain ⟨st, z, b, e, xs, p, f, k, fi, fk, se, co⟩ := s
    obtain ⟨ar, ap, af, ak⟩ := a
    dsimp only at *
    have hx' := hide hx
    clear hx
    go_enter Try.func45, Try.ntmps45
    go_wp2_with fail
    refine (IsSender_spec ⟨st, z, b, e, xs, p, f, k, fi, fk, se, co⟩ ⟨ar, ap, af, ak⟩ c1 c2 c3 c4 _ (hx'.out.ext Ext.go) hl hsum he).mono ?_
    rintro en w1 ⟨rfl, hw1⟩
    have zw1 := hw1.size
    (try simp at zw1)
    have kw1_0 := hw1.more (k := w.heap.size) xpf
    obtain ⟨cw1_0, fw1_0⟩ := hw1.row (k := w.heap.size) xpf
    have kw1_1 := hw1.more (k := w.heap.size + 1) xpf
    obtain ⟨cw1_1, fw1_1⟩ := hw1.row (k := w.heap.size + 1) xpf
    have xw1 : Hid (Ext w w1) := hide (Ext.trans Ext.go hw1)
    rw [hv]
    go_wp2
    obtain ⟨hP, hB⟩ := nx_no (m := most) (l := limit) hact
    refine bodyPost_ret (v := .tuple #[.agg #[.int .i64 0, .string ⟨#[]⟩, .bool false], .bool false]) (by simp [results, Try.results45, go_sem, *]) rfl ⟨by rw [hP, hB]; rfl, Ext.go⟩
  have h2e : decide (2 < s.st) = false := decide_eq_false (by omega)
  have hact : actV (sndS s) s = true := actV_iff.2 ⟨hv, by omega, by omega⟩
  have hrb := isRing_bd (sndS_hd hv).ring
  have hrp := (sndS_hd hv).rp
  rcases hp : s.p with _ | ⟨⟨r1, r2⟩, t⟩
  · skip
    by_cases hf1 : s.fk = 1
    · skip
      have hfe : (s.fk == 1) = true := by simp [hf1]
      replace hf1 := hide hf1
      replace hp := hide hp
      obtain ⟨st, z, b, e, xs, p, f, k, fi, fk, se, co⟩ := s
      obtain ⟨ar, ap, af, ak⟩ := a
      dsimp only at *
      have hpl := hp.out
      subst hpl
      have hx' := hide hx
      clear hx
      go_enter Try.func45, Try.ntmps45
      go_wp2_with fail
      refine (IsSender_spec ⟨st, z, b, e, xs, [], f, k, fi, fk, se, co⟩ ⟨ar, ap, af, ak⟩ c1 c2 c3 c4 _ (hx'.out.ext Ext.go) hl hsum he).mono ?_
      rintro en w1 ⟨rfl, hw1⟩
      have zw1 := hw1.size
      (try simp at zw1)
      have kw1_0 := hw1.more (k := w.heap.size) xpf
      obtain ⟨cw1_0, fw1_0⟩ := hw1.row (k := w.heap.size) xpf
      have kw1_1 := hw1.more (k := w.heap.size + 1) xpf
      obtain ⟨cw1_1, fw1_1⟩ := hw1.row (k := w.heap.size + 1) xpf
      have xw1 : Hid (Ext w w1) := hide (Ext.trans Ext.go hw1)
      rw [hv]
      go_wp2
      obtain ⟨hP, hB⟩ := nx_nil1 (m := most) (l := limit) hact rfl hf1.out
      refine bodyPost_ret (v := .tuple #[.agg #[.int .i64 fi, .string ⟨#[]⟩, .bool true], .bool true]) (by simp [results, Try.results45, go_sem, *]) rfl ⟨by rw [hP, hB], Ext.go⟩
    · skip
      have hfe : (s.fk == 1) = false := by simp [hf1]
      replace hf1 := hide hf1
      replace hp := hide hp
      obtain ⟨st, z, b, e, xs, p, f, k, fi, fk, se, co⟩ := s
      obtain ⟨ar, ap, af, ak⟩ := a
      dsimp only at *
      have hpl := hp.out
      subst hpl
      have hx' := hide hx
      clear hx
      go_enter Try.func45, Try.ntmps45
      go_wp2_with fail
      refine (IsSender_spec ⟨st, z, b, e, xs, [], f, k, fi, fk, se, co⟩ ⟨ar, ap, af, ak⟩ c1 c2 c3 c4 _ (hx'.out.ext Ext.go) hl hsum he).mono ?_
      rintro en w1 ⟨rfl, hw1⟩
      have zw1 := hw1.size
      (try simp at zw1)
      have kw1_0 := hw1.more (k := w.heap.size) xpf
      obtain ⟨cw1_0, fw1_0⟩ := hw1.row (k := w.heap.size) xpf
      have kw1_1 := hw1.more (k := w.heap.size + 1) xpf
      obtain ⟨cw1_1, fw1_1⟩ := hw1.row (k := w.heap.size + 1) xpf
      have xw1 : Hid (Ext w w1) := hide (Ext.trans Ext.go hw1)
      rw [hv]
      go_wp2
      obtain ⟨hP, hB⟩ := nx_nil0 (m := most) (l := limit) hact rfl hf1.out
      refine bodyPost_ret (v := .tuple #[.agg #[.int .i64 0, .string ⟨#[]⟩, .bool false], .bool false]) (by simp [results, Try.results45, go_sem, *]) rfl ⟨by rw [hP, hB]; rfl, Ext.go⟩
  · skip
    rw [hp] at hrp
    have hr0 := rgs_at hrp (k := 0) (by simp)
    simp only [List.getD_cons_zero] at hr0
    obtain ⟨q1, q2, q3⟩ := hr0
    clear hrp
    replace hp := hide hp
    obtain ⟨st, z, b, e, xs, p, f, k, fi, fk, se, co⟩ := s
    obtain ⟨ar, ap, af, ak⟩ := a
    dsimp only at *
    have hpl := hp.out
    subst hpl
    have hx' := hide hx
    clear hx
    rcases hx'.out.p with hnil | ⟨bx, off, hab, hcx⟩
    · simp at hnil
    dsimp only at hab
    subst hab
    obtain ⟨cx, cx2⟩ := hcx 0 (by simp)
    simp only [Nat.zero_mul, Nat.add_zero, List.getD_cons_zero] at cx cx2
    have la : bx < w.heap.size := World.block_lt_of_cell? w _ cx
    clear hcx
    go_enter Try.func45, Try.ntmps45
    go_wp2_with fail
    refine (IsSender_spec ⟨st, z, b, e, xs, (r1, r2) :: t, f, k, fi, fk, se, co⟩ ⟨ar, some ⟨bx, off, none⟩, af, ak⟩ c1 c2 c3 c4 _ (hx'.out.ext Ext.go) hl hsum he).mono ?_
    rintro en w1 ⟨rfl, hw1⟩
    have zw1 := hw1.size
    (try simp at zw1)
    have kw1_0 := hw1.more (k := w.heap.size) xpf
    obtain ⟨cw1_0, fw1_0⟩ := hw1.row (k := w.heap.size) xpf
    have kw1_1 := hw1.more (k := w.heap.size + 1) xpf
    obtain ⟨cw1_1, fw1_1⟩ := hw1.row (k := w.heap.size + 1) xpf
    have xw1 : Hid (Ext w w1) := hide (Ext.trans Ext.go hw1)
    rw [hv]
    obtain ⟨ox, oy⟩ := (xw1.out.row (k := bx) la)
    have dx := (ox _).trans cx
    have dx2 := (ox _).trans cx2
    clear ox oy cx cx2
    have lw : bx < w1.heap.size := by omega
    have hne : bx ≠ w1.heap.size := by omega
    have hne2 : bx ≠ w1.heap.size + 1 := by omega
    have hne3 : bx ≠ w.heap.size := by omega
    have hne4 : bx ≠ w.heap.size + 1 := by omega
    have lw2 : bx < w1.heap.size + 1 := by omega
    have hlen : (0 : Int) < ((t.length + 1 : Nat) : Int) := by omega
    have hlen2 : (((t.length + 1 : Nat) : Int) == 0) = false := by simp; omega
    have hlen3 : (0 : Int) < (t.length : Int) + 1 := by omega
    have hlen4 : ((t.length : Int) + 1 == 0) = false := by simp; omega
    have hlen5 : decide ((0 : Int) < (t.length : Int) + 1) = true := decide_eq_true (by omega)
    by_cases l1 : limit < r2
    · have hw1_ : IntKind.i64.wrap (limit - r1) = limit - r1 := IntWalk.i64_in _ (by omega)
      by_cases l2 : limit ≤ r1
      · have l2e : decide (limit ≤ r1) = true := decide_eq_true l2
        go_wp2
        obtain ⟨hP, hB⟩ := nx_none (m := most) (l := limit) hact rfl (by unfold nxN; dsimp only; omega)
        refine bodyPost_ret (v := .tuple #[.agg #[.int .i64 0, .string ⟨#[]⟩, .bool false], .bool false]) (by simp [results, Try.results45, go_sem, *]) rfl ⟨by rw [hP, hB]; rfl, Ext.go⟩
      have l2e : decide (limit ≤ r1) = false := decide_eq_false l2
      by_cases m1 : most < limit - r1
      · have m1e : decide (most < limit - r1) = true := decide_eq_true m1
        by_cases m2 : most < 0
        · have m2e : decide (r1 ≤ r1) = true := decide_eq_true (Int.le_refl _)
          have hwz2 : IntKind.i64.wrap r1 = r1 := IntWalk.i64_in _ (by omega)
          go_wp2
          obtain ⟨hP, hB⟩ := nx_none (m := most) (l := limit) hact rfl (by unfold nxN; dsimp only; omega)
          refine bodyPost_ret (v := .tuple #[.agg #[.int .i64 0, .string ⟨#[]⟩, .bool false], .bool false]) (by simp [results, Try.results45, go_sem, *]) rfl ⟨by rw [hP, hB]; rfl, Ext.go⟩
        by_cases m3 : most ≤ 0
        · skip
          have m2e : decide (r1 + most ≤ r1) = true := decide_eq_true (by omega)
          have hwz2 : IntKind.i64.wrap (r1 + most) = r1 + most := IntWalk.i64_in _ (by omega)
          go_wp2
          obtain ⟨hP, hB⟩ := nx_none (m := most) (l := limit) hact rfl (by unfold nxN; dsimp only; omega)
          refine bodyPost_ret (v := .tuple #[.agg #[.int .i64 0, .string ⟨#[]⟩, .bool false], .bool false]) (by simp [results, Try.results45, go_sem, *]) rfl ⟨by rw [hP, hB]; rfl, Ext.go⟩
        replace m3 : 0 < most := by omega
        have m4e : decide (r1 + most ≤ r1) = false := decide_eq_false (by omega)
        have hwa : IntKind.i64.wrap (r1 + most) = r1 + most := IntWalk.i64_in _ (by omega)
        have hwb : r1 + most - r1 = most := by omega
        have hwc : IntKind.i64.wrap most = most := IntWalk.i64_in _ (by omega)
        have hn0 : Hid (nxN (r1, r2) most limit = most) := hide (by unfold nxN; dsimp only; omega)
        by_cases hf1 : fk = 1
        · have hfe : (fk == 1) = true := by simp [hf1]
          replace hf1 := hide hf1
          go_wp2_with fail
          refine (pk_spec ⟨z, b, e, xs⟩ r1 (most) ar c1 _ (hx'.out.r.ext Ext.go) (by (try dsimp only); omega) (by (try dsimp only); omega)).mono ?_
          rintro en w2 ⟨rfl, hw2⟩
          have zw2 := hw2.size
          (try simp at zw2)
          have kw2_0 := hw2.more (k := w.heap.size) xpf
          obtain ⟨cw2_0, fw2_0⟩ := hw2.row (k := w.heap.size) xpf
          have kw2_1 := hw2.more (k := w.heap.size + 1) xpf
          obtain ⟨cw2_1, fw2_1⟩ := hw2.row (k := w.heap.size + 1) xpf
          have kw2_2 := hw2.more (k := w1.heap.size) xpf
          obtain ⟨cw2_2, fw2_2⟩ := hw2.row (k := w1.heap.size) xpf
          have kw2_3 := hw2.more (k := w1.heap.size + 1) xpf
          obtain ⟨cw2_3, fw2_3⟩ := hw2.row (k := w1.heap.size + 1) xpf
          have xw2 : Hid (Ext w w2) := hide (Ext.trans Ext.go hw2)
          go_wp2
          obtain ⟨hP, hB⟩ := nx_some (m := most) (l := limit) hact rfl hn0.out (by omega)
          refine bodyPost_ret (v := .tuple #[.agg #[.int .i64 r1, .string (pkS ⟨z, b, e, xs⟩ r1 (most)), .bool (r1 + (most) == fi)], .bool true]) (by simp [results, Try.results45, go_sem, *]) rfl ⟨?_, Ext.go⟩
          rw [hP, hB]
          dsimp only
          rw [decide_eq_true hf1.out, Bool.true_and, int_beq]
        · have hfe : (fk == 1) = false := by simp [hf1]
          replace hf1 := hide hf1
          go_wp2_with fail
          refine (pk_spec ⟨z, b, e, xs⟩ r1 (most) ar c1 _ (hx'.out.r.ext Ext.go) (by (try dsimp only); omega) (by (try dsimp only); omega)).mono ?_
          rintro en w2 ⟨rfl, hw2⟩
          have zw2 := hw2.size
          (try simp at zw2)
          have kw2_0 := hw2.more (k := w.heap.size) xpf
          obtain ⟨cw2_0, fw2_0⟩ := hw2.row (k := w.heap.size) xpf
          have kw2_1 := hw2.more (k := w.heap.size + 1) xpf
          obtain ⟨cw2_1, fw2_1⟩ := hw2.row (k := w.heap.size + 1) xpf
          have kw2_2 := hw2.more (k := w1.heap.size) xpf
          obtain ⟨cw2_2, fw2_2⟩ := hw2.row (k := w1.heap.size) xpf
          have kw2_3 := hw2.more (k := w1.heap.size + 1) xpf
          obtain ⟨cw2_3, fw2_3⟩ := hw2.row (k := w1.heap.size + 1) xpf
          have xw2 : Hid (Ext w w2) := hide (Ext.trans Ext.go hw2)
          go_wp2
          obtain ⟨hP, hB⟩ := nx_some (m := most) (l := limit) hact rfl hn0.out (by omega)
          refine bodyPost_ret (v := .tuple #[.agg #[.int .i64 r1, .string (pkS ⟨z, b, e, xs⟩ r1 (most)), .bool false], .bool true]) (by simp [results, Try.results45, go_sem, *]) rfl ⟨?_, Ext.go⟩
          rw [hP, hB]
          dsimp only
          rw [decide_eq_false hf1.out, Bool.false_and]
      have m1e : decide (most < limit - r1) = false := decide_eq_false m1
      have hwr : r1 + (limit - r1) = limit := by omega
      have hn0 : Hid (nxN (r1, r2) most limit = limit - r1) := hide (by unfold nxN; dsimp only; omega)
      by_cases hf1 : fk = 1
      · have hfe : (fk == 1) = true := by simp [hf1]
        replace hf1 := hide hf1
        go_wp2_with fail
        refine (pk_spec ⟨z, b, e, xs⟩ r1 (limit - r1) ar c1 _ (hx'.out.r.ext Ext.go) (by (try dsimp only); omega) (by (try dsimp only); omega)).mono ?_
        rintro en w2 ⟨rfl, hw2⟩
        have zw2 := hw2.size
        (try simp at zw2)
        have kw2_0 := hw2.more (k := w.heap.size) xpf
        obtain ⟨cw2_0, fw2_0⟩ := hw2.row (k := w.heap.size) xpf
        have kw2_1 := hw2.more (k := w.heap.size + 1) xpf
        obtain ⟨cw2_1, fw2_1⟩ := hw2.row (k := w.heap.size + 1) xpf
        have kw2_2 := hw2.more (k := w1.heap.size) xpf
        obtain ⟨cw2_2, fw2_2⟩ := hw2.row (k := w1.heap.size) xpf
        have kw2_3 := hw2.more (k := w1.heap.size + 1) xpf
        obtain ⟨cw2_3, fw2_3⟩ := hw2.row (k := w1.heap.size + 1) xpf
        have xw2 : Hid (Ext w w2) := hide (Ext.trans Ext.go hw2)
        go_wp2
        obtain ⟨hP, hB⟩ := nx_some (m := most) (l := limit) hact rfl hn0.out (by omega)
        refine bodyPost_ret (v := .tuple #[.agg #[.int .i64 r1, .string (pkS ⟨z, b, e, xs⟩ r1 (limit - r1)), .bool (r1 + (limit - r1) == fi)], .bool true]) (by simp [results, Try.results45, go_sem, *]) rfl ⟨?_, Ext.go⟩
        rw [hP, hB]
        dsimp only
        rw [decide_eq_true hf1.out, Bool.true_and, int_beq]
      · have hfe : (fk == 1) = false := by simp [hf1]
        replace hf1 := hide hf1
        go_wp2_with fail
        refine (pk_spec ⟨z, b, e, xs⟩ r1 (limit - r1) ar c1 _ (hx'.out.r.ext Ext.go) (by (try dsimp only); omega) (by (try dsimp only); omega)).mono ?_
        rintro en w2 ⟨rfl, hw2⟩
        have zw2 := hw2.size
        (try simp at zw2)
        have kw2_0 := hw2.more (k := w.heap.size) xpf
        obtain ⟨cw2_0, fw2_0⟩ := hw2.row (k := w.heap.size) xpf
        have kw2_1 := hw2.more (k := w.heap.size + 1) xpf
        obtain ⟨cw2_1, fw2_1⟩ := hw2.row (k := w.heap.size + 1) xpf
        have kw2_2 := hw2.more (k := w1.heap.size) xpf
        obtain ⟨cw2_2, fw2_2⟩ := hw2.row (k := w1.heap.size) xpf
        have kw2_3 := hw2.more (k := w1.heap.size + 1) xpf
        obtain ⟨cw2_3, fw2_3⟩ := hw2.row (k := w1.heap.size + 1) xpf
        have xw2 : Hid (Ext w w2) := hide (Ext.trans Ext.go hw2)
        go_wp2
        obtain ⟨hP, hB⟩ := nx_some (m := most) (l := limit) hact rfl hn0.out (by omega)
        refine bodyPost_ret (v := .tuple #[.agg #[.int .i64 r1, .string (pkS ⟨z, b, e, xs⟩ r1 (limit - r1)), .bool false], .bool true]) (by simp [results, Try.results45, go_sem, *]) rfl ⟨?_, Ext.go⟩
        rw [hP, hB]
        dsimp only
        rw [decide_eq_false hf1.out, Bool.false_and]
    · have hw1_ : IntKind.i64.wrap (r2 - r1) = r2 - r1 := IntWalk.i64_in _ (by omega)
      have l2e : decide (r2 ≤ r1) = false := decide_eq_false (by omega)
      by_cases m1 : most < r2 - r1
      · have m1e : decide (most < r2 - r1) = true := decide_eq_true m1
        by_cases m2 : most < 0
        · have m2e : decide (r1 ≤ r1) = true := decide_eq_true (Int.le_refl _)
          have hwz2 : IntKind.i64.wrap r1 = r1 := IntWalk.i64_in _ (by omega)
          go_wp2
          obtain ⟨hP, hB⟩ := nx_none (m := most) (l := limit) hact rfl (by unfold nxN; dsimp only; omega)
          refine bodyPost_ret (v := .tuple #[.agg #[.int .i64 0, .string ⟨#[]⟩, .bool false], .bool false]) (by simp [results, Try.results45, go_sem, *]) rfl ⟨by rw [hP, hB]; rfl, Ext.go⟩
        by_cases m3 : most ≤ 0
        · skip
          have m2e : decide (r1 + most ≤ r1) = true := decide_eq_true (by omega)
          have hwz2 : IntKind.i64.wrap (r1 + most) = r1 + most := IntWalk.i64_in _ (by omega)
          go_wp2
          obtain ⟨hP, hB⟩ := nx_none (m := most) (l := limit) hact rfl (by unfold nxN; dsimp only; omega)
          refine bodyPost_ret (v := .tuple #[.agg #[.int .i64 0, .string ⟨#[]⟩, .bool false], .bool false]) (by simp [results, Try.results45, go_sem, *]) rfl ⟨by rw [hP, hB]; rfl, Ext.go⟩
        replace m3 : 0 < most := by omega
        have m4e : decide (r1 + most ≤ r1) = false := decide_eq_false (by omega)
        have hwa : IntKind.i64.wrap (r1 + most) = r1 + most := IntWalk.i64_in _ (by omega)
        have hwb : r1 + most - r1 = most := by omega
        have hwc : IntKind.i64.wrap most = most := IntWalk.i64_in _ (by omega)
        have hn0 : Hid (nxN (r1, r2) most limit = most) := hide (by unfold nxN; dsimp only; omega)
        by_cases hf1 : fk = 1
        · have hfe : (fk == 1) = true := by simp [hf1]
          replace hf1 := hide hf1
          go_wp2_with fail
          refine (pk_spec ⟨z, b, e, xs⟩ r1 (most) ar c1 _ (hx'.out.r.ext Ext.go) (by (try dsimp only); omega) (by (try dsimp only); omega)).mono ?_
          rintro en w2 ⟨rfl, hw2⟩
          have zw2 := hw2.size
          (try simp at zw2)
          have kw2_0 := hw2.more (k := w.heap.size) xpf
          obtain ⟨cw2_0, fw2_0⟩ := hw2.row (k := w.heap.size) xpf
          have kw2_1 := hw2.more (k := w.heap.size + 1) xpf
          obtain ⟨cw2_1, fw2_1⟩ := hw2.row (k := w.heap.size + 1) xpf
          have kw2_2 := hw2.more (k := w1.heap.size) xpf
          obtain ⟨cw2_2, fw2_2⟩ := hw2.row (k := w1.heap.size) xpf
          have kw2_3 := hw2.more (k := w1.heap.size + 1) xpf
          obtain ⟨cw2_3, fw2_3⟩ := hw2.row (k := w1.heap.size + 1) xpf
          have xw2 : Hid (Ext w w2) := hide (Ext.trans Ext.go hw2)
          go_wp2
          obtain ⟨hP, hB⟩ := nx_some (m := most) (l := limit) hact rfl hn0.out (by omega)
          refine bodyPost_ret (v := .tuple #[.agg #[.int .i64 r1, .string (pkS ⟨z, b, e, xs⟩ r1 (most)), .bool (r1 + (most) == fi)], .bool true]) (by simp [results, Try.results45, go_sem, *]) rfl ⟨?_, Ext.go⟩
          rw [hP, hB]
          dsimp only
          rw [decide_eq_true hf1.out, Bool.true_and, int_beq]
        · have hfe : (fk == 1) = false := by simp [hf1]
          replace hf1 := hide hf1
          go_wp2_with fail
          refine (pk_spec ⟨z, b, e, xs⟩ r1 (most) ar c1 _ (hx'.out.r.ext Ext.go) (by (try dsimp only); omega) (by (try dsimp only); omega)).mono ?_
          rintro en w2 ⟨rfl, hw2⟩
          have zw2 := hw2.size
          (try simp at zw2)
          have kw2_0 := hw2.more (k := w.heap.size) xpf
          obtain ⟨cw2_0, fw2_0⟩ := hw2.row (k := w.heap.size) xpf
          have kw2_1 := hw2.more (k := w.heap.size + 1) xpf
          obtain ⟨cw2_1, fw2_1⟩ := hw2.row (k := w.heap.size + 1) xpf
          have kw2_2 := hw2.more (k := w1.heap.size) xpf
          obtain ⟨cw2_2, fw2_2⟩ := hw2.row (k := w1.heap.size) xpf
          have kw2_3 := hw2.more (k := w1.heap.size + 1) xpf
          obtain ⟨cw2_3, fw2_3⟩ := hw2.row (k := w1.heap.size + 1) xpf
          have xw2 : Hid (Ext w w2) := hide (Ext.trans Ext.go hw2)
          go_wp2
          obtain ⟨hP, hB⟩ := nx_some (m := most) (l := limit) hact rfl hn0.out (by omega)
          refine bodyPost_ret (v := .tuple #[.agg #[.int .i64 r1, .string (pkS ⟨z, b, e, xs⟩ r1 (most)), .bool false], .bool true]) (by simp [results, Try.results45, go_sem, *]) rfl ⟨?_, Ext.go⟩
          rw [hP, hB]
          dsimp only
          rw [decide_eq_false hf1.out, Bool.false_and]
      have m1e : decide (most < r2 - r1) = false := decide_eq_false m1
      have hwr : r1 + (r2 - r1) = r2 := by omega
      have hn0 : Hid (nxN (r1, r2) most limit = r2 - r1) := hide (by unfold nxN; dsimp only; omega)
      by_cases hf1 : fk = 1
      · have hfe : (fk == 1) = true := by simp [hf1]
        replace hf1 := hide hf1
        go_wp2_with fail
        refine (pk_spec ⟨z, b, e, xs⟩ r1 (r2 - r1) ar c1 _ (hx'.out.r.ext Ext.go) (by (try dsimp only); omega) (by (try dsimp only); omega)).mono ?_
        rintro en w2 ⟨rfl, hw2⟩
        have zw2 := hw2.size
        (try simp at zw2)
        have kw2_0 := hw2.more (k := w.heap.size) xpf
        obtain ⟨cw2_0, fw2_0⟩ := hw2.row (k := w.heap.size) xpf
        have kw2_1 := hw2.more (k := w.heap.size + 1) xpf
        obtain ⟨cw2_1, fw2_1⟩ := hw2.row (k := w.heap.size + 1) xpf
        have kw2_2 := hw2.more (k := w1.heap.size) xpf
        obtain ⟨cw2_2, fw2_2⟩ := hw2.row (k := w1.heap.size) xpf
        have kw2_3 := hw2.more (k := w1.heap.size + 1) xpf
        obtain ⟨cw2_3, fw2_3⟩ := hw2.row (k := w1.heap.size + 1) xpf
        have xw2 : Hid (Ext w w2) := hide (Ext.trans Ext.go hw2)
        go_wp2
        obtain ⟨hP, hB⟩ := nx_some (m := most) (l := limit) hact rfl hn0.out (by omega)
        refine bodyPost_ret (v := .tuple #[.agg #[.int .i64 r1, .string (pkS ⟨z, b, e, xs⟩ r1 (r2 - r1)), .bool (r1 + (r2 - r1) == fi)], .bool true]) (by simp [results, Try.results45, go_sem, *]) rfl ⟨?_, Ext.go⟩
        rw [hP, hB]
        dsimp only
        rw [decide_eq_true hf1.out, Bool.true_and, int_beq]
      · have hfe : (fk == 1) = false := by simp [hf1]
        replace hf1 := hide hf1
        go_wp2_with fail
        refine (pk_spec ⟨z, b, e, xs⟩ r1 (r2 - r1) ar c1 _ (hx'.out.r.ext Ext.go) (by (try dsimp only); omega) (by (try dsimp only); omega)).mono ?_
        rintro en w2 ⟨rfl, hw2⟩
        have zw2 := hw2.size
        (try simp at zw2)
        have kw2_0 := hw2.more (k := w.heap.size) xpf
        obtain ⟨cw2_0, fw2_0⟩ := hw2.row (k := w.heap.size) xpf
        have kw2_1 := hw2.more (k := w.heap.size + 1) xpf
        obtain ⟨cw2_1, fw2_1⟩ := hw2.row (k := w.heap.size + 1) xpf
        have kw2_2 := hw2.more (k := w1.heap.size) xpf
        obtain ⟨cw2_2, fw2_2⟩ := hw2.row (k := w1.heap.size) xpf
        have kw2_3 := hw2.more (k := w1.heap.size + 1) xpf
        obtain ⟨cw2_3, fw2_3⟩ := hw2.row (k := w1.heap.size + 1) xpf
        have xw2 : Hid (Ext w w2) := hide (Ext.trans Ext.go hw2)
        go_wp2
        obtain ⟨hP, hB⟩ := nx_some (m := most) (l := limit) hact rfl hn0.out (by omega)
        refine bodyPost_ret (v := .tuple #[.agg #[.int .i64 r1, .string (pkS ⟨z, b, e, xs⟩ r1 (r2 - r1)), .bool false], .bool true]) (by simp [results, Try.results45, go_sem, *]) rfl ⟨?_, Ext.go⟩
        rw [hP, hB]
        dsimp only
        rw [decide_eq_false hf1.out, Bool.false_and]
end
end Go.Proofs.Ytjhgcbchdnoleaa

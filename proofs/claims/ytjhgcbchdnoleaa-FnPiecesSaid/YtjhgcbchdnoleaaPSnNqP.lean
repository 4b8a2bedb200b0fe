/-
  Part of the proof: SnN.
-/
import Derived.Test.YtjhgcbchdnoleaaPNrg
import Derived.Test.YtjhgcbchdnoleaaPSnIqP
import Derived.Test.YtjhgcbchdnoleaaPSnN
namespace Go.Proofs.Ytjhgcbchdnoleaa
section
open Go.ChangeShapes Go.WideShapes Go.ChangeAt Go.RowKit
set_option linter.unusedSimpArgs false
set_option linter.unusedVariables false
set_option maxHeartbeats 4000000 in
set_option maxRecDepth 100000 in
theorem NextPiece_impl (s : Sn) (a : Ads) (c1 c2 c3 c4 : Nat) (most limit : Int) (w : World) (hx : ReadSnd w a ⟨s.xs, s.p, s.f, s.k⟩) (hl : s.xs.length ≤ 1048576) (hsum : s.p.length + s.f.length + s.k.length ≤ 1048576) (he : s.e ≤ 9223372036854775807) (hm0 : -1000000 ≤ most ∧ most ≤ 1000000) (hl0 : -1000000 ≤ limit ∧ limit ≤ 1000000) :
    Calls Try.prog 44 #[.agg #[.int .i64 s.st, .int .i64 s.z, .int .i64 s.b, .int .i64 s.e, .slice a.r s.xs.length c1, .slice a.p s.p.length c2, .slice a.f s.f.length c3, .slice a.k s.k.length c4, .int .i64 s.fi, .int .i64 s.fk, .int .i64 s.se, .int .i64 s.co], .int .i64 most, .int .i64 limit] w fun en w' => en = .returned (.tuple #[.agg #[.int .i64 (nxP (sndI s) s most limit).off, .string (nxP (sndI s) s most limit).d, .bool (nxP (sndI s) s most limit).fin], .bool (nxB (sndI s) s most limit)]) ∧ Ext w w' := by
  rcases Bool.eq_false_or_eq_true (sndI s) with hv | hv
  rotate_left
  · skip
    have hact : actV (sndI s) s = false := by
      rw [Bool.eq_false_iff]
      intro h
      have := actV_iff.1 h
      simp_all <;> omega
    obtain ⟨st, z, b, e, xs, p, f, k, fi, fk, se, co⟩ := s
    obtain ⟨ar, ap, af, ak⟩ := a
    dsimp only at *
    have hx' := hide hx
    clear hx
    go_enter Try.func44, Try.ntmps44
    go_wp2_with fail
    refine (isActive_impl ⟨st, z, b, e, xs, p, f, k, fi, fk, se, co⟩ ⟨ar, ap, af, ak⟩ c1 c2 c3 c4 _ (hx'.out.ext Ext.go) hl hsum).mono ?_
    rintro en w1 ⟨rfl, hw1⟩
    have zw1 := hw1.size
    (try simp at zw1)
    have kw1_0 := hw1.more (k := w.heap.size) xpf
    obtain ⟨cw1_0, fw1_0⟩ := hw1.row (k := w.heap.size) xpf
    have kw1_1 := hw1.more (k := w.heap.size + 1) xpf
    obtain ⟨cw1_1, fw1_1⟩ := hw1.row (k := w.heap.size + 1) xpf
    have xw1 : Hid (Ext w w1) := hide (Ext.trans Ext.go hw1)
    rw [hact]
    go_wp2
    obtain ⟨hP, hB⟩ := nx_no (m := most) (l := limit) hact
    refine bodyPost_ret (v := .tuple #[.agg #[.int .i64 0, .string ⟨#[]⟩, .bool false], .bool false]) (by simp [results, Try.results44, go_sem, *]) rfl ⟨by rw [hP, hB]; rfl, Ext.go⟩
  have hst := sndI_st hv
  by_cases h2 : s.st ≤ 2
  rotate_left
  · skip
    have h2e : decide (2 < s.st) = true := decide_eq_true (by omega)
    have hact : actV (sndI s) s = false := by
      rw [Bool.eq_false_iff]
      intro h
      have := actV_iff.1 h
      simp_all <;> omega
    replace h2 := hide h2
    obtain ⟨st, z, b, e, xs, p, f, k, fi, fk, se, co⟩ := s
    obtain ⟨ar, ap, af, ak⟩ := a
    dsimp only at *
    have hx' := hide hx
    clear hx
    go_enter Try.func44, Try.ntmps44
    go_wp2_with fail
    refine (isActive_impl ⟨st, z, b, e, xs, p, f, k, fi, fk, se, co⟩ ⟨ar, ap, af, ak⟩ c1 c2 c3 c4 _ (hx'.out.ext Ext.go) hl hsum).mono ?_
    rintro en w1 ⟨rfl, hw1⟩
    have zw1 := hw1.size
    (try simp at zw1)
    have kw1_0 := hw1.more (k := w.heap.size) xpf
    obtain ⟨cw1_0, fw1_0⟩ := hw1.row (k := w.heap.size) xpf
    have kw1_1 := hw1.more (k := w.heap.size + 1) xpf
    obtain ⟨cw1_1, fw1_1⟩ := hw1.row (k := w.heap.size + 1) xpf
    have xw1 : Hid (Ext w w1) := hide (Ext.trans Ext.go hw1)
    rw [hact]
    go_wp2
    obtain ⟨hP, hB⟩ := nx_no (m := most) (l := limit) hact
    refine bodyPost_ret (v := .tuple #[.agg #[.int .i64 0, .string ⟨#[]⟩, .bool false], .bool false]) (by simp [results, Try.results44, go_sem, *]) rfl ⟨by rw [hP, hB]; rfl, Ext.go⟩
  have h2e : decide (2 < s.st) = false := decide_eq_false (by omega)
  have hact : actV (sndI s) s = true := actV_iff.2 ⟨hv, by omega, by omega⟩
  have hrb := isRing_bd (sndI_hd hv).ring
  have hrp := (sndI_hd hv).rp
  have hfi := sndI_fi hv h2
  replace hfi := hide hfi
  rcases hp : s.p with _ | ⟨⟨r1, r2⟩, t⟩
  · skip
    by_cases hf1 : s.fk = 1
    · skip
      have hfe : (s.fk == 1) = true := by simp [hf1]
      have hfi2 : s.fi = s.e := by rw [hfi.out, if_neg (by omega)]
      have hfw : IntKind.i64.wrap s.fi = s.fi := IntWalk.i64_in _ (by omega)
      have hf0 : ¬ s.fi < 0 := by omega
      replace hf1 := hide hf1
      replace hp := hide hp
      replace hfi2 := hide hfi2
      obtain ⟨st, z, b, e, xs, p, f, k, fi, fk, se, co⟩ := s
      obtain ⟨ar, ap, af, ak⟩ := a
      dsimp only at *
      have hpl := hp.out
      subst hpl
      have hx' := hide hx
      clear hx
      go_enter Try.func44, Try.ntmps44
      go_wp2_with fail
      refine (isActive_impl ⟨st, z, b, e, xs, [], f, k, fi, fk, se, co⟩ ⟨ar, ap, af, ak⟩ c1 c2 c3 c4 _ (hx'.out.ext Ext.go) hl hsum).mono ?_
      rintro en w1 ⟨rfl, hw1⟩
      have zw1 := hw1.size
      (try simp at zw1)
      have kw1_0 := hw1.more (k := w.heap.size) xpf
      obtain ⟨cw1_0, fw1_0⟩ := hw1.row (k := w.heap.size) xpf
      have kw1_1 := hw1.more (k := w.heap.size + 1) xpf
      obtain ⟨cw1_1, fw1_1⟩ := hw1.row (k := w.heap.size + 1) xpf
      have xw1 : Hid (Ext w w1) := hide (Ext.trans Ext.go hw1)
      rw [hact]
      go_wp2_with fail
      refine wp_region_flowC (fun b => b = w.heap.size + 1) 17 [(0, 1), (1, 1), (2, 1), (3, 1), (4, 1), (5, 1), (8, 1), (9, 1), (10, 1), (12, 1), (13, 1), (14, 1), (6, 0), (7, 1), (11, 1), (15, 0), (16, 1)] (by kernel_rfl) (by kernel_rfl) ?_
      (refine wpC_pure (v := ?_) rfl rfl (by rfl) ?_ ?_; rotate_left; (focus (intro ws hws; go_simp; (try with_reducible rfl); done)))
      try simp only [nrm, nrg]
      (refine wpC_pure (v := ?_) rfl rfl (by rfl) ?_ ?_; rotate_left; (focus (intro ws hws; obtain ⟨q0, p0⟩ := hws.row (k := w.heap.size) xpf xom; go_simp; (try with_reducible rfl); done)))
      try simp only [nrm, nrg]
      refine wpC_pure (v := (.int .i64 fi)) rfl rfl (by rfl) ?_ ?_
      focus (intro ws hws; go_simp; (try omega))
      try simp only [nrm, nrg]
      (refine wpC_pure (v := ?_) rfl rfl (by rfl) ?_ ?_; rotate_left; (focus (intro ws hws; go_simp; (try with_reducible rfl); done)))
      try simp only [nrm, nrg]
      (refine wpC_pure (v := ?_) rfl rfl (by rfl) ?_ ?_; rotate_left; (focus (intro ws hws; obtain ⟨q0, p0⟩ := hws.row (k := w.heap.size) xpf xom; go_simp; (try with_reducible rfl); done)))
      try simp only [nrm, nrg]
      iterate 2 ((refine wpC_pure (v := ?_) rfl rfl (by rfl) ?_ ?_; rotate_left; (focus (intro ws hws; go_simp; (try with_reducible rfl); done))); try simp only [nrm, nrg])
      (refine wpC_pure (v := ?_) rfl rfl (by rfl) ?_ ?_; rotate_left; (focus (intro ws hws; obtain ⟨q0, p0⟩ := hws.row (k := w.heap.size) xpf xom; go_simp; (try with_reducible rfl); done)))
      try simp only [nrm, nrg]
      iterate 2 ((refine wpC_pure (v := ?_) rfl rfl (by rfl) ?_ ?_; rotate_left; (focus (intro ws hws; go_simp; (try with_reducible rfl); done))); try simp only [nrm, nrg])
      (refine wpC_pure (v := ?_) rfl rfl (by rfl) ?_ ?_; rotate_left; (focus (intro ws hws; obtain ⟨q0, p0⟩ := hws.row (k := w.heap.size) xpf xom; go_simp; (try with_reducible rfl); done)))
      try simp only [nrm, nrg]
      (refine wpC_pure (v := ?_) rfl rfl (by rfl) ?_ ?_; rotate_left; (focus (intro ws hws; go_simp; (try with_reducible rfl); done)))
      try simp only [nrm, nrg]
      (refine wpC_call 102 ?_ rfl rfl (by rfl) ?_ ?_; rotate_left; (focus (go_simp; (try with_reducible rfl); done)))
      refine (one_any true _).mono ?_
      rintro en w2 ⟨rfl, hw2⟩
      refine ⟨_, rfl, (Ext.chg hw2 _), ?_⟩
      try simp only [nrm, nrg]
      have zw2 := hw2.size
      (try simp at zw2)
      have kw2_0 := hw2.more (k := w.heap.size) xpf
      obtain ⟨cw2_0, fw2_0⟩ := hw2.row (k := w.heap.size) xpf
      have kw2_1 := hw2.more (k := w.heap.size + 1) xpf
      obtain ⟨cw2_1, fw2_1⟩ := hw2.row (k := w.heap.size + 1) xpf
      have xw2 : Hid (Ext w w2) := hide (Ext.trans Ext.go hw2)
      simp only [Bool.false_eq_true, ↓reduceIte]
      iterate 2 ((refine wpC_pure (v := ?_) rfl rfl (by rfl) ?_ ?_; rotate_left; (focus (intro ws hws; go_simp; (try with_reducible rfl); done))); try simp only [nrm, nrg])
      (refine wpC_store ?_ rfl rfl (by rfl) ?_ ?_ ?_; rotate_left; (focus (go_simp; (try with_reducible rfl); done)))
      · exact Chg.go
      try simp only [nrm, nrg]
      (refine wpC_pure (v := ?_) rfl rfl (by rfl) ?_ ?_; rotate_left; (focus (intro ws hws; go_simp; (try with_reducible rfl); done)))
      try simp only [nrm, nrg]
      refine wpF_done rfl ?_
      simp only [List.drop_succ_cons, List.drop_zero, List.drop_nil]
      go_wp2
      obtain ⟨hP, hB⟩ := nx_nil1 (m := most) (l := limit) hact rfl hf1.out
      refine bodyPost_ret (v := .tuple #[.agg #[.int .i64 fi, .string ⟨#[]⟩, .bool true], .bool true]) (by simp [results, Try.results44, go_sem, *]) rfl ⟨by rw [hP, hB], Ext.go⟩
    · skip
      have hfe : (s.fk == 1) = false := by simp [hf1]
      obtain ⟨M, hM⟩ : ∃ M : Int, Hid (M = max s.fi 0) := ⟨_, hide rfl⟩
      have hw0 : IntKind.i64.wrap 0 = 0 := IntWalk.i64_in _ (by omega)
      replace hf1 := hide hf1
      replace hp := hide hp
      obtain ⟨st, z, b, e, xs, p, f, k, fi, fk, se, co⟩ := s
      obtain ⟨ar, ap, af, ak⟩ := a
      dsimp only at *
      have hpl := hp.out
      subst hpl
      have hx' := hide hx
      clear hx
      go_enter Try.func44, Try.ntmps44
      go_wp2_with fail
      refine (isActive_impl ⟨st, z, b, e, xs, [], f, k, fi, fk, se, co⟩ ⟨ar, ap, af, ak⟩ c1 c2 c3 c4 _ (hx'.out.ext Ext.go) hl hsum).mono ?_
      rintro en w1 ⟨rfl, hw1⟩
      have zw1 := hw1.size
      (try simp at zw1)
      have kw1_0 := hw1.more (k := w.heap.size) xpf
      obtain ⟨cw1_0, fw1_0⟩ := hw1.row (k := w.heap.size) xpf
      have kw1_1 := hw1.more (k := w.heap.size + 1) xpf
      obtain ⟨cw1_1, fw1_1⟩ := hw1.row (k := w.heap.size + 1) xpf
      have xw1 : Hid (Ext w w1) := hide (Ext.trans Ext.go hw1)
      rw [hact]
      go_wp2_with fail
      refine wp_region_flowC (fun b => b = w.heap.size + 1) 17 [(0, 1), (1, 1), (2, 1), (3, 1), (4, 1), (5, 1), (8, 1), (9, 1), (10, 1), (12, 1), (13, 1), (14, 1), (6, 0), (7, 1), (11, 1), (15, 0), (16, 1)] (by kernel_rfl) (by kernel_rfl) ?_
      (refine wpC_pure (v := ?_) rfl rfl (by rfl) ?_ ?_; rotate_left; (focus (intro ws hws; go_simp; (try with_reducible rfl); done)))
      try simp only [nrm, nrg]
      (refine wpC_pure (v := ?_) rfl rfl (by rfl) ?_ ?_; rotate_left; (focus (intro ws hws; obtain ⟨q0, p0⟩ := hws.row (k := w.heap.size) xpf xom; go_simp; (try with_reducible rfl); done)))
      try simp only [nrm, nrg]
      refine wpC_pure (v := (.int .i64 M)) rfl rfl (by rfl) ?_ ?_
      focus (intro ws hws; (rcases Decidable.em (fi < 0) with hle | hle <;> first | (have hmm : M = 0 := (by rw [hM.out]; omega); rw [hmm]; go_simp; (try omega); done) | (have hmm : M = fi := (by rw [hM.out]; omega); rw [hmm]; go_simp; (try omega); done)))
      try simp only [nrm, nrg]
      (refine wpC_pure (v := ?_) rfl rfl (by rfl) ?_ ?_; rotate_left; (focus (intro ws hws; go_simp; (try with_reducible rfl); done)))
      try simp only [nrm, nrg]
      (refine wpC_pure (v := ?_) rfl rfl (by rfl) ?_ ?_; rotate_left; (focus (intro ws hws; obtain ⟨q0, p0⟩ := hws.row (k := w.heap.size) xpf xom; go_simp; (try with_reducible rfl); done)))
      try simp only [nrm, nrg]
      iterate 2 ((refine wpC_pure (v := ?_) rfl rfl (by rfl) ?_ ?_; rotate_left; (focus (intro ws hws; go_simp; (try with_reducible rfl); done))); try simp only [nrm, nrg])
      (refine wpC_pure (v := ?_) rfl rfl (by rfl) ?_ ?_; rotate_left; (focus (intro ws hws; obtain ⟨q0, p0⟩ := hws.row (k := w.heap.size) xpf xom; go_simp; (try with_reducible rfl); done)))
      try simp only [nrm, nrg]
      iterate 2 ((refine wpC_pure (v := ?_) rfl rfl (by rfl) ?_ ?_; rotate_left; (focus (intro ws hws; go_simp; (try with_reducible rfl); done))); try simp only [nrm, nrg])
      (refine wpC_pure (v := ?_) rfl rfl (by rfl) ?_ ?_; rotate_left; (focus (intro ws hws; obtain ⟨q0, p0⟩ := hws.row (k := w.heap.size) xpf xom; go_simp; (try with_reducible rfl); done)))
      try simp only [nrm, nrg]
      (refine wpC_pure (v := ?_) rfl rfl (by rfl) ?_ ?_; rotate_left; (focus (intro ws hws; go_simp; (try with_reducible rfl); done)))
      try simp only [nrm, nrg]
      (refine wpC_call 102 ?_ rfl rfl (by rfl) ?_ ?_; rotate_left; (focus (go_simp; (try with_reducible rfl); done)))
      refine (one_any false _).mono ?_
      rintro en w2 ⟨rfl, hw2⟩
      refine ⟨_, rfl, (Ext.chg hw2 _), ?_⟩
      try simp only [nrm, nrg]
      have zw2 := hw2.size
      (try simp at zw2)
      have kw2_0 := hw2.more (k := w.heap.size) xpf
      obtain ⟨cw2_0, fw2_0⟩ := hw2.row (k := w.heap.size) xpf
      have kw2_1 := hw2.more (k := w.heap.size + 1) xpf
      obtain ⟨cw2_1, fw2_1⟩ := hw2.row (k := w.heap.size + 1) xpf
      have xw2 : Hid (Ext w w2) := hide (Ext.trans Ext.go hw2)
      simp only [Bool.false_eq_true, ↓reduceIte]
      iterate 2 ((refine wpC_pure (v := ?_) rfl rfl (by rfl) ?_ ?_; rotate_left; (focus (intro ws hws; go_simp; (try with_reducible rfl); done))); try simp only [nrm, nrg])
      (refine wpC_store ?_ rfl rfl (by rfl) ?_ ?_ ?_; rotate_left; (focus (go_simp; (try with_reducible rfl); done)))
      · exact Chg.go
      try simp only [nrm, nrg]
      (refine wpC_pure (v := ?_) rfl rfl (by rfl) ?_ ?_; rotate_left; (focus (intro ws hws; go_simp; (try with_reducible rfl); done)))
      try simp only [nrm, nrg]
      refine wpF_done rfl ?_
      simp only [List.drop_succ_cons, List.drop_zero, List.drop_nil]
      go_wp2
      obtain ⟨hP, hB⟩ := nx_nil0 (m := most) (l := limit) hact rfl hf1.out
      refine bodyPost_ret (v := .tuple #[.agg #[.int .i64 0, .string ⟨#[]⟩, .bool false], .bool false]) (by simp [results, Try.results44, go_sem, *]) rfl ⟨by rw [hP, hB]; rfl, Ext.go⟩
  · skip
    rw [hp] at hrp
    have hr0 := rgs_at hrp (k := 0) (by simp)
    simp only [List.getD_cons_zero] at hr0
    obtain ⟨q1, q2, q3⟩ := hr0
    clear hrp
    replace hp := hide hp
    obtain ⟨st, z, b, e, xs, p, f, k, fi, fk, se, co⟩ := s
    obtain ⟨ar, ap, af, ak⟩ := a
    dsimp only at *
    have hpl := hp.out
    subst hpl
    have hx' := hide hx
    clear hx
    rcases hx'.out.p with hnil | ⟨bx, off, hab, hcx⟩
    · simp at hnil
    dsimp only at hab
    subst hab
    obtain ⟨cx, cx2⟩ := hcx 0 (by simp)
    simp only [Nat.zero_mul, Nat.add_zero, List.getD_cons_zero] at cx cx2
    have la : bx < w.heap.size := World.block_lt_of_cell? w _ cx
    clear hcx
    go_enter Try.func44, Try.ntmps44
    go_wp2_with fail
    refine (isActive_impl ⟨st, z, b, e, xs, (r1, r2) :: t, f, k, fi, fk, se, co⟩ ⟨ar, some ⟨bx, off, none⟩, af, ak⟩ c1 c2 c3 c4 _ (hx'.out.ext Ext.go) hl hsum).mono ?_
    rintro en w1 ⟨rfl, hw1⟩
    have zw1 := hw1.size
    (try simp at zw1)
    have kw1_0 := hw1.more (k := w.heap.size) xpf
    obtain ⟨cw1_0, fw1_0⟩ := hw1.row (k := w.heap.size) xpf
    have kw1_1 := hw1.more (k := w.heap.size + 1) xpf
    obtain ⟨cw1_1, fw1_1⟩ := hw1.row (k := w.heap.size + 1) xpf
    have xw1 : Hid (Ext w w1) := hide (Ext.trans Ext.go hw1)
    rw [hact]
    obtain ⟨ox, oy⟩ := (xw1.out.row (k := bx) la)
    have dx := (ox _).trans cx
    have dx2 := (ox _).trans cx2
    clear ox oy cx cx2
    have lw : bx < w1.heap.size := by omega
    have hne : bx ≠ w1.heap.size := by omega
    have hne2 : bx ≠ w1.heap.size + 1 := by omega
    have hne3 : bx ≠ w.heap.size := by omega
    have hne4 : bx ≠ w.heap.size + 1 := by omega
    have lw2 : bx < w1.heap.size + 1 := by omega
    have hlen : (0 : Int) < ((t.length + 1 : Nat) : Int) := by omega
    have hlen2 : (((t.length + 1 : Nat) : Int) == 0) = false := by simp; omega
    have hlen3 : (0 : Int) < (t.length : Int) + 1 := by omega
    have hlen4 : ((t.length : Int) + 1 == 0) = false := by simp; omega
    have hlen5 : decide ((0 : Int) < (t.length : Int) + 1) = true := decide_eq_true (by omega)
    have hwd : IntKind.i64.wrap (r2 - r1) = r2 - r1 := IntWalk.i64_in _ (by omega)
    have hwl : IntKind.i64.wrap (limit - r1) = limit - r1 := IntWalk.i64_in _ (by omega)
    by_cases l2 : limit ≤ r1
    · have l2e : decide (limit ≤ r1) = true := decide_eq_true l2
      by_cases m1 : most < r2 - r1
      · skip
        go_wp2
        obtain ⟨hP, hB⟩ := nx_none (m := most) (l := limit) hact rfl (by unfold nxN; dsimp only; omega)
        refine bodyPost_ret (v := .tuple #[.agg #[.int .i64 0, .string ⟨#[]⟩, .bool false], .bool false]) (by simp [results, Try.results44, go_sem, *]) rfl ⟨by rw [hP, hB]; rfl, Ext.go⟩
      · skip
        go_wp2
        obtain ⟨hP, hB⟩ := nx_none (m := most) (l := limit) hact rfl (by unfold nxN; dsimp only; omega)
        refine bodyPost_ret (v := .tuple #[.agg #[.int .i64 0, .string ⟨#[]⟩, .bool false], .bool false]) (by simp [results, Try.results44, go_sem, *]) rfl ⟨by rw [hP, hB]; rfl, Ext.go⟩
    have l2e : decide (limit ≤ r1) = false := decide_eq_false l2
    by_cases m1 : most < r2 - r1
    · have hwa : IntKind.i64.wrap (r1 + most) = r1 + most := (by rw [show r1 + (most) = r1 + most from by omega]; exact IntWalk.i64_in _ (by omega))
      by_cases l3 : limit < r1 + most
      · have l3e : decide (limit < r1 + most) = true := decide_eq_true l3
        have l4e : decide (limit - r1 ≤ 0) = false := decide_eq_false (by omega)
        have hwr : r1 + (limit - r1) = limit := by omega
        have hwr2 : IntKind.i64.wrap limit = limit := IntWalk.i64_in _ (by omega)
        have hn0 : Hid (nxN (r1, r2) most limit = limit - r1) := hide (by unfold nxN; dsimp only; omega)
        by_cases hf1 : fk = 1
        · have hfe : (fk == 1) = true := by simp [hf1]
          replace hf1 := hide hf1
          go_wp2_with fail
          refine (pk_impl ⟨z, b, e, xs⟩ r1 (limit - r1) ar c1 _ (hx'.out.r.ext Ext.go) (by (try dsimp only); omega) (by (try dsimp only); omega)).mono ?_
          rintro en w2 ⟨rfl, hw2⟩
          have zw2 := hw2.size
          (try simp at zw2)
          have kw2_0 := hw2.more (k := w.heap.size) xpf
          obtain ⟨cw2_0, fw2_0⟩ := hw2.row (k := w.heap.size) xpf
          have kw2_1 := hw2.more (k := w.heap.size + 1) xpf
          obtain ⟨cw2_1, fw2_1⟩ := hw2.row (k := w.heap.size + 1) xpf
          have kw2_2 := hw2.more (k := w1.heap.size) xpf
          obtain ⟨cw2_2, fw2_2⟩ := hw2.row (k := w1.heap.size) xpf
          have xw2 : Hid (Ext w w2) := hide (Ext.trans Ext.go hw2)
          go_wp2
          obtain ⟨hP, hB⟩ := nx_some (m := most) (l := limit) hact rfl hn0.out (by omega)
          refine bodyPost_ret (v := .tuple #[.agg #[.int .i64 r1, .string (pkS ⟨z, b, e, xs⟩ r1 (limit - r1)), .bool (r1 + (limit - r1) == fi)], .bool true]) (by simp [results, Try.results44, go_sem, *]) rfl ⟨?_, Ext.go⟩
          rw [hP, hB]
          dsimp only
          rw [decide_eq_true hf1.out, Bool.true_and, int_beq]
        · have hfe : (fk == 1) = false := by simp [hf1]
          replace hf1 := hide hf1
          go_wp2_with fail
          refine (pk_impl ⟨z, b, e, xs⟩ r1 (limit - r1) ar c1 _ (hx'.out.r.ext Ext.go) (by (try dsimp only); omega) (by (try dsimp only); omega)).mono ?_
          rintro en w2 ⟨rfl, hw2⟩
          have zw2 := hw2.size
          (try simp at zw2)
          have kw2_0 := hw2.more (k := w.heap.size) xpf
          obtain ⟨cw2_0, fw2_0⟩ := hw2.row (k := w.heap.size) xpf
          have kw2_1 := hw2.more (k := w.heap.size + 1) xpf
          obtain ⟨cw2_1, fw2_1⟩ := hw2.row (k := w.heap.size + 1) xpf
          have kw2_2 := hw2.more (k := w1.heap.size) xpf
          obtain ⟨cw2_2, fw2_2⟩ := hw2.row (k := w1.heap.size) xpf
          have xw2 : Hid (Ext w w2) := hide (Ext.trans Ext.go hw2)
          go_wp2
          obtain ⟨hP, hB⟩ := nx_some (m := most) (l := limit) hact rfl hn0.out (by omega)
          refine bodyPost_ret (v := .tuple #[.agg #[.int .i64 r1, .string (pkS ⟨z, b, e, xs⟩ r1 (limit - r1)), .bool false], .bool true]) (by simp [results, Try.results44, go_sem, *]) rfl ⟨?_, Ext.go⟩
          rw [hP, hB]
          dsimp only
          rw [decide_eq_false hf1.out, Bool.false_and]
      have l3e : decide (limit < r1 + most) = false := decide_eq_false l3
      by_cases m3 : most ≤ 0
      · have m3e : decide (most ≤ 0) = true := decide_eq_true m3
        go_wp2
        obtain ⟨hP, hB⟩ := nx_none (m := most) (l := limit) hact rfl (by unfold nxN; dsimp only; omega)
        refine bodyPost_ret (v := .tuple #[.agg #[.int .i64 0, .string ⟨#[]⟩, .bool false], .bool false]) (by simp [results, Try.results44, go_sem, *]) rfl ⟨by rw [hP, hB]; rfl, Ext.go⟩
      have m3e : decide (most ≤ 0) = false := decide_eq_false m3
      have hn0 : Hid (nxN (r1, r2) most limit = most) := hide (by unfold nxN; dsimp only; omega)
      by_cases hf1 : fk = 1
      · have hfe : (fk == 1) = true := by simp [hf1]
        replace hf1 := hide hf1
        go_wp2_with fail
        refine (pk_impl ⟨z, b, e, xs⟩ r1 (most) ar c1 _ (hx'.out.r.ext Ext.go) (by (try dsimp only); omega) (by (try dsimp only); omega)).mono ?_
        rintro en w2 ⟨rfl, hw2⟩
        have zw2 := hw2.size
        (try simp at zw2)
        have kw2_0 := hw2.more (k := w.heap.size) xpf
        obtain ⟨cw2_0, fw2_0⟩ := hw2.row (k := w.heap.size) xpf
        have kw2_1 := hw2.more (k := w.heap.size + 1) xpf
        obtain ⟨cw2_1, fw2_1⟩ := hw2.row (k := w.heap.size + 1) xpf
        have kw2_2 := hw2.more (k := w1.heap.size) xpf
        obtain ⟨cw2_2, fw2_2⟩ := hw2.row (k := w1.heap.size) xpf
        have xw2 : Hid (Ext w w2) := hide (Ext.trans Ext.go hw2)
        go_wp2
        obtain ⟨hP, hB⟩ := nx_some (m := most) (l := limit) hact rfl hn0.out (by omega)
        refine bodyPost_ret (v := .tuple #[.agg #[.int .i64 r1, .string (pkS ⟨z, b, e, xs⟩ r1 (most)), .bool (r1 + (most) == fi)], .bool true]) (by simp [results, Try.results44, go_sem, *]) rfl ⟨?_, Ext.go⟩
        rw [hP, hB]
        dsimp only
        rw [decide_eq_true hf1.out, Bool.true_and, int_beq]
      · have hfe : (fk == 1) = false := by simp [hf1]
        replace hf1 := hide hf1
        go_wp2_with fail
        refine (pk_impl ⟨z, b, e, xs⟩ r1 (most) ar c1 _ (hx'.out.r.ext Ext.go) (by (try dsimp only); omega) (by (try dsimp only); omega)).mono ?_
        rintro en w2 ⟨rfl, hw2⟩
        have zw2 := hw2.size
        (try simp at zw2)
        have kw2_0 := hw2.more (k := w.heap.size) xpf
        obtain ⟨cw2_0, fw2_0⟩ := hw2.row (k := w.heap.size) xpf
        have kw2_1 := hw2.more (k := w.heap.size + 1) xpf
        obtain ⟨cw2_1, fw2_1⟩ := hw2.row (k := w.heap.size + 1) xpf
        have kw2_2 := hw2.more (k := w1.heap.size) xpf
        obtain ⟨cw2_2, fw2_2⟩ := hw2.row (k := w1.heap.size) xpf
        have xw2 : Hid (Ext w w2) := hide (Ext.trans Ext.go hw2)
        go_wp2
        obtain ⟨hP, hB⟩ := nx_some (m := most) (l := limit) hact rfl hn0.out (by omega)
        refine bodyPost_ret (v := .tuple #[.agg #[.int .i64 r1, .string (pkS ⟨z, b, e, xs⟩ r1 (most)), .bool false], .bool true]) (by simp [results, Try.results44, go_sem, *]) rfl ⟨?_, Ext.go⟩
        rw [hP, hB]
        dsimp only
        rw [decide_eq_false hf1.out, Bool.false_and]
    · have hwa : IntKind.i64.wrap (r1 + (r2 - r1)) = r2 := (by rw [show r1 + (r2 - r1) = r2 from by omega]; exact IntWalk.i64_in _ (by omega))
      by_cases l3 : limit < r2
      · have l3e : decide (limit < r2) = true := decide_eq_true l3
        have l4e : decide (limit - r1 ≤ 0) = false := decide_eq_false (by omega)
        have hwr : r1 + (limit - r1) = limit := by omega
        have hwr2 : IntKind.i64.wrap limit = limit := IntWalk.i64_in _ (by omega)
        have hn0 : Hid (nxN (r1, r2) most limit = limit - r1) := hide (by unfold nxN; dsimp only; omega)
        by_cases hf1 : fk = 1
        · have hfe : (fk == 1) = true := by simp [hf1]
          replace hf1 := hide hf1
          go_wp2_with fail
          refine (pk_impl ⟨z, b, e, xs⟩ r1 (limit - r1) ar c1 _ (hx'.out.r.ext Ext.go) (by (try dsimp only); omega) (by (try dsimp only); omega)).mono ?_
          rintro en w2 ⟨rfl, hw2⟩
          have zw2 := hw2.size
          (try simp at zw2)
          have kw2_0 := hw2.more (k := w.heap.size) xpf
          obtain ⟨cw2_0, fw2_0⟩ := hw2.row (k := w.heap.size) xpf
          have kw2_1 := hw2.more (k := w.heap.size + 1) xpf
          obtain ⟨cw2_1, fw2_1⟩ := hw2.row (k := w.heap.size + 1) xpf
          have kw2_2 := hw2.more (k := w1.heap.size) xpf
          obtain ⟨cw2_2, fw2_2⟩ := hw2.row (k := w1.heap.size) xpf
          have xw2 : Hid (Ext w w2) := hide (Ext.trans Ext.go hw2)
          go_wp2
          obtain ⟨hP, hB⟩ := nx_some (m := most) (l := limit) hact rfl hn0.out (by omega)
          refine bodyPost_ret (v := .tuple #[.agg #[.int .i64 r1, .string (pkS ⟨z, b, e, xs⟩ r1 (limit - r1)), .bool (r1 + (limit - r1) == fi)], .bool true]) (by simp [results, Try.results44, go_sem, *]) rfl ⟨?_, Ext.go⟩
          rw [hP, hB]
          dsimp only
          rw [decide_eq_true hf1.out, Bool.true_and, int_beq]
        · have hfe : (fk == 1) = false := by simp [hf1]
          replace hf1 := hide hf1
          go_wp2_with fail
          refine (pk_impl ⟨z, b, e, xs⟩ r1 (limit - r1) ar c1 _ (hx'.out.r.ext Ext.go) (by (try dsimp only); omega) (by (try dsimp only); omega)).mono ?_
          rintro en w2 ⟨rfl, hw2⟩
          have zw2 := hw2.size
          (try simp at zw2)
          have kw2_0 := hw2.more (k := w.heap.size) xpf
          obtain ⟨cw2_0, fw2_0⟩ := hw2.row (k := w.heap.size) xpf
          have kw2_1 := hw2.more (k := w.heap.size + 1) xpf
          obtain ⟨cw2_1, fw2_1⟩ := hw2.row (k := w.heap.size + 1) xpf
          have kw2_2 := hw2.more (k := w1.heap.size) xpf
          obtain ⟨cw2_2, fw2_2⟩ := hw2.row (k := w1.heap.size) xpf
          have xw2 : Hid (Ext w w2) := hide (Ext.trans Ext.go hw2)
          go_wp2
          obtain ⟨hP, hB⟩ := nx_some (m := most) (l := limit) hact rfl hn0.out (by omega)
          refine bodyPost_ret (v := .tuple #[.agg #[.int .i64 r1, .string (pkS ⟨z, b, e, xs⟩ r1 (limit - r1)), .bool false], .bool true]) (by simp [results, Try.results44, go_sem, *]) rfl ⟨?_, Ext.go⟩
          rw [hP, hB]
          dsimp only
          rw [decide_eq_false hf1.out, Bool.false_and]
      have l3e : decide (limit < r2) = false := decide_eq_false l3
      have m3e : decide (r2 - r1 ≤ 0) = false := decide_eq_false (by omega)
      have hwr : r1 + (r2 - r1) = r2 := by omega
      have hwr2 : IntKind.i64.wrap r2 = r2 := IntWalk.i64_in _ (by omega)
      have hn0 : Hid (nxN (r1, r2) most limit = r2 - r1) := hide (by unfold nxN; dsimp only; omega)
      by_cases hf1 : fk = 1
      · have hfe : (fk == 1) = true := by simp [hf1]
        replace hf1 := hide hf1
        go_wp2_with fail
        refine (pk_impl ⟨z, b, e, xs⟩ r1 (r2 - r1) ar c1 _ (hx'.out.r.ext Ext.go) (by (try dsimp only); omega) (by (try dsimp only); omega)).mono ?_
        rintro en w2 ⟨rfl, hw2⟩
        have zw2 := hw2.size
        (try simp at zw2)
        have kw2_0 := hw2.more (k := w.heap.size) xpf
        obtain ⟨cw2_0, fw2_0⟩ := hw2.row (k := w.heap.size) xpf
        have kw2_1 := hw2.more (k := w.heap.size + 1) xpf
        obtain ⟨cw2_1, fw2_1⟩ := hw2.row (k := w.heap.size + 1) xpf
        have kw2_2 := hw2.more (k := w1.heap.size) xpf
        obtain ⟨cw2_2, fw2_2⟩ := hw2.row (k := w1.heap.size) xpf
        have xw2 : Hid (Ext w w2) := hide (Ext.trans Ext.go hw2)
        go_wp2
        obtain ⟨hP, hB⟩ := nx_some (m := most) (l := limit) hact rfl hn0.out (by omega)
        refine bodyPost_ret (v := .tuple #[.agg #[.int .i64 r1, .string (pkS ⟨z, b, e, xs⟩ r1 (r2 - r1)), .bool (r1 + (r2 - r1) == fi)], .bool true]) (by simp [results, Try.results44, go_sem, *]) rfl ⟨?_, Ext.go⟩
        rw [hP, hB]
        dsimp only
        rw [decide_eq_true hf1.out, Bool.true_and, int_beq]
      · have hfe : (fk == 1) = false := by simp [hf1]
        replace hf1 := hide hf1
        go_wp2_with fail
        refine (pk_impl ⟨z, b, e, xs⟩ r1 (r2 - r1) ar c1 _ (hx'.out.r.ext Ext.go) (by (try dsimp only); omega) (by (try dsimp only); omega)).mono ?_
        rintro en w2 ⟨rfl, hw2⟩
        have zw2 := hw2.size
        (try simp at zw2)
        have kw2_0 := hw2.more (k := w.heap.size) xpf
        obtain ⟨cw2_0, fw2_0⟩ := hw2.row (k := w.heap.size) xpf
        have kw2_1 := hw2.more (k := w.heap.size + 1) xpf
        obtain ⟨cw2_1, fw2_1⟩ := hw2.row (k := w.heap.size + 1) xpf
        have kw2_2 := hw2.more (k := w1.heap.size) xpf
        obtain ⟨cw2_2, fw2_2⟩ := hw2.row (k := w1.heap.size) xpf
        have xw2 : Hid (Ext w w2) := hide (Ext.trans Ext.go hw2)
        go_wp2
        obtain ⟨hP, hB⟩ := nx_some (m := most) (l := limit) hact rfl hn0.out (by omega)
        refine bodyPost_ret (v := .tuple #[.agg #[.int .i64 r1, .string (pkS ⟨z, b, e, xs⟩ r1 (r2 - r1)), .bool false], .bool true]) (by simp [results, Try.results44, go_sem, *]) rfl ⟨?_, Ext.go⟩
        rw [hP, hB]
        dsimp only
        rw [decide_eq_false hf1.out, Bool.false_and]
end
end Go.Proofs.Ytjhgcbchdnoleaa

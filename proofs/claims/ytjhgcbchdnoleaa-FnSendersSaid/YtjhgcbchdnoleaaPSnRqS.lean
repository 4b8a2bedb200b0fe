/-
  Part of the proof: SnR.
-/
import Derived.Test.YtjhgcbchdnoleaaPSnAqS
import Derived.Test.YtjhgcbchdnoleaaPSnR
namespace Go.Proofs.Ytjhgcbchdnoleaa
section
open Go.ChangeShapes Go.WideShapes Go.ChangeAt Go.RowKit
set_option linter.unusedSimpArgs false
set_option linter.unusedVariables false
set_option maxHeartbeats 4000000 in
set_option maxRecDepth 100000 in
theorem ResetSender_impl (s : Sn) (a : Ads) (c1 c2 c3 c4 : Nat) (u : Int) (w : World) (hx : ReadSnd w a ⟨s.xs, s.p, s.f, s.k⟩) (hl : s.xs.length ≤ 1048576) (hsum : s.p.length + s.f.length + s.k.length ≤ 1048576) (he : s.e ≤ 9223372036854775807) :
    Calls Try.prog 25 #[.agg #[.int .i64 s.st, .int .i64 s.z, .int .i64 s.b, .int .i64 s.e, .slice a.r s.xs.length c1, .slice a.p s.p.length c2, .slice a.f s.f.length c3, .slice a.k s.k.length c4, .int .i64 s.fi, .int .i64 s.fk, .int .i64 s.se, .int .i64 s.co], .int .i64 u] w (SnRes (rsX (sndI s) s u) (.bool (rsOk (sndI s) s u)) w) := by
  rcases Bool.eq_false_or_eq_true (sndI s) with hv | hv
  rotate_left
  · skip
    have hc : rsOk (sndI s) s u = false := by
      rw [Bool.eq_false_iff]
      intro h
      simp only [rsOk, Bool.and_eq_true] at h
      have := actV_iff.1 h.1
      simp_all <;> omega
    have ha : rsX (sndI s) s u = s := by unfold rsX; rw [hc]; rfl
    rw [ha, hc]
    clear ha hc
    have hact : actV (sndI s) s = false := by
      rw [Bool.eq_false_iff]
      intro h
      have := actV_iff.1 h
      simp_all <;> omega
    obtain ⟨st, z, b, e, xs, p, f, k, fi, fk, se, co⟩ := s
    obtain ⟨ar, ap, af, ak⟩ := a
    dsimp only at *
    have hx' := hide hx
    clear hx
    go_enter Try.func25, Try.ntmps25
    go_wp2_with fail
    refine (isActive_impl ⟨st, z, b, e, xs, p, f, k, fi, fk, se, co⟩ ⟨ar, ap, af, ak⟩ c1 c2 c3 c4 _ (hx'.out.ext Ext.go) hl hsum).mono ?_
    rintro en w1 ⟨rfl, hw1⟩
    have zw1 := hw1.size
    (try simp at zw1)
    have kw1_0 := hw1.more (k := w.heap.size) xpf
    obtain ⟨cw1_0, fw1_0⟩ := hw1.row (k := w.heap.size) xpf
    have kw1_1 := hw1.more (k := w.heap.size + 1) xpf
    obtain ⟨cw1_1, fw1_1⟩ := hw1.row (k := w.heap.size + 1) xpf
    have xw1 : Hid (Ext w w1) := hide (Ext.trans Ext.go hw1)
    rw [hact]
    go_wp2_with fail
    refine (copySender_any ⟨st, z, b, e, xs, p, f, k, fi, fk, se, co⟩ ⟨ar, ap, af, ak⟩ c1 c2 c3 c4 _ (hx'.out.ext Ext.go) hl hsum).mono ?_
    rintro en w2 ⟨d1, d2, d3, d4, cd1, cd2, cd3, cd4, rfl, ownd, hw2⟩
    have zw2 := hw2.size
    (try simp at zw2)
    have kw2_0 := hw2.more (k := w.heap.size) xpf
    obtain ⟨cw2_0, fw2_0⟩ := hw2.row (k := w.heap.size) xpf
    have kw2_1 := hw2.more (k := w.heap.size + 1) xpf
    obtain ⟨cw2_1, fw2_1⟩ := hw2.row (k := w.heap.size + 1) xpf
    have xw2 : Hid (Ext w w2) := hide (Ext.trans Ext.go hw2)
    (try simp only [World.size_alloc, World.size_drew, World.size_setCell] at ownd)
    replace ownd := hide ownd
    go_wp2
    refine bodyPost_ret (v := .tuple #[.agg #[.int .i64 st, .int .i64 z, .int .i64 b, .int .i64 e, .slice d1 xs.length cd1, .slice d2 p.length cd2, .slice d3 f.length cd3, .slice d4 k.length cd4, .int .i64 fi, .int .i64 fk, .int .i64 se, .int .i64 co], .bool false]) (by simp [results, Try.results25, go_sem, *]) rfl ⟨d1, d2, d3, d4, cd1, cd2, cd3, cd4, rfl, ?_, ?_⟩
    · exact (OwnSnV.mono (OwnSnV.chg (S := fun b => b = w.heap.size ∨ b = w.heap.size + 1) ownd.out Chg.go xap) xpf xpf)
    · exact Ext.go
  have hst := sndI_st hv
  by_cases h2 : s.st ≤ 2
  rotate_left
  · skip
    have h2e : decide (2 < s.st) = true := decide_eq_true (by omega)
    have hc : rsOk (sndI s) s u = false := by
      rw [Bool.eq_false_iff]
      intro h
      simp only [rsOk, Bool.and_eq_true] at h
      have := actV_iff.1 h.1
      simp_all <;> omega
    have ha : rsX (sndI s) s u = s := by unfold rsX; rw [hc]; rfl
    rw [ha, hc]
    clear ha hc
    have hact : actV (sndI s) s = false := by
      rw [Bool.eq_false_iff]
      intro h
      have := actV_iff.1 h
      simp_all <;> omega
    replace h2 := hide h2
    obtain ⟨st, z, b, e, xs, p, f, k, fi, fk, se, co⟩ := s
    obtain ⟨ar, ap, af, ak⟩ := a
    dsimp only at *
    have hx' := hide hx
    clear hx
    go_enter Try.func25, Try.ntmps25
    go_wp2_with fail
    refine (isActive_impl ⟨st, z, b, e, xs, p, f, k, fi, fk, se, co⟩ ⟨ar, ap, af, ak⟩ c1 c2 c3 c4 _ (hx'.out.ext Ext.go) hl hsum).mono ?_
    rintro en w1 ⟨rfl, hw1⟩
    have zw1 := hw1.size
    (try simp at zw1)
    have kw1_0 := hw1.more (k := w.heap.size) xpf
    obtain ⟨cw1_0, fw1_0⟩ := hw1.row (k := w.heap.size) xpf
    have kw1_1 := hw1.more (k := w.heap.size + 1) xpf
    obtain ⟨cw1_1, fw1_1⟩ := hw1.row (k := w.heap.size + 1) xpf
    have xw1 : Hid (Ext w w1) := hide (Ext.trans Ext.go hw1)
    rw [hact]
    go_wp2_with fail
    refine (copySender_any ⟨st, z, b, e, xs, p, f, k, fi, fk, se, co⟩ ⟨ar, ap, af, ak⟩ c1 c2 c3 c4 _ (hx'.out.ext Ext.go) hl hsum).mono ?_
    rintro en w2 ⟨d1, d2, d3, d4, cd1, cd2, cd3, cd4, rfl, ownd, hw2⟩
    have zw2 := hw2.size
    (try simp at zw2)
    have kw2_0 := hw2.more (k := w.heap.size) xpf
    obtain ⟨cw2_0, fw2_0⟩ := hw2.row (k := w.heap.size) xpf
    have kw2_1 := hw2.more (k := w.heap.size + 1) xpf
    obtain ⟨cw2_1, fw2_1⟩ := hw2.row (k := w.heap.size + 1) xpf
    have xw2 : Hid (Ext w w2) := hide (Ext.trans Ext.go hw2)
    (try simp only [World.size_alloc, World.size_drew, World.size_setCell] at ownd)
    replace ownd := hide ownd
    go_wp2
    refine bodyPost_ret (v := .tuple #[.agg #[.int .i64 st, .int .i64 z, .int .i64 b, .int .i64 e, .slice d1 xs.length cd1, .slice d2 p.length cd2, .slice d3 f.length cd3, .slice d4 k.length cd4, .int .i64 fi, .int .i64 fk, .int .i64 se, .int .i64 co], .bool false]) (by simp [results, Try.results25, go_sem, *]) rfl ⟨d1, d2, d3, d4, cd1, cd2, cd3, cd4, rfl, ?_, ?_⟩
    · exact (OwnSnV.mono (OwnSnV.chg (S := fun b => b = w.heap.size ∨ b = w.heap.size + 1) ownd.out Chg.go xap) xpf xpf)
    · exact Ext.go
  have h2e : decide (2 < s.st) = false := decide_eq_false (by omega)
  by_cases h4 : inB 0 u 4611686018427387903 = true
  rotate_left
  · skip
    have h4f := Bool.eq_false_iff.2 h4
    have hc : rsOk (sndI s) s u = false := by
      rw [Bool.eq_false_iff]
      intro h
      simp only [rsOk, Bool.and_eq_true] at h
      have := actV_iff.1 h.1
      simp_all <;> omega
    have ha : rsX (sndI s) s u = s := by unfold rsX; rw [hc]; rfl
    rw [ha, hc]
    clear ha hc
    have hact : actV (sndI s) s = true := by
      exact actV_iff.2 ⟨hv, by omega, by omega⟩
    skip
    obtain ⟨st, z, b, e, xs, p, f, k, fi, fk, se, co⟩ := s
    obtain ⟨ar, ap, af, ak⟩ := a
    dsimp only at *
    have hx' := hide hx
    clear hx
    go_enter Try.func25, Try.ntmps25
    go_wp2_with fail
    refine (isActive_impl ⟨st, z, b, e, xs, p, f, k, fi, fk, se, co⟩ ⟨ar, ap, af, ak⟩ c1 c2 c3 c4 _ (hx'.out.ext Ext.go) hl hsum).mono ?_
    rintro en w1 ⟨rfl, hw1⟩
    have zw1 := hw1.size
    (try simp at zw1)
    have kw1_0 := hw1.more (k := w.heap.size) xpf
    obtain ⟨cw1_0, fw1_0⟩ := hw1.row (k := w.heap.size) xpf
    have kw1_1 := hw1.more (k := w.heap.size + 1) xpf
    obtain ⟨cw1_1, fw1_1⟩ := hw1.row (k := w.heap.size + 1) xpf
    have xw1 : Hid (Ext w w1) := hide (Ext.trans Ext.go hw1)
    rw [hact]
    go_wp2_with fail
    refine (isQuic_any u _).mono ?_
    rintro en _ ⟨rfl, rfl⟩
    rw [h4f]
    go_wp2_with fail
    refine (copySender_any ⟨st, z, b, e, xs, p, f, k, fi, fk, se, co⟩ ⟨ar, ap, af, ak⟩ c1 c2 c3 c4 _ (hx'.out.ext Ext.go) hl hsum).mono ?_
    rintro en w2 ⟨d1, d2, d3, d4, cd1, cd2, cd3, cd4, rfl, ownd, hw2⟩
    have zw2 := hw2.size
    (try simp at zw2)
    have kw2_0 := hw2.more (k := w.heap.size) xpf
    obtain ⟨cw2_0, fw2_0⟩ := hw2.row (k := w.heap.size) xpf
    have kw2_1 := hw2.more (k := w.heap.size + 1) xpf
    obtain ⟨cw2_1, fw2_1⟩ := hw2.row (k := w.heap.size + 1) xpf
    have xw2 : Hid (Ext w w2) := hide (Ext.trans Ext.go hw2)
    (try simp only [World.size_alloc, World.size_drew, World.size_setCell] at ownd)
    replace ownd := hide ownd
    go_wp2
    refine bodyPost_ret (v := .tuple #[.agg #[.int .i64 st, .int .i64 z, .int .i64 b, .int .i64 e, .slice d1 xs.length cd1, .slice d2 p.length cd2, .slice d3 f.length cd3, .slice d4 k.length cd4, .int .i64 fi, .int .i64 fk, .int .i64 se, .int .i64 co], .bool false]) (by simp [results, Try.results25, go_sem, *]) rfl ⟨d1, d2, d3, d4, cd1, cd2, cd3, cd4, rfl, ?_, ?_⟩
    · exact (OwnSnV.mono (OwnSnV.chg (S := fun b => b = w.heap.size ∨ b = w.heap.size + 1) ownd.out Chg.go xap) xpf xpf)
    · exact Ext.go
  have hc : rsOk (sndI s) s u = true := by
    unfold rsOk
    rw [actV_iff.2 ⟨hv, by omega, by omega⟩, h4]
    rfl
  have ha : rsX (sndI s) s u = ⟨4, s.z, s.se, s.se, List.replicate s.z.toNat 0, [], [], [], s.se, 0, s.se, u⟩ := by unfold rsX; rw [if_pos hc]; rfl
  rw [ha, hc]
  clear ha hc
  have hact : actV (sndI s) s = true := actV_iff.2 ⟨hv, by omega, by omega⟩
  have hrb := isRing_bd (sndI_hd hv).ring
  obtain ⟨zn, hzn⟩ : ∃ zn : Nat, s.z = (zn : Int) := ⟨s.z.toNat, by omega⟩
  have hzt : s.z.toNat = zn := by omega
  rw [hzt]
  clear hzt
  obtain ⟨st, z, b, e, xs, p, f, k, fi, fk, se, co⟩ := s
  obtain ⟨ar, ap, af, ak⟩ := a
  dsimp only at *
  subst hzn
  have hx' := hide hx
  clear hx
  have hzb : zn ≤ 64 := by omega
  clear hrb
  go_enter Try.func25, Try.ntmps25
  go_wp2_with fail
  refine (isActive_impl ⟨st, zn, b, e, xs, p, f, k, fi, fk, se, co⟩ ⟨ar, ap, af, ak⟩ c1 c2 c3 c4 _ (hx'.out.ext Ext.go) hl hsum).mono ?_
  rintro en w1 ⟨rfl, hw1⟩
  have zw1 := hw1.size
  (try simp at zw1)
  have kw1_0 := hw1.more (k := w.heap.size) xpf
  obtain ⟨cw1_0, fw1_0⟩ := hw1.row (k := w.heap.size) xpf
  have kw1_1 := hw1.more (k := w.heap.size + 1) xpf
  obtain ⟨cw1_1, fw1_1⟩ := hw1.row (k := w.heap.size + 1) xpf
  have xw1 : Hid (Ext w w1) := hide (Ext.trans Ext.go hw1)
  rw [hact]
  go_wp2_with fail
  refine (isQuic_any u _).mono ?_
  rintro en _ ⟨rfl, rfl⟩
  rw [h4]
  have hmk := run_make_row' (P := Try.prog) 22 3 (.int .i64 0) 8 Try.underlying22 infoInt rfl .i64 .i64 zn (by omega) (by omega)
  go_wp2_with fail
  refine wp_region_flowE 13 [(0, 1), (1, 1), (2, 1), (3, 1), (4, 1), (5, 1), (6, 1), (7, 1), (8, 1), (9, 1), (10, 14), (11, 1), (12, 0)] (by kernel_rfl) (by kernel_rfl) ?_
  (refine wpF_pure (v := ?_) rfl rfl (by rfl) ?_ ?_; rotate_left; (focus (intro ws hws; go_simp; (try with_reducible rfl); done)))
  try simp only [Act.put, List.getElem_toArray, List.getElem_cons_zero, List.getElem_cons_succ, List.setIfInBounds_toArray, List.set_cons_zero, List.set_cons_succ]
  (refine wpF_pure (v := ?_) rfl rfl (by rfl) ?_ ?_; rotate_left; (focus (intro ws hws; go_simp; (try with_reducible rfl); done)))
  try simp only [Act.put, List.getElem_toArray, List.getElem_cons_zero, List.getElem_cons_succ, List.setIfInBounds_toArray, List.set_cons_zero, List.set_cons_succ]
  (refine wpF_pure (v := ?_) rfl rfl (by rfl) ?_ ?_; rotate_left; (focus (intro ws hws; obtain ⟨q0, p0⟩ := hws.row (k := w.heap.size) xpf; go_simp; (try with_reducible rfl); done)))
  try simp only [Act.put, List.getElem_toArray, List.getElem_cons_zero, List.getElem_cons_succ, List.setIfInBounds_toArray, List.set_cons_zero, List.set_cons_succ]
  (refine wpF_pure (v := ?_) rfl rfl (by rfl) ?_ ?_; rotate_left; (focus (intro ws hws; go_simp; (try with_reducible rfl); done)))
  try simp only [Act.put, List.getElem_toArray, List.getElem_cons_zero, List.getElem_cons_succ, List.setIfInBounds_toArray, List.set_cons_zero, List.set_cons_succ]
  (refine wpF_pure (v := ?_) rfl rfl (by rfl) ?_ ?_; rotate_left; (focus (intro ws hws; obtain ⟨q0, p0⟩ := hws.row (k := w.heap.size) xpf; go_simp; (try with_reducible rfl); done)))
  try simp only [Act.put, List.getElem_toArray, List.getElem_cons_zero, List.getElem_cons_succ, List.setIfInBounds_toArray, List.set_cons_zero, List.set_cons_succ]
  (refine wpF_pure (v := ?_) rfl rfl (by rfl) ?_ ?_; rotate_left; (focus (intro ws hws; go_simp; (try with_reducible rfl); done)))
  try simp only [Act.put, List.getElem_toArray, List.getElem_cons_zero, List.getElem_cons_succ, List.setIfInBounds_toArray, List.set_cons_zero, List.set_cons_succ]
  (refine wpF_pure (v := ?_) rfl rfl (by rfl) ?_ ?_; rotate_left; (focus (intro ws hws; obtain ⟨q0, p0⟩ := hws.row (k := w.heap.size) xpf; go_simp; (try with_reducible rfl); done)))
  try simp only [Act.put, List.getElem_toArray, List.getElem_cons_zero, List.getElem_cons_succ, List.setIfInBounds_toArray, List.set_cons_zero, List.set_cons_succ]
  (refine wpF_pure (v := ?_) rfl rfl (by rfl) ?_ ?_; rotate_left; (focus (intro ws hws; go_simp; (try with_reducible rfl); done)))
  try simp only [Act.put, List.getElem_toArray, List.getElem_cons_zero, List.getElem_cons_succ, List.setIfInBounds_toArray, List.set_cons_zero, List.set_cons_succ]
  (refine wpF_pure (v := ?_) rfl rfl (by rfl) ?_ ?_; rotate_left; (focus (intro ws hws; go_simp; (try with_reducible rfl); done)))
  try simp only [Act.put, List.getElem_toArray, List.getElem_cons_zero, List.getElem_cons_succ, List.setIfInBounds_toArray, List.set_cons_zero, List.set_cons_succ]
  (refine wpF_pure (v := ?_) rfl rfl (by rfl) ?_ ?_; rotate_left; (focus (intro ws hws; obtain ⟨q0, p0⟩ := hws.row (k := w.heap.size) xpf; go_simp; (try with_reducible rfl); done)))
  try simp only [Act.put, List.getElem_toArray, List.getElem_cons_zero, List.getElem_cons_succ, List.setIfInBounds_toArray, List.set_cons_zero, List.set_cons_succ]
  refine wpF_fork (o2 := [(0, 1), (1, 1), (2, 1), (3, 1), (4, 1), (5, 1), (6, 1), (7, 1), (8, 1), (9, 1), (12, 12), (10, 0), (11, 1)]) rfl rfl rfl (by kernel_rfl) rfl rfl (Ext.refl _) (StepF.made (.slice (some ⟨w1.heap.size, 0, none⟩) zn zn) (w1.drew.alloc (.cells (madeCells #[.int .i64 0] zn) 3)) (by rfl) ?_ ((Ext.refl _).alloc _) ?_) (StepF.made (.pointer (some ⟨w1.heap.size, 0, none⟩)) (w1.drew.alloc (.cells #[.int .i64 0, .int .i64 0, .int .i64 0, .slice none 0 0] 29)) (by rfl) ?_ ((Ext.refl _).alloc _) ?_)
  · go_simp
  · skip
    try simp only [Act.put, List.getElem_toArray, List.getElem_cons_zero, List.getElem_cons_succ, List.setIfInBounds_toArray, List.set_cons_zero, List.set_cons_succ]
    (refine wpF_pure (v := ?_) rfl rfl (by rfl) ?_ ?_; rotate_left; (focus (intro ws hws; go_simp; (try with_reducible rfl); done)))
    try simp only [Act.put, List.getElem_toArray, List.getElem_cons_zero, List.getElem_cons_succ, List.setIfInBounds_toArray, List.set_cons_zero, List.set_cons_succ]
    refine wpF_made (.pointer (some ⟨w1.heap.size + 1, 0, none⟩)) ((w1.drew.alloc (.cells (madeCells #[.int .i64 0] zn) 3)).alloc (.cells #[.int .i64 0, .int .i64 0, .int .i64 0, .slice none 0 0] 29)) rfl rfl (by rfl) (by go_simp) ((Ext.refl _).alloc _) ?_
    try simp only [Act.put, List.getElem_toArray, List.getElem_cons_zero, List.getElem_cons_succ, List.setIfInBounds_toArray, List.set_cons_zero, List.set_cons_succ]
    refine wpF_done rfl ?_
    simp only [List.drop_succ_cons, List.drop_zero, List.drop_nil]
    go_wp2
    refine bodyPost_ret (v := .tuple #[.agg #[.int .i64 4, .int .i64 zn, .int .i64 se, .int .i64 se, .slice (some ⟨w1.heap.size, 0, none⟩) zn zn, .slice none 0 0, .slice none 0 0, .slice none 0 0, .int .i64 se, .int .i64 0, .int .i64 se, .int .i64 u], .bool true]) (by simp [results, Try.results25, go_sem, *]) rfl ⟨some ⟨w1.heap.size, 0, none⟩, none, none, none, zn, 0, 0, 0, by simp, ?_, ?_⟩
    · refine OwnSnV.mk (l1 := w1.heap.size) (u1 := w1.heap.size + 1) (l2 := w1.heap.size + 1) (u2 := w1.heap.size + 1) (l3 := w1.heap.size + 1) (u3 := w1.heap.size + 1) (l4 := w1.heap.size + 1) (u4 := w1.heap.size + 1) ?_ (OwnW.mono (OwnW.nil _ _) (Nat.le_refl _) (Nat.le_refl _)) (Or.inl rfl) (Or.inl rfl) xpf xpf xpf xpf xpf xpf xpf xpf xpf
      refine made_ints_own (S := fun _ => False) (X := ?X1) ?h1 ?hb1 (fun h => h)
      case h1 => exact Chg.go
      case hb1 => simp
    · exact Ext.go
  · go_simp
  · skip
    try simp only [Act.put, List.getElem_toArray, List.getElem_cons_zero, List.getElem_cons_succ, List.setIfInBounds_toArray, List.set_cons_zero, List.set_cons_succ]
    refine wpF_made (.slice (some ⟨w1.heap.size + 1, 0, none⟩) zn zn) ((w1.drew.alloc (.cells #[.int .i64 0, .int .i64 0, .int .i64 0, .slice none 0 0] 29)).alloc (.cells (madeCells #[.int .i64 0] zn) 3)) rfl rfl (by rfl) (by go_simp) ((Ext.refl _).alloc _) ?_
    try simp only [Act.put, List.getElem_toArray, List.getElem_cons_zero, List.getElem_cons_succ, List.setIfInBounds_toArray, List.set_cons_zero, List.set_cons_succ]
    (refine wpF_pure (v := ?_) rfl rfl (by rfl) ?_ ?_; rotate_left; (focus (intro ws hws; go_simp; (try with_reducible rfl); done)))
    try simp only [Act.put, List.getElem_toArray, List.getElem_cons_zero, List.getElem_cons_succ, List.setIfInBounds_toArray, List.set_cons_zero, List.set_cons_succ]
    refine wpF_done rfl ?_
    simp only [List.drop_succ_cons, List.drop_zero, List.drop_nil]
    go_wp2
    refine bodyPost_ret (v := .tuple #[.agg #[.int .i64 4, .int .i64 zn, .int .i64 se, .int .i64 se, .slice (some ⟨w1.heap.size + 1, 0, none⟩) zn zn, .slice none 0 0, .slice none 0 0, .slice none 0 0, .int .i64 se, .int .i64 0, .int .i64 se, .int .i64 u], .bool true]) (by simp [results, Try.results25, go_sem, *]) rfl ⟨some ⟨w1.heap.size + 1, 0, none⟩, none, none, none, zn, 0, 0, 0, by simp, ?_, ?_⟩
    · refine OwnSnV.mk (l1 := w1.heap.size + 1) (u1 := w1.heap.size + 1 + 1) (l2 := w1.heap.size + 1 + 1) (u2 := w1.heap.size + 1 + 1) (l3 := w1.heap.size + 1 + 1) (u3 := w1.heap.size + 1 + 1) (l4 := w1.heap.size + 1 + 1) (u4 := w1.heap.size + 1 + 1) ?_ (OwnW.mono (OwnW.nil _ _) (Nat.le_refl _) (Nat.le_refl _)) (Or.inl rfl) (Or.inl rfl) xpf xpf xpf xpf xpf xpf xpf xpf xpf
      refine made_ints_own (S := fun _ => False) (X := ?X2) ?h2 ?hb2 (fun h => h)
      case h2 => exact Chg.go
      case hb2 => simp
    · exact Ext.go
end
end Go.Proofs.Ytjhgcbchdnoleaa

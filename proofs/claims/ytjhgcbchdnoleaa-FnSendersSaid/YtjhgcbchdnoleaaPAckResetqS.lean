/-
  Part of the proof: AckReset.
-/
import Derived.Test.YtjhgcbchdnoleaaPWriteqS
import Derived.Test.YtjhgcbchdnoleaaPSnV
import Derived.Test.YtjhgcbchdnoleaaPIsSndJ
import Derived.Test.YtjhgcbchdnoleaaPIsSndT
namespace Go.Proofs.Ytjhgcbchdnoleaa
section
open Go.ChangeShapes Go.WideShapes Go.ChangeAt Go.RowKit
set_option linter.unusedSimpArgs false
set_option linter.unusedVariables false
def arV (s : Sn) : Sn := ⟨5, s.z, s.b, s.e, s.xs, s.p, s.f, s.k, s.fi, s.fk, s.se, s.co⟩
set_option maxHeartbeats 4000000 in
set_option maxRecDepth 100000 in
theorem AckReset_spec (s : Sn) (a : Ads) (c1 c2 c3 c4 : Nat) (w : World) (hx : ReadSnd w a ⟨s.xs, s.p, s.f, s.k⟩) (hl : s.xs.length ≤ 1048576) (hsum : s.p.length + s.f.length + s.k.length ≤ 1048576) (he : s.e ≤ 9223372036854775807) :
    Calls Try.prog 8 #[.agg #[.int .i64 s.st, .int .i64 s.z, .int .i64 s.b, .int .i64 s.e, .slice a.r s.xs.length c1, .slice a.p s.p.length c2, .slice a.f s.f.length c3, .slice a.k s.k.length c4, .int .i64 s.fi, .int .i64 s.fk, .int .i64 s.se, .int .i64 s.co]] w (SnRes (if sndS s = true ∧ s.st = 4 then arV s else s) (.bool (sndS s && decide (s.st = 4))) w) := by
  rcases Bool.eq_false_or_eq_true (sndS s) with hv | hv
  · skip
    by_cases h4 : s.st = 4
    · skip
      have h4e : (s.st != 4) = false := by simp [h4]
      rw [if_pos ⟨hv, h4⟩, hv, decide_eq_true h4]
      replace h4 := hide h4
      simp only [Bool.true_and, Bool.false_and]
      unfold arV
      obtain ⟨st, z, b, e, xs, p, f, k, fi, fk, se, co⟩ := s
      obtain ⟨ar, ap, af, ak⟩ := a
      dsimp only at *
      have hx' := hide hx
      clear hx
      go_enter Try.func8, Try.ntmps8
      go_wp2_with fail
      refine (l9Copy_any ⟨st, z, b, e, xs, p, f, k, fi, fk, se, co⟩ ⟨ar, ap, af, ak⟩ c1 c2 c3 c4 _ (hx'.out.ext Ext.go) hl hsum).mono ?_
      rintro en w1 ⟨d1, d2, d3, d4, cd1, cd2, cd3, cd4, rfl, ownd, hw1⟩
      have zw1 := hw1.size
      (try simp at zw1)
      have kw1_0 := hw1.more (k := w.heap.size) xpf
      obtain ⟨cw1_0, fw1_0⟩ := hw1.row (k := w.heap.size) xpf
      have kw1_1 := hw1.more (k := w.heap.size + 1) xpf
      obtain ⟨cw1_1, fw1_1⟩ := hw1.row (k := w.heap.size + 1) xpf
      (try simp only [World.size_alloc, World.size_drew, World.size_setCell] at ownd)
      replace ownd := hide ownd
      go_wp2_with fail
      refine (IsSender_spec ⟨st, z, b, e, xs, p, f, k, fi, fk, se, co⟩ ⟨ar, ap, af, ak⟩ c1 c2 c3 c4 _ (hx'.out.ext Ext.go) hl hsum he).mono ?_
      rintro en w2 ⟨rfl, hw2⟩
      have zw2 := hw2.size
      (try simp at zw2)
      have kw2_0 := hw2.more (k := w.heap.size) xpf
      obtain ⟨cw2_0, fw2_0⟩ := hw2.row (k := w.heap.size) xpf
      have kw2_1 := hw2.more (k := w.heap.size + 1) xpf
      obtain ⟨cw2_1, fw2_1⟩ := hw2.row (k := w.heap.size + 1) xpf
      have kw2_2 := hw2.more (k := w1.heap.size) xpf
      obtain ⟨cw2_2, fw2_2⟩ := hw2.row (k := w1.heap.size) xpf
      rw [hv]
      go_wp2
      refine bodyPost_ret (v := .tuple #[.agg #[.int .i64 5, .int .i64 z, .int .i64 b, .int .i64 e, .slice d1 xs.length cd1, .slice d2 p.length cd2, .slice d3 f.length cd3, .slice d4 k.length cd4, .int .i64 fi, .int .i64 fk, .int .i64 se, .int .i64 co], .bool true]) (by simp [results, Try.results8, go_sem, *]) rfl ⟨d1, d2, d3, d4, cd1, cd2, cd3, cd4, rfl, ?_, ?_⟩
      · exact OwnSnV.mono (OwnSnV.chg (S := fun b => b = w.heap.size ∨ b = w.heap.size + 1 ∨ b = w1.heap.size) ownd.out (by repeat (first | with_reducible exact Chg.refl _ _ | with_reducible refine Chg.alloc ?_ _ | with_reducible refine Chg.drew ?_ | ((with_reducible refine Chg.set ?_ ?_ _); (focus (first | (left; (try dsimp only); simp; done) | (left; (try dsimp only); simp; omega) | (left; (try dsimp only); omega) | (right; simp; done) | (right; simp; omega) | (right; omega)))) | with_reducible refine Chg.trans ?_ (Ext.chg hw2 _))) (fun b h1 h2 h3 => by (try dsimp only at h3); omega)) xpf xpf
      · exact Ext.go
    · skip
      have h4e : (s.st != 4) = true := by simp [h4]
      rw [if_neg (fun h => h4 h.2), hv, decide_eq_false h4]
      replace h4 := hide h4
      simp only [Bool.true_and, Bool.false_and]
      obtain ⟨st, z, b, e, xs, p, f, k, fi, fk, se, co⟩ := s
      obtain ⟨ar, ap, af, ak⟩ := a
      dsimp only at *
      have hx' := hide hx
      clear hx
      go_enter Try.func8, Try.ntmps8
      go_wp2_with fail
      refine (l9Copy_any ⟨st, z, b, e, xs, p, f, k, fi, fk, se, co⟩ ⟨ar, ap, af, ak⟩ c1 c2 c3 c4 _ (hx'.out.ext Ext.go) hl hsum).mono ?_
      rintro en w1 ⟨d1, d2, d3, d4, cd1, cd2, cd3, cd4, rfl, ownd, hw1⟩
      have zw1 := hw1.size
      (try simp at zw1)
      have kw1_0 := hw1.more (k := w.heap.size) xpf
      obtain ⟨cw1_0, fw1_0⟩ := hw1.row (k := w.heap.size) xpf
      have kw1_1 := hw1.more (k := w.heap.size + 1) xpf
      obtain ⟨cw1_1, fw1_1⟩ := hw1.row (k := w.heap.size + 1) xpf
      (try simp only [World.size_alloc, World.size_drew, World.size_setCell] at ownd)
      replace ownd := hide ownd
      go_wp2_with fail
      refine (IsSender_spec ⟨st, z, b, e, xs, p, f, k, fi, fk, se, co⟩ ⟨ar, ap, af, ak⟩ c1 c2 c3 c4 _ (hx'.out.ext Ext.go) hl hsum he).mono ?_
      rintro en w2 ⟨rfl, hw2⟩
      have zw2 := hw2.size
      (try simp at zw2)
      have kw2_0 := hw2.more (k := w.heap.size) xpf
      obtain ⟨cw2_0, fw2_0⟩ := hw2.row (k := w.heap.size) xpf
      have kw2_1 := hw2.more (k := w.heap.size + 1) xpf
      obtain ⟨cw2_1, fw2_1⟩ := hw2.row (k := w.heap.size + 1) xpf
      have kw2_2 := hw2.more (k := w1.heap.size) xpf
      obtain ⟨cw2_2, fw2_2⟩ := hw2.row (k := w1.heap.size) xpf
      rw [hv]
      go_wp2
      refine bodyPost_ret (v := .tuple #[.agg #[.int .i64 st, .int .i64 z, .int .i64 b, .int .i64 e, .slice d1 xs.length cd1, .slice d2 p.length cd2, .slice d3 f.length cd3, .slice d4 k.length cd4, .int .i64 fi, .int .i64 fk, .int .i64 se, .int .i64 co], .bool false]) (by simp [results, Try.results8, go_sem, *]) rfl ⟨d1, d2, d3, d4, cd1, cd2, cd3, cd4, rfl, ?_, ?_⟩
      · exact OwnSnV.mono (OwnSnV.chg (S := fun b => b = w.heap.size ∨ b = w.heap.size + 1 ∨ b = w1.heap.size) ownd.out (by repeat (first | with_reducible exact Chg.refl _ _ | with_reducible refine Chg.alloc ?_ _ | with_reducible refine Chg.drew ?_ | ((with_reducible refine Chg.set ?_ ?_ _); (focus (first | (left; (try dsimp only); simp; done) | (left; (try dsimp only); simp; omega) | (left; (try dsimp only); omega) | (right; simp; done) | (right; simp; omega) | (right; omega)))) | with_reducible refine Chg.trans ?_ (Ext.chg hw2 _))) (fun b h1 h2 h3 => by (try dsimp only at h3); omega)) xpf xpf
      · exact Ext.go
  · skip
    rw [if_neg (fun h => by rw [hv] at h; exact absurd h.1 (by decide)), hv]
    simp only [Bool.true_and, Bool.false_and]
    obtain ⟨st, z, b, e, xs, p, f, k, fi, fk, se, co⟩ := s
    obtain ⟨ar, ap, af, ak⟩ := a
    dsimp only at *
    have hx' := hide hx
    clear hx
    go_enter Try.func8, Try.ntmps8
    go_wp2_with fail
    refine (l9Copy_any ⟨st, z, b, e, xs, p, f, k, fi, fk, se, co⟩ ⟨ar, ap, af, ak⟩ c1 c2 c3 c4 _ (hx'.out.ext Ext.go) hl hsum).mono ?_
    rintro en w1 ⟨d1, d2, d3, d4, cd1, cd2, cd3, cd4, rfl, ownd, hw1⟩
    have zw1 := hw1.size
    (try simp at zw1)
    have kw1_0 := hw1.more (k := w.heap.size) xpf
    obtain ⟨cw1_0, fw1_0⟩ := hw1.row (k := w.heap.size) xpf
    have kw1_1 := hw1.more (k := w.heap.size + 1) xpf
    obtain ⟨cw1_1, fw1_1⟩ := hw1.row (k := w.heap.size + 1) xpf
    (try simp only [World.size_alloc, World.size_drew, World.size_setCell] at ownd)
    replace ownd := hide ownd
    go_wp2_with fail
    refine (IsSender_spec ⟨st, z, b, e, xs, p, f, k, fi, fk, se, co⟩ ⟨ar, ap, af, ak⟩ c1 c2 c3 c4 _ (hx'.out.ext Ext.go) hl hsum he).mono ?_
    rintro en w2 ⟨rfl, hw2⟩
    have zw2 := hw2.size
    (try simp at zw2)
    have kw2_0 := hw2.more (k := w.heap.size) xpf
    obtain ⟨cw2_0, fw2_0⟩ := hw2.row (k := w.heap.size) xpf
    have kw2_1 := hw2.more (k := w.heap.size + 1) xpf
    obtain ⟨cw2_1, fw2_1⟩ := hw2.row (k := w.heap.size + 1) xpf
    have kw2_2 := hw2.more (k := w1.heap.size) xpf
    obtain ⟨cw2_2, fw2_2⟩ := hw2.row (k := w1.heap.size) xpf
    rw [hv]
    go_wp2
    refine bodyPost_ret (v := .tuple #[.agg #[.int .i64 st, .int .i64 z, .int .i64 b, .int .i64 e, .slice d1 xs.length cd1, .slice d2 p.length cd2, .slice d3 f.length cd3, .slice d4 k.length cd4, .int .i64 fi, .int .i64 fk, .int .i64 se, .int .i64 co], .bool false]) (by simp [results, Try.results8, go_sem, *]) rfl ⟨d1, d2, d3, d4, cd1, cd2, cd3, cd4, rfl, ?_, ?_⟩
    · exact OwnSnV.mono (OwnSnV.chg (S := fun b => b = w.heap.size ∨ b = w.heap.size + 1 ∨ b = w1.heap.size) ownd.out (by repeat (first | with_reducible exact Chg.refl _ _ | with_reducible refine Chg.alloc ?_ _ | with_reducible refine Chg.drew ?_ | ((with_reducible refine Chg.set ?_ ?_ _); (focus (first | (left; (try dsimp only); simp; done) | (left; (try dsimp only); simp; omega) | (left; (try dsimp only); omega) | (right; simp; done) | (right; simp; omega) | (right; omega)))) | with_reducible refine Chg.trans ?_ (Ext.chg hw2 _))) (fun b h1 h2 h3 => by (try dsimp only at h3); omega)) xpf xpf
    · exact Ext.go
set_option maxHeartbeats 4000000 in
set_option maxRecDepth 100000 in
theorem AckReset_impl (s : Sn) (a : Ads) (c1 c2 c3 c4 : Nat) (w : World) (hx : ReadSnd w a ⟨s.xs, s.p, s.f, s.k⟩) (hl : s.xs.length ≤ 1048576) (hsum : s.p.length + s.f.length + s.k.length ≤ 1048576) (he : s.e ≤ 9223372036854775807) :
    Calls Try.prog 10 #[.agg #[.int .i64 s.st, .int .i64 s.z, .int .i64 s.b, .int .i64 s.e, .slice a.r s.xs.length c1, .slice a.p s.p.length c2, .slice a.f s.f.length c3, .slice a.k s.k.length c4, .int .i64 s.fi, .int .i64 s.fk, .int .i64 s.se, .int .i64 s.co]] w (SnRes (if sndI s = true ∧ s.st = 4 then arV s else s) (.bool (sndI s && decide (s.st = 4))) w) := by
  rcases Bool.eq_false_or_eq_true (sndI s) with hv | hv
  · skip
    by_cases h4 : s.st = 4
    · skip
      have h4e : (s.st != 4) = false := by simp [h4]
      rw [if_pos ⟨hv, h4⟩, hv, decide_eq_true h4]
      replace h4 := hide h4
      simp only [Bool.true_and, Bool.false_and]
      unfold arV
      obtain ⟨st, z, b, e, xs, p, f, k, fi, fk, se, co⟩ := s
      obtain ⟨ar, ap, af, ak⟩ := a
      dsimp only at *
      have hx' := hide hx
      clear hx
      go_enter Try.func10, Try.ntmps10
      go_wp2_with fail
      refine (copySender_any ⟨st, z, b, e, xs, p, f, k, fi, fk, se, co⟩ ⟨ar, ap, af, ak⟩ c1 c2 c3 c4 _ (hx'.out.ext Ext.go) hl hsum).mono ?_
      rintro en w1 ⟨d1, d2, d3, d4, cd1, cd2, cd3, cd4, rfl, ownd, hw1⟩
      have zw1 := hw1.size
      (try simp at zw1)
      have kw1_0 := hw1.more (k := w.heap.size) xpf
      obtain ⟨cw1_0, fw1_0⟩ := hw1.row (k := w.heap.size) xpf
      have kw1_1 := hw1.more (k := w.heap.size + 1) xpf
      obtain ⟨cw1_1, fw1_1⟩ := hw1.row (k := w.heap.size + 1) xpf
      (try simp only [World.size_alloc, World.size_drew, World.size_setCell] at ownd)
      replace ownd := hide ownd
      go_wp2_with fail
      refine (IsSender_impl ⟨st, z, b, e, xs, p, f, k, fi, fk, se, co⟩ ⟨ar, ap, af, ak⟩ c1 c2 c3 c4 _ (hx'.out.ext Ext.go) hl hsum).mono ?_
      rintro en w2 ⟨rfl, hw2⟩
      have zw2 := hw2.size
      (try simp at zw2)
      have kw2_0 := hw2.more (k := w.heap.size) xpf
      obtain ⟨cw2_0, fw2_0⟩ := hw2.row (k := w.heap.size) xpf
      have kw2_1 := hw2.more (k := w.heap.size + 1) xpf
      obtain ⟨cw2_1, fw2_1⟩ := hw2.row (k := w.heap.size + 1) xpf
      have kw2_2 := hw2.more (k := w1.heap.size) xpf
      obtain ⟨cw2_2, fw2_2⟩ := hw2.row (k := w1.heap.size) xpf
      rw [hv]
      go_wp2
      refine bodyPost_ret (v := .tuple #[.agg #[.int .i64 5, .int .i64 z, .int .i64 b, .int .i64 e, .slice d1 xs.length cd1, .slice d2 p.length cd2, .slice d3 f.length cd3, .slice d4 k.length cd4, .int .i64 fi, .int .i64 fk, .int .i64 se, .int .i64 co], .bool true]) (by simp [results, Try.results10, go_sem, *]) rfl ⟨d1, d2, d3, d4, cd1, cd2, cd3, cd4, rfl, ?_, ?_⟩
      · exact OwnSnV.mono (OwnSnV.chg (S := fun b => b = w.heap.size ∨ b = w.heap.size + 1 ∨ b = w1.heap.size) ownd.out (by repeat (first | with_reducible exact Chg.refl _ _ | with_reducible refine Chg.alloc ?_ _ | with_reducible refine Chg.drew ?_ | ((with_reducible refine Chg.set ?_ ?_ _); (focus (first | (left; (try dsimp only); simp; done) | (left; (try dsimp only); simp; omega) | (left; (try dsimp only); omega) | (right; simp; done) | (right; simp; omega) | (right; omega)))) | with_reducible refine Chg.trans ?_ (Ext.chg hw2 _))) (fun b h1 h2 h3 => by (try dsimp only at h3); omega)) xpf xpf
      · exact Ext.go
    · skip
      have h4e : (s.st != 4) = true := by simp [h4]
      rw [if_neg (fun h => h4 h.2), hv, decide_eq_false h4]
      replace h4 := hide h4
      simp only [Bool.true_and, Bool.false_and]
      obtain ⟨st, z, b, e, xs, p, f, k, fi, fk, se, co⟩ := s
      obtain ⟨ar, ap, af, ak⟩ := a
      dsimp only at *
      have hx' := hide hx
      clear hx
      go_enter Try.func10, Try.ntmps10
      go_wp2_with fail
      refine (copySender_any ⟨st, z, b, e, xs, p, f, k, fi, fk, se, co⟩ ⟨ar, ap, af, ak⟩ c1 c2 c3 c4 _ (hx'.out.ext Ext.go) hl hsum).mono ?_
      rintro en w1 ⟨d1, d2, d3, d4, cd1, cd2, cd3, cd4, rfl, ownd, hw1⟩
      have zw1 := hw1.size
      (try simp at zw1)
      have kw1_0 := hw1.more (k := w.heap.size) xpf
      obtain ⟨cw1_0, fw1_0⟩ := hw1.row (k := w.heap.size) xpf
      have kw1_1 := hw1.more (k := w.heap.size + 1) xpf
      obtain ⟨cw1_1, fw1_1⟩ := hw1.row (k := w.heap.size + 1) xpf
      (try simp only [World.size_alloc, World.size_drew, World.size_setCell] at ownd)
      replace ownd := hide ownd
      go_wp2_with fail
      refine (IsSender_impl ⟨st, z, b, e, xs, p, f, k, fi, fk, se, co⟩ ⟨ar, ap, af, ak⟩ c1 c2 c3 c4 _ (hx'.out.ext Ext.go) hl hsum).mono ?_
      rintro en w2 ⟨rfl, hw2⟩
      have zw2 := hw2.size
      (try simp at zw2)
      have kw2_0 := hw2.more (k := w.heap.size) xpf
      obtain ⟨cw2_0, fw2_0⟩ := hw2.row (k := w.heap.size) xpf
      have kw2_1 := hw2.more (k := w.heap.size + 1) xpf
      obtain ⟨cw2_1, fw2_1⟩ := hw2.row (k := w.heap.size + 1) xpf
      have kw2_2 := hw2.more (k := w1.heap.size) xpf
      obtain ⟨cw2_2, fw2_2⟩ := hw2.row (k := w1.heap.size) xpf
      rw [hv]
      go_wp2
      refine bodyPost_ret (v := .tuple #[.agg #[.int .i64 st, .int .i64 z, .int .i64 b, .int .i64 e, .slice d1 xs.length cd1, .slice d2 p.length cd2, .slice d3 f.length cd3, .slice d4 k.length cd4, .int .i64 fi, .int .i64 fk, .int .i64 se, .int .i64 co], .bool false]) (by simp [results, Try.results10, go_sem, *]) rfl ⟨d1, d2, d3, d4, cd1, cd2, cd3, cd4, rfl, ?_, ?_⟩
      · exact OwnSnV.mono (OwnSnV.chg (S := fun b => b = w.heap.size ∨ b = w.heap.size + 1 ∨ b = w1.heap.size) ownd.out (by repeat (first | with_reducible exact Chg.refl _ _ | with_reducible refine Chg.alloc ?_ _ | with_reducible refine Chg.drew ?_ | ((with_reducible refine Chg.set ?_ ?_ _); (focus (first | (left; (try dsimp only); simp; done) | (left; (try dsimp only); simp; omega) | (left; (try dsimp only); omega) | (right; simp; done) | (right; simp; omega) | (right; omega)))) | with_reducible refine Chg.trans ?_ (Ext.chg hw2 _))) (fun b h1 h2 h3 => by (try dsimp only at h3); omega)) xpf xpf
      · exact Ext.go
  · skip
    rw [if_neg (fun h => by rw [hv] at h; exact absurd h.1 (by decide)), hv]
    simp only [Bool.true_and, Bool.false_and]
    obtain ⟨st, z, b, e, xs, p, f, k, fi, fk, se, co⟩ := s
    obtain ⟨ar, ap, af, ak⟩ := a
    dsimp only at *
    have hx' := hide hx
    clear hx
    go_enter Try.func10, Try.ntmps10
    go_wp2_with fail
    refine (copySender_any ⟨st, z, b, e, xs, p, f, k, fi, fk, se, co⟩ ⟨ar, ap, af, ak⟩ c1 c2 c3 c4 _ (hx'.out.ext Ext.go) hl hsum).mono ?_
    rintro en w1 ⟨d1, d2, d3, d4, cd1, cd2, cd3, cd4, rfl, ownd, hw1⟩
    have zw1 := hw1.size
    (try simp at zw1)
    have kw1_0 := hw1.more (k := w.heap.size) xpf
    obtain ⟨cw1_0, fw1_0⟩ := hw1.row (k := w.heap.size) xpf
    have kw1_1 := hw1.more (k := w.heap.size + 1) xpf
    obtain ⟨cw1_1, fw1_1⟩ := hw1.row (k := w.heap.size + 1) xpf
    (try simp only [World.size_alloc, World.size_drew, World.size_setCell] at ownd)
    replace ownd := hide ownd
    go_wp2_with fail
    refine (IsSender_impl ⟨st, z, b, e, xs, p, f, k, fi, fk, se, co⟩ ⟨ar, ap, af, ak⟩ c1 c2 c3 c4 _ (hx'.out.ext Ext.go) hl hsum).mono ?_
    rintro en w2 ⟨rfl, hw2⟩
    have zw2 := hw2.size
    (try simp at zw2)
    have kw2_0 := hw2.more (k := w.heap.size) xpf
    obtain ⟨cw2_0, fw2_0⟩ := hw2.row (k := w.heap.size) xpf
    have kw2_1 := hw2.more (k := w.heap.size + 1) xpf
    obtain ⟨cw2_1, fw2_1⟩ := hw2.row (k := w.heap.size + 1) xpf
    have kw2_2 := hw2.more (k := w1.heap.size) xpf
    obtain ⟨cw2_2, fw2_2⟩ := hw2.row (k := w1.heap.size) xpf
    rw [hv]
    go_wp2
    refine bodyPost_ret (v := .tuple #[.agg #[.int .i64 st, .int .i64 z, .int .i64 b, .int .i64 e, .slice d1 xs.length cd1, .slice d2 p.length cd2, .slice d3 f.length cd3, .slice d4 k.length cd4, .int .i64 fi, .int .i64 fk, .int .i64 se, .int .i64 co], .bool false]) (by simp [results, Try.results10, go_sem, *]) rfl ⟨d1, d2, d3, d4, cd1, cd2, cd3, cd4, rfl, ?_, ?_⟩
    · exact OwnSnV.mono (OwnSnV.chg (S := fun b => b = w.heap.size ∨ b = w.heap.size + 1 ∨ b = w1.heap.size) ownd.out (by repeat (first | with_reducible exact Chg.refl _ _ | with_reducible refine Chg.alloc ?_ _ | with_reducible refine Chg.drew ?_ | ((with_reducible refine Chg.set ?_ ?_ _); (focus (first | (left; (try dsimp only); simp; done) | (left; (try dsimp only); simp; omega) | (left; (try dsimp only); omega) | (right; simp; done) | (right; simp; omega) | (right; omega)))) | with_reducible refine Chg.trans ?_ (Ext.chg hw2 _))) (fun b h1 h2 h3 => by (try dsimp only at h3); omega)) xpf xpf
    · exact Ext.go
end
end Go.Proofs.Ytjhgcbchdnoleaa

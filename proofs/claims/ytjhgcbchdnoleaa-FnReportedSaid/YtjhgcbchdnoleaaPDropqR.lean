/-
  Part of the proof: Drop.
-/
import Derived.Test.YtjhgcbchdnoleaaPG3
namespace Go.Proofs.Ytjhgcbchdnoleaa
section
open Go.ChangeShapes Go.WideShapes Go.ChangeAt Go.RowKit
set_option linter.unusedSimpArgs false
set_option maxHeartbeats 2000000 in
theorem DropRing_impl_no (z b e to : Int) (ao : Option Addr) (len ca : Nat) (xs : List Int) (w : World) (hx : ReadS w ao xs) (hn : xs.length = len) (hl : len ≤ 1048576) (hno : dropOk z b e to xs = false) :
    Calls Try.prog 134 #[.agg #[.int .i64 z, .int .i64 b, .int .i64 e, .slice ao len ca], .int .i64 to] w (RingRes z b e xs (.bool false) w) := by
  rcases Bool.eq_false_or_eq_true (isRing z b e xs) with hR | hR
  · -- yes
    rcases Bool.eq_false_or_eq_true (inB b to e) with hin | hin
    · -- yes
      simp [dropOk, hR, hin] at hno
    · -- no
      have hn' := hide hn
      have hx' := hide hx
      clear hn hx
      go_enter Try.func134, Try.ntmps134
      go_wp2_with fail
      refine (copyRing_any z b e ao len ca xs _ (hx'.out.ext Ext.go) hn'.out (by omega)).mono ?_
      rintro en w1 ⟨ao1, cap1, rfl, ho1, hw1⟩
      have xw1 : Ext w w1 := Ext.go
      have kw1_0 := hw1.more (k := w.heap.size) xpf
      obtain ⟨cw1_0, fw1_0⟩ := hw1.row (k := w.heap.size) xpf
      have kw1_1 := hw1.more (k := w.heap.size + 1) xpf
      obtain ⟨cw1_1, fw1_1⟩ := hw1.row (k := w.heap.size + 1) xpf
      replace ho1 := hide (OwnS.mono (lo' := w.heap.size + 2) ho1 (by simp) (Nat.le_refl _))
      have hs1 : w.heap.size + 2 ≤ w1.heap.size := by have := hw1.size; simpa using this
      go_wp2_with fail
      refine (IsRing_impl z b e ao len ca xs _ (hx'.out.ext Ext.go) hn'.out (by omega)).mono ?_
      rintro en w2 ⟨rfl, hw2⟩
      have xw2 : Ext w w2 := Ext.go
      have kw2_0 := hw2.more (k := w.heap.size) xpf
      obtain ⟨cw2_0, fw2_0⟩ := hw2.row (k := w.heap.size) xpf
      have kw2_1 := hw2.more (k := w.heap.size + 1) xpf
      obtain ⟨cw2_1, fw2_1⟩ := hw2.row (k := w.heap.size + 1) xpf
      have kw2_2 := hw2.more (k := w1.heap.size) xpf
      obtain ⟨cw2_2, fw2_2⟩ := hw2.row (k := w1.heap.size) xpf
      have hs2 : w1.heap.size < w2.heap.size := by have := hw2.size; simp at this; omega
      rw [hR]
      go_wp2_with (go_at_call 74; refine (within_any _ _ _ _).mono ?_; rintro en w9 ⟨rfl, rfl⟩)
      refine bodyPost_ret (v := .tuple #[.agg #[.int .i64 z, .int .i64 b, .int .i64 e, .slice ao1 xs.length cap1], .bool false]) (by simp [results, Try.results134, go_sem, *]) rfl ⟨ao1, cap1, rfl, ?_, ?_⟩
      · refine OwnS.mono (OwnS.chg (S := fun k => k < w.heap.size + 2) ho1.out (by repeat (first | with_reducible exact Chg.refl _ _ | with_reducible assumption | with_reducible refine Chg.alloc ?_ _ | with_reducible refine Chg.drew ?_ | ((with_reducible refine Chg.set ?_ ?_ _); (focus (first | (left; simp; done) | (left; simp; omega) | (right; simp; done) | (right; simp; omega) | (right; omega)))) | with_reducible refine Chg.trans ?_ (Ext.chg hw2 _))) (fun b h1 h2 h3 => by omega)) (by omega) (by simp; omega)
      · exact Ext.go
  · -- no
    have hn' := hide hn
    have hx' := hide hx
    clear hn hx
    go_enter Try.func134, Try.ntmps134
    go_wp2_with fail
    refine (copyRing_any z b e ao len ca xs _ (hx'.out.ext Ext.go) hn'.out (by omega)).mono ?_
    rintro en w1 ⟨ao1, cap1, rfl, ho1, hw1⟩
    have xw1 : Ext w w1 := Ext.go
    have kw1_0 := hw1.more (k := w.heap.size) xpf
    obtain ⟨cw1_0, fw1_0⟩ := hw1.row (k := w.heap.size) xpf
    have kw1_1 := hw1.more (k := w.heap.size + 1) xpf
    obtain ⟨cw1_1, fw1_1⟩ := hw1.row (k := w.heap.size + 1) xpf
    replace ho1 := hide (OwnS.mono (lo' := w.heap.size + 2) ho1 (by simp) (Nat.le_refl _))
    have hs1 : w.heap.size + 2 ≤ w1.heap.size := by have := hw1.size; simpa using this
    go_wp2_with fail
    refine (IsRing_impl z b e ao len ca xs _ (hx'.out.ext Ext.go) hn'.out (by omega)).mono ?_
    rintro en w2 ⟨rfl, hw2⟩
    have xw2 : Ext w w2 := Ext.go
    have kw2_0 := hw2.more (k := w.heap.size) xpf
    obtain ⟨cw2_0, fw2_0⟩ := hw2.row (k := w.heap.size) xpf
    have kw2_1 := hw2.more (k := w.heap.size + 1) xpf
    obtain ⟨cw2_1, fw2_1⟩ := hw2.row (k := w.heap.size + 1) xpf
    have kw2_2 := hw2.more (k := w1.heap.size) xpf
    obtain ⟨cw2_2, fw2_2⟩ := hw2.row (k := w1.heap.size) xpf
    have hs2 : w1.heap.size < w2.heap.size := by have := hw2.size; simp at this; omega
    rw [hR]
    go_wp2_with (go_at_call 74; refine (within_any _ _ _ _).mono ?_; rintro en w9 ⟨rfl, rfl⟩)
    refine bodyPost_ret (v := .tuple #[.agg #[.int .i64 z, .int .i64 b, .int .i64 e, .slice ao1 xs.length cap1], .bool false]) (by simp [results, Try.results134, go_sem, *]) rfl ⟨ao1, cap1, rfl, ?_, ?_⟩
    · refine OwnS.mono (OwnS.chg (S := fun k => k < w.heap.size + 2) ho1.out (by repeat (first | with_reducible exact Chg.refl _ _ | with_reducible assumption | with_reducible refine Chg.alloc ?_ _ | with_reducible refine Chg.drew ?_ | ((with_reducible refine Chg.set ?_ ?_ _); (focus (first | (left; simp; done) | (left; simp; omega) | (right; simp; done) | (right; simp; omega) | (right; omega)))) | with_reducible refine Chg.trans ?_ (Ext.chg hw2 _))) (fun b h1 h2 h3 => by omega)) (by omega) (by simp; omega)
    · exact Ext.go
set_option maxHeartbeats 2000000 in
theorem DropRing_impl_yes (z b e to : Int) (ao : Option Addr) (len ca : Nat) (xs : List Int) (w : World) (hx : ReadS w ao xs) (hn : xs.length = len) (hl : len ≤ 1048576) (hR : isRing z b e xs = true) (h1 : b ≤ to) (h2 : to ≤ e) :
    Calls Try.prog 134 #[.agg #[.int .i64 z, .int .i64 b, .int .i64 e, .slice ao len ca], .int .i64 to] w (RingRes z to e (setN xs z b (fun _ => 0) (to - b).toNat) (.bool true) w) := by
  obtain ⟨b1, b2, b3, b4, b5, b6, b7⟩ := isRing_bd hR
  have hin : inB b to e = true := inB_mk h1 h2
  have hn' := hide hn
  have hx' := hide hx
  clear hn hx
  go_enter Try.func134, Try.ntmps134
  go_wp2_with fail
  refine (copyRing_any z b e ao len ca xs _ (hx'.out.ext Ext.go) hn'.out (by omega)).mono ?_
  rintro en w1 ⟨ao1, cap1, rfl, ho1, hw1⟩
  have xw1 : Ext w w1 := Ext.go
  have kw1_0 := hw1.more (k := w.heap.size) xpf
  obtain ⟨cw1_0, fw1_0⟩ := hw1.row (k := w.heap.size) xpf
  have kw1_1 := hw1.more (k := w.heap.size + 1) xpf
  obtain ⟨cw1_1, fw1_1⟩ := hw1.row (k := w.heap.size + 1) xpf
  replace ho1 := hide (OwnS.mono (lo' := w.heap.size + 2) ho1 (by simp) (Nat.le_refl _))
  have hs1 : w.heap.size + 2 ≤ w1.heap.size := by have := hw1.size; simpa using this
  go_wp2_with fail
  refine (IsRing_impl z b e ao len ca xs _ (hx'.out.ext Ext.go) hn'.out (by omega)).mono ?_
  rintro en w2 ⟨rfl, hw2⟩
  have xw2 : Ext w w2 := Ext.go
  have kw2_0 := hw2.more (k := w.heap.size) xpf
  obtain ⟨cw2_0, fw2_0⟩ := hw2.row (k := w.heap.size) xpf
  have kw2_1 := hw2.more (k := w.heap.size + 1) xpf
  obtain ⟨cw2_1, fw2_1⟩ := hw2.row (k := w.heap.size + 1) xpf
  have kw2_2 := hw2.more (k := w1.heap.size) xpf
  obtain ⟨cw2_2, fw2_2⟩ := hw2.row (k := w1.heap.size) xpf
  have hs2 : w1.heap.size < w2.heap.size := by have := hw2.size; simp at this; omega
  rw [hR]
  go_wp2_with (go_at_call 74; refine (within_any _ _ _ _).mono ?_; rintro en w9 ⟨rfl, rfl⟩)
  obtain ⟨ba, off, rfl⟩ := own_some ho1.out (by omega)
  have hE2 : Ext w w2 := xw2
  have ho2 : OwnS (w.heap.size + 2) w1.heap.size w2 (some ⟨ba, off, none⟩) xs := ho1.out.chg (S := fun k => k < w.heap.size + 2) (by repeat (first | with_reducible exact Chg.refl _ _ | with_reducible assumption | with_reducible refine Chg.alloc ?_ _ | with_reducible refine Chg.drew ?_ | ((with_reducible refine Chg.set ?_ ?_ _); (focus (first | (left; simp; done) | (left; simp; omega) | (right; simp; done) | (right; simp; omega) | (right; omega)))) | with_reducible refine Chg.trans ?_ (Ext.chg hw2 _))) (fun b h1 h2 h3 => by omega)
  obtain ⟨-, ha1, ha2, -⟩ := own_at ho2 (j := 0) (by omega)
  clear ho1
  go_loopw [7] (fun at_ wr => ∃ i : Nat, at_ = .int .i64 (b + (i : Int)) ∧ b + (i : Int) ≤ to ∧ Hid (OwnS (w.heap.size + 2) w1.heap.size wr (some ⟨ba, off, none⟩) (setN xs z b (fun _ => 0) i)) ∧ Chg (fun k => k = ba) w2 wr) (fun at_ _ => (to - intOf at_).toNat)
  case atStart => exact ⟨0, by simp, by omega, hide ho2, Chg.refl _ _⟩
  case round =>
    obtain ⟨i, rfl, hi, hown, hg⟩ := hrel
    obtain ⟨c0, f0⟩ := hg.row (k := w.heap.size) (by omega) (by omega)
    obtain ⟨c1, f1⟩ := hg.row (k := w.heap.size + 1) (by omega) (by omega)
    obtain ⟨c2, f2⟩ := hg.row (k := w1.heap.size) (by omega) (by omega)
    have hs3 := hg.size
    by_cases hlt : b + (i : Int) < to
    · obtain ⟨j1, j2⟩ := cellIx_lt (z := z) (o := b) (k := i) (by omega) (by omega)
      have hjl : cellIx z b i < (setN xs z b (fun _ => 0) i).length := by rw [setN_length]; omega
      have hset := hide (own_set hown.out hjl 0)
      obtain ⟨cx, -, -, fx⟩ := own_at hown.out hjl
      have hsucc : Hid ((setN xs z b (fun _ => 0) i).set (cellIx z b i) 0 = setN xs z b (fun _ => 0) (i + 1)) := hide rfl
      have j4 : (cellIx z b i : Int) < (len : Int) := by have := hn'.out; omega
      have hnn := setN_length xs z b (fun _ => 0) i
      generalize cellIx z b i = j at *
      generalize setN xs z b (fun _ => 0) i = ys at *
      generalize ys.getD j 0 = x at *
      have j0 : (0 : Int) ≤ (j : Int) := by omega
      have hzz : ¬ z = 0 := by omega
      have hlen1 : (j : Int) < (xs.length : Int) := by omega
      have d0 : wr.cell? ⟨w.heap.size, 0, none⟩ = some (.int .i64 z) := (by rw [c0, cw2_0]; simp [go_sem, *])
      have d3 : wr.cell? ⟨w1.heap.size, 3, none⟩ = some (.slice (some ⟨ba, off, none⟩) xs.length cap1) := (by rw [c2, cw2_2]; simp [go_sem, *])
      clear c0 c1 c2
      have hne0 : ba ≠ w.heap.size := by omega
      have hne1 : ba ≠ w1.heap.size := by omega
      go_wp2_with fail
      go_region_held3 (fun w' => w'.cell? ⟨w.heap.size, 0, none⟩ = some (.int .i64 z) ∧ w'.cell? ⟨w1.heap.size, 3, none⟩ = some (.slice (some ⟨ba, off, none⟩) xs.length cap1)) (first | go_keep | (go_split_ands; refine ⟨?_, ?_⟩ <;> (rw [World.cell?_setCell_other _ _ _ _ (by simp; omega)]; simp [go_sem, *]))) (fail)
      go_wp2
      go_roundw
      case rel => exact ⟨i + 1, by go_num, by omega, hide (by rw [← hsucc.out]; exact hset.out.chg ((Chg.refl (fun _ => False) _).drew) (fun _ _ _ h => h)), Chg.drew (Chg.set (S := fun k => k = ba) (p := ⟨ba, off + j, none⟩) (Or.inl rfl) hg _)⟩
      case measure => simp [intOf]; omega
    · obtain rfl : i = (to - b).toNat := by omega
      have hnn := setN_length xs z b (fun _ => 0) (to - b).toNat
      have hEr : Ext w wr := ((hE2.chg _).trans hg).ext (fun k hk h => by omega)
      go_wp2
      refine bodyPost_ret (v := .tuple #[.agg #[.int .i64 z, .int .i64 to, .int .i64 e, .slice (some ⟨ba, off, none⟩) xs.length cap1], .bool true]) (by simp [results, Try.results134, go_sem, *]) rfl ⟨some ⟨ba, off, none⟩, cap1, by rw [hnn], ?_, ?_⟩
      · refine OwnS.mono (OwnS.chg (S := fun k => k < w.heap.size + 2 ∨ w1.heap.size ≤ k) hown.out (by repeat (first | with_reducible exact Chg.refl _ _ | with_reducible assumption | with_reducible refine Chg.alloc ?_ _ | with_reducible refine Chg.drew ?_ | with_reducible refine Chg.drewN ?_ _ | ((with_reducible refine Chg.set ?_ ?_ _); (focus (first | (left; simp; done) | (left; simp; omega) | (right; simp; done) | (right; simp; omega)))))) (fun b h1 h2 h3 => by omega)) (by omega) (by simp; omega)
      · exact Ext.go
theorem DropRing_impl (z b e to : Int) (ao : Option Addr) (len ca : Nat) (xs : List Int) (w : World) (hx : ReadS w ao xs) (hn : xs.length = len) (hl : len ≤ 1048576) :
    Calls Try.prog 134 #[.agg #[.int .i64 z, .int .i64 b, .int .i64 e, .slice ao len ca], .int .i64 to] w (RingRes z (dropB z b e to xs) e (dropC z b e to xs) (.bool (dropOk z b e to xs)) w) := by
  rcases Bool.eq_false_or_eq_true (dropOk z b e to xs) with h | h
  · have h' := h
    simp only [dropOk, Bool.and_eq_true] at h'
    obtain ⟨h1, h2⟩ := inB_true h'.2
    rw [dropB, dropC, if_pos h, if_pos h, h]
    exact DropRing_impl_yes z b e to ao len ca xs w hx hn hl h'.1 h1 h2
  · have h' : ¬ dropOk z b e to xs = true := by simp [h]
    rw [dropB, dropC, if_neg h', if_neg h', h]
    exact DropRing_impl_no z b e to ao len ca xs w hx hn hl h
end
end Go.Proofs.Ytjhgcbchdnoleaa

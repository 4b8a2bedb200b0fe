/-
  Contracts of TakeBytes. Conditions: the chunks can be read.
-/
import Derived.Test.YtjnbiacnhimkgaaBufBox
import Derived.Test.YtjnbiacnhimkgaaEndOf
import Derived.Deep.DeepCutAuto
import Derived.RegionTactic
import Derived.BigRegion
namespace Go.Proofs.Ytjnbiacnhimkgaa
open Go.ChangeShapes Go.WideShapes Go.ChangeAt Go.RowKit
set_option linter.unusedSimpArgs false
/-- A text and a buffer: the buffer's chunks in memory of the call's own. -/
def TakeRes (s : ByteArray) (nx : Int) (cs : List Ck) (w : World) (en : Ending) (w' : World) : Prop :=
  ∃ (ao : Option Addr) (cap : Nat), en = .returned (.tuple #[.string s, .agg #[.int .i64 nx, .slice ao cs.length cap]]) ∧ OwnC w.heap.size w'.heap.size w' ao cs ∧ Ext w w'
theorem own_someC {lo hi : Nat} {w : World} {ao : Option Addr} {cs : List Ck} (h : OwnC lo hi w ao cs) (hp : 0 < cs.length) : ∃ b off, ao = some ⟨b, off, none⟩ := by
  rcases h with rfl | ⟨b, off, h1, _⟩
  · simp at hp
  · exact ⟨b, off, h1⟩
theorem own_atC {lo hi b off : Nat} {w : World} {cs : List Ck} (h : OwnC lo hi w (some ⟨b, off, none⟩) cs) {j : Nat} (hj : j < cs.length) :
    w.cell? ⟨b, off + j * 2, none⟩ = some (.int .i64 (cs.getD j dk).1) ∧ w.cell? ⟨b, off + j * 2 + 1, none⟩ = some (.string (cs.getD j dk).2) ∧ lo ≤ b ∧ b < hi ∧ ∀ o, w.frozen? ⟨b, o, none⟩ = false := by
  rcases h with rfl | ⟨b', off', h1, h2, h3, h4, h5⟩
  · simp at hj
  · obtain ⟨rfl, rfl⟩ : b = b' ∧ off = off' := by simpa using h1
    exact ⟨(h5 j hj).1, (h5 j hj).2, h2, h3, h4⟩
theorem own_tailC {lo hi b off : Nat} {w : World} {cs : List Ck} (h : OwnC lo hi w (some ⟨b, off, none⟩) cs) : OwnC lo hi w (some ⟨b, off + 2, none⟩) cs.tail := by
  rcases h with rfl | ⟨b', off', h1, h2, h3, h4, h5⟩
  · exact Or.inl rfl
  · obtain ⟨rfl, rfl⟩ : b = b' ∧ off = off' := by simpa using h1
    rcases cs with _ | ⟨c, cs⟩
    · exact Or.inl rfl
    · refine Or.inr ⟨b, off + 2, rfl, h2, h3, h4, fun j hj => ?_⟩
      obtain ⟨k1, k2⟩ := h5 (j + 1) (by simp at hj ⊢; omega)
      have e : off + (j + 1) * 2 = off + 2 + j * 2 := by omega
      rw [e] at k1 k2
      exact ⟨k1, k2⟩
theorem own_headC {lo hi b off : Nat} {w : World} {cs : List Ck} (h : OwnC lo hi w (some ⟨b, off, none⟩) cs) (hp : 0 < cs.length) (o : Int) (s : ByteArray) :
    OwnC lo hi ((w.setCell ⟨b, off, none⟩ (.int .i64 o)).setCell ⟨b, off + 1, none⟩ (.string s)) (some ⟨b, off, none⟩) ((o, s) :: cs.tail) := by
  rcases h with rfl | ⟨b', off', h1, h2, h3, h4, h5⟩
  · simp at hp
  · obtain ⟨rfl, rfl⟩ : b = b' ∧ off = off' := by simpa using h1
    rcases cs with _ | ⟨c, cs⟩
    · simp at hp
    · obtain ⟨c0, c1⟩ := h5 0 (by simp)
      simp only [Nat.zero_mul, Nat.add_zero] at c0 c1
      refine Or.inr ⟨b, off, rfl, h2, h3, fun q => by rw [World.frozen?_setCell, World.frozen?_setCell]; exact h4 q, fun j hj => ?_⟩
      rcases j with _ | j
      · simp only [Nat.zero_mul, Nat.add_zero]
        refine ⟨?_, ?_⟩
        · rw [cellC_other (by omega), World.cell?_setCell_same' _ _ _ (by rw [c0]; rfl)]; rfl
        · rw [World.cell?_setCell_same' _ _ _ (by rw [cellC_other (by omega), c1]; rfl)]; rfl
      · obtain ⟨k1, k2⟩ := h5 (j + 1) (by simpa using hj)
        rw [cellC_other (by omega), cellC_other (by omega), cellC_other (by omega), cellC_other (by omega)]
        exact ⟨k1, k2⟩
theorem readyB_pos {nx : Int} {cs : List Ck} (h : 0 < readyB nx cs) : isBuf nx cs = true ∧ 0 < cs.length ∧ (cs.getD 0 dk).1 = nx ∧ readyB nx cs = ((cs.getD 0 dk).2.size : Int) := by
  unfold readyB at h ⊢
  by_cases k : isBuf nx cs = true ∧ 0 < cs.length ∧ (cs.getD 0 dk).1 = nx
  · rw [if_pos k]
    exact ⟨k.1, k.2.1, k.2.2, rfl⟩
  · rw [if_neg k] at h
    omega
set_option maxHeartbeats 4000000 in
set_option maxRecDepth 100000 in
theorem TakeBytes_spec_none (nx most : Int) (ao : Option Addr) (n ca : Nat) (cs : List Ck) (w : World) (hx : ReadC w ao cs) (hn : cs.length = n) (hl : n ≤ 1048576) (hw : WfC cs) (q : Int) (hq : q = min (readyB nx cs) (max most 0)) (hk : q = 0) :
    Calls Try.prog 44 #[.agg #[.int .i64 nx, .slice ao n ca], .int .i64 most] w (TakeRes ⟨#[]⟩ nx cs w) := by
  have q0 : (q == 0) = true := beq_iff_eq.2 hk
  have hbd := readyB_bd nx cs
  have hn' := hide hn
  have hx' := hide hx
  have hw' := hide hw
  have hq' := hide hq
  have hk' := hide hk
  clear hn hx hw hq hk
  go_enter Try.func44, Try.ntmps44
  go_upto_region 1 with fail
  go_cut [6] (fun v wx => v = .int .i64 q ∧ Ext ((w.alloc (.cells #[.int .i64 nx, .slice ao n ca] 26)).alloc (.cells #[.int .i64 0, .slice none 0 0] 26)) wx)
  case first =>
    go_wp2_with fail
    refine (ReadyBytes_spec nx ao n ca cs _ (hx'.out.ext (by repeat (first | with_reducible exact Ext.refl _ | with_reducible assumption | with_reducible refine Ext.alloc ?_ _ | with_reducible refine Ext.drew ?_ | with_reducible refine Ext.drewN ?_ _ | ((with_reducible refine Ext.set ?_ ?_ _); (focus (first | (simp; done) | (simp; omega)))) | with_reducible refine Ext.trans ?_ (by assumption)))) hn'.out (by omega) hw'.out).mono ?_
    rintro en wo ⟨rfl, hwo⟩
    have hhq := hq'.out
    generalize readyB nx cs = rb at *
    go_wp2
    all_goals (go_meet; exact ⟨by (first | (congr 1; omega) | (simp; omega)), hwo⟩)
  case rest =>
    obtain ⟨rfl, hwx⟩ := hcut
    have xwc : Ext w wc := Ext.trans (by repeat (first | with_reducible exact Ext.refl _ | with_reducible assumption | with_reducible refine Ext.alloc ?_ _ | with_reducible refine Ext.drew ?_ | with_reducible refine Ext.drewN ?_ _ | ((with_reducible refine Ext.set ?_ ?_ _); (focus (first | (simp; done) | (simp; omega)))) | with_reducible refine Ext.trans ?_ (by assumption))) hwx
    obtain ⟨x0, y0⟩ := hwx.row (k := w.heap.size) (by first | assumption | (simp; done) | (simp; omega) | omega)
    obtain ⟨x1, y1⟩ := hwx.row (k := w.heap.size + 1) (by first | assumption | (simp; done) | (simp; omega) | omega)
    have hs0 : w.heap.size + 2 ≤ wc.heap.size := by have := hwx.size; simpa using this
    go_wp2_with fail
    refine (l6Copy_own nx ao n ca cs _ (hx'.out.ext (by repeat (first | with_reducible exact Ext.refl _ | with_reducible assumption | with_reducible refine Ext.alloc ?_ _ | with_reducible refine Ext.drew ?_ | ((with_reducible refine Ext.set ?_ ?_ _); (focus (first | (simp; done) | (simp; omega) | omega))) | with_reducible refine Ext.trans ?_ xwc | with_reducible refine Ext.trans ?_ hwx))) hn'.out hl).mono ?_
    rintro en w1 ⟨ao1, cap1, rfl, ho1, hb, hcap⟩
    have ho2 := ho1.own
    have hs1 : wc.heap.size ≤ w1.heap.size := hb.size
    obtain ⟨c0, f0⟩ := hb.row (k := w.heap.size) (by first | assumption | (simp; done) | (simp; omega) | omega)
    obtain ⟨c1, f1⟩ := hb.row (k := w.heap.size + 1) (by first | assumption | (simp; done) | (simp; omega) | omega)
    have g0 : w1.cell? ⟨w.heap.size + 1, 0, none⟩ = some (.int .i64 0) := (by rw [c1, x1]; simp [go_sem])
    have g1 : w1.cell? ⟨w.heap.size + 1, 1, none⟩ = some (.slice none 0 0) := (by rw [c1, x1]; simp [go_sem])
    have gF : ∀ o, w1.frozen? ⟨w.heap.size + 1, o, none⟩ = false := fun o => (by rw [f1, y1]; simp [go_sem])
    have hk1 : w.heap.size + 1 < w1.heap.size := by omega
    have hB0 : w1.heap.size ≠ w.heap.size + 1 := by omega
    clear c0 f0 c1 f1 x0 y0 x1 y1 ho1
    go_wp2_with fail
    go_region
    go_wp2
    refine bodyPost_ret (v := .tuple #[.string ⟨#[]⟩, .agg #[.int .i64 nx, .slice ao1 cs.length cap1]]) (by simp [results, Try.results44, go_sem, *]) rfl ⟨ao1, cap1, rfl, ?_, ?_⟩
    · refine OwnC.mono (OwnC.chg (S := fun k => k < wc.heap.size ∨ w1.heap.size ≤ k) (ho2) (by repeat (first | with_reducible exact Chg.refl _ _ | with_reducible assumption | with_reducible refine Chg.alloc ?_ _ | with_reducible refine Chg.drew ?_ | with_reducible refine Chg.drewN ?_ _ | ((with_reducible refine Chg.set ?_ ?_ _); (focus (first | (left; simp; done) | (left; simp; omega) | (right; simp; done) | (right; simp; omega)))))) (fun b h1 h2 h3 => by omega)) (by omega) (by first | omega | (simp; done) | (simp; omega))
    · exact (by repeat (first | with_reducible exact Ext.refl _ | with_reducible assumption | with_reducible refine Ext.alloc ?_ _ | with_reducible refine Ext.drew ?_ | with_reducible refine Ext.drewN ?_ _ | ((with_reducible refine Ext.set ?_ ?_ _); (focus (first | (simp; done) | (simp; omega)))) | with_reducible refine Ext.trans ?_ (by assumption)))
set_option maxHeartbeats 4000000 in
set_option maxRecDepth 100000 in
theorem TakeBytes_spec_all (nx most : Int) (ao : Option Addr) (n ca : Nat) (cs : List Ck) (w : World) (hx : ReadC w ao cs) (hn : cs.length = n) (hl : n ≤ 1048576) (hw : WfC cs) (q : Int) (hq : q = min (readyB nx cs) (max most 0)) (hk : q = ((cs.getD 0 dk).2.size : Int)) (hk0 : 0 < q) :
    Calls Try.prog 44 #[.agg #[.int .i64 nx, .slice ao n ca], .int .i64 most] w (TakeRes (cs.getD 0 dk).2 (nx + q) cs.tail w) := by
  obtain ⟨r1, r2, r3, r4⟩ := readyB_pos (nx := nx) (cs := cs) (by omega)
  have hn0 : 0 < n := by omega
  have q0 : (q == 0) = false := beq_eq_false_iff_ne.2 (by omega)
  have hbd := readyB_bd nx cs
  have hwr : IntKind.i64.wrap (nx + q) = nx + q := IntWalk.i64_in _ (by omega)
  have q1 : (q == ((cs.getD 0 dk).2.size : Int)) = true := beq_iff_eq.2 hk
  have hn' := hide hn
  have hx' := hide hx
  have hw' := hide hw
  have hq' := hide hq
  have hk' := hide hk
  clear hn hx hw hq hk
  have r3' := hide r3
  have r4' := hide r4
  clear r3 r4
  have q3 : q ≤ ((cs.getD 0 dk).2.size : Int) := by have := hk'.out; omega
  generalize hc : cs.getD 0 dk = c at *
  replace hc := hide hc
  obtain ⟨o, s⟩ := c
  dsimp only at q1 q3 hk'
  go_enter Try.func44, Try.ntmps44
  go_upto_region 1 with fail
  go_cut [6] (fun v wx => v = .int .i64 q ∧ Ext ((w.alloc (.cells #[.int .i64 nx, .slice ao n ca] 26)).alloc (.cells #[.int .i64 0, .slice none 0 0] 26)) wx)
  case first =>
    go_wp2_with fail
    refine (ReadyBytes_spec nx ao n ca cs _ (hx'.out.ext (by repeat (first | with_reducible exact Ext.refl _ | with_reducible assumption | with_reducible refine Ext.alloc ?_ _ | with_reducible refine Ext.drew ?_ | with_reducible refine Ext.drewN ?_ _ | ((with_reducible refine Ext.set ?_ ?_ _); (focus (first | (simp; done) | (simp; omega)))) | with_reducible refine Ext.trans ?_ (by assumption)))) hn'.out (by omega) hw'.out).mono ?_
    rintro en wo ⟨rfl, hwo⟩
    have hhq := hq'.out
    generalize readyB nx cs = rb at *
    go_wp2
    all_goals (go_meet; exact ⟨by (first | (congr 1; omega) | (simp; omega)), hwo⟩)
  case rest =>
    obtain ⟨rfl, hwx⟩ := hcut
    have xwc : Ext w wc := Ext.trans (by repeat (first | with_reducible exact Ext.refl _ | with_reducible assumption | with_reducible refine Ext.alloc ?_ _ | with_reducible refine Ext.drew ?_ | with_reducible refine Ext.drewN ?_ _ | ((with_reducible refine Ext.set ?_ ?_ _); (focus (first | (simp; done) | (simp; omega)))) | with_reducible refine Ext.trans ?_ (by assumption))) hwx
    obtain ⟨x0, y0⟩ := hwx.row (k := w.heap.size) (by first | assumption | (simp; done) | (simp; omega) | omega)
    obtain ⟨x1, y1⟩ := hwx.row (k := w.heap.size + 1) (by first | assumption | (simp; done) | (simp; omega) | omega)
    have hs0 : w.heap.size + 2 ≤ wc.heap.size := by have := hwx.size; simpa using this
    go_wp2_with fail
    refine (l6Copy_own nx ao n ca cs _ (hx'.out.ext (by repeat (first | with_reducible exact Ext.refl _ | with_reducible assumption | with_reducible refine Ext.alloc ?_ _ | with_reducible refine Ext.drew ?_ | ((with_reducible refine Ext.set ?_ ?_ _); (focus (first | (simp; done) | (simp; omega) | omega))) | with_reducible refine Ext.trans ?_ xwc | with_reducible refine Ext.trans ?_ hwx))) hn'.out hl).mono ?_
    rintro en w1 ⟨ao1, cap1, rfl, ho1, hb, hcap⟩
    have ho2 := ho1.own
    have hs1 : wc.heap.size ≤ w1.heap.size := hb.size
    obtain ⟨c0, f0⟩ := hb.row (k := w.heap.size) (by first | assumption | (simp; done) | (simp; omega) | omega)
    obtain ⟨c1, f1⟩ := hb.row (k := w.heap.size + 1) (by first | assumption | (simp; done) | (simp; omega) | omega)
    have g0 : w1.cell? ⟨w.heap.size + 1, 0, none⟩ = some (.int .i64 0) := (by rw [c1, x1]; simp [go_sem])
    have g1 : w1.cell? ⟨w.heap.size + 1, 1, none⟩ = some (.slice none 0 0) := (by rw [c1, x1]; simp [go_sem])
    have gF : ∀ o, w1.frozen? ⟨w.heap.size + 1, o, none⟩ = false := fun o => (by rw [f1, y1]; simp [go_sem])
    have hk1 : w.heap.size + 1 < w1.heap.size := by omega
    have hB0 : w1.heap.size ≠ w.heap.size + 1 := by omega
    clear c0 f0 c1 f1 x0 y0 x1 y1 ho1
    obtain ⟨ba, off, rfl⟩ := own_someC ho2 (by have := hn'.out; omega)
    obtain ⟨e0, e1, k1, k2, kF⟩ := own_atC ho2 (j := 0) (by have := hn'.out; omega)
    rw [hc.out] at e0 e1
    simp only [Nat.zero_mul, Nat.add_zero] at e0 e1
    have hb0 : ba ≠ w1.heap.size := by omega
    have hb1 : ba ≠ w.heap.size + 1 := by omega
    have q2 : (0 : Int) ≤ q := by omega
    have n1 : (0 : Int) < (cs.length : Int) := by have := hn'.out; omega
    have n2 : (1 : Int) ≤ (cs.length : Int) := by omega
    try dsimp only at e0 e1
    generalize hN : cs.length = N at *
    replace hN := hide hN
    by_cases hc1 : cap1 = 1
    · subst hc1
      obtain rfl : N = 1 := by have := hN.out; omega
      have hnil : cs.tail = [] := List.eq_nil_of_length_eq_zero (by rw [List.length_tail, hN.out])
      go_wp2_with fail
      refine (l6Copy_any (nx + q) (some ⟨ba, off, none⟩) 0 0 [] _ (Or.inl rfl) rfl (by omega)).mono ?_
      rintro en w2 ⟨ao2, cap2, rfl, ho3, hb2⟩
      have hs2 := hb2.size
      obtain ⟨c1, f1⟩ := hb2.row (k := w.heap.size + 1) (by simp; omega)
      have hk2 : w.heap.size + 1 < w2.heap.size := by simp at hs2; omega
      go_wp2
      refine bodyPost_ret (v := .tuple #[.string s, .agg #[.int .i64 (nx + q), .slice ao2 0 cap2]]) (by simp [results, Try.results44, go_sem, *]) rfl ⟨_, _, by rw [hnil]; rfl, Or.inl hnil, ?_⟩
      exact Ext.set (by simp) (Ext.set (by simp) (Ext.trans (by repeat (first | with_reducible exact Ext.refl _ | with_reducible assumption | with_reducible refine Ext.alloc ?_ _ | with_reducible refine Ext.drew ?_ | ((with_reducible refine Ext.set ?_ ?_ _); (focus (first | (simp; done) | (simp; omega) | omega))) | with_reducible refine Ext.trans ?_ hb | with_reducible refine Ext.trans ?_ hwx)) hb2) _) _
    · have hrd := hide (own_tailC ho2)
      go_wp2_with fail
      refine (l6Copy_any (nx + q) (some ⟨ba, off + 2, none⟩) (N - 1) (cap1 - 1) cs.tail _ (OwnC.read (OwnC.chg (S := fun k => k < wc.heap.size ∨ w1.heap.size ≤ k) hrd.out (by repeat (first | with_reducible exact Chg.refl _ _ | with_reducible assumption | with_reducible refine Chg.alloc ?_ _ | with_reducible refine Chg.drew ?_ | with_reducible refine Chg.drewN ?_ _ | ((with_reducible refine Chg.set ?_ ?_ _); (focus (first | (left; simp; done) | (left; simp; omega) | (right; simp; done) | (right; simp; omega)))))) (fun b h1 h2 h3 => by omega))) (by rw [List.length_tail, hN.out]) (by have := hn'.out; omega)).mono ?_
      rintro en w2 ⟨ao2, cap2, rfl, ho3, hb2⟩
      have hs2 := hb2.size
      obtain ⟨c1, f1⟩ := hb2.row (k := w.heap.size + 1) (by simp; omega)
      have hk2 : w.heap.size + 1 < w2.heap.size := by simp at hs2; omega
      go_wp2
      refine bodyPost_ret (v := .tuple #[.string s, .agg #[.int .i64 (nx + q), .slice ao2 cs.tail.length cap2]]) (by simp [results, Try.results44, go_sem, *]) rfl ⟨_, _, rfl, ?_, ?_⟩
      · refine OwnC.mono (OwnC.chg (S := fun k => k = w.heap.size + 1) ho3 (by repeat (first | with_reducible exact Chg.refl _ _ | with_reducible assumption | with_reducible refine Chg.alloc ?_ _ | with_reducible refine Chg.drew ?_ | with_reducible refine Chg.drewN ?_ _ | ((with_reducible refine Chg.set ?_ ?_ _); (focus (first | (left; simp; done) | (left; simp; omega) | (right; simp; done) | (right; simp; omega)))))) (fun b h1 h2 h3 => by simp at h1; omega)) (by simp; omega) (by simp)
      · exact Ext.set (by simp) (Ext.set (by simp) (Ext.trans (by repeat (first | with_reducible exact Ext.refl _ | with_reducible assumption | with_reducible refine Ext.alloc ?_ _ | with_reducible refine Ext.drew ?_ | ((with_reducible refine Ext.set ?_ ?_ _); (focus (first | (simp; done) | (simp; omega) | omega))) | with_reducible refine Ext.trans ?_ hb | with_reducible refine Ext.trans ?_ hwx)) hb2) _) _
set_option maxHeartbeats 4000000 in
set_option maxRecDepth 100000 in
theorem TakeBytes_spec_part (nx most : Int) (ao : Option Addr) (n ca : Nat) (cs : List Ck) (w : World) (hx : ReadC w ao cs) (hn : cs.length = n) (hl : n ≤ 1048576) (hw : WfC cs) (q : Int) (hq : q = min (readyB nx cs) (max most 0)) (hk : q < ((cs.getD 0 dk).2.size : Int)) (hk0 : 0 < q) :
    Calls Try.prog 44 #[.agg #[.int .i64 nx, .slice ao n ca], .int .i64 most] w (TakeRes ((cs.getD 0 dk).2.extract 0 q.toNat) (nx + q) ((nx + q, (cs.getD 0 dk).2.extract q.toNat (cs.getD 0 dk).2.size) :: cs.tail) w) := by
  obtain ⟨r1, r2, r3, r4⟩ := readyB_pos (nx := nx) (cs := cs) (by omega)
  have hn0 : 0 < n := by omega
  have q0 : (q == 0) = false := beq_eq_false_iff_ne.2 (by omega)
  have hbd := readyB_bd nx cs
  have hwr : IntKind.i64.wrap (nx + q) = nx + q := IntWalk.i64_in _ (by omega)
  have q1 : (q == ((cs.getD 0 dk).2.size : Int)) = false := beq_eq_false_iff_ne.2 (by omega)
  have hn' := hide hn
  have hx' := hide hx
  have hw' := hide hw
  have hq' := hide hq
  have hk' := hide hk
  clear hn hx hw hq hk
  have r3' := hide r3
  have r4' := hide r4
  clear r3 r4
  have q3 : q ≤ ((cs.getD 0 dk).2.size : Int) := by have := hk'.out; omega
  generalize hc : cs.getD 0 dk = c at *
  replace hc := hide hc
  obtain ⟨o, s⟩ := c
  dsimp only at q1 q3 hk'
  go_enter Try.func44, Try.ntmps44
  go_upto_region 1 with fail
  go_cut [6] (fun v wx => v = .int .i64 q ∧ Ext ((w.alloc (.cells #[.int .i64 nx, .slice ao n ca] 26)).alloc (.cells #[.int .i64 0, .slice none 0 0] 26)) wx)
  case first =>
    go_wp2_with fail
    refine (ReadyBytes_spec nx ao n ca cs _ (hx'.out.ext (by repeat (first | with_reducible exact Ext.refl _ | with_reducible assumption | with_reducible refine Ext.alloc ?_ _ | with_reducible refine Ext.drew ?_ | with_reducible refine Ext.drewN ?_ _ | ((with_reducible refine Ext.set ?_ ?_ _); (focus (first | (simp; done) | (simp; omega)))) | with_reducible refine Ext.trans ?_ (by assumption)))) hn'.out (by omega) hw'.out).mono ?_
    rintro en wo ⟨rfl, hwo⟩
    have hhq := hq'.out
    generalize readyB nx cs = rb at *
    go_wp2
    all_goals (go_meet; exact ⟨by (first | (congr 1; omega) | (simp; omega)), hwo⟩)
  case rest =>
    obtain ⟨rfl, hwx⟩ := hcut
    have xwc : Ext w wc := Ext.trans (by repeat (first | with_reducible exact Ext.refl _ | with_reducible assumption | with_reducible refine Ext.alloc ?_ _ | with_reducible refine Ext.drew ?_ | with_reducible refine Ext.drewN ?_ _ | ((with_reducible refine Ext.set ?_ ?_ _); (focus (first | (simp; done) | (simp; omega)))) | with_reducible refine Ext.trans ?_ (by assumption))) hwx
    obtain ⟨x0, y0⟩ := hwx.row (k := w.heap.size) (by first | assumption | (simp; done) | (simp; omega) | omega)
    obtain ⟨x1, y1⟩ := hwx.row (k := w.heap.size + 1) (by first | assumption | (simp; done) | (simp; omega) | omega)
    have hs0 : w.heap.size + 2 ≤ wc.heap.size := by have := hwx.size; simpa using this
    go_wp2_with fail
    refine (l6Copy_own nx ao n ca cs _ (hx'.out.ext (by repeat (first | with_reducible exact Ext.refl _ | with_reducible assumption | with_reducible refine Ext.alloc ?_ _ | with_reducible refine Ext.drew ?_ | ((with_reducible refine Ext.set ?_ ?_ _); (focus (first | (simp; done) | (simp; omega) | omega))) | with_reducible refine Ext.trans ?_ xwc | with_reducible refine Ext.trans ?_ hwx))) hn'.out hl).mono ?_
    rintro en w1 ⟨ao1, cap1, rfl, ho1, hb, hcap⟩
    have ho2 := ho1.own
    have hs1 : wc.heap.size ≤ w1.heap.size := hb.size
    obtain ⟨c0, f0⟩ := hb.row (k := w.heap.size) (by first | assumption | (simp; done) | (simp; omega) | omega)
    obtain ⟨c1, f1⟩ := hb.row (k := w.heap.size + 1) (by first | assumption | (simp; done) | (simp; omega) | omega)
    have g0 : w1.cell? ⟨w.heap.size + 1, 0, none⟩ = some (.int .i64 0) := (by rw [c1, x1]; simp [go_sem])
    have g1 : w1.cell? ⟨w.heap.size + 1, 1, none⟩ = some (.slice none 0 0) := (by rw [c1, x1]; simp [go_sem])
    have gF : ∀ o, w1.frozen? ⟨w.heap.size + 1, o, none⟩ = false := fun o => (by rw [f1, y1]; simp [go_sem])
    have hk1 : w.heap.size + 1 < w1.heap.size := by omega
    have hB0 : w1.heap.size ≠ w.heap.size + 1 := by omega
    clear c0 f0 c1 f1 x0 y0 x1 y1 ho1
    obtain ⟨ba, off, rfl⟩ := own_someC ho2 (by have := hn'.out; omega)
    obtain ⟨e0, e1, k1, k2, kF⟩ := own_atC ho2 (j := 0) (by have := hn'.out; omega)
    rw [hc.out] at e0 e1
    simp only [Nat.zero_mul, Nat.add_zero] at e0 e1
    have hb0 : ba ≠ w1.heap.size := by omega
    have hb1 : ba ≠ w.heap.size + 1 := by omega
    have q2 : (0 : Int) ≤ q := by omega
    have n1 : (0 : Int) < (cs.length : Int) := by have := hn'.out; omega
    have n2 : (1 : Int) ≤ (cs.length : Int) := by omega
    try dsimp only at e0 e1
    generalize hN : cs.length = N at *
    replace hN := hide hN
    have ho4 := hide (own_headC ho2 (by have := hN.out; omega) (nx + q) (s.extract q.toNat s.size))
    clear ho2
    go_wp2_with fail
    go_region
    go_wp2_with fail
    go_region
    go_wp2
    refine bodyPost_ret (v := .tuple #[.string (s.extract 0 q.toNat), .agg #[.int .i64 (nx + q), .slice (some ⟨ba, off, none⟩) N cap1]]) (by simp [results, Try.results44, go_sem, *]) rfl ⟨_, _, by rw [List.length_cons, List.length_tail, hN.out, Nat.sub_add_cancel (by omega)], ?_, ?_⟩
    · refine OwnC.mono (OwnC.chg (S := fun k => k < wc.heap.size ∨ w1.heap.size ≤ k) (ho4.out) (by repeat (first | with_reducible exact Chg.refl _ _ | with_reducible assumption | with_reducible refine Chg.alloc ?_ _ | with_reducible refine Chg.drew ?_ | with_reducible refine Chg.drewN ?_ _ | ((with_reducible refine Chg.set ?_ ?_ _); (focus (first | (left; simp; done) | (left; simp; omega) | (right; simp; done) | (right; simp; omega)))))) (fun b h1 h2 h3 => by omega)) (by omega) (by first | omega | (simp; done) | (simp; omega))
    · exact (by repeat (first | with_reducible exact Ext.refl _ | with_reducible assumption | with_reducible refine Ext.alloc ?_ _ | with_reducible refine Ext.drew ?_ | with_reducible refine Ext.drewN ?_ _ | ((with_reducible refine Ext.set ?_ ?_ _); (focus (first | (simp; done) | (simp; omega)))) | with_reducible refine Ext.trans ?_ (by assumption)))
/-- What is taken, and what is left. -/
def takeN (nx most : Int) (cs : List Ck) : Int := min (readyB nx cs) (max most 0)
def takeS (nx most : Int) (cs : List Ck) : ByteArray := if takeN nx most cs = 0 then ⟨#[]⟩ else if takeN nx most cs = ((cs.getD 0 dk).2.size : Int) then (cs.getD 0 dk).2 else (cs.getD 0 dk).2.extract 0 (takeN nx most cs).toNat
def takeX (nx most : Int) (cs : List Ck) : Int := nx + takeN nx most cs
def takeC (nx most : Int) (cs : List Ck) : List Ck := if takeN nx most cs = 0 then cs else if takeN nx most cs = ((cs.getD 0 dk).2.size : Int) then cs.tail else (nx + takeN nx most cs, (cs.getD 0 dk).2.extract (takeN nx most cs).toNat (cs.getD 0 dk).2.size) :: cs.tail
theorem takeC_length (nx most : Int) (cs : List Ck) : (takeC nx most cs).length ≤ cs.length := by
  have hb := readyB_bd nx cs
  unfold takeC
  split
  · exact Nat.le_refl _
  · rename_i h
    have : 0 < readyB nx cs := by unfold takeN at h; omega
    obtain ⟨_, r2, _, _⟩ := readyB_pos this
    split
    · rw [List.length_tail]; omega
    · rw [List.length_cons, List.length_tail]; omega
theorem take_cases {P : ByteArray → Int → List Ck → Prop} {nx most : Int} {cs : List Ck} (h0 : takeN nx most cs = 0 → P ⟨#[]⟩ nx cs)
    (h1 : takeN nx most cs = ((cs.getD 0 dk).2.size : Int) → 0 < takeN nx most cs → P (cs.getD 0 dk).2 (nx + takeN nx most cs) cs.tail)
    (h2 : takeN nx most cs < ((cs.getD 0 dk).2.size : Int) → 0 < takeN nx most cs → P ((cs.getD 0 dk).2.extract 0 (takeN nx most cs).toNat) (nx + takeN nx most cs) ((nx + takeN nx most cs, (cs.getD 0 dk).2.extract (takeN nx most cs).toNat (cs.getD 0 dk).2.size) :: cs.tail)) :
    P (takeS nx most cs) (takeX nx most cs) (takeC nx most cs) := by
  have hb := readyB_bd nx cs
  unfold takeS takeC takeX
  by_cases k0 : takeN nx most cs = 0
  · rw [if_pos k0, if_pos k0, k0, Int.add_zero]; exact h0 k0
  · have hp : 0 < takeN nx most cs := by unfold takeN at k0 ⊢; omega
    rw [if_neg k0, if_neg k0]
    by_cases k1 : takeN nx most cs = ((cs.getD 0 dk).2.size : Int)
    · rw [if_pos k1, if_pos k1]; exact h1 k1 hp
    · rw [if_neg k1, if_neg k1]
      refine h2 ?_ hp
      have hr : 0 < readyB nx cs := by unfold takeN at hp; omega
      have := (readyB_pos hr).2.2.2
      unfold takeN at k1 ⊢
      omega
theorem TakeBytes_spec (nx most : Int) (ao : Option Addr) (n ca : Nat) (cs : List Ck) (w : World) (hx : ReadC w ao cs) (hn : cs.length = n) (hl : n ≤ 1048576) (hw : WfC cs) :
    Calls Try.prog 44 #[.agg #[.int .i64 nx, .slice ao n ca], .int .i64 most] w (TakeRes (takeS nx most cs) (takeX nx most cs) (takeC nx most cs) w) :=
  take_cases (P := fun a b c => Calls Try.prog 44 #[.agg #[.int .i64 nx, .slice ao n ca], .int .i64 most] w (TakeRes a b c w)) (fun h => TakeBytes_spec_none nx most ao n ca cs w hx hn hl hw _ rfl h)
    (fun h h0 => TakeBytes_spec_all nx most ao n ca cs w hx hn hl hw _ rfl h h0) (fun h h0 => TakeBytes_spec_part nx most ao n ca cs w hx hn hl hw _ rfl h h0)
theorem takeN_min {nx most : Int} {cs : List Ck} (h : 0 < takeN nx most cs) : takeN nx most cs = min most (readyB nx cs) := by
  unfold takeN at *; omega
end Go.Proofs.Ytjnbiacnhimkgaa

/-
  Part of the proof: Write, RingP, SnP, SnStep.
-/
import Derived.Deep.DeepCutAuto
import Derived.Test.YtjhgcbchdnoleaaPG3
namespace Go.Proofs.Ytjhgcbchdnoleaa
section
open Go.ChangeShapes Go.WideShapes Go.ChangeAt Go.RowKit
set_option linter.unusedSimpArgs false
/-- The bytes of a text as numbers. -/
def byteAt (s : ByteArray) (i : Nat) : Int := if h : i < s.size then ((s[i]'h).toNat : Int) else 0
def writeM (z b e : Int) (s : ByteArray) (xs : List Int) : Nat := (min (s.size : Int) (roomOf z b e xs)).toNat
set_option maxHeartbeats 2000000 in
theorem WriteRing_spec (z b e : Int) (s : ByteArray) (ao : Option Addr) (len ca : Nat) (xs : List Int) (w : World) (hx : ReadS w ao xs) (hn : xs.length = len) (hl : len ≤ 1048576) (he0 : -9223372036854775808 ≤ e) (he : e ≤ 9223372036854775807) (m : Nat) (hm : (m : Int) = min (s.size : Int) (roomOf z b e xs)) :
    Calls Try.prog 68 #[.agg #[.int .i64 z, .int .i64 b, .int .i64 e, .slice ao len ca], .string s] w (RingRes z b (e + m) (setN xs z e (byteAt s) m) (.int .i64 m) w) := by
  have hn' := hide hn
  have hx' := hide hx
  have hm' := hide hm
  clear hn hx hm
  have hroom := roomOf_bd z b e xs
  go_enter Try.func68, Try.ntmps68
  go_wp2_with fail
  refine (l8Copy_any z b e ao len ca xs _ (hx'.out.ext Ext.go) hn'.out (by omega)).mono ?_
  rintro en w1 ⟨ao1, cap1, rfl, ho1, hw1⟩
  have xw1 : Ext w w1 := Ext.go
  have kw1_0 := hw1.more (k := w.heap.size) xpf
  obtain ⟨cw1_0, fw1_0⟩ := hw1.row (k := w.heap.size) xpf
  have kw1_1 := hw1.more (k := w.heap.size + 1) xpf
  obtain ⟨cw1_1, fw1_1⟩ := hw1.row (k := w.heap.size + 1) xpf
  replace ho1 := hide (OwnS.mono (lo' := w.heap.size + 2) ho1 (by simp) (Nat.le_refl _))
  have hs1 : w.heap.size + 2 ≤ w1.heap.size := by have := hw1.size; simpa using this
  go_upto_region 2 with fail
  go_cut [7] (fun v wx => v = .int .i64 (m : Int) ∧ Ext (w1.alloc (.cells #[.int .i64 z, .int .i64 b, .int .i64 e, .slice ao1 xs.length cap1] 29)) wx)
  case first =>
    go_wp2_with fail
    refine (RoomOf_spec z b e ao len ca xs _ (hx'.out.ext Ext.go) hn'.out (by omega) he).mono ?_
    rintro en wo ⟨rfl, hwo⟩
    have hhm := hm'.out
    go_wp2
    all_goals (go_meet; exact ⟨by (first | (congr 1; omega) | (simp; omega)), hwo⟩)
  case rest =>
    obtain ⟨rfl, hwx⟩ := hcut
    have xwc : Ext w wc := Ext.trans xw1 (Ext.trans Ext.go hwx)
    have hs2 : w1.heap.size < wc.heap.size := by have := hwx.size; simp at this; omega
    have ho2 : OwnS (w.heap.size + 2) w1.heap.size wc ao1 xs := ho1.out.chg (S := fun _ => False) (Chg.trans (by repeat (first | with_reducible exact Chg.refl _ _ | with_reducible assumption | with_reducible refine Chg.alloc ?_ _ | with_reducible refine Chg.drew ?_ | with_reducible refine Chg.drewN ?_ _ | ((with_reducible refine Chg.set ?_ ?_ _); (focus (first | (left; simp; done) | (left; simp; omega) | (right; simp; done) | (right; simp; omega)))))) (hwx.chg _)) (fun _ _ _ h => h)
    obtain ⟨c0, f0⟩ := hwx.row (k := w.heap.size) xpf
    obtain ⟨c1, f1x⟩ := hwx.row (k := w.heap.size + 1) xpf
    obtain ⟨c2, f2x⟩ := hwx.row (k := w1.heap.size) xpf
    have a0 : wc.cell? ⟨w.heap.size, 0, none⟩ = some (.int .i64 z) := (by rw [c0]; simp [go_sem, cw1_0, kw1_0, Nat.ne_of_lt kw1_0])
    have a2 : wc.cell? ⟨w.heap.size, 2, none⟩ = some (.int .i64 e) := (by rw [c0]; simp [go_sem, cw1_0, kw1_0, Nat.ne_of_lt kw1_0])
    have f1F : ∀ o, wc.frozen? ⟨w.heap.size + 1, o, none⟩ = false := fun o => (by rw [f1x]; simp [go_sem, fw1_1, kw1_1, Nat.ne_of_lt kw1_1])
    have g0' : wc.cell? ⟨w.heap.size + 1, 0, none⟩ = some (.int .i64 0) := (by rw [c1]; simp [go_sem, cw1_1, kw1_1, Nat.ne_of_lt kw1_1])
    have g1' : wc.cell? ⟨w.heap.size + 1, 1, none⟩ = some (.int .i64 0) := (by rw [c1]; simp [go_sem, cw1_1, kw1_1, Nat.ne_of_lt kw1_1])
    have g2' : wc.cell? ⟨w.heap.size + 1, 2, none⟩ = some (.int .i64 0) := (by rw [c1]; simp [go_sem, cw1_1, kw1_1, Nat.ne_of_lt kw1_1])
    have g3' : wc.cell? ⟨w.heap.size + 1, 3, none⟩ = some (.slice none 0 0) := (by rw [c1]; simp [go_sem, cw1_1, kw1_1, Nat.ne_of_lt kw1_1])
    have b0 : wc.cell? ⟨w1.heap.size, 0, none⟩ = some (.int .i64 z) := (by rw [c2]; simp [go_sem])
    have b1 : wc.cell? ⟨w1.heap.size, 1, none⟩ = some (.int .i64 b) := (by rw [c2]; simp [go_sem])
    have b2 : wc.cell? ⟨w1.heap.size, 2, none⟩ = some (.int .i64 e) := (by rw [c2]; simp [go_sem])
    have b3 : wc.cell? ⟨w1.heap.size, 3, none⟩ = some (.slice ao1 xs.length cap1) := (by rw [c2]; simp [go_sem])
    have bF : ∀ o, wc.frozen? ⟨w1.heap.size, o, none⟩ = false := fun o => (by rw [f2x]; simp [go_sem])
    clear cw1_0 cw1_1 fw1_0 fw1_1 hw1 c0 c1 c2 f0 f1x f2x
    go_wp2
    go_loopw [8] (fun at_ wr => ∃ i : Nat, at_ = .int .i64 (i : Int) ∧ i ≤ m ∧ Hid (OwnS (w.heap.size + 2) w1.heap.size wr ao1 (setN xs z e (byteAt s) i)) ∧ Chg (fun k => (w.heap.size + 2) ≤ k ∧ k < w1.heap.size) wc wr) (fun at_ _ => m - (intOf at_).toNat)
    case atStart => exact ⟨0, rfl, by omega, hide ho2, Chg.refl _ _⟩
    case round =>
      obtain ⟨i, rfl, hi, hown, hg⟩ := hrel
      obtain ⟨r0, f0⟩ := hg.row (k := w.heap.size) (by omega) (by omega)
      obtain ⟨r1, f1⟩ := hg.row (k := w.heap.size + 1) (by omega) (by omega)
      obtain ⟨r2, f2⟩ := hg.row (k := w1.heap.size) (by omega) (by omega)
      have hs3 := hg.size
      have d0 : wr.cell? ⟨w.heap.size, 0, none⟩ = some (.int .i64 z) := (by rw [r0]; exact a0)
      have d2 : wr.cell? ⟨w.heap.size, 2, none⟩ = some (.int .i64 e) := (by rw [r0]; exact a2)
      have e0 : wr.cell? ⟨w1.heap.size, 0, none⟩ = some (.int .i64 z) := (by rw [r2]; exact b0)
      have e1 : wr.cell? ⟨w1.heap.size, 1, none⟩ = some (.int .i64 b) := (by rw [r2]; exact b1)
      have e2 : wr.cell? ⟨w1.heap.size, 2, none⟩ = some (.int .i64 e) := (by rw [r2]; exact b2)
      have e3 : wr.cell? ⟨w1.heap.size, 3, none⟩ = some (.slice ao1 xs.length cap1) := (by rw [r2]; exact b3)
      have eF : ∀ o, wr.frozen? ⟨w1.heap.size, o, none⟩ = false := fun o => (by rw [f2]; exact bF o)
      by_cases hlt : i < m
      · have hR : isRing z b e xs = true := by
          cases hh : isRing z b e xs with
          | true => rfl
          | false =>
            have h0 : roomOf z b e xs = 0 := by simp [roomOf, hh]
            have := hm'.out
            omega
        obtain ⟨q1, q2, q3, q4, q5, q6, q7⟩ := isRing_bd hR
        have his : (i : Int) < (s.size : Int) := by have := hm'.out; omega
        have hi0 : (0 : Int) ≤ (i : Int) := by omega
        have hroom2 : (i : Int) < 64 := by have := hm'.out; omega
        obtain ⟨ba, off, rfl⟩ := own_some hown.out (by rw [setN_length]; omega)
        obtain ⟨j1, j2⟩ := cellIx_lt (z := z) (o := e) (k := i) (by omega) (by omega)
        have hjl : cellIx z e i < (setN xs z e (byteAt s) i).length := by rw [setN_length]; omega
        have hset := hide (own_set hown.out hjl (byteAt s i))
        obtain ⟨cx, k1, k2, fx⟩ := own_at hown.out hjl
        have hsucc : Hid ((setN xs z e (byteAt s) i).set (cellIx z e i) (byteAt s i) = (setN xs z e (byteAt s) (i + 1))) := hide rfl
        generalize cellIx z e i = j at *
        generalize (setN xs z e (byteAt s) i) = ys at *
        generalize ys.getD j 0 = x at *
        have j0 : (0 : Int) ≤ (j : Int) := by omega
        have hzz : ¬ z = 0 := by omega
        have hlen1 : (j : Int) < (xs.length : Int) := by omega
        have hwr : IntKind.i64.wrap (e + (i : Int)) = e + (i : Int) := IntWalk.i64_in _ (by omega)
        have his2 : i < s.size := by omega
        have hby : IntKind.i64.wrap ((s[i]'his2).toNat : Int) = byteAt s i := by
          rw [IntWalk.i64_in _ (by have := UInt8.toNat_lt (s[i]'his2); omega)]
          simp [byteAt, his2]
        have hne0 : ba ≠ w.heap.size := by omega
        have hne1 : ba ≠ w1.heap.size := by omega
        clear r0 r1 r2
        go_wp2_with fail
        go_region_held3 (fun w' => w'.cell? ⟨w.heap.size, 0, none⟩ = some (.int .i64 z) ∧ w'.cell? ⟨w.heap.size, 2, none⟩ = some (.int .i64 e) ∧ w'.cell? ⟨w1.heap.size, 3, none⟩ = some (.slice (some ⟨ba, off, none⟩) xs.length cap1)) (first | go_keep | (go_split_ands; refine ⟨?_, ?_, ?_⟩ <;> (rw [World.cell?_setCell_other _ _ _ _ (by simp; omega)]; simp [go_sem, *]))) (fail)
        go_wp2
        go_roundw
        case rel => exact ⟨i + 1, by go_num, by omega, hide (by rw [← hsucc.out]; exact hset.out.chg ((Chg.refl (fun _ => False) _).drew) (fun _ _ _ h => h)), Chg.drew (Chg.set (S := fun k => (w.heap.size + 2) ≤ k ∧ k < w1.heap.size) (p := ⟨ba, off + j, none⟩) (Or.inl ⟨k1, k2⟩) hg _)⟩
        case measure => simp [intOf]; omega
      · obtain rfl : i = m := by omega
        have hnn := setN_length xs z e (byteAt s) i
        have hEr : Ext w wr := (Chg.trans (Ext.chg (S := fun k => (w.heap.size + 2) ≤ k ∧ k < w1.heap.size) xwc) hg).ext (fun k hk h => by omega)
        have hwr : IntKind.i64.wrap (e + (i : Int)) = e + (i : Int) := IntWalk.i64_in _ (by
          have hh := hm'.out
          cases hR : isRing z b e xs with
          | true => have := isRing_bd hR; omega
          | false =>
            have h0 : roomOf z b e xs = 0 := by simp [roomOf, hR]
            omega)
        have f1' : ∀ o, wr.frozen? ⟨w.heap.size + 1, o, none⟩ = false := fun o => (by rw [f1]; exact f1F o)
        have g0 : wr.cell? ⟨w.heap.size + 1, 0, none⟩ = some (.int .i64 0) := (by rw [r1]; exact g0')
        have g1 : wr.cell? ⟨w.heap.size + 1, 1, none⟩ = some (.int .i64 0) := (by rw [r1]; exact g1')
        have g2 : wr.cell? ⟨w.heap.size + 1, 2, none⟩ = some (.int .i64 0) := (by rw [r1]; exact g2')
        have g3 : wr.cell? ⟨w.heap.size + 1, 3, none⟩ = some (.slice none 0 0) := (by rw [r1]; exact g3')
        have hB0 : w1.heap.size ≠ w.heap.size + 1 := by omega
        have hB0' : w1.heap.size ≠ w.heap.size := by omega
        clear r0 r1 r2 f0 f1 f2 f1F bF
        go_wp2
        refine bodyPost_ret (v := .tuple #[.agg #[.int .i64 z, .int .i64 b, .int .i64 (e + (i : Int)), .slice ao1 xs.length cap1], .int .i64 (i : Int)]) (by simp [results, Try.results68, go_sem, *]) rfl ⟨ao1, cap1, by rw [hnn], ?_, ?_⟩
        · refine OwnS.mono (OwnS.chg (S := fun k => k < (w.heap.size + 2) ∨ w1.heap.size ≤ k) hown.out (by repeat (first | with_reducible exact Chg.refl _ _ | with_reducible assumption | with_reducible refine Chg.alloc ?_ _ | with_reducible refine Chg.drew ?_ | with_reducible refine Chg.drewN ?_ _ | ((with_reducible refine Chg.set ?_ ?_ _); (focus (first | (left; simp; done) | (left; simp; omega) | (right; simp; done) | (right; simp; omega)))))) (fun b h1 h2 h3 => by omega)) (by omega) (by simp; omega)
        · exact Ext.go
end
section
set_option linter.unusedSimpArgs false
set_option linter.unusedVariables false
theorem isRing_parts {z b e : Int} {xs : List Int} : isRing z b e xs = true ↔ ringSz z = true ∧ (xs.length : Int) = z ∧ (∀ x ∈ xs, 0 ≤ x ∧ x ≤ 255) ∧ (0 ≤ b ∧ b ≤ e ∧ e ≤ b + z ∧ e ≤ 4611686018427387903) := by
  simp only [isRing, Bool.and_eq_true, beq_iff_eq, Bool.not_eq_true', List.any_eq_false, Bool.not_eq_true, Bool.not_eq_false', inB, decide_eq_true_eq]
  constructor
  · rintro ⟨h1, h2, h3, h4, h5⟩
    refine ⟨h1, h2, fun x hx => ?_, by omega, by omega, by omega, by omega⟩
    have := h3 x hx
    simpa using this
  · rintro ⟨h1, h2, h3, h4, h5, h6, h7⟩
    refine ⟨h1, h2, fun x hx => ?_, by omega, by omega, by omega⟩
    have := h3 x hx
    simpa using this
theorem setN_mem (xs : List Int) (z o : Int) (f : Nat → Int) : ∀ (k : Nat) (x : Int), x ∈ setN xs z o f k → x ∈ xs ∨ ∃ i, i < k ∧ x = f i
  | 0, _, h => Or.inl h
  | k + 1, x, h => by
    rw [setN] at h
    rcases List.mem_or_eq_of_mem_set h with h | h
    · rcases setN_mem xs z o f k x h with h | ⟨i, hi, e⟩
      · exact Or.inl h
      · exact Or.inr ⟨i, by omega, e⟩
    · exact Or.inr ⟨k, by omega, h⟩
theorem byteAt_bd (s : ByteArray) (i : Nat) : 0 ≤ byteAt s i ∧ byteAt s i ≤ 255 := by
  unfold byteAt
  split
  · rename_i h
    have := (s[i]'h).toNat_lt
    omega
  · omega
theorem ring_wr {z b e : Int} {xs : List Int} (h : isRing z b e xs = true) (s : ByteArray) (m : Nat) (h1 : (m : Int) ≤ z - (e - b)) (h2 : (m : Int) ≤ 4611686018427387903 - e) : isRing z b (e + m) (setN xs z e (byteAt s) m) = true := by
  obtain ⟨a1, a2, a3, a4, a5, a6, a7⟩ := isRing_parts.1 h
  refine isRing_parts.2 ⟨a1, by rw [setN_length]; exact a2, fun x hx => ?_, a4, by omega, by omega, by omega⟩
  rcases setN_mem _ _ _ _ _ _ hx with hx | ⟨i, _, rfl⟩
  · exact a3 x hx
  · exact byteAt_bd s i
theorem ring_drop {z b e u : Int} {xs : List Int} (h : isRing z b e xs = true) (h1 : b ≤ u) (h2 : u ≤ e) (k : Nat) : isRing z u e (setN xs z b (fun _ => 0) k) = true := by
  obtain ⟨a1, a2, a3, a4, a5, a6, a7⟩ := isRing_parts.1 h
  refine isRing_parts.2 ⟨a1, by rw [setN_length]; exact a2, fun x hx => ?_, by omega, h2, by omega, by omega⟩
  rcases setN_mem _ _ _ _ _ _ hx with hx | ⟨i, _, rfl⟩
  · exact a3 x hx
  · omega
theorem ring_zero {z b : Int} (hz : ringSz z = true) (h0 : 0 ≤ b) (h1 : b ≤ 4611686018427387903) : isRing z b b (List.replicate z.toNat 0) = true := by
  have := ringSz_bd hz
  refine isRing_parts.2 ⟨hz, by simp; omega, fun x hx => ?_, h0, by omega, by omega, by omega⟩
  rw [List.eq_of_mem_replicate hx]; omega
end
section
set_option linter.unusedSimpArgs false
set_option linter.unusedVariables false
structure Sn where
  st : Int
  z : Int
  b : Int
  e : Int
  xs : List Int
  p : List Rg
  f : List Rg
  k : List Rg
  fi : Int
  fk : Int
  se : Int
  co : Int
def cntSum (p f k : List Rg) : Int := IntKind.i64.wrap (IntKind.i64.wrap (cntR p + cntR f) + cntR k)
/-- The state that follows: the reference, the program. -/
def stS (st b e fk se : Int) : Int := if fk = 3 ∧ b = e then 3 else if 1 < fk ∨ (fk = 1 ∧ st = 2) then 2 else if 0 < se ∨ (fk = 1 ∧ st = 1) then 1 else 0
def stI (st b e fk se : Int) : Int := if fk = 3 ∧ b = e then 3 else if fk = 2 ∨ (fk = 3 ∨ (fk = 1 ∧ st = 2)) then 2 else if 0 < se ∨ (fk = 1 ∧ st = 1) then 1 else 0
theorem stS_I {st b e fk se : Int} (h : fk ≤ 3) : stS st b e fk se = stI st b e fk se := by
  unfold stS stI
  by_cases h1 : fk = 3 ∧ b = e
  · rw [if_pos h1, if_pos h1]
  · rw [if_neg h1, if_neg h1]
    by_cases h2 : 1 < fk ∨ (fk = 1 ∧ st = 2)
    · have h3 : fk = 2 ∨ (fk = 3 ∨ (fk = 1 ∧ st = 2)) := by omega
      rw [if_pos h2, if_pos h3]
    · have h3 : ¬ (fk = 2 ∨ (fk = 3 ∨ (fk = 1 ∧ st = 2))) := by omega
      rw [if_neg h2, if_neg h3]
theorem stI_bd (st b e fk se : Int) : 0 ≤ stI st b e fk se ∧ stI st b e fk se ≤ 3 := by
  unfold stI
  split
  · omega
  · split
    · omega
    · split <;> omega
def sndHd (s : Sn) : Bool := isRing s.z s.b s.e s.xs && (isRgs s.p && (isRgs s.f && (isRgs s.k && (inB 0 s.se s.e && (inB 0 s.co 4611686018427387903 && inB 0 s.fk 3)))))
def sndRst (s : Sn) : Bool := decide (s.b = s.e) && (decide (s.p.length = 0) && (decide (s.f.length = 0) && (decide (s.k.length = 0) && (decide (s.fi = s.se) && (decide (s.fk = 0) && decide (s.se = s.e))))))
def wholeI (s : Sn) : Bool := decide (cntSum s.p s.f s.k = s.e) && (decide (cntR (joinR s.p s.f s.k) = s.e) && !endsB (joinR s.p s.f s.k) s.e)
def wholeS (s : Sn) : Bool := decide (cntR (joinR s.p s.f s.k) = s.e) && (decide (cntSum s.p s.f s.k = s.e) && !(decide (0 < s.e) && !decide (((joinR s.p s.f s.k).getD 0 dr).2 = s.e)))
def topB (l : List Rg) (m : Int) : Bool := l.all fun r => decide (r.2 ≤ m)
def isRst (s : Sn) : Bool := decide (s.st = 4) || decide (s.st = 5)
def sndI (s : Sn) : Bool := sndHd s && (if isRst s = true then sndRst s else
  wholeI s && (decide (gapR s.k 0 = s.b) && (!endsB s.f s.se && (!endsB s.k s.se && (decide (s.co = 0) && (decide (s.fi = if s.fk = 0 then -1 else s.e) && decide (s.st = stI s.st s.b s.e s.fk s.se)))))))
def sndS (s : Sn) : Bool := sndHd s && (if isRst s = true then sndRst s else
  wholeS s && (decide (gapR s.k 0 = s.b) && (decide (s.co = 0) && (topB s.f s.se && (topB s.k s.se && (!(decide (s.fk = 0) != decide (s.fi = -1)) && (!(!decide (s.fi = -1) && !decide (s.fi = s.e)) && decide (s.st = stS s.st s.b s.e s.fk s.se))))))))
theorem topB_iff (l : List Rg) (m : Int) : topB l m = true ↔ TopR m l := by
  simp [topB, TopR]
theorem endsB_topB {l : List Rg} (h : isRgs l = true) (m : Int) : (!endsB l m) = topB l m := by
  rw [Bool.eq_iff_iff, topB_iff, ← endsB_top (rgsFrom_can h).1]
  simp
structure Hd (s : Sn) : Prop where
  ring : isRing s.z s.b s.e s.xs = true
  rp : isRgs s.p = true
  rf : isRgs s.f = true
  rk : isRgs s.k = true
  se0 : 0 ≤ s.se
  se1 : s.se ≤ s.e
  co0 : 0 ≤ s.co
  co1 : s.co ≤ 4611686018427387903
  fk0 : 0 ≤ s.fk
  fk1 : s.fk ≤ 3
theorem sndHd_iff (s : Sn) : sndHd s = true ↔ Hd s := by
  simp only [sndHd, Bool.and_eq_true, inB, decide_eq_true_eq]
  constructor
  · rintro ⟨h1, h2, h3, h4, ⟨h5, h6⟩, ⟨h7, h8⟩, h9, h10⟩
    exact ⟨h1, h2, h3, h4, h5, h6, h7, h8, h9, h10⟩
  · rintro ⟨h1, h2, h3, h4, h5, h6, h7, h8, h9, h10⟩
    exact ⟨h1, h2, h3, h4, ⟨h5, h6⟩, ⟨h7, h8⟩, h9, h10⟩
/-- A valid sender that is not reset. -/
structure Vld (s : Sn) : Prop where
  hd : Hd s
  wh : Whole s.p s.f s.k s.e
  gap : gapR s.k 0 = s.b
  tf : TopR s.se s.f
  tk : TopR s.se s.k
  co : s.co = 0
  fi : s.fi = if s.fk = 0 then -1 else s.e
  st : s.st = stI s.st s.b s.e s.fk s.se
theorem Hd.e0 {s : Sn} (h : Hd s) : 0 ≤ s.e := by have := isRing_bd h.ring; omega
theorem Vld.not {s : Sn} (h : Vld s) : isRst s = false := by
  have h1 := h.st
  have h2 := stI_bd s.st s.b s.e s.fk s.se
  simp only [isRst, Bool.or_eq_false_iff, decide_eq_false_iff_not]
  omega
theorem cntR_yes {l : List Rg} (h : isRgs l = true) : cntR l = rgSum l := if_pos h
theorem cntSum_yes {p f k : List Rg} {m : Int} (hp : isRgs p = true) (hf : isRgs f = true) (hk : isRgs k = true) (hm : m ≤ 1152921504606846976) (h0 : 0 ≤ m) (tp : TopR m p) (tf : TopR m f) (tk : TopR m k) : cntSum p f k = rgSum p + rgSum f + rgSum k := by
  have a1 := rgSum_nonneg (rgsFrom_can hp).1
  have a2 := rgSum_nonneg (rgsFrom_can hf).1
  have a3 := rgSum_nonneg (rgsFrom_can hk).1
  have b1 := rgSum_top (rgsFrom_can hp).1 tp h0
  have b2 := rgSum_top (rgsFrom_can hf).1 tf h0
  have b3 := rgSum_top (rgsFrom_can hk).1 tk h0
  unfold cntSum
  rw [cntR_yes hp, cntR_yes hf, cntR_yes hk, IntWalk.i64_in (rgSum p + rgSum f) (by omega), IntWalk.i64_in _ (by omega)]
theorem whole_tops {p f k : List Rg} {m : Int} (hp : isRgs p = true) (hf : isRgs f = true) (hk : isRgs k = true) (h : ∀ n, inR p n ∨ (inR f n ∨ inR k n) → n < m) : TopR m p ∧ TopR m f ∧ TopR m k :=
  ⟨top_of_in (rgsFrom_can hp).1 (fun n hn => h n (Or.inl hn)), top_of_in (rgsFrom_can hf).1 (fun n hn => h n (Or.inr (Or.inl hn))), top_of_in (rgsFrom_can hk).1 (fun n hn => h n (Or.inr (Or.inr hn)))⟩
theorem wholeI_iff {s : Sn} (h : Hd s) (hm : s.e ≤ 1152921504606846976) : wholeI s = true ↔ Whole s.p s.f s.k s.e := by
  obtain ⟨hj, hi⟩ := join_in h.rp h.rf h.rk
  have e0 := h.e0
  obtain ⟨m, he⟩ : ∃ m : Nat, (m : Int) = s.e := ⟨s.e.toNat, by omega⟩
  simp only [wholeI, Bool.and_eq_true, decide_eq_true_eq, Bool.not_eq_true']
  rw [endsB_top (rgsFrom_can hj).1, cntR_yes hj, ← he]
  constructor
  · rintro ⟨h1, h2, h3⟩
    obtain ⟨t1, t2, t3⟩ := whole_tops h.rp h.rf h.rk (fun n hn => in_of_top h3 n ((hi n).2 hn))
    rw [cntSum_yes h.rp h.rf h.rk (by omega) (by omega) t1 t2 t3] at h1
    exact whole_of h.rp h.rf h.rk h1 h2 h3
  · intro hw
    obtain ⟨t1, t2, t3⟩ := whole_tops h.rp h.rf h.rk (fun n hn => ((hw.1 n).1 hn).2)
    obtain ⟨j1, j2⟩ := join_sum h.rp h.rf h.rk hw
    exact ⟨by rw [cntSum_yes h.rp h.rf h.rk (by omega) (by omega) t1 t2 t3]; exact whole_sum h.rp h.rf h.rk hw, j1, j2⟩
/-- The joined ranges of one that is whole. -/
theorem join_whole {p f k : List Rg} {e : Int} (hp : isRgs p = true) (hf : isRgs f = true) (hk : isRgs k = true) (h : Whole p f k e) (he : 0 < e) : joinR p f k = [(0, e)] := by
  obtain ⟨hj, hi⟩ := join_in hp hf hk
  refine can_ext (lo' := 0) (rgsFrom_can hj).1 ⟨Int.le_refl _, he, trivial⟩ (fun n => ?_)
  rw [hi, h.1 n, inR_cons]
  constructor
  · exact fun hh => Or.inl hh
  · rintro (hh | hh)
    · exact hh
    · exact absurd hh (inR_nil n)
/-- The program and the reference agree on a sender whose joined ranges do not lie behind its end. -/
theorem whole_same {s : Sn} (h : Hd s) (hm : s.e ≤ 1152921504606846976) (ht : TopR s.e (joinR s.p s.f s.k)) : wholeI s = wholeS s := by
  obtain ⟨hj, hi⟩ := join_in h.rp h.rf h.rk
  rw [Bool.eq_iff_iff]
  constructor
  · intro hI
    have hw := (wholeI_iff h hm).1 hI
    simp only [wholeI, Bool.and_eq_true, decide_eq_true_eq] at hI
    simp only [wholeS, Bool.and_eq_true, decide_eq_true_eq, Bool.not_eq_true', Bool.and_eq_false_iff, Bool.not_eq_false', decide_eq_false_iff_not]
    refine ⟨hI.2.1, hI.1, ?_⟩
    by_cases he : 0 < s.e
    · right
      rw [join_whole h.rp h.rf h.rk hw he]; rfl
    · exact Or.inl he
  · intro hS
    simp only [wholeS, Bool.and_eq_true, decide_eq_true_eq] at hS
    simp only [wholeI, Bool.and_eq_true, decide_eq_true_eq, Bool.not_eq_true']
    exact ⟨hS.2.1, hS.1, (endsB_top (rgsFrom_can hj).1).2 ht⟩
theorem tail_same {s : Sn} (h : Hd s) : (decide (gapR s.k 0 = s.b) && (!endsB s.f s.se && (!endsB s.k s.se && (decide (s.co = 0) && (decide (s.fi = if s.fk = 0 then -1 else s.e) && decide (s.st = stI s.st s.b s.e s.fk s.se)))))) = (decide (gapR s.k 0 = s.b) && (decide (s.co = 0) && (topB s.f s.se && (topB s.k s.se && (!(decide (s.fk = 0) != decide (s.fi = -1)) && (!(!decide (s.fi = -1) && !decide (s.fi = s.e)) && decide (s.st = stS s.st s.b s.e s.fk s.se))))))) := by
  have e0 := h.e0
  rw [endsB_topB h.rf, endsB_topB h.rk, stS_I h.fk1]
  have q : decide (s.fi = if s.fk = 0 then -1 else s.e) = (!(decide (s.fk = 0) != decide (s.fi = -1)) && !(!decide (s.fi = -1) && !decide (s.fi = s.e))) := by
    by_cases h1 : s.fk = 0 <;> by_cases h2 : s.fi = -1 <;> by_cases h3 : s.fi = s.e <;> simp [h1, h2, h3] <;> omega
  rw [q]
  generalize decide (gapR s.k 0 = s.b) = a1
  generalize topB s.f s.se = a2
  generalize topB s.k s.se = a3
  generalize decide (s.co = 0) = a4
  generalize (!(decide (s.fk = 0) != decide (s.fi = -1))) = a5
  generalize (!(!decide (s.fi = -1) && !decide (s.fi = s.e))) = a6
  generalize decide (s.st = stI s.st s.b s.e s.fk s.se) = a7
  cases a1 <;> cases a2 <;> cases a3 <;> cases a4 <;> cases a5 <;> cases a6 <;> cases a7 <;> rfl
theorem snd_same {s : Sn} (hm : s.e ≤ 1152921504606846976) (ht : Hd s → TopR s.e (joinR s.p s.f s.k)) : sndI s = sndS s := by
  unfold sndI sndS
  rcases Bool.eq_false_or_eq_true (sndHd s) with hh | hh
  · have h := (sndHd_iff s).1 hh
    rw [hh, whole_same h hm (ht h), tail_same h]
  · rw [hh]; rfl
theorem act_iff {s : Sn} (hm : s.e ≤ 1152921504606846976) (hn : isRst s = false) : sndI s = true ↔ Vld s := by
  unfold sndI
  rw [hn, Bool.and_eq_true, sndHd_iff, if_neg (by simp)]
  constructor
  · rintro ⟨h, h2⟩
    rw [Bool.and_eq_true, wholeI_iff h hm] at h2
    obtain ⟨hw, h3⟩ := h2
    simp only [Bool.and_eq_true, decide_eq_true_eq, Bool.not_eq_true'] at h3
    obtain ⟨g1, g2, g3, g4, g5, g6⟩ := h3
    exact ⟨h, hw, g1, (endsB_top (rgsFrom_can h.rf).1).1 g2, (endsB_top (rgsFrom_can h.rk).1).1 g3, g4, g5, g6⟩
  · rintro ⟨h, hw, g1, g2, g3, g4, g5, g6⟩
    refine ⟨h, ?_⟩
    rw [Bool.and_eq_true, wholeI_iff h hm]
    refine ⟨hw, ?_⟩
    simp only [Bool.and_eq_true, decide_eq_true_eq, Bool.not_eq_true']
    exact ⟨g1, (endsB_top (rgsFrom_can h.rf).1).2 g2, (endsB_top (rgsFrom_can h.rk).1).2 g3, g4, g5, g6⟩
theorem Vld.sndI {s : Sn} (h : Vld s) (hm : s.e ≤ 1152921504606846976) : sndI s = true := (act_iff hm h.not).2 h
/-- A valid sender: a reset one holds no ranges; of any other the ranges lie below its end. -/
theorem valid_top {s : Sn} (hm : s.e ≤ 1152921504606846976) (h : sndI s = true) : Hd s ∧ TopR s.e (joinR s.p s.f s.k) := by
  rcases Bool.eq_false_or_eq_true (isRst s) with hr | hr
  · unfold Go.Proofs.Ytjhgcbchdnoleaa.sndI at h
    rw [Bool.and_eq_true, sndHd_iff, hr, if_pos rfl] at h
    obtain ⟨hd, h2⟩ := h
    simp only [sndRst, Bool.and_eq_true, decide_eq_true_eq] at h2
    have e1 := List.eq_nil_of_length_eq_zero h2.2.1
    have e2 := List.eq_nil_of_length_eq_zero h2.2.2.1
    have e3 := List.eq_nil_of_length_eq_zero h2.2.2.2.1
    exact ⟨hd, by rw [e1, e2, e3]; exact fun r hr => by simp [joinR] at hr⟩
  · have ha := (act_iff hm hr).1 h
    obtain ⟨hj, hi⟩ := join_in ha.hd.rp ha.hd.rf ha.hd.rk
    exact ⟨ha.hd, top_of_in (rgsFrom_can hj).1 (fun n hn => ((ha.wh.1 n).1 ((hi n).1 hn)).2)⟩
theorem stI_idem (st b e fk se : Int) : stI st b e fk se = stI (stI st b e fk se) b e fk se := by
  by_cases h1 : fk = 3 ∧ b = e
  · have v : ∀ x, stI x b e fk se = 3 := fun x => if_pos h1
    rw [v, v]
  · by_cases h2 : fk = 2 ∨ (fk = 3 ∨ (fk = 1 ∧ st = 2))
    · have v : stI st b e fk se = 2 := by unfold stI; rw [if_neg h1, if_pos h2]
      have q : fk = 2 ∨ (fk = 3 ∨ (fk = 1 ∧ (2 : Int) = 2)) := by omega
      rw [v]
      unfold stI
      rw [if_neg h1, if_pos q]
    · by_cases h3 : 0 < se ∨ (fk = 1 ∧ st = 1)
      · have v : stI st b e fk se = 1 := by unfold stI; rw [if_neg h1, if_neg h2, if_pos h3]
        have q : ¬ (fk = 2 ∨ (fk = 3 ∨ (fk = 1 ∧ (1 : Int) = 2))) := by omega
        have q2 : 0 < se ∨ (fk = 1 ∧ (1 : Int) = 1) := by omega
        rw [v]
        unfold stI
        rw [if_neg h1, if_neg q, if_pos q2]
      · have v : stI st b e fk se = 0 := by unfold stI; rw [if_neg h1, if_neg h2, if_neg h3]
        have q : ¬ (fk = 2 ∨ (fk = 3 ∨ (fk = 1 ∧ (0 : Int) = 2))) := by omega
        have q2 : ¬ (0 < se ∨ (fk = 1 ∧ (0 : Int) = 1)) := by omega
        rw [v]
        unfold stI
        rw [if_neg h1, if_neg q, if_neg q2]
theorem add_rgs {l : List Rg} {r : Rg} (h : isRgs l = true) (hr : rgFine r = true) : isRgs (addR l r) = true ∧ ∀ n, inR (addR l r) n ↔ (r.1 ≤ n ∧ n < r.2) ∨ inR l n := by
  have hb := rgFine_bd hr
  obtain ⟨hc, ht⟩ := rgsFrom_can h
  have e : addR l r = addRec r l := if_pos ⟨h, hr⟩
  rw [e]
  exact ⟨can_rgsFrom (Int.le_refl _) (addRec_can l r 0 hc hb.1 hb.2.1) (addRec_top l r ht hb.2.2), fun n => addRec_in l r 0 n hc hb.2.1⟩
theorem rem_rgs {l : List Rg} {r : Rg} (h : isRgs l = true) (hr : rgFine r = true) : isRgs (remR l r) = true ∧ ∀ n, inR (remR l r) n ↔ inR l n ∧ ¬ (r.1 ≤ n ∧ n < r.2) := by
  have hb := rgFine_bd hr
  obtain ⟨hc, ht⟩ := rgsFrom_can h
  have e : remR l r = remRec r l := if_pos ⟨h, hr⟩
  have c := remRec_can r hb.2.1 hc
  rw [e]
  refine ⟨can_rgsFrom (Int.le_refl _) c (top_of_in c (fun n hn => in_of_top ht n ((remRec_in r hb.2.1 n l).1 hn).1)), fun n => remRec_in r hb.2.1 n l⟩
theorem com_rgs {l : List Rg} {r : Rg} (h : isRgs l = true) (hr : rgFine r = true) : isRgs (comR l r) = true ∧ ∀ n, inR (comR l r) n ↔ inR l n ∧ (r.1 ≤ n ∧ n < r.2) := by
  obtain ⟨hc, ht⟩ := rgsFrom_can h
  have e : comR l r = comRec r l := if_pos ⟨h, hr⟩
  have c := comRec_can r hc
  rw [e]
  refine ⟨can_rgsFrom (Int.le_refl _) c (top_of_in c (fun n hn => in_of_top ht n ((comRec_in r n l).1 hn).1)), fun n => comRec_in r n l⟩
end
section
set_option linter.unusedSimpArgs false
set_option linter.unusedVariables false
def newSn (z : Int) : Sn := ⟨0, z, 0, 0, List.replicate z.toNat 0, [], [], [], -1, 0, 0, 0⟩
theorem new_act {z : Int} (h : ringSz z = true) : Vld (newSn z) := by
  refine ⟨⟨ring_zero (b := 0) h (by omega) (by omega), rfl, rfl, rfl, Int.le_refl _, Int.le_refl _, Int.le_refl _, by show (0 : Int) ≤ _; omega, Int.le_refl _, by show (0 : Int) ≤ _; omega⟩, ⟨fun n => ?_, fun n => ?_⟩, rfl, fun r hr => by simp [newSn] at hr, fun r hr => by simp [newSn] at hr, rfl, rfl, rfl⟩
  · simp only [newSn, inR_nil, false_or, false_iff]
    omega
  · simp only [newSn, inR_nil]
    simp
def wrN (s : Sn) (d : ByteArray) : Nat := (min (d.size : Int) (roomOf s.z s.b s.e s.xs)).toNat
def wrV (s : Sn) (d : ByteArray) : Sn := ⟨s.st, s.z, s.b, s.e + wrN s d, setN s.xs s.z s.e (byteAt d) (wrN s d), addR s.p (s.e, s.e + wrN s d), s.f, s.k, s.fi, s.fk, s.se, s.co⟩
theorem Vld.e_nat {s : Sn} (h : Vld s) : 0 ≤ s.e ∧ s.e ≤ 4611686018427387903 := by have := isRing_bd h.hd.ring; omega
theorem wrN_bd (s : Sn) (d : ByteArray) (h : isRing s.z s.b s.e s.xs = true) : (wrN s d : Int) ≤ s.z - (s.e - s.b) ∧ (wrN s d : Int) ≤ 4611686018427387903 - s.e ∧ wrN s d ≤ d.size := by
  have := isRing_bd h
  unfold wrN roomOf
  rw [if_pos h]
  omega
theorem Vld.fk_of {s : Sn} (h : Vld s) (hf : s.fi = -1) : s.fk = 0 := by
  have h1 := h.fi
  have h2 := h.e_nat
  by_cases c : s.fk = 0
  · exact c
  · rw [if_neg c] at h1; omega
theorem wr_act {s : Sn} (h : Vld s) (hf : s.fi = -1) (d : ByteArray) : Vld (wrV s d) := by
  obtain ⟨n1, n2, n3⟩ := wrN_bd s d h.hd.ring
  obtain ⟨e0, e1⟩ := h.e_nat
  have hk := h.fk_of hf
  have hst := h.st
  rcases Nat.eq_zero_or_pos (wrN s d) with h0 | h0
  · have e : wrV s d = s := by
      have ha : addR s.p (s.e, s.e + ((0 : Nat) : Int)) = s.p := if_neg (by simp [rgFine])
      unfold wrV
      rw [h0, ha, setN]
      simp
    rw [e]; exact h
  · have hr : rgFine (s.e, s.e + wrN s d) = true := by simp only [rgFine, Bool.and_eq_true, decide_eq_true_eq]; omega
    obtain ⟨a1, a2⟩ := add_rgs h.hd.rp hr
    refine ⟨⟨ring_wr h.hd.ring d _ n1 n2, a1, h.hd.rf, h.hd.rk, h.hd.se0, ?_, h.hd.co0, h.hd.co1, h.hd.fk0, h.hd.fk1⟩, ⟨fun n => ?_, fun n => ?_⟩, h.gap, h.tf, h.tk, h.co, ?_, ?_⟩
    · have := h.hd.se1
      show s.se ≤ s.e + wrN s d
      omega
    · show inR (addR s.p (s.e, s.e + wrN s d)) n ∨ (inR s.f n ∨ inR s.k n) ↔ 0 ≤ n ∧ n < s.e + wrN s d
      rw [a2]
      have hw := h.wh.1 n
      dsimp only
      constructor
      · rintro ((hh | hh) | hh)
        · omega
        · have := hw.1 (Or.inl hh); omega
        · have := hw.1 (Or.inr hh); omega
      · intro hh
        by_cases c : n < s.e
        · rcases hw.2 ⟨hh.1, c⟩ with q | q
          · exact Or.inl (Or.inr q)
          · exact Or.inr q
        · exact Or.inl (Or.inl ⟨by omega, hh.2⟩)
    · show ¬ (inR (addR s.p (s.e, s.e + wrN s d)) n ∧ inR s.f n) ∧ ¬ (inR (addR s.p (s.e, s.e + wrN s d)) n ∧ inR s.k n) ∧ ¬ (inR s.f n ∧ inR s.k n)
      rw [a2]
      have hw := h.wh.1 n
      obtain ⟨d1, d2, d3⟩ := h.wh.2 n
      dsimp only
      refine ⟨?_, ?_, d3⟩
      · rintro ⟨hh | hh, q⟩
        · have := hw.1 (Or.inr (Or.inl q)); omega
        · exact d1 ⟨hh, q⟩
      · rintro ⟨hh | hh, q⟩
        · have := hw.1 (Or.inr (Or.inr q)); omega
        · exact d2 ⟨hh, q⟩
    · show s.fi = if s.fk = 0 then -1 else s.e + wrN s d
      rw [if_pos hk, hf]
    · show s.st = stI s.st s.b (s.e + wrN s d) s.fk s.se
      rw [hk] at hst ⊢
      exact hst
def clV (s : Sn) : Sn := ⟨s.st, s.z, s.b, s.e, s.xs, s.p, s.f, s.k, s.e, 1, s.se, s.co⟩
theorem cl_act {s : Sn} (h : Vld s) (hf : s.fi = -1) : Vld (clV s) := by
  have hk := h.fk_of hf
  have hst := h.st
  refine ⟨⟨h.hd.ring, h.hd.rp, h.hd.rf, h.hd.rk, h.hd.se0, h.hd.se1, h.hd.co0, h.hd.co1, by show (0 : Int) ≤ 1; omega, by show (1 : Int) ≤ 3; omega⟩, h.wh, h.gap, h.tf, h.tk, h.co, rfl, ?_⟩
  show s.st = stI s.st s.b s.e 1 s.se
  rw [hk] at hst
  have e1 : stI s.st s.b s.e 0 s.se = if 0 < s.se then 1 else 0 := by simp [stI]
  rw [e1] at hst
  unfold stI
  by_cases c : 0 < s.se
  · rw [if_pos c] at hst
    rw [if_neg (by omega), if_neg (by omega), if_pos (by omega)]
    exact hst
  · rw [if_neg c] at hst
    rw [if_neg (by omega), if_neg (by omega), if_neg (by omega)]
    exact hst
def rsV (s : Sn) (co : Int) : Sn := ⟨4, s.z, s.se, s.se, List.replicate s.z.toNat 0, [], [], [], s.se, 0, s.se, co⟩
theorem rs_snd {s : Sn} (h : Hd s) {co : Int} (h0 : 0 ≤ co) (h1 : co ≤ 4611686018427387903) : sndI (rsV s co) = true := by
  have hb := isRing_bd h.ring
  have hz := (isRing_parts.1 h.ring).1
  have := h.se0
  have := h.se1
  have hd : Hd (rsV s co) := ⟨ring_zero (b := s.se) hz h.se0 (by omega), rfl, rfl, rfl, h.se0, Int.le_refl _, h0, h1, Int.le_refl _, by show (0 : Int) ≤ 3; omega⟩
  unfold sndI
  rw [(sndHd_iff _).2 hd]
  simp [isRst, rsV, sndRst]
def seV (s : Sn) (off : Int) (n : Nat) (fin : Bool) : Sn :=
  let p' := if n = 0 then s.p else remR s.p (off, off + n)
  let f' := if n = 0 then s.f else addR s.f (off, off + n)
  let se' := if n = 0 then s.se else max s.se (off + n)
  let fk' := if fin = true then 2 else s.fk
  ⟨stI s.st s.b s.e fk' se', s.z, s.b, s.e, s.xs, p', f', s.k, s.fi, fk', se', s.co⟩
theorem se_act {s : Sn} (h : Vld s) {off : Int} {n : Nat} {fin : Bool} (h0 : 0 ≤ off) (h1 : off + n ≤ s.e) (hc : n ≠ 0 → comR s.p (off, off + n) = [(off, off + (n : Int))]) (hf : fin = true → s.fk = 1) : Vld (seV s off n fin) := by
  obtain ⟨e0, e1⟩ := h.e_nat
  have key : isRgs (seV s off n fin).p = true ∧ isRgs (seV s off n fin).f = true ∧ Whole (seV s off n fin).p (seV s off n fin).f s.k s.e ∧ TopR (seV s off n fin).se (seV s off n fin).f ∧ s.se ≤ (seV s off n fin).se ∧ (seV s off n fin).se ≤ s.e := by
    by_cases hn : n = 0
    · simp only [seV, if_pos hn]
      exact ⟨h.hd.rp, h.hd.rf, h.wh, h.tf, Int.le_refl _, h.hd.se1⟩
    · simp only [seV, if_neg hn]
      have hr : rgFine (off, off + (n : Int)) = true := by simp only [rgFine, Bool.and_eq_true, decide_eq_true_eq]; omega
      obtain ⟨a1, a2⟩ := add_rgs h.hd.rf hr
      obtain ⟨b1, b2⟩ := rem_rgs h.hd.rp hr
      obtain ⟨c1, c2⟩ := com_rgs h.hd.rp hr
      have sub : ∀ m, off ≤ m → m < off + n → inR s.p m := fun m m0 m1 => ((c2 m).1 (by rw [hc hn]; exact (inR_cons _ _ _).2 (Or.inl ⟨m0, m1⟩))).1
      have := h.hd.se1
      refine ⟨b1, a1, ⟨fun m => ?_, fun m => ?_⟩, ?_, by omega, by omega⟩
      · rw [a2, b2]
        have hw := h.wh.1 m
        dsimp only
        constructor
        · rintro (hh | (hh | hh) | hh)
          · exact hw.1 (Or.inl hh.1)
          · exact hw.1 (Or.inl (sub m hh.1 hh.2))
          · exact hw.1 (Or.inr (Or.inl hh))
          · exact hw.1 (Or.inr (Or.inr hh))
        · intro hh
          by_cases c : off ≤ m ∧ m < off + n
          · exact Or.inr (Or.inl (Or.inl c))
          · rcases hw.2 hh with q | q | q
            · exact Or.inl ⟨q, c⟩
            · exact Or.inr (Or.inl (Or.inr q))
            · exact Or.inr (Or.inr q)
      · rw [a2, b2]
        obtain ⟨d1, d2, d3⟩ := h.wh.2 m
        dsimp only
        refine ⟨?_, fun hh => d2 ⟨hh.1.1, hh.2⟩, ?_⟩
        · rintro ⟨q1, q2 | q2⟩
          · exact q1.2 q2
          · exact d1 ⟨q1.1, q2⟩
        · rintro ⟨q1 | q1, q2⟩
          · exact d2 ⟨sub m q1.1 q1.2, q2⟩
          · exact d3 ⟨q1, q2⟩
      · refine top_of_in (rgsFrom_can a1).1 (fun m hm => ?_)
        have ht := in_of_top h.tf
        rcases (a2 m).1 hm with q | q
        · dsimp only at q; omega
        · have := ht m q; omega
  obtain ⟨k1, k2, k3, k4, k5, k6⟩ := key
  have hse := h.hd.se0
  have hfk0 := h.hd.fk0
  have hfk1 := h.hd.fk1
  have ht := h.tk
  refine ⟨⟨h.hd.ring, k1, k2, h.hd.rk, by omega, k6, h.hd.co0, h.hd.co1, ?_, ?_⟩, k3, h.gap, k4, fun r hr => by have := ht r hr; omega, h.co, ?_, ?_⟩
  · show 0 ≤ (if fin = true then 2 else s.fk); split <;> omega
  · show (if fin = true then 2 else s.fk) ≤ 3; split <;> omega
  · show s.fi = if (if fin = true then 2 else s.fk) = 0 then -1 else s.e
    have hfi := h.fi
    cases fin
    · exact hfi
    · rw [if_pos rfl, if_neg (by omega)]
      rw [hf rfl, if_neg (by omega)] at hfi
      exact hfi
  · exact stI_idem _ _ _ _ _
theorem fold_rem : ∀ {c l : List Rg}, isRgs l = true → (∀ r ∈ c, rgFine r = true) → isRgs (c.foldl remR l) = true ∧ ∀ n, inR (c.foldl remR l) n ↔ inR l n ∧ ¬ inR c n
  | [], l, hl, _ => ⟨hl, fun n => by simp [inR_nil]⟩
  | r :: rs, l, hl, hr => by
    obtain ⟨a1, a2⟩ := rem_rgs hl (hr r (by simp))
    rw [List.foldl_cons]
    obtain ⟨b1, b2⟩ := fold_rem (c := rs) a1 (fun x hx => hr x (by simp [hx]))
    refine ⟨b1, fun n => ?_⟩
    rw [b2, a2, inR_cons]
    constructor
    · rintro ⟨⟨h1, h2⟩, h3⟩
      exact ⟨h1, fun hh => hh.elim h2 h3⟩
    · rintro ⟨h1, h2⟩
      exact ⟨⟨h1, fun hh => h2 (Or.inl hh)⟩, fun hh => h2 (Or.inr hh)⟩
/-- What of a set lies in the range of n bytes from off on. -/
def hit (l : List Rg) (off : Int) (n : Nat) : List Rg := comR l (off, off + n)
theorem hit_in {l : List Rg} (h : isRgs l = true) {off : Int} {n : Nat} (h0 : 0 ≤ off) (h1 : off + n ≤ 4611686018427387903) : (∀ r ∈ hit l off n, rgFine r = true) ∧ ∀ m, inR (hit l off n) m ↔ inR l m ∧ (off ≤ m ∧ m < off + n) := by
  unfold hit
  by_cases hn : n = 0
  · have e : comR l (off, off + (n : Int)) = [] := if_neg (by simp [rgFine]; omega)
    rw [e]
    exact ⟨fun r hr => by simp at hr, fun m => ⟨fun hh => absurd hh (inR_nil m), fun hh => by omega⟩⟩
  · have hr : rgFine (off, off + (n : Int)) = true := by simp only [rgFine, Bool.and_eq_true, decide_eq_true_eq]; omega
    obtain ⟨c1, c2⟩ := com_rgs h hr
    exact ⟨rgs_fine c1, fun m => by rw [c2]⟩
def finV (fin : Bool) (fk u : Int) : Int := if fin = true ∧ fk = 2 then u else fk
def loV (s : Sn) (off : Int) (n : Nat) (fin : Bool) : Sn :=
  let fk' := finV fin s.fk 1
  ⟨stI s.st s.b s.e fk' s.se, s.z, s.b, s.e, s.xs, (hit s.f off n).foldl addR s.p, (hit s.f off n).foldl remR s.f, s.k, s.fi, fk', s.se, s.co⟩
theorem finV_bd {fin : Bool} {fk u : Int} (h0 : 0 ≤ fk) (h1 : fk ≤ 3) (t0 : 1 ≤ u) (t1 : u ≤ 3) : 0 ≤ finV fin fk u ∧ finV fin fk u ≤ 3 ∧ (finV fin fk u = 0 ↔ fk = 0) := by
  unfold finV
  split <;> omega
theorem lo_act {s : Sn} (h : Vld s) {off : Int} {n : Nat} {fin : Bool} (h0 : 0 ≤ off) (h1 : off + n ≤ s.e) : Vld (loV s off n fin) := by
  obtain ⟨e0, e1⟩ := h.e_nat
  obtain ⟨c1, c2⟩ := hit_in (n := n) h.hd.rf h0 (by omega)
  obtain ⟨a1, a2⟩ := fold_join h.hd.rp c1
  obtain ⟨b1, b2⟩ := fold_rem h.hd.rf c1
  obtain ⟨f0, f1, f2⟩ := finV_bd (fin := fin) (u := 1) h.hd.fk0 h.hd.fk1 (by omega) (by omega)
  refine ⟨⟨h.hd.ring, a1, b1, h.hd.rk, h.hd.se0, h.hd.se1, h.hd.co0, h.hd.co1, f0, f1⟩, ⟨fun m => ?_, fun m => ?_⟩, h.gap, ?_, h.tk, h.co, ?_, stI_idem _ _ _ _ _⟩
  · show inR ((hit s.f off n).foldl addR s.p) m ∨ (inR ((hit s.f off n).foldl remR s.f) m ∨ inR s.k m) ↔ 0 ≤ m ∧ m < s.e
    rw [a2, b2]
    rw [← (show _ ↔ 0 ≤ m ∧ m < s.e from h.wh.1 m)]
    have := (c2 m).1
    constructor
    · rintro ((q | q) | q | q)
      · exact Or.inl q
      · exact Or.inr (Or.inl (this q).1)
      · exact Or.inr (Or.inl q.1)
      · exact Or.inr (Or.inr q)
    · rintro (q | q | q)
      · exact Or.inl (Or.inl q)
      · by_cases c : inR (hit s.f off n) m
        · exact Or.inl (Or.inr c)
        · exact Or.inr (Or.inl ⟨q, c⟩)
      · exact Or.inr (Or.inr q)
  · show ¬ (inR ((hit s.f off n).foldl addR s.p) m ∧ inR ((hit s.f off n).foldl remR s.f) m) ∧ ¬ (inR ((hit s.f off n).foldl addR s.p) m ∧ inR s.k m) ∧ ¬ (inR ((hit s.f off n).foldl remR s.f) m ∧ inR s.k m)
    rw [a2, b2]
    obtain ⟨d1, d2, d3⟩ := h.wh.2 m
    have := (c2 m).1
    refine ⟨?_, ?_, fun hh => d3 ⟨hh.1.1, hh.2⟩⟩
    · rintro ⟨q | q, r⟩
      · exact d1 ⟨q, r.1⟩
      · exact r.2 q
    · rintro ⟨q | q, r⟩
      · exact d2 ⟨q, r⟩
      · exact d3 ⟨(this q).1, r⟩
  · exact top_of_in (rgsFrom_can b1).1 (fun m hm => in_of_top h.tf m ((b2 m).1 hm).1)
  · show s.fi = if finV fin s.fk 1 = 0 then -1 else s.e
    have := h.fi
    by_cases c : s.fk = 0
    · rw [if_pos (f2.2 c)]; rw [if_pos c] at this; exact this
    · rw [if_neg (fun hh => c (f2.1 hh))]; rw [if_neg c] at this; exact this
/-- Behind an acknowledgement: what is acknowledged, and from where on something is not. -/
def akK (s : Sn) (off : Int) (n : Nat) : List Rg := (hit s.f off n).foldl addR s.k
def akB (s : Sn) (off : Int) (n : Nat) : Int := gapR (akK s off n) 0
def akV (s : Sn) (off : Int) (n : Nat) (fin : Bool) : Sn :=
  let fk' := finV fin s.fk 3
  ⟨stI s.st (akB s off n) s.e fk' s.se, s.z, akB s off n, s.e, setN s.xs s.z s.b (fun _ => 0) (akB s off n - s.b).toNat, s.p, (hit s.f off n).foldl remR s.f, akK s off n, s.fi, fk', s.se, s.co⟩
theorem ak_gap {s : Sn} (h : Vld s) {off : Int} {n : Nat} (h0 : 0 ≤ off) (h1 : off + n ≤ s.e) : s.b ≤ akB s off n ∧ akB s off n ≤ s.e := by
  obtain ⟨e0, e1⟩ := h.e_nat
  obtain ⟨c1, c2⟩ := hit_in (n := n) h.hd.rf h0 (by omega)
  obtain ⟨a1, a2⟩ := fold_join h.hd.rk c1
  have g1 : gapR s.k 0 = s.k.foldl gapStep 0 := if_pos ⟨h.hd.rk, Int.le_refl _⟩
  have g2 : akB s off n = (akK s off n).foldl gapStep 0 := if_pos ⟨a1, Int.le_refl _⟩
  obtain ⟨p1, p2, p3⟩ := gap_in (g := 0) (rgsFrom_can h.hd.rk).1
  obtain ⟨q1, q2, q3⟩ := gap_in (l := akK s off n) (g := 0) (rgsFrom_can a1).1
  rw [← g1, h.gap] at p1 p2 p3
  rw [← g2] at q1 q2 q3
  constructor
  · rcases Int.lt_or_le (akB s off n) s.b with c | c
    · exact absurd ((a2 _).2 (Or.inl (p1 _ q3 c))) q2
    · exact c
  · rcases Int.lt_or_le s.e (akB s off n) with c | c
    · have k := q1 s.e e0 c
      rcases (a2 _).1 k with k | k
      · have := (h.wh.1 s.e).1 (Or.inr (Or.inr k)); omega
      · have := (h.wh.1 s.e).1 (Or.inr (Or.inl ((c2 _).1 k).1)); omega
    · exact c
theorem ak_act {s : Sn} (h : Vld s) {off : Int} {n : Nat} {fin : Bool} (h0 : 0 ≤ off) (h1 : off + n ≤ s.e) : Vld (akV s off n fin) := by
  obtain ⟨e0, e1⟩ := h.e_nat
  obtain ⟨c1, c2⟩ := hit_in (n := n) h.hd.rf h0 (by omega)
  obtain ⟨a1, a2⟩ := fold_join h.hd.rk c1
  obtain ⟨b1, b2⟩ := fold_rem h.hd.rf c1
  obtain ⟨g1, g2⟩ := ak_gap (n := n) h h0 h1
  obtain ⟨f0, f1, f2⟩ := finV_bd (fin := fin) (u := 3) h.hd.fk0 h.hd.fk1 (by omega) (by omega)
  refine ⟨⟨ring_drop h.hd.ring g1 g2 _, h.hd.rp, b1, a1, h.hd.se0, h.hd.se1, h.hd.co0, h.hd.co1, f0, f1⟩, ⟨fun m => ?_, fun m => ?_⟩, rfl, ?_, ?_, h.co, ?_, stI_idem _ _ _ _ _⟩
  · show inR s.p m ∨ (inR ((hit s.f off n).foldl remR s.f) m ∨ inR ((hit s.f off n).foldl addR s.k) m) ↔ 0 ≤ m ∧ m < s.e
    rw [a2, b2]
    rw [← (show _ ↔ 0 ≤ m ∧ m < s.e from h.wh.1 m)]
    have := (c2 m).1
    constructor
    · rintro (q | q | q | q)
      · exact Or.inl q
      · exact Or.inr (Or.inl q.1)
      · exact Or.inr (Or.inr q)
      · exact Or.inr (Or.inl (this q).1)
    · rintro (q | q | q)
      · exact Or.inl q
      · by_cases c : inR (hit s.f off n) m
        · exact Or.inr (Or.inr (Or.inr c))
        · exact Or.inr (Or.inl ⟨q, c⟩)
      · exact Or.inr (Or.inr (Or.inl q))
  · show ¬ (inR s.p m ∧ inR ((hit s.f off n).foldl remR s.f) m) ∧ ¬ (inR s.p m ∧ inR ((hit s.f off n).foldl addR s.k) m) ∧ ¬ (inR ((hit s.f off n).foldl remR s.f) m ∧ inR ((hit s.f off n).foldl addR s.k) m)
    rw [a2, b2]
    obtain ⟨d1, d2, d3⟩ := h.wh.2 m
    have := (c2 m).1
    refine ⟨fun hh => d1 ⟨hh.1, hh.2.1⟩, ?_, ?_⟩
    · rintro ⟨q, r | r⟩
      · exact d2 ⟨q, r⟩
      · exact d1 ⟨q, (this r).1⟩
    · rintro ⟨q, r | r⟩
      · exact d3 ⟨q.1, r⟩
      · exact q.2 r
  · exact top_of_in (rgsFrom_can b1).1 (fun m hm => in_of_top h.tf m ((b2 m).1 hm).1)
  · refine top_of_in (rgsFrom_can a1).1 (fun m hm => ?_)
    rcases (a2 m).1 hm with q | q
    · exact in_of_top h.tk m q
    · exact in_of_top h.tf m ((c2 m).1 q).1
  · show s.fi = if finV fin s.fk 3 = 0 then -1 else s.e
    have := h.fi
    by_cases c : s.fk = 0
    · rw [if_pos (f2.2 c)]; rw [if_pos c] at this; exact this
    · rw [if_neg (fun hh => c (f2.1 hh))]; rw [if_neg c] at this; exact this
end
end Go.Proofs.Ytjhgcbchdnoleaa

/-
  Part of the proof: Peek, Drop.
-/
import Derived.Deep.RegionHeld3
import Derived.Deep.AppendLies
import Derived.Test.YtjhgcbchdnoleaaPG2
namespace Go.Proofs.Ytjhgcbchdnoleaa
section
open Go.ChangeShapes Go.WideShapes Go.ChangeAt Go.RowKit
set_option linter.unusedSimpArgs false
/-- The cell that holds byte o + k of a ring. -/
def cellIx (z o : Int) (k : Nat) : Nat := ((o + (k : Int)).tmod z).toNat
def cellAt (xs : List Int) (z o : Int) (k : Nat) : Int := xs.getD (cellIx z o k) 0
def peekL (xs : List Int) (z o : Int) (k : Nat) : List UInt8 := (List.range k).map fun i => UInt8.ofNat (cellAt xs z o i).toNat
def peekS (xs : List Int) (z o : Int) (k : Nat) : ByteArray := ⟨(peekL xs z o k).toArray⟩
theorem peekL_length (xs : List Int) (z o : Int) (k : Nat) : (peekL xs z o k).length = k := by simp [peekL]
theorem peekS_size (xs : List Int) (z o : Int) (k : Nat) : (peekS xs z o k).size = k := by simp [peekS, ByteArray.size, peekL_length]
theorem peekS_succ (xs : List Int) (z o : Int) (k : Nat) : peekS xs z o k ++ byteS (cellAt xs z o k) = peekS xs z o (k + 1) := by
  apply ByteArray.ext
  simp [peekS, peekL, byteS, List.range_succ]
theorem cellIx_lt {z o : Int} {k : Nat} (hz : 0 < z) (ho : 0 ≤ o) : (cellIx z o k : Int) < z ∧ (o + (k : Int)).tmod z = (cellIx z o k : Int) := by
  have h1 := Int.tmod_lt_of_pos (o + (k : Int)) hz
  have h2 := Int.tmod_nonneg z (show 0 ≤ o + (k : Int) by omega)
  unfold cellIx
  omega
theorem isRing_cell {z b e : Int} {xs : List Int} (h : isRing z b e xs = true) {j : Nat} (hj : j < xs.length) : 0 ≤ xs.getD j 0 ∧ xs.getD j 0 ≤ 255 := by
  simp only [isRing, Bool.and_eq_true, Bool.not_eq_true', List.any_eq_false] at h
  have := h.2.2.1 (xs.getD j 0) (by simp [List.getD, List.getElem?_eq_getElem hj])
  generalize xs.getD j 0 = y at *
  exact inB_true (by simpa using this)
def peekOk (z b e o n : Int) (xs : List Int) : Bool := isRing z b e xs && (inB b o e && (decide (0 ≤ n) && decide (n ≤ e - o)))
/-- What a look into a ring gives. -/
def peekV (z b e o n : Int) (xs : List Int) : Value := if peekOk z b e o n xs = true then .tuple #[.string (peekS xs z o n.toNat), .bool true] else .tuple #[.string ⟨#[]⟩, .bool false]
set_option maxHeartbeats 2000000 in
set_option maxRecDepth 100000 in
theorem PeekRing_spec_yes (z b e o n : Int) (ao : Option Addr) (len ca : Nat) (xs : List Int) (w : World) (hx : ReadS w ao xs) (hn : xs.length = len) (hl : (len : Int) ≤ 9223372036854775807) (he : e ≤ 9223372036854775807) (hR : isRing z b e xs = true) (h1 : b ≤ o) (h2 : 0 ≤ n) (h3 : o ≤ e) (h4 : n ≤ e - o) :
    Calls Try.prog 46 #[.agg #[.int .i64 z, .int .i64 b, .int .i64 e, .slice ao len ca], .int .i64 o, .int .i64 n] w fun en w' => en = .returned (.tuple #[.string (peekS xs z o n.toNat), .bool true]) ∧ Ext w w' := by
  obtain ⟨b1, b2, b3, b4, b5, b6, b7⟩ := isRing_bd hR
  go_enter Try.func46, Try.ntmps46
  go_wp2_with fail
  refine (IsRing_spec z b e ao len ca xs _ (hx.ext Ext.go) hn hl he).mono ?_
  rintro en w1 ⟨rfl, hb⟩
  rw [hR]
  obtain ⟨c1, f1⟩ := hb.row (k := w.heap.size) (by simp)
  have hsz1 : w.heap.size < w1.heap.size := by have := hb.size; simp at this; omega
  go_wp2
  have hpos : 0 < len := by omega
  rcases hx with rfl | ⟨bx, off, rfl, hx⟩
  · simp at hn; omega
  rw [hn] at hx
  have la : bx < w.heap.size := World.block_lt_of_cell? w _ (hx 0 hpos)
  have hw1 : Ext w w1 := Ext.go
  have hn' := hide hn
  clear hn
  go_loopw [8, 9] (fun s i wr => ∃ k : Nat, i = .int .i64 k ∧ (k : Int) ≤ n ∧ s = .string (peekS xs z o k) ∧ Ext w1 wr) (fun _ i _ => n.toNat - (intOf i).toNat)
  case atStart => exact ⟨0, rfl, by omega, by congr 1, Ext.refl _⟩
  case round =>
    obtain ⟨k, rfl, hk, rfl, hg⟩ := hrel
    obtain ⟨c2, f2⟩ := hg.row (k := w.heap.size) (by omega)
    obtain ⟨cx2, fx2⟩ := (hw1.trans hg).row (k := bx) la
    have hsz2 := hg.size
    by_cases hlt : (k : Int) < n
    · obtain ⟨j1, j2⟩ := cellIx_lt (z := z) (o := o) (k := k) (by omega) (by omega)
      have j3 := isRing_cell hR (j := cellIx z o k) (by omega)
      have hsucc := hide (peekS_succ xs z o k)
      have hsz : (peekS xs z o k).size = k := peekS_size xs z o k
      have cx := hx (cellIx z o k) (by rw [hn'.out] at b3; omega)
      have j0 : (0 : Int) ≤ (cellIx z o k : Int) := by omega
      have j4 : (cellIx z o k : Int) < (len : Int) := by rw [hn'.out] at b3; omega
      unfold cellAt at hsucc
      clear hx
      generalize cellIx z o k = j at *
      generalize xs.getD j 0 = x at *
      obtain ⟨x0, x1⟩ := j3
      have cxw : wr.cell? ⟨bx, off + j, none⟩ = some (.int .i64 x) := by rw [cx2]; exact cx
      have bsz : (byteS x).size = 1 := rfl
      have hss : (peekS xs z o k ++ byteS x).size = k + 1 := by rw [hsucc.out]; exact peekS_size xs z o (k + 1)
      have hkk : ¬ 9223372036854775807 < k + 1 := by omega
      have hwr : IntKind.i64.wrap (o + (k : Int)) = o + (k : Int) := IntWalk.i64_in _ (by omega)
      have hz0 : ¬ z = 0 := by omega
      go_wp2_with fail
      refine wp_region_steady (S := Ext _) (by kernel_rfl) ((Ext.refl _).drew) ?_
      first | (refine wpAnyS_take (i := 0) (v := ?_) rfl (by kernel_rfl) (by kernel_rfl) (by kernel_rfl) (Steady.plain (by rfl) ?_) ?_; rotate_left; (focus (intro ws hws; skip; go_simp; (try with_reducible rfl); done))) | fail
      (try simp only [nrm])
      first | (refine wpAnyS_take (i := 1) (v := ?_) rfl (by kernel_rfl) (by kernel_rfl) (by kernel_rfl) (Steady.plain (by rfl) ?_) ?_; rotate_left; (focus (intro ws hws; skip; go_simp; (try with_reducible rfl); done))) | fail
      (try simp only [nrm])
      first | (refine wpAnyS_take (i := 2) (v := ?_) rfl (by kernel_rfl) (by kernel_rfl) (by kernel_rfl) (Steady.plain (by rfl) ?_) ?_; rotate_left; (focus (intro ws hws; obtain ⟨q0, p0⟩ := hws.row (k := w.heap.size) xpf; obtain ⟨q1, p1⟩ := hws.row (k := bx) xpf; go_simp; (try with_reducible rfl); done))) | fail
      (try simp only [nrm])
      first | (refine wpAnyS_take (i := 3) (v := ?_) rfl (by kernel_rfl) (by kernel_rfl) (by kernel_rfl) (Steady.plain (by rfl) ?_) ?_; rotate_left; (focus (intro ws hws; skip; go_simp; (try with_reducible rfl); done))) | fail
      (try simp only [nrm])
      first | (refine wpAnyS_take (i := 4) (v := ?_) rfl (by kernel_rfl) (by kernel_rfl) (by kernel_rfl) (Steady.plain (by rfl) ?_) ?_; rotate_left; (focus (intro ws hws; skip; go_simp; (try with_reducible rfl); done))) | fail
      (try simp only [nrm])
      first | (refine wpAnyS_take (i := 5) (v := ?_) rfl (by kernel_rfl) (by kernel_rfl) (by kernel_rfl) (Steady.plain (by rfl) ?_) ?_; rotate_left; (focus (intro ws hws; skip; go_simp; (try with_reducible rfl); done))) | fail
      (try simp only [nrm])
      first | (refine wpAnyS_take (i := 6) (v := ?_) rfl (by kernel_rfl) (by kernel_rfl) (by kernel_rfl) (Steady.plain (by rfl) ?_) ?_; rotate_left; (focus (intro ws hws; skip; go_simp; (try with_reducible rfl); done))) | fail
      (try simp only [nrm])
      first | (refine wpAnyS_take (i := 7) (v := ?_) rfl (by kernel_rfl) (by kernel_rfl) (by kernel_rfl) (Steady.plain (by rfl) ?_) ?_; rotate_left; (focus (intro ws hws; obtain ⟨q0, p0⟩ := hws.row (k := w.heap.size) xpf; obtain ⟨q1, p1⟩ := hws.row (k := bx) xpf; go_simp; (try with_reducible rfl); done))) | fail
      (try simp only [nrm])
      first | (refine wpAnyS_take (i := 8) (v := ?_) rfl (by kernel_rfl) (by kernel_rfl) (by kernel_rfl) (Steady.plain (by rfl) ?_) ?_; rotate_left; (focus (intro ws hws; skip; go_simp; (try with_reducible rfl); done))) | fail
      (try simp only [nrm])
      first | (refine wpAnyS_take (i := 9) (v := ?_) rfl (by kernel_rfl) (by kernel_rfl) (by kernel_rfl) (Steady.plain (by rfl) ?_) ?_; rotate_left; (focus (intro ws hws; skip; go_simp; (try with_reducible rfl); done))) | fail
      (try simp only [nrm])
      first | (refine wpAnyS_take (i := 10) (v := ?_) rfl (by kernel_rfl) (by kernel_rfl) (by kernel_rfl) (Steady.plain (by rfl) ?_) ?_; rotate_left; (focus (intro ws hws; obtain ⟨q0, p0⟩ := hws.row (k := w.heap.size) xpf; obtain ⟨q1, p1⟩ := hws.row (k := bx) xpf; go_simp; (try with_reducible rfl); done))) | fail
      (try simp only [nrm])
      first | (refine wpAnyS_take (i := 11) (v := ?_) rfl (by kernel_rfl) (by kernel_rfl) (by kernel_rfl) (Steady.call 104 ?_ (by rfl) ?_ ?_) ?_; rotate_left; rotate_left; (focus (intro ws hws; go_simp; (try with_reducible rfl); done)); (focus (intro ws hws; refine (l2Byte_any x ws x0 x1).mono ?_; rintro e w' ⟨rfl, h2⟩; refine ⟨?_, hws.trans h2⟩; (try simp only [*]); (try with_reducible rfl); done))) | fail
      (try simp only [nrm])
      first | (refine wpAnyS_take (i := 12) (v := ?_) rfl (by kernel_rfl) (by kernel_rfl) (by kernel_rfl) (Steady.plain (by rfl) ?_) ?_; rotate_left; (focus (intro ws hws; skip; go_simp; (try with_reducible rfl); done))) | fail
      (try simp only [nrm])
      first | (refine wpAnyS_take (i := 13) (v := ?_) rfl (by kernel_rfl) (by kernel_rfl) (by kernel_rfl) (Steady.plain (by rfl) ?_) ?_; rotate_left; (focus (intro ws hws; skip; go_simp; (try with_reducible rfl); done))) | fail
      (try simp only [nrm])
      refine wpAnyS_done (by kernel_rfl) (fun ws hws => ?_) _
      go_wp2
      go_roundw
      case rel => exact ⟨k + 1, by go_num, by omega, by rw [hsucc.out], hg.trans hws⟩
      case measure => simp [intOf]; omega
    · obtain rfl : k = n.toNat := by omega
      go_wp2
      exact bodyPost_ret (v := .tuple #[.string (peekS xs z o n.toNat), .bool true]) (by simp [results, Try.results46, go_sem]) rfl ⟨rfl, hw1.trans hg⟩
set_option maxHeartbeats 2000000 in
theorem PeekRing_spec (z b e o n : Int) (ao : Option Addr) (len ca : Nat) (xs : List Int) (w : World) (hx : ReadS w ao xs) (hn : xs.length = len) (hl : (len : Int) ≤ 9223372036854775807) (he : e ≤ 9223372036854775807) :
    Calls Try.prog 46 #[.agg #[.int .i64 z, .int .i64 b, .int .i64 e, .slice ao len ca], .int .i64 o, .int .i64 n] w fun en w' => en = .returned (peekV z b e o n xs) ∧ Ext w w' := by
  rcases Bool.eq_false_or_eq_true (isRing z b e xs) with hR | hR
  · -- yes
    by_cases h1 : b ≤ o
    · -- yes
      by_cases h2 : 0 ≤ n
      · -- yes
        by_cases h3 : o ≤ e
        · -- yes
          by_cases h4 : n ≤ e - o
          · -- yes
            rw [show peekV z b e o n xs = .tuple #[.string (peekS xs z o n.toNat), .bool true] from if_pos (by simp [peekOk, inB, *])]
            exact PeekRing_spec_yes z b e o n ao len ca xs w hx hn hl he hR h1 h2 h3 h4
          · -- no
            have h4x : ¬ (n ≤ e - o) := h4
            have h4d : decide (n ≤ e - o) = false := decide_eq_false h4x
            replace h4 : e - o < n := by omega
            rw [show peekV z b e o n xs = .tuple #[.string ⟨#[]⟩, .bool false] from if_neg (by simp [peekOk, inB, *]; try omega)]
            obtain ⟨b1, b2, b3, b4, b5, b6, b7⟩ := isRing_bd hR
            go_enter Try.func46, Try.ntmps46
            go_wp2_with fail
            refine (IsRing_spec z b e ao len ca xs _ (hx.ext Ext.go) hn hl he).mono ?_
            rintro en w1 ⟨rfl, hb⟩
            rw [hR]
            obtain ⟨c1, f1⟩ := hb.row (k := w.heap.size) (by simp)
            have hsz1 : w.heap.size < w1.heap.size := by have := hb.size; simp at this; omega
            clear hx hn
            go_wp2_with (go_at_call 74; refine (within_any _ _ _ _).mono ?_; rintro en w9 ⟨rfl, rfl⟩)
            exact bodyPost_ret (v := .tuple #[.string ⟨#[]⟩, .bool false]) (by simp [results, Try.results46, go_sem]) rfl ⟨rfl, Ext.go⟩
        · -- no
          have h3x : ¬ (o ≤ e) := h3
          have h3d : decide (o ≤ e) = false := decide_eq_false h3x
          replace h3 : e < o := by omega
          rw [show peekV z b e o n xs = .tuple #[.string ⟨#[]⟩, .bool false] from if_neg (by simp [peekOk, inB, *]; try omega)]
          obtain ⟨b1, b2, b3, b4, b5, b6, b7⟩ := isRing_bd hR
          go_enter Try.func46, Try.ntmps46
          go_wp2_with fail
          refine (IsRing_spec z b e ao len ca xs _ (hx.ext Ext.go) hn hl he).mono ?_
          rintro en w1 ⟨rfl, hb⟩
          rw [hR]
          obtain ⟨c1, f1⟩ := hb.row (k := w.heap.size) (by simp)
          have hsz1 : w.heap.size < w1.heap.size := by have := hb.size; simp at this; omega
          clear hx hn
          go_wp2_with (go_at_call 74; refine (within_any _ _ _ _).mono ?_; rintro en w9 ⟨rfl, rfl⟩)
          exact bodyPost_ret (v := .tuple #[.string ⟨#[]⟩, .bool false]) (by simp [results, Try.results46, go_sem]) rfl ⟨rfl, Ext.go⟩
      · -- no
        have h2x : ¬ (0 ≤ n) := h2
        have h2d : decide (0 ≤ n) = false := decide_eq_false h2x
        replace h2 : n < 0 := by omega
        rw [show peekV z b e o n xs = .tuple #[.string ⟨#[]⟩, .bool false] from if_neg (by simp [peekOk, inB, *]; try omega)]
        obtain ⟨b1, b2, b3, b4, b5, b6, b7⟩ := isRing_bd hR
        go_enter Try.func46, Try.ntmps46
        go_wp2_with fail
        refine (IsRing_spec z b e ao len ca xs _ (hx.ext Ext.go) hn hl he).mono ?_
        rintro en w1 ⟨rfl, hb⟩
        rw [hR]
        obtain ⟨c1, f1⟩ := hb.row (k := w.heap.size) (by simp)
        have hsz1 : w.heap.size < w1.heap.size := by have := hb.size; simp at this; omega
        clear hx hn
        go_wp2_with (go_at_call 74; refine (within_any _ _ _ _).mono ?_; rintro en w9 ⟨rfl, rfl⟩)
        exact bodyPost_ret (v := .tuple #[.string ⟨#[]⟩, .bool false]) (by simp [results, Try.results46, go_sem]) rfl ⟨rfl, Ext.go⟩
    · -- no
      have h1x : ¬ (b ≤ o) := h1
      have h1d : decide (b ≤ o) = false := decide_eq_false h1x
      replace h1 : o < b := by omega
      rw [show peekV z b e o n xs = .tuple #[.string ⟨#[]⟩, .bool false] from if_neg (by simp [peekOk, inB, *]; try omega)]
      obtain ⟨b1, b2, b3, b4, b5, b6, b7⟩ := isRing_bd hR
      go_enter Try.func46, Try.ntmps46
      go_wp2_with fail
      refine (IsRing_spec z b e ao len ca xs _ (hx.ext Ext.go) hn hl he).mono ?_
      rintro en w1 ⟨rfl, hb⟩
      rw [hR]
      obtain ⟨c1, f1⟩ := hb.row (k := w.heap.size) (by simp)
      have hsz1 : w.heap.size < w1.heap.size := by have := hb.size; simp at this; omega
      clear hx hn
      go_wp2_with (go_at_call 74; refine (within_any _ _ _ _).mono ?_; rintro en w9 ⟨rfl, rfl⟩)
      exact bodyPost_ret (v := .tuple #[.string ⟨#[]⟩, .bool false]) (by simp [results, Try.results46, go_sem]) rfl ⟨rfl, Ext.go⟩
  · -- no
    rw [show peekV z b e o n xs = .tuple #[.string ⟨#[]⟩, .bool false] from if_neg (by simp [peekOk, inB, *]; try omega)]
    go_enter Try.func46, Try.ntmps46
    go_wp2_with fail
    refine (IsRing_spec z b e ao len ca xs _ (hx.ext Ext.go) hn hl he).mono ?_
    rintro en w1 ⟨rfl, hb⟩
    rw [hR]
    obtain ⟨c1, f1⟩ := hb.row (k := w.heap.size) (by simp)
    have hsz1 : w.heap.size < w1.heap.size := by have := hb.size; simp at this; omega
    clear hx hn
    go_wp2_with (go_at_call 74; refine (within_any _ _ _ _).mono ?_; rintro en w9 ⟨rfl, rfl⟩)
    exact bodyPost_ret (v := .tuple #[.string ⟨#[]⟩, .bool false]) (by simp [results, Try.results46, go_sem]) rfl ⟨rfl, Ext.go⟩
end
section
open Go.ChangeShapes Go.WideShapes Go.ChangeAt Go.RowKit
set_option linter.unusedSimpArgs false
/-- k cells set, from place o on, round and round. -/
def setN (xs : List Int) (z o : Int) (f : Nat → Int) : Nat → List Int
  | 0 => xs
  | k + 1 => (setN xs z o f k).set (cellIx z o k) (f k)
theorem setN_length (xs : List Int) (z o : Int) (f : Nat → Int) : ∀ k, (setN xs z o f k).length = xs.length
  | 0 => rfl
  | k + 1 => by rw [setN, List.length_set, setN_length xs z o f k]
theorem own_at {lo hi b off : Nat} {w : World} {ys : List Int} (h : OwnS lo hi w (some ⟨b, off, none⟩) ys) {j : Nat} (hj : j < ys.length) :
    w.cell? ⟨b, off + j, none⟩ = some (.int .i64 (ys.getD j 0)) ∧ lo ≤ b ∧ b < hi ∧ ∀ o, w.frozen? ⟨b, o, none⟩ = false := by
  rcases h with rfl | ⟨b', off', h1, h2, h3, h4, h5⟩
  · simp at hj
  · obtain ⟨rfl, rfl⟩ : b = b' ∧ off = off' := by simpa using h1
    exact ⟨h5 j hj, h2, h3, h4⟩
theorem own_set {lo hi b off : Nat} {w : World} {ys : List Int} (h : OwnS lo hi w (some ⟨b, off, none⟩) ys) {j : Nat} (hj : j < ys.length) (v : Int) :
    OwnS lo hi (w.setCell ⟨b, off + j, none⟩ (.int .i64 v)) (some ⟨b, off, none⟩) (ys.set j v) := by
  obtain ⟨c0, k1, k2, k3⟩ := own_at h hj
  refine Or.inr ⟨b, off, rfl, k1, k2, fun o => by rw [World.frozen?_setCell]; exact k3 o, fun i hi => ?_⟩
  rw [List.length_set] at hi
  by_cases hij : i = j
  · subst hij
    rw [World.cell?_setCell_same' _ _ _ (by rw [c0]; rfl)]
    simp [List.getD, hi]
  · rw [cell_set_other (by omega)]
    rw [(own_at h hi).1]
    simp [List.getD, List.getElem?_set_ne (Ne.symm hij)]
theorem own_some {lo hi : Nat} {w : World} {ao : Option Addr} {ys : List Int} (h : OwnS lo hi w ao ys) (hp : 0 < ys.length) : ∃ b off, ao = some ⟨b, off, none⟩ := by
  rcases h with rfl | ⟨b, off, h1, _⟩
  · simp at hp
  · exact ⟨b, off, h1⟩
/-- A ring and a second value: the ring's cells in memory of the call's own. -/
def RingRes (z b e : Int) (xs : List Int) (v : Value) (w : World) (en : Ending) (w' : World) : Prop :=
  ∃ (ao : Option Addr) (cap : Nat), en = .returned (.tuple #[.agg #[.int .i64 z, .int .i64 b, .int .i64 e, .slice ao xs.length cap], v]) ∧ OwnS w.heap.size w'.heap.size w' ao xs ∧ Ext w w'
def dropOk (z b e to : Int) (xs : List Int) : Bool := isRing z b e xs && inB b to e
set_option maxHeartbeats 2000000 in
theorem DropRing_spec_no (z b e to : Int) (ao : Option Addr) (len ca : Nat) (xs : List Int) (w : World) (hx : ReadS w ao xs) (hn : xs.length = len) (hl : len ≤ 1048576) (he : e ≤ 9223372036854775807) (hno : dropOk z b e to xs = false) :
    Calls Try.prog 100 #[.agg #[.int .i64 z, .int .i64 b, .int .i64 e, .slice ao len ca], .int .i64 to] w (RingRes z b e xs (.bool false) w) := by
  rcases Bool.eq_false_or_eq_true (isRing z b e xs) with hR | hR
  · -- yes
    by_cases h1 : b ≤ to
    · -- yes
      by_cases h2 : to ≤ e
      · -- yes
        simp [dropOk, inB, *] at hno
      · -- no
        have h2x : ¬ (to ≤ e) := h2
        have h2d : decide (to ≤ e) = false := decide_eq_false h2x
        replace h2 : e < to := by omega
        have hn' := hide hn
        have hx' := hide hx
        clear hn hx
        go_enter Try.func100, Try.ntmps100
        go_wp2_with fail
        refine (l8Copy_any z b e ao len ca xs _ (hx'.out.ext Ext.go) hn'.out (by omega)).mono ?_
        rintro en w1 ⟨ao1, cap1, rfl, ho1, hw1⟩
        have xw1 : Ext w w1 := Ext.go
        have kw1_0 := hw1.more (k := w.heap.size) xpf
        obtain ⟨cw1_0, fw1_0⟩ := hw1.row (k := w.heap.size) xpf
        have kw1_1 := hw1.more (k := w.heap.size + 1) xpf
        obtain ⟨cw1_1, fw1_1⟩ := hw1.row (k := w.heap.size + 1) xpf
        replace ho1 := hide (OwnS.mono (lo' := w.heap.size + 2) ho1 (by simp) (Nat.le_refl _))
        have hs1 : w.heap.size + 2 ≤ w1.heap.size := by have := hw1.size; simpa using this
        go_wp2_with fail
        refine (IsRing_spec z b e ao len ca xs _ (hx'.out.ext Ext.go) hn'.out (by omega) he).mono ?_
        rintro en w2 ⟨rfl, hw2⟩
        have xw2 : Ext w w2 := Ext.go
        have kw2_0 := hw2.more (k := w.heap.size) xpf
        obtain ⟨cw2_0, fw2_0⟩ := hw2.row (k := w.heap.size) xpf
        have kw2_1 := hw2.more (k := w.heap.size + 1) xpf
        obtain ⟨cw2_1, fw2_1⟩ := hw2.row (k := w.heap.size + 1) xpf
        have kw2_2 := hw2.more (k := w1.heap.size) xpf
        obtain ⟨cw2_2, fw2_2⟩ := hw2.row (k := w1.heap.size) xpf
        have hs2 : w1.heap.size < w2.heap.size := by have := hw2.size; simp at this; omega
        rw [hR]
        go_wp2_with (go_at_call 74; refine (within_any _ _ _ _).mono ?_; rintro en w9 ⟨rfl, rfl⟩)
        refine bodyPost_ret (v := .tuple #[.agg #[.int .i64 z, .int .i64 b, .int .i64 e, .slice ao1 xs.length cap1], .bool false]) (by simp [results, Try.results100, go_sem, *]) rfl ⟨ao1, cap1, rfl, ?_, ?_⟩
        · refine OwnS.mono (OwnS.chg (S := fun k => k < w.heap.size + 2) ho1.out (by repeat (first | with_reducible exact Chg.refl _ _ | with_reducible assumption | with_reducible refine Chg.alloc ?_ _ | with_reducible refine Chg.drew ?_ | ((with_reducible refine Chg.set ?_ ?_ _); (focus (first | (left; simp; done) | (left; simp; omega) | (right; simp; done) | (right; simp; omega) | (right; omega)))) | with_reducible refine Chg.trans ?_ (Ext.chg hw2 _))) (fun b h1 h2 h3 => by omega)) (by omega) (by simp; omega)
        · exact Ext.go
    · -- no
      have h1x : ¬ (b ≤ to) := h1
      have h1d : decide (b ≤ to) = false := decide_eq_false h1x
      replace h1 : to < b := by omega
      have hn' := hide hn
      have hx' := hide hx
      clear hn hx
      go_enter Try.func100, Try.ntmps100
      go_wp2_with fail
      refine (l8Copy_any z b e ao len ca xs _ (hx'.out.ext Ext.go) hn'.out (by omega)).mono ?_
      rintro en w1 ⟨ao1, cap1, rfl, ho1, hw1⟩
      have xw1 : Ext w w1 := Ext.go
      have kw1_0 := hw1.more (k := w.heap.size) xpf
      obtain ⟨cw1_0, fw1_0⟩ := hw1.row (k := w.heap.size) xpf
      have kw1_1 := hw1.more (k := w.heap.size + 1) xpf
      obtain ⟨cw1_1, fw1_1⟩ := hw1.row (k := w.heap.size + 1) xpf
      replace ho1 := hide (OwnS.mono (lo' := w.heap.size + 2) ho1 (by simp) (Nat.le_refl _))
      have hs1 : w.heap.size + 2 ≤ w1.heap.size := by have := hw1.size; simpa using this
      go_wp2_with fail
      refine (IsRing_spec z b e ao len ca xs _ (hx'.out.ext Ext.go) hn'.out (by omega) he).mono ?_
      rintro en w2 ⟨rfl, hw2⟩
      have xw2 : Ext w w2 := Ext.go
      have kw2_0 := hw2.more (k := w.heap.size) xpf
      obtain ⟨cw2_0, fw2_0⟩ := hw2.row (k := w.heap.size) xpf
      have kw2_1 := hw2.more (k := w.heap.size + 1) xpf
      obtain ⟨cw2_1, fw2_1⟩ := hw2.row (k := w.heap.size + 1) xpf
      have kw2_2 := hw2.more (k := w1.heap.size) xpf
      obtain ⟨cw2_2, fw2_2⟩ := hw2.row (k := w1.heap.size) xpf
      have hs2 : w1.heap.size < w2.heap.size := by have := hw2.size; simp at this; omega
      rw [hR]
      go_wp2_with (go_at_call 74; refine (within_any _ _ _ _).mono ?_; rintro en w9 ⟨rfl, rfl⟩)
      refine bodyPost_ret (v := .tuple #[.agg #[.int .i64 z, .int .i64 b, .int .i64 e, .slice ao1 xs.length cap1], .bool false]) (by simp [results, Try.results100, go_sem, *]) rfl ⟨ao1, cap1, rfl, ?_, ?_⟩
      · refine OwnS.mono (OwnS.chg (S := fun k => k < w.heap.size + 2) ho1.out (by repeat (first | with_reducible exact Chg.refl _ _ | with_reducible assumption | with_reducible refine Chg.alloc ?_ _ | with_reducible refine Chg.drew ?_ | ((with_reducible refine Chg.set ?_ ?_ _); (focus (first | (left; simp; done) | (left; simp; omega) | (right; simp; done) | (right; simp; omega) | (right; omega)))) | with_reducible refine Chg.trans ?_ (Ext.chg hw2 _))) (fun b h1 h2 h3 => by omega)) (by omega) (by simp; omega)
      · exact Ext.go
  · -- no
    have hn' := hide hn
    have hx' := hide hx
    clear hn hx
    go_enter Try.func100, Try.ntmps100
    go_wp2_with fail
    refine (l8Copy_any z b e ao len ca xs _ (hx'.out.ext Ext.go) hn'.out (by omega)).mono ?_
    rintro en w1 ⟨ao1, cap1, rfl, ho1, hw1⟩
    have xw1 : Ext w w1 := Ext.go
    have kw1_0 := hw1.more (k := w.heap.size) xpf
    obtain ⟨cw1_0, fw1_0⟩ := hw1.row (k := w.heap.size) xpf
    have kw1_1 := hw1.more (k := w.heap.size + 1) xpf
    obtain ⟨cw1_1, fw1_1⟩ := hw1.row (k := w.heap.size + 1) xpf
    replace ho1 := hide (OwnS.mono (lo' := w.heap.size + 2) ho1 (by simp) (Nat.le_refl _))
    have hs1 : w.heap.size + 2 ≤ w1.heap.size := by have := hw1.size; simpa using this
    go_wp2_with fail
    refine (IsRing_spec z b e ao len ca xs _ (hx'.out.ext Ext.go) hn'.out (by omega) he).mono ?_
    rintro en w2 ⟨rfl, hw2⟩
    have xw2 : Ext w w2 := Ext.go
    have kw2_0 := hw2.more (k := w.heap.size) xpf
    obtain ⟨cw2_0, fw2_0⟩ := hw2.row (k := w.heap.size) xpf
    have kw2_1 := hw2.more (k := w.heap.size + 1) xpf
    obtain ⟨cw2_1, fw2_1⟩ := hw2.row (k := w.heap.size + 1) xpf
    have kw2_2 := hw2.more (k := w1.heap.size) xpf
    obtain ⟨cw2_2, fw2_2⟩ := hw2.row (k := w1.heap.size) xpf
    have hs2 : w1.heap.size < w2.heap.size := by have := hw2.size; simp at this; omega
    rw [hR]
    go_wp2_with (go_at_call 74; refine (within_any _ _ _ _).mono ?_; rintro en w9 ⟨rfl, rfl⟩)
    refine bodyPost_ret (v := .tuple #[.agg #[.int .i64 z, .int .i64 b, .int .i64 e, .slice ao1 xs.length cap1], .bool false]) (by simp [results, Try.results100, go_sem, *]) rfl ⟨ao1, cap1, rfl, ?_, ?_⟩
    · refine OwnS.mono (OwnS.chg (S := fun k => k < w.heap.size + 2) ho1.out (by repeat (first | with_reducible exact Chg.refl _ _ | with_reducible assumption | with_reducible refine Chg.alloc ?_ _ | with_reducible refine Chg.drew ?_ | ((with_reducible refine Chg.set ?_ ?_ _); (focus (first | (left; simp; done) | (left; simp; omega) | (right; simp; done) | (right; simp; omega) | (right; omega)))) | with_reducible refine Chg.trans ?_ (Ext.chg hw2 _))) (fun b h1 h2 h3 => by omega)) (by omega) (by simp; omega)
    · exact Ext.go
set_option maxHeartbeats 2000000 in
theorem DropRing_spec_yes (z b e to : Int) (ao : Option Addr) (len ca : Nat) (xs : List Int) (w : World) (hx : ReadS w ao xs) (hn : xs.length = len) (hl : len ≤ 1048576) (he : e ≤ 9223372036854775807) (hR : isRing z b e xs = true) (h1 : b ≤ to) (h2 : to ≤ e) :
    Calls Try.prog 100 #[.agg #[.int .i64 z, .int .i64 b, .int .i64 e, .slice ao len ca], .int .i64 to] w (RingRes z to e (setN xs z b (fun _ => 0) (to - b).toNat) (.bool true) w) := by
  obtain ⟨b1, b2, b3, b4, b5, b6, b7⟩ := isRing_bd hR
  have hin : inB b to e = true := inB_mk h1 h2
  have hn' := hide hn
  have hx' := hide hx
  clear hn hx
  go_enter Try.func100, Try.ntmps100
  go_wp2_with fail
  refine (l8Copy_any z b e ao len ca xs _ (hx'.out.ext Ext.go) hn'.out (by omega)).mono ?_
  rintro en w1 ⟨ao1, cap1, rfl, ho1, hw1⟩
  have xw1 : Ext w w1 := Ext.go
  have kw1_0 := hw1.more (k := w.heap.size) xpf
  obtain ⟨cw1_0, fw1_0⟩ := hw1.row (k := w.heap.size) xpf
  have kw1_1 := hw1.more (k := w.heap.size + 1) xpf
  obtain ⟨cw1_1, fw1_1⟩ := hw1.row (k := w.heap.size + 1) xpf
  replace ho1 := hide (OwnS.mono (lo' := w.heap.size + 2) ho1 (by simp) (Nat.le_refl _))
  have hs1 : w.heap.size + 2 ≤ w1.heap.size := by have := hw1.size; simpa using this
  go_wp2_with fail
  refine (IsRing_spec z b e ao len ca xs _ (hx'.out.ext Ext.go) hn'.out (by omega) he).mono ?_
  rintro en w2 ⟨rfl, hw2⟩
  have xw2 : Ext w w2 := Ext.go
  have kw2_0 := hw2.more (k := w.heap.size) xpf
  obtain ⟨cw2_0, fw2_0⟩ := hw2.row (k := w.heap.size) xpf
  have kw2_1 := hw2.more (k := w.heap.size + 1) xpf
  obtain ⟨cw2_1, fw2_1⟩ := hw2.row (k := w.heap.size + 1) xpf
  have kw2_2 := hw2.more (k := w1.heap.size) xpf
  obtain ⟨cw2_2, fw2_2⟩ := hw2.row (k := w1.heap.size) xpf
  have hs2 : w1.heap.size < w2.heap.size := by have := hw2.size; simp at this; omega
  rw [hR]
  go_wp2_with (go_at_call 74; refine (within_any _ _ _ _).mono ?_; rintro en w9 ⟨rfl, rfl⟩)
  obtain ⟨ba, off, rfl⟩ := own_some ho1.out (by omega)
  have hE2 : Ext w w2 := xw2
  have ho2 : OwnS (w.heap.size + 2) w1.heap.size w2 (some ⟨ba, off, none⟩) xs := ho1.out.chg (S := fun k => k < w.heap.size + 2) (by repeat (first | with_reducible exact Chg.refl _ _ | with_reducible assumption | with_reducible refine Chg.alloc ?_ _ | with_reducible refine Chg.drew ?_ | ((with_reducible refine Chg.set ?_ ?_ _); (focus (first | (left; simp; done) | (left; simp; omega) | (right; simp; done) | (right; simp; omega) | (right; omega)))) | with_reducible refine Chg.trans ?_ (Ext.chg hw2 _))) (fun b h1 h2 h3 => by omega)
  obtain ⟨-, ha1, ha2, -⟩ := own_at ho2 (j := 0) (by omega)
  clear ho1
  go_loopw [7] (fun at_ wr => ∃ i : Nat, at_ = .int .i64 (b + (i : Int)) ∧ b + (i : Int) ≤ to ∧ Hid (OwnS (w.heap.size + 2) w1.heap.size wr (some ⟨ba, off, none⟩) (setN xs z b (fun _ => 0) i)) ∧ Chg (fun k => k = ba) w2 wr) (fun at_ _ => (to - intOf at_).toNat)
  case atStart => exact ⟨0, by simp, by omega, hide ho2, Chg.refl _ _⟩
  case round =>
    obtain ⟨i, rfl, hi, hown, hg⟩ := hrel
    obtain ⟨c0, f0⟩ := hg.row (k := w.heap.size) (by omega) (by omega)
    obtain ⟨c1, f1⟩ := hg.row (k := w.heap.size + 1) (by omega) (by omega)
    obtain ⟨c2, f2⟩ := hg.row (k := w1.heap.size) (by omega) (by omega)
    have hs3 := hg.size
    by_cases hlt : b + (i : Int) < to
    · obtain ⟨j1, j2⟩ := cellIx_lt (z := z) (o := b) (k := i) (by omega) (by omega)
      have hjl : cellIx z b i < (setN xs z b (fun _ => 0) i).length := by rw [setN_length]; omega
      have hset := hide (own_set hown.out hjl 0)
      obtain ⟨cx, -, -, fx⟩ := own_at hown.out hjl
      have hsucc : Hid ((setN xs z b (fun _ => 0) i).set (cellIx z b i) 0 = setN xs z b (fun _ => 0) (i + 1)) := hide rfl
      have j4 : (cellIx z b i : Int) < (len : Int) := by have := hn'.out; omega
      have hnn := setN_length xs z b (fun _ => 0) i
      generalize cellIx z b i = j at *
      generalize setN xs z b (fun _ => 0) i = ys at *
      generalize ys.getD j 0 = x at *
      have j0 : (0 : Int) ≤ (j : Int) := by omega
      have hzz : ¬ z = 0 := by omega
      have hlen1 : (j : Int) < (xs.length : Int) := by omega
      have d0 : wr.cell? ⟨w.heap.size, 0, none⟩ = some (.int .i64 z) := (by rw [c0, cw2_0]; simp [go_sem, *])
      have d3 : wr.cell? ⟨w1.heap.size, 3, none⟩ = some (.slice (some ⟨ba, off, none⟩) xs.length cap1) := (by rw [c2, cw2_2]; simp [go_sem, *])
      clear c0 c1 c2
      have hne0 : ba ≠ w.heap.size := by omega
      have hne1 : ba ≠ w1.heap.size := by omega
      go_wp2_with fail
      go_region_held3 (fun w' => w'.cell? ⟨w.heap.size, 0, none⟩ = some (.int .i64 z) ∧ w'.cell? ⟨w1.heap.size, 3, none⟩ = some (.slice (some ⟨ba, off, none⟩) xs.length cap1)) (first | go_keep | (go_split_ands; refine ⟨?_, ?_⟩ <;> (rw [World.cell?_setCell_other _ _ _ _ (by simp; omega)]; simp [go_sem, *]))) (fail)
      go_wp2
      go_roundw
      case rel => exact ⟨i + 1, by go_num, by omega, hide (by rw [← hsucc.out]; exact hset.out.chg ((Chg.refl (fun _ => False) _).drew) (fun _ _ _ h => h)), Chg.drew (Chg.set (S := fun k => k = ba) (p := ⟨ba, off + j, none⟩) (Or.inl rfl) hg _)⟩
      case measure => simp [intOf]; omega
    · obtain rfl : i = (to - b).toNat := by omega
      have hnn := setN_length xs z b (fun _ => 0) (to - b).toNat
      have hEr : Ext w wr := ((hE2.chg _).trans hg).ext (fun k hk h => by omega)
      go_wp2
      refine bodyPost_ret (v := .tuple #[.agg #[.int .i64 z, .int .i64 to, .int .i64 e, .slice (some ⟨ba, off, none⟩) xs.length cap1], .bool true]) (by simp [results, Try.results100, go_sem, *]) rfl ⟨some ⟨ba, off, none⟩, cap1, by rw [hnn], ?_, ?_⟩
      · refine OwnS.mono (OwnS.chg (S := fun k => k < w.heap.size + 2 ∨ w1.heap.size ≤ k) hown.out (by repeat (first | with_reducible exact Chg.refl _ _ | with_reducible assumption | with_reducible refine Chg.alloc ?_ _ | with_reducible refine Chg.drew ?_ | with_reducible refine Chg.drewN ?_ _ | ((with_reducible refine Chg.set ?_ ?_ _); (focus (first | (left; simp; done) | (left; simp; omega) | (right; simp; done) | (right; simp; omega)))))) (fun b h1 h2 h3 => by omega)) (by omega) (by simp; omega)
      · exact Ext.go
/-- What is dropped, and what is left. -/
def dropB (z b e to : Int) (xs : List Int) : Int := if dropOk z b e to xs = true then to else b
def dropC (z b e to : Int) (xs : List Int) : List Int := if dropOk z b e to xs = true then setN xs z b (fun _ => 0) (to - b).toNat else xs
theorem DropRing_spec (z b e to : Int) (ao : Option Addr) (len ca : Nat) (xs : List Int) (w : World) (hx : ReadS w ao xs) (hn : xs.length = len) (hl : len ≤ 1048576) (he : e ≤ 9223372036854775807) :
    Calls Try.prog 100 #[.agg #[.int .i64 z, .int .i64 b, .int .i64 e, .slice ao len ca], .int .i64 to] w (RingRes z (dropB z b e to xs) e (dropC z b e to xs) (.bool (dropOk z b e to xs)) w) := by
  rcases Bool.eq_false_or_eq_true (dropOk z b e to xs) with h | h
  · have h' := h
    simp only [dropOk, Bool.and_eq_true] at h'
    obtain ⟨h1, h2⟩ := inB_true h'.2
    rw [dropB, dropC, if_pos h, if_pos h, h]
    exact DropRing_spec_yes z b e to ao len ca xs w hx hn hl he h'.1 h1 h2
  · have h' : ¬ dropOk z b e to xs = true := by simp [h]
    rw [dropB, dropC, if_neg h', if_neg h', h]
    exact DropRing_spec_no z b e to ao len ca xs w hx hn hl he h
end
end Go.Proofs.Ytjhgcbchdnoleaa

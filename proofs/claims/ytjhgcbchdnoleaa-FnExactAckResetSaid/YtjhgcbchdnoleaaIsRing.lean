/-
  Contracts of IsRing and RoomOf. Conditions: the cells can be read.
-/
import Derived.Test.YtjhgcbchdnoleaaRing2
namespace Go.Proofs.Ytjhgcbchdnoleaa
open Go.ChangeShapes Go.WideShapes Go.ChangeAt Go.RowKit
set_option linter.unusedSimpArgs false
theorem any_take (p : Int → Bool) (xs : List Int) {k : Nat} (hk : k < xs.length) : (xs.take (k + 1)).any p = ((xs.take k).any p || p (xs.getD k 0)) := by
  rw [take_succ_getD xs hk]; simp
theorem any_of_getD (p : Int → Bool) (xs : List Int) {k : Nat} (hk : k < xs.length) (h : p (xs.getD k 0) = true) : xs.any p = true := by
  simp only [List.any_eq_true]
  refine ⟨xs.getD k 0, ?_, h⟩
  simp [List.getD, List.getElem?_eq_getElem hk]
theorem isRingCl_any (x : Int) (w : World) : Calls Try.prog 127 #[.int .i64 x] w fun e w' => e = .returned (.bool (!inB 0 x 255)) ∧ w = w' := by
  go_enter Try.func127, Try.ntmps127
  go_wp2_with (go_at_call 74; refine (within_any _ _ _ _).mono ?_; rintro e w1 ⟨rfl, rfl⟩)
  go_ret
  exact ⟨rfl, rfl⟩
/-- An index, or none. -/
def Found (p : Int → Bool) (xs : List Int) (w : World) (e : Ending) (w' : World) : Prop := ∃ k : Int, e = .returned (.int .i64 k) ∧ decide (0 ≤ k) = xs.any p ∧ Ext w w'
set_option maxHeartbeats 1000000 in
theorem indexFunc_any (ao : Option Addr) (n ca : Nat) (xs : List Int) (w : World) (hx : ReadS w ao xs) (hn : xs.length = n) (hl : (n : Int) ≤ 9223372036854775807) :
    Calls Try.prog 137 #[.slice ao n ca, .func (.func 127) #[] #[]] w (Found (fun x => !inB 0 x 255) xs w) := by
  rcases Nat.eq_zero_or_pos n with rfl | hpos
  · obtain rfl : xs = [] := List.eq_nil_of_length_eq_zero hn
    clear hx hn
    go_enter Try.func137, Try.ntmps137
    go_wp2
    go_loop [8] (fun i => i = .int .i64 0) (fun _ => 0)
    case atStart => rfl
    case round =>
      obtain rfl := hrel
      go_wp2
      go_ret
      exact ⟨_, rfl, by simp, Ext.refl _⟩
  · rcases hx with rfl | ⟨bx, off, rfl, hx⟩
    · simp at hn; omega
    rw [hn] at hx
    have hn' := hide hn
    clear hn
    go_enter Try.func137, Try.ntmps137
    go_wp2
    go_loopw [5, 8] (fun _ i wr => ∃ k : Nat, i = .int .i64 k ∧ k ≤ n ∧ (xs.take k).any (fun x => !inB 0 x 255) = false ∧ wr = w) (fun _ i _ => n - (intOf i).toNat)
    case atStart => exact ⟨0, rfl, by omega, by simp, rfl⟩
    case round =>
      obtain ⟨k, rfl, hk, ht, rfl⟩ := hrel
      have ht' := hide ht
      clear ht
      by_cases hlt : k < n
      · have cx := hx k hlt
        have i1 : (0 : Int) ≤ (k : Int) := by omega
        have i2 : (k : Int) < (n : Int) := by omega
        have hkx : k < xs.length := by rw [hn'.out]; exact hlt
        clear hx
        rcases Bool.eq_false_or_eq_true (!inB 0 (xs.getD k 0) 255) with he | he
        · have hts := hide (any_of_getD (fun x => !inB 0 x 255) xs hkx he)
          generalize xs.getD k 0 = x at *
          go_wp2_with fail
          refine (isRingCl_any _ _).mono ?_
          rintro en w1 ⟨rfl, rfl⟩
          rw [he]
          go_wp2
          go_ret
          exact ⟨_, rfl, by simp [hts.out], Ext.refl _⟩
        · have hts : Hid ((xs.take (k + 1)).any (fun x => !inB 0 x 255) = false) := hide (by rw [any_take _ xs hkx, ht'.out, he]; rfl)
          generalize xs.getD k 0 = x at *
          go_wp2_with fail
          refine (isRingCl_any _ _).mono ?_
          rintro en w1 ⟨rfl, rfl⟩
          rw [he]
          go_wp2
          go_roundw
          case rel => exact ⟨k + 1, by go_num, by omega, hts.out, by first | rfl | trivial⟩
          case measure => simp [intOf]; omega
      · obtain rfl : k = n := by omega
        have hxy' : Hid (xs.any (fun x => !inB 0 x 255) = false) := hide (by
          have h1 := ht'.out
          rwa [List.take_of_length_le (Nat.le_of_eq hn'.out)] at h1)
        clear hx
        go_wp2
        go_ret
        exact ⟨_, rfl, by simp [hxy'.out], Ext.refl _⟩
theorem containsFunc_any (ao : Option Addr) (n ca : Nat) (xs : List Int) (w : World) (hx : ReadS w ao xs) (hn : xs.length = n) (hl : (n : Int) ≤ 9223372036854775807) :
    Calls Try.prog 126 #[.slice ao n ca, .func (.func 127) #[] #[]] w fun e w' => e = .returned (.bool (xs.any (fun x => !inB 0 x 255))) ∧ Ext w w' := by
  go_enter Try.func126, Try.ntmps126
  go_wp2_with fail
  refine (indexFunc_any ao n ca xs _ hx hn hl).mono ?_
  rintro en w1 ⟨k, rfl, hk, hb⟩
  go_wp2
  go_ret
  exact ⟨by rw [← hk]; rfl, hb⟩
theorem isQuic_any (x : Int) (w : World) : Calls Try.prog 75 #[.int .i64 x] w fun e w' => e = .returned (.bool (inB 0 x 4611686018427387903)) ∧ w = w' := by
  go_enter Try.func75, Try.ntmps75
  go_wp2_with (go_at_call 74; refine (within_any _ _ _ _).mono ?_; rintro e w1 ⟨rfl, rfl⟩)
  go_ret
  exact ⟨rfl, rfl⟩
/-- Is this a ring? -/
def isRing (z b e : Int) (xs : List Int) : Bool := ringSz z && ((xs.length : Int) == z && (!xs.any (fun x => !inB 0 x 255) && (inB 0 b 4611686018427387903 && inB b e (min (b + z) 4611686018427387903))))
theorem isRing_bd {z b e : Int} {xs : List Int} (h : isRing z b e xs = true) : 1 ≤ z ∧ z ≤ 64 ∧ (xs.length : Int) = z ∧ 0 ≤ b ∧ b ≤ e ∧ e ≤ b + z ∧ e ≤ 4611686018427387903 := by
  simp only [isRing, Bool.and_eq_true, beq_iff_eq] at h
  obtain ⟨h1, h2, -, h3, h4⟩ := h
  have := ringSz_bd h1
  have := inB_true h3
  have := inB_true h4
  omega
set_option maxHeartbeats 1000000 in
theorem IsRing_impl (z b e : Int) (ao : Option Addr) (n ca : Nat) (xs : List Int) (w : World) (hx : ReadS w ao xs) (hn : xs.length = n) (hl : (n : Int) ≤ 9223372036854775807) :
    Calls Try.prog 72 #[.agg #[.int .i64 z, .int .i64 b, .int .i64 e, .slice ao n ca]] w fun en w' => en = .returned (.bool (isRing z b e xs)) ∧ Ext w w' := by
  rcases Bool.eq_false_or_eq_true (ringSz z) with hs | hs
  · -- yes
    obtain ⟨z1, z2⟩ := ringSz_bd hs
    by_cases hl2 : (n : Int) = z
    · -- equal
      have hl2e : ((n : Int) == z) = true := by simp [hl2]
      have hl2n : ((n : Int) != z) = false := by simp [hl2]
      have hl2H := hide hl2
      clear hl2
      rcases Bool.eq_false_or_eq_true (xs.any (fun x => !inB 0 x 255)) with hc | hc
      · -- yes
        have hn' := hide hn
        have hx' := hide hx
        have hlen' : Hid ((xs.length : Int) = n) := hide (by rw [hn])
        clear hn hx
        go_enter Try.func72, Try.ntmps72
        go_wp2_with (go_at_call 125; refine (isRingSize_any _ _).mono ?_; rintro e w1 ⟨rfl, rfl⟩)
        refine (containsFunc_any ao n ca xs _ (hx'.out.ext (by repeat (first | with_reducible exact Ext.refl _ | with_reducible assumption | with_reducible refine Ext.alloc ?_ _ | with_reducible refine Ext.drew ?_ | with_reducible refine Ext.drewN ?_ _ | ((with_reducible refine Ext.set ?_ ?_ _); (focus (first | (simp; done) | (simp; omega)))) | with_reducible refine Ext.trans ?_ (by assumption)))) hn'.out hl).mono ?_
        rintro en w2 ⟨rfl, hb⟩
        rw [hc]
        obtain ⟨c2, f2⟩ := hb.row (k := w.heap.size) (by simp)
        go_wp2_with (first | (go_at_call 75; refine (isQuic_any _ _).mono ?_; rintro e w1 ⟨rfl, rfl⟩) | (go_at_call 74; refine (within_any _ _ _ _).mono ?_; rintro e w1 ⟨rfl, rfl⟩))
        all_goals (go_ret; exact ⟨by first | (simp [isRing, hlen'.out, *]; done) | (simp [isRing, hlen'.out, *]; congr 1; omega), (by repeat (first | with_reducible exact Ext.refl _ | with_reducible assumption | with_reducible refine Ext.alloc ?_ _ | with_reducible refine Ext.drew ?_ | with_reducible refine Ext.drewN ?_ _ | ((with_reducible refine Ext.set ?_ ?_ _); (focus (first | (simp; done) | (simp; omega)))) | with_reducible refine Ext.trans ?_ (by assumption)))⟩)
      · -- no
        rcases Bool.eq_false_or_eq_true (inB 0 b 4611686018427387903) with hq | hq
        · -- yes
          obtain ⟨q1, q2⟩ := inB_true hq
          have hn' := hide hn
          have hx' := hide hx
          have hlen' : Hid ((xs.length : Int) = n) := hide (by rw [hn])
          clear hn hx
          go_enter Try.func72, Try.ntmps72
          go_wp2_with (go_at_call 125; refine (isRingSize_any _ _).mono ?_; rintro e w1 ⟨rfl, rfl⟩)
          refine (containsFunc_any ao n ca xs _ (hx'.out.ext (by repeat (first | with_reducible exact Ext.refl _ | with_reducible assumption | with_reducible refine Ext.alloc ?_ _ | with_reducible refine Ext.drew ?_ | with_reducible refine Ext.drewN ?_ _ | ((with_reducible refine Ext.set ?_ ?_ _); (focus (first | (simp; done) | (simp; omega)))) | with_reducible refine Ext.trans ?_ (by assumption)))) hn'.out hl).mono ?_
          rintro en w2 ⟨rfl, hb⟩
          rw [hc]
          obtain ⟨c2, f2⟩ := hb.row (k := w.heap.size) (by simp)
          go_wp2_with (first | (go_at_call 75; refine (isQuic_any _ _).mono ?_; rintro e w1 ⟨rfl, rfl⟩) | (go_at_call 74; refine (within_any _ _ _ _).mono ?_; rintro e w1 ⟨rfl, rfl⟩))
          all_goals (go_ret; exact ⟨by first | (simp [isRing, hlen'.out, *]; done) | (simp [isRing, hlen'.out, *]; congr 1; omega), (by repeat (first | with_reducible exact Ext.refl _ | with_reducible assumption | with_reducible refine Ext.alloc ?_ _ | with_reducible refine Ext.drew ?_ | with_reducible refine Ext.drewN ?_ _ | ((with_reducible refine Ext.set ?_ ?_ _); (focus (first | (simp; done) | (simp; omega)))) | with_reducible refine Ext.trans ?_ (by assumption)))⟩)
        · -- no
          have hn' := hide hn
          have hx' := hide hx
          have hlen' : Hid ((xs.length : Int) = n) := hide (by rw [hn])
          clear hn hx
          go_enter Try.func72, Try.ntmps72
          go_wp2_with (go_at_call 125; refine (isRingSize_any _ _).mono ?_; rintro e w1 ⟨rfl, rfl⟩)
          refine (containsFunc_any ao n ca xs _ (hx'.out.ext (by repeat (first | with_reducible exact Ext.refl _ | with_reducible assumption | with_reducible refine Ext.alloc ?_ _ | with_reducible refine Ext.drew ?_ | with_reducible refine Ext.drewN ?_ _ | ((with_reducible refine Ext.set ?_ ?_ _); (focus (first | (simp; done) | (simp; omega)))) | with_reducible refine Ext.trans ?_ (by assumption)))) hn'.out hl).mono ?_
          rintro en w2 ⟨rfl, hb⟩
          rw [hc]
          obtain ⟨c2, f2⟩ := hb.row (k := w.heap.size) (by simp)
          go_wp2_with (first | (go_at_call 75; refine (isQuic_any _ _).mono ?_; rintro e w1 ⟨rfl, rfl⟩) | (go_at_call 74; refine (within_any _ _ _ _).mono ?_; rintro e w1 ⟨rfl, rfl⟩))
          all_goals (go_ret; exact ⟨by first | (simp [isRing, hlen'.out, *]; done) | (simp [isRing, hlen'.out, *]; congr 1; omega), (by repeat (first | with_reducible exact Ext.refl _ | with_reducible assumption | with_reducible refine Ext.alloc ?_ _ | with_reducible refine Ext.drew ?_ | with_reducible refine Ext.drewN ?_ _ | ((with_reducible refine Ext.set ?_ ?_ _); (focus (first | (simp; done) | (simp; omega)))) | with_reducible refine Ext.trans ?_ (by assumption)))⟩)
    · -- other
      have hl2e : ((n : Int) == z) = false := by simp [hl2]
      have hl2n : ((n : Int) != z) = true := by simp [hl2]
      have hl2H := hide hl2
      clear hl2
      have hn' := hide hn
      have hx' := hide hx
      have hlen' : Hid ((xs.length : Int) = n) := hide (by rw [hn])
      clear hn hx
      go_enter Try.func72, Try.ntmps72
      go_wp2_with (go_at_call 125; refine (isRingSize_any _ _).mono ?_; rintro e w1 ⟨rfl, rfl⟩)
      all_goals (go_ret; exact ⟨by first | (simp [isRing, hlen'.out, *]; done) | (simp [isRing, hlen'.out, *]; congr 1; omega), (by repeat (first | with_reducible exact Ext.refl _ | with_reducible assumption | with_reducible refine Ext.alloc ?_ _ | with_reducible refine Ext.drew ?_ | with_reducible refine Ext.drewN ?_ _ | ((with_reducible refine Ext.set ?_ ?_ _); (focus (first | (simp; done) | (simp; omega)))) | with_reducible refine Ext.trans ?_ (by assumption)))⟩)
  · -- no
    have hn' := hide hn
    have hx' := hide hx
    have hlen' : Hid ((xs.length : Int) = n) := hide (by rw [hn])
    clear hn hx
    go_enter Try.func72, Try.ntmps72
    go_wp2_with (go_at_call 125; refine (isRingSize_any _ _).mono ?_; rintro e w1 ⟨rfl, rfl⟩)
    all_goals (go_ret; exact ⟨by first | (simp [isRing, hlen'.out, *]; done) | (simp [isRing, hlen'.out, *]; congr 1; omega), (by repeat (first | with_reducible exact Ext.refl _ | with_reducible assumption | with_reducible refine Ext.alloc ?_ _ | with_reducible refine Ext.drew ?_ | with_reducible refine Ext.drewN ?_ _ | ((with_reducible refine Ext.set ?_ ?_ _); (focus (first | (simp; done) | (simp; omega)))) | with_reducible refine Ext.trans ?_ (by assumption)))⟩)
set_option maxHeartbeats 1000000 in
theorem IsRing_spec (z b e : Int) (ao : Option Addr) (n ca : Nat) (xs : List Int) (w : World) (hx : ReadS w ao xs) (hn : xs.length = n) (hl : (n : Int) ≤ 9223372036854775807) (he : e ≤ 9223372036854775807) :
    Calls Try.prog 80 #[.agg #[.int .i64 z, .int .i64 b, .int .i64 e, .slice ao n ca]] w fun en w' => en = .returned (.bool (isRing z b e xs)) ∧ Ext w w' := by
  rcases Bool.eq_false_or_eq_true (ringSz z) with hs | hs
  · -- yes
    obtain ⟨z1, z2⟩ := ringSz_bd hs
    by_cases hl2 : (n : Int) = z
    · -- equal
      have hl2e : ((n : Int) == z) = true := by simp [hl2]
      have hl2n : ((n : Int) != z) = false := by simp [hl2]
      have hl2H := hide hl2
      clear hl2
      by_cases h1 : 0 ≤ b
      · -- yes
        by_cases h2 : b ≤ e
        · -- yes
          by_cases h3 : e - b ≤ z
          · -- yes
            by_cases h4 : e ≤ 4611686018427387903
            · -- yes
              have hpos : 0 < n := by have := hl2H.out; omega
              have hlen' : Hid ((xs.length : Int) = n) := hide (by rw [hn])
              have hq : Hid ((inB 0 b 4611686018427387903 && inB b e (min (b + z) 4611686018427387903)) = true) := hide (by simp [inB]; omega)
              rcases hx with rfl | ⟨bx, off, rfl, hx⟩
              · simp at hn; omega
              rw [hn] at hx
              have la : bx < w.heap.size := World.block_lt_of_cell? w _ (hx 0 hpos)
              have hn' := hide hn
              clear hn
              go_enter Try.func80, Try.ntmps80
              go_wp2_with (go_at_call 129; refine (l8Power_any _ _).mono ?_; rintro e w1 ⟨rfl, rfl⟩)
              
              go_loopw [3] (fun i wr => ∃ k : Nat, i = .int .i64 k ∧ k ≤ n ∧ (xs.take k).any (fun x => !inB 0 x 255) = false ∧ wr = (w.alloc (.cells #[.int .i64 z, .int .i64 b, .int .i64 e, .slice (some ⟨bx, off, none⟩) n ca] 29))) (fun i _ => n - (intOf i).toNat)
              case atStart => exact ⟨0, rfl, by omega, by simp, rfl⟩
              case round =>
                obtain ⟨k, rfl, hk, ht, rfl⟩ := hrel
                have ht' := hide ht
                clear ht
                by_cases hlt : k < n
                · have cx := hx k hlt
                  have i1 : (0 : Int) ≤ (k : Int) := by omega
                  have i2 : (k : Int) < (n : Int) := by omega
                  have hkx : k < xs.length := by rw [hn'.out]; exact hlt
                  clear hx
                  rcases Bool.eq_false_or_eq_true (inB 0 (xs.getD k 0) 255) with he | he
                  · have hts : Hid ((xs.take (k + 1)).any (fun x => !inB 0 x 255) = false) := hide (by rw [any_take _ xs hkx, ht'.out, he]; rfl)
                    generalize xs.getD k 0 = x at *
                    go_wp2_with (go_at_call 82; refine (l1In_any _ _ _ _).mono ?_; rintro en w1 ⟨rfl, rfl⟩; rw [he])
                    go_roundw
                    case rel => exact ⟨k + 1, by go_num, by omega, hts.out, by first | rfl | trivial⟩
                    case measure => simp [intOf]; omega
                  · have hts := hide (any_of_getD (fun x => !inB 0 x 255) xs hkx (by rw [he]; rfl))
                    generalize xs.getD k 0 = x at *
                    go_wp2_with (go_at_call 82; refine (l1In_any _ _ _ _).mono ?_; rintro en w1 ⟨rfl, rfl⟩; rw [he])
                    go_ret
                    exact ⟨by rw [isRing, hts.out]; simp, (by repeat (first | with_reducible exact Ext.refl _ | with_reducible assumption | with_reducible refine Ext.alloc ?_ _ | with_reducible refine Ext.drew ?_ | with_reducible refine Ext.drewN ?_ _ | ((with_reducible refine Ext.set ?_ ?_ _); (focus (first | (simp; done) | (simp; omega)))) | with_reducible refine Ext.trans ?_ (by assumption)))⟩
                · obtain rfl : k = n := by omega
                  have hxy' : Hid (xs.any (fun x => !inB 0 x 255) = false) := hide (by
                    have h1 := ht'.out
                    rwa [List.take_of_length_le (Nat.le_of_eq hn'.out)] at h1)
                  clear hx
                  go_wp2
                  go_ret
                  have hok : isRing z b e xs = true := by rw [isRing, hq.out, hxy'.out, hlen'.out, hs, hl2e]; rfl
                  exact ⟨by rw [hok]; rfl, (by repeat (first | with_reducible exact Ext.refl _ | with_reducible assumption | with_reducible refine Ext.alloc ?_ _ | with_reducible refine Ext.drew ?_ | with_reducible refine Ext.drewN ?_ _ | ((with_reducible refine Ext.set ?_ ?_ _); (focus (first | (simp; done) | (simp; omega)))) | with_reducible refine Ext.trans ?_ (by assumption)))⟩
            · -- no
              have h4x : ¬ (e ≤ 4611686018427387903) := h4
              have h4d : decide (e ≤ 4611686018427387903) = false := decide_eq_false h4x
              replace h4 : 4611686018427387903 < e := by omega
              have hlen' : Hid ((xs.length : Int) = n) := hide (by rw [hn])
              clear hn hx
              go_enter Try.func80, Try.ntmps80
              go_wp2_with (go_at_call 129; refine (l8Power_any _ _).mono ?_; rintro e w1 ⟨rfl, rfl⟩)
              go_ret
              exact ⟨by first | (simp [isRing, hlen'.out, *]; done) | (simp [isRing, hlen'.out, inB, *]; done) | (simp [isRing, hlen'.out, inB, *]; omega), (by repeat (first | with_reducible exact Ext.refl _ | with_reducible assumption | with_reducible refine Ext.alloc ?_ _ | with_reducible refine Ext.drew ?_ | with_reducible refine Ext.drewN ?_ _ | ((with_reducible refine Ext.set ?_ ?_ _); (focus (first | (simp; done) | (simp; omega)))) | with_reducible refine Ext.trans ?_ (by assumption)))⟩
          · -- no
            have h3x : ¬ (e - b ≤ z) := h3
            have h3d : decide (e - b ≤ z) = false := decide_eq_false h3x
            replace h3 : z < e - b := by omega
            have hlen' : Hid ((xs.length : Int) = n) := hide (by rw [hn])
            clear hn hx
            go_enter Try.func80, Try.ntmps80
            go_wp2_with (go_at_call 129; refine (l8Power_any _ _).mono ?_; rintro e w1 ⟨rfl, rfl⟩)
            go_ret
            exact ⟨by first | (simp [isRing, hlen'.out, *]; done) | (simp [isRing, hlen'.out, inB, *]; done) | (simp [isRing, hlen'.out, inB, *]; omega), (by repeat (first | with_reducible exact Ext.refl _ | with_reducible assumption | with_reducible refine Ext.alloc ?_ _ | with_reducible refine Ext.drew ?_ | with_reducible refine Ext.drewN ?_ _ | ((with_reducible refine Ext.set ?_ ?_ _); (focus (first | (simp; done) | (simp; omega)))) | with_reducible refine Ext.trans ?_ (by assumption)))⟩
        · -- no
          have h2x : ¬ (b ≤ e) := h2
          have h2d : decide (b ≤ e) = false := decide_eq_false h2x
          replace h2 : e < b := by omega
          have hlen' : Hid ((xs.length : Int) = n) := hide (by rw [hn])
          clear hn hx
          go_enter Try.func80, Try.ntmps80
          go_wp2_with (go_at_call 129; refine (l8Power_any _ _).mono ?_; rintro e w1 ⟨rfl, rfl⟩)
          go_ret
          exact ⟨by first | (simp [isRing, hlen'.out, *]; done) | (simp [isRing, hlen'.out, inB, *]; done) | (simp [isRing, hlen'.out, inB, *]; omega), (by repeat (first | with_reducible exact Ext.refl _ | with_reducible assumption | with_reducible refine Ext.alloc ?_ _ | with_reducible refine Ext.drew ?_ | with_reducible refine Ext.drewN ?_ _ | ((with_reducible refine Ext.set ?_ ?_ _); (focus (first | (simp; done) | (simp; omega)))) | with_reducible refine Ext.trans ?_ (by assumption)))⟩
      · -- no
        have h1x : ¬ (0 ≤ b) := h1
        have h1d : decide (0 ≤ b) = false := decide_eq_false h1x
        replace h1 : b < 0 := by omega
        have hlen' : Hid ((xs.length : Int) = n) := hide (by rw [hn])
        clear hn hx
        go_enter Try.func80, Try.ntmps80
        go_wp2_with (go_at_call 129; refine (l8Power_any _ _).mono ?_; rintro e w1 ⟨rfl, rfl⟩)
        go_ret
        exact ⟨by first | (simp [isRing, hlen'.out, *]; done) | (simp [isRing, hlen'.out, inB, *]; done) | (simp [isRing, hlen'.out, inB, *]; omega), (by repeat (first | with_reducible exact Ext.refl _ | with_reducible assumption | with_reducible refine Ext.alloc ?_ _ | with_reducible refine Ext.drew ?_ | with_reducible refine Ext.drewN ?_ _ | ((with_reducible refine Ext.set ?_ ?_ _); (focus (first | (simp; done) | (simp; omega)))) | with_reducible refine Ext.trans ?_ (by assumption)))⟩
    · -- other
      have hl2e : ((n : Int) == z) = false := by simp [hl2]
      have hl2n : ((n : Int) != z) = true := by simp [hl2]
      have hl2H := hide hl2
      clear hl2
      have hlen' : Hid ((xs.length : Int) = n) := hide (by rw [hn])
      clear hn hx
      go_enter Try.func80, Try.ntmps80
      go_wp2_with (go_at_call 129; refine (l8Power_any _ _).mono ?_; rintro e w1 ⟨rfl, rfl⟩)
      go_ret
      exact ⟨by first | (simp [isRing, hlen'.out, *]; done) | (simp [isRing, hlen'.out, inB, *]; done) | (simp [isRing, hlen'.out, inB, *]; omega), (by repeat (first | with_reducible exact Ext.refl _ | with_reducible assumption | with_reducible refine Ext.alloc ?_ _ | with_reducible refine Ext.drew ?_ | with_reducible refine Ext.drewN ?_ _ | ((with_reducible refine Ext.set ?_ ?_ _); (focus (first | (simp; done) | (simp; omega)))) | with_reducible refine Ext.trans ?_ (by assumption)))⟩
  · -- no
    have hlen' : Hid ((xs.length : Int) = n) := hide (by rw [hn])
    clear hn hx
    go_enter Try.func80, Try.ntmps80
    go_wp2_with (go_at_call 129; refine (l8Power_any _ _).mono ?_; rintro e w1 ⟨rfl, rfl⟩)
    go_ret
    exact ⟨by first | (simp [isRing, hlen'.out, *]; done) | (simp [isRing, hlen'.out, inB, *]; done) | (simp [isRing, hlen'.out, inB, *]; omega), (by repeat (first | with_reducible exact Ext.refl _ | with_reducible assumption | with_reducible refine Ext.alloc ?_ _ | with_reducible refine Ext.drew ?_ | with_reducible refine Ext.drewN ?_ _ | ((with_reducible refine Ext.set ?_ ?_ _); (focus (first | (simp; done) | (simp; omega)))) | with_reducible refine Ext.trans ?_ (by assumption)))⟩
end Go.Proofs.Ytjhgcbchdnoleaa

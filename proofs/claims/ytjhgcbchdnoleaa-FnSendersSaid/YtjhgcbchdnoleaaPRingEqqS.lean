/-
  Part of the proof: RingEq.
-/
import Derived.Test.YtjhgcbchdnoleaaPG8
namespace Go.Proofs.Ytjhgcbchdnoleaa
section
open Go.ChangeShapes Go.WideShapes Go.ChangeAt Go.RowKit
set_option linter.unusedSimpArgs false
set_option maxHeartbeats 1000000 in
theorem sliceEq_any (ao bo : Option Addr) (n m ca cb : Nat) (xs ys : List Int) (w : World) (hx : ReadS w ao xs) (hy : ReadS w bo ys) (hn : xs.length = n) (hm : ys.length = m) (hl : (n : Int) ≤ 9223372036854775807) :
    Calls Try.prog 131 #[.slice ao n ca, .slice bo m cb] w fun e w' => e = .returned (.bool (decide (xs = ys))) ∧ Ext w w' := by
  by_cases hlen : n = m
  · subst hlen
    rcases Nat.eq_zero_or_pos n with rfl | hpos
    · obtain rfl : xs = [] := List.eq_nil_of_length_eq_zero hn
      obtain rfl : ys = [] := List.eq_nil_of_length_eq_zero hm
      clear hx hy hn hm
      go_enter Try.func131, Try.ntmps131
      go_wp2
      go_loop [13] (fun i => i = .int .i64 0) (fun _ => 0)
      case atStart => rfl
      case round =>
        obtain rfl := hrel
        go_wp2
        go_ret
        exact ⟨by simp, Ext.refl _⟩
    · rcases hx with rfl | ⟨b, off, rfl, hx⟩
      · simp at hn; omega
      rcases hy with rfl | ⟨b2, off2, rfl, hy⟩
      · simp at hm; omega
      rw [hn] at hx
      rw [hm] at hy
      have hn' := hide hn
      have hm' := hide hm
      clear hn hm
      go_enter Try.func131, Try.ntmps131
      go_wp2
      go_loopw [5, 13] (fun _ i wr => ∃ k q : Nat, i = .int .i64 k ∧ k ≤ n ∧ xs.take k = ys.take k ∧ wr = w.drewN q) (fun _ i _ => n - (intOf i).toNat)
      case atStart => exact ⟨0, 0, rfl, by omega, by simp, rfl⟩
      case round =>
        obtain ⟨k, q, rfl, hk, ht, rfl⟩ := hrel
        have ht' := hide ht
        clear ht
        by_cases hlt : k < n
        · have cx := hx k hlt
          have cy := hy k hlt
          have i1 : (0 : Int) ≤ (k : Int) := by omega
          have i2 : (k : Int) < (n : Int) := by omega
          have hkx : k < xs.length := by rw [hn'.out]; exact hlt
          have hky : k < ys.length := by rw [hm'.out]; exact hlt
          clear hx hy
          by_cases he : xs.getD k 0 = ys.getD k 0
          · have e3 : (xs.getD k 0 != ys.getD k 0) = false := by rw [he]; simp
            have hts := hide (take_succ_eq hkx hky ht'.out he)
            clear he
            generalize xs.getD k 0 = x at *
            generalize ys.getD k 0 = y at *
            go_wp2
            go_quiet (fail)
            go_wp2
            go_roundw
            case rel => exact ⟨k + 1, _, by go_num, by omega, hts.out, rfl⟩
            case measure => simp [intOf]; omega
          · have e3 : (xs.getD k 0 != ys.getD k 0) = true := by simpa using he
            have hne' := hide (ne_of_getD he)
            clear he
            generalize xs.getD k 0 = x at *
            generalize ys.getD k 0 = y at *
            go_wp2
            go_quiet (fail)
            go_wp2
            go_ret
            exact ⟨by simp [hne'.out], by repeat (first | exact Ext.refl _ | refine Ext.drewN ?_ _)⟩
        · obtain rfl : k = n := by omega
          have hxy' : Hid (xs = ys) := hide (by
            have h1 := ht'.out
            rwa [List.take_of_length_le (Nat.le_of_eq hn'.out), List.take_of_length_le (Nat.le_of_eq hm'.out)] at h1)
          clear hx hy
          go_wp2
          go_ret
          exact ⟨by simp [hxy'.out], by repeat (first | exact Ext.refl _ | refine Ext.drewN ?_ _)⟩
  · have e1 : ((n : Int) == (m : Int)) = false := by simp; omega
    have e2 : ((n : Int) != (m : Int)) = true := by simp; omega
    have hne' : Hid (¬ xs = ys) := hide (fun h => hlen (by rw [← hn, ← hm, h]))
    clear hlen hn hm
    go_enter Try.func131, Try.ntmps131
    go_wp2
    go_ret
    exact ⟨by simp [hne'.out], Ext.refl _⟩
set_option maxHeartbeats 1000000 in
theorem EqualRings_impl (z b e z2 b2 e2 : Int) (ao bo : Option Addr) (n m ca cb : Nat) (xs ys : List Int) (w : World) (hx : ReadS w ao xs) (hy : ReadS w bo ys) (hn : xs.length = n) (hm : ys.length = m) (hl : (n : Int) ≤ 9223372036854775807) :
    Calls Try.prog 93 #[.agg #[.int .i64 z, .int .i64 b, .int .i64 e, .slice ao n ca], .agg #[.int .i64 z2, .int .i64 b2, .int .i64 e2, .slice bo m cb]] w fun en w' => en = .returned (.bool (ringEq z b e z2 b2 e2 xs ys)) ∧ Ext w w' := by
  by_cases hz : z = z2
  · -- equal
    have hze : (z == z2) = true := by simp [hz]
    have hzn : (z != z2) = false := by simp [hz]
    have hzH := hide hz
    clear hz
    by_cases hb : b = b2
    · -- equal
      have hbe : (b == b2) = true := by simp [hb]
      have hbn : (b != b2) = false := by simp [hb]
      have hbH := hide hb
      clear hb
      by_cases he : e = e2
      · -- equal
        have hee : (e == e2) = true := by simp [he]
        have hen : (e != e2) = false := by simp [he]
        have heH := hide he
        clear he
        have hn' := hide hn
        have hm' := hide hm
        clear hn hm
        go_enter Try.func93, Try.ntmps93
        go_wp2_with fail
        refine (sliceEq_any ao bo n m ca cb xs ys _ (hx.ext (by repeat (first | with_reducible exact Ext.refl _ | with_reducible assumption | with_reducible refine Ext.alloc ?_ _ | with_reducible refine Ext.drew ?_ | with_reducible refine Ext.drewN ?_ _ | ((with_reducible refine Ext.set ?_ ?_ _); (focus (first | (simp; done) | (simp; omega)))) | with_reducible refine Ext.trans ?_ (by assumption)))) (hy.ext (by repeat (first | with_reducible exact Ext.refl _ | with_reducible assumption | with_reducible refine Ext.alloc ?_ _ | with_reducible refine Ext.drew ?_ | with_reducible refine Ext.drewN ?_ _ | ((with_reducible refine Ext.set ?_ ?_ _); (focus (first | (simp; done) | (simp; omega)))) | with_reducible refine Ext.trans ?_ (by assumption)))) hn'.out hm'.out hl).mono ?_
        rintro en w1 ⟨rfl, hb1⟩
        go_wp2
        go_ret
        exact ⟨by simp [ringEq, *], (by repeat (first | with_reducible exact Ext.refl _ | with_reducible assumption | with_reducible refine Ext.alloc ?_ _ | with_reducible refine Ext.drew ?_ | with_reducible refine Ext.drewN ?_ _ | ((with_reducible refine Ext.set ?_ ?_ _); (focus (first | (simp; done) | (simp; omega)))) | with_reducible refine Ext.trans ?_ (by assumption)))⟩
      · -- other
        have hee : (e == e2) = false := by simp [he]
        have hen : (e != e2) = true := by simp [he]
        have heH := hide he
        clear he
        clear hx hy
        go_enter Try.func93, Try.ntmps93
        go_wp2
        go_ret
        exact ⟨by simp [ringEq, *], (by repeat (first | with_reducible exact Ext.refl _ | with_reducible assumption | with_reducible refine Ext.alloc ?_ _ | with_reducible refine Ext.drew ?_ | with_reducible refine Ext.drewN ?_ _ | ((with_reducible refine Ext.set ?_ ?_ _); (focus (first | (simp; done) | (simp; omega)))) | with_reducible refine Ext.trans ?_ (by assumption)))⟩
    · -- other
      have hbe : (b == b2) = false := by simp [hb]
      have hbn : (b != b2) = true := by simp [hb]
      have hbH := hide hb
      clear hb
      clear hx hy
      go_enter Try.func93, Try.ntmps93
      go_wp2
      go_ret
      exact ⟨by simp [ringEq, *], (by repeat (first | with_reducible exact Ext.refl _ | with_reducible assumption | with_reducible refine Ext.alloc ?_ _ | with_reducible refine Ext.drew ?_ | with_reducible refine Ext.drewN ?_ _ | ((with_reducible refine Ext.set ?_ ?_ _); (focus (first | (simp; done) | (simp; omega)))) | with_reducible refine Ext.trans ?_ (by assumption)))⟩
  · -- other
    have hze : (z == z2) = false := by simp [hz]
    have hzn : (z != z2) = true := by simp [hz]
    have hzH := hide hz
    clear hz
    clear hx hy
    go_enter Try.func93, Try.ntmps93
    go_wp2
    go_ret
    exact ⟨by simp [ringEq, *], (by repeat (first | with_reducible exact Ext.refl _ | with_reducible assumption | with_reducible refine Ext.alloc ?_ _ | with_reducible refine Ext.drew ?_ | with_reducible refine Ext.drewN ?_ _ | ((with_reducible refine Ext.set ?_ ?_ _); (focus (first | (simp; done) | (simp; omega)))) | with_reducible refine Ext.trans ?_ (by assumption)))⟩
end
end Go.Proofs.Ytjhgcbchdnoleaa

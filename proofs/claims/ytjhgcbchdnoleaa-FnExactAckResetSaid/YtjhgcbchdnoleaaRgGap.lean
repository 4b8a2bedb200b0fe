/-
  FirstGap and CountNumbers: contracts. Conditions: the slice can be read.
-/
import Derived.Test.YtjhgcbchdnoleaaRgW
import Derived.Test.YtjhgcbchdnoleaaRgQ
namespace Go.Proofs.Ytjhgcbchdnoleaa
open Go.ChangeShapes Go.WideShapes Go.ChangeAt Go.RowKit
set_option linter.unusedSimpArgs false
set_option linter.unusedVariables false
theorem sum_take_succ : ∀ (xs : List Rg) {k : Nat}, k < xs.length → rgSum (xs.take (k + 1)) = rgSum (xs.take k) + ((xs.getD k dr).2 - (xs.getD k dr).1)
  | [], _, h => absurd h (by simp)
  | x :: xs, 0, _ => by simp [rgSum, List.getD]
  | x :: xs, k + 1, h => by
    have := sum_take_succ xs (k := k) (by simpa using h)
    simp only [List.take_succ_cons, rgSum] at this ⊢
    have e : (x :: xs).getD (k + 1) dr = xs.getD k dr := rfl
    rw [e]
    omega
theorem sum_take_bd : ∀ {xs : List Rg} {lo : Int}, CanR lo xs → ∀ k, 0 ≤ rgSum (xs.take k) ∧ rgSum (xs.take k) ≤ rgSum xs
  | [], _, _, k => by simp [rgSum]
  | x :: xs, lo, h, 0 => by
    have := rgSum_nonneg h
    simpa [rgSum] using this
  | x :: xs, lo, h, k + 1 => by
    have := sum_take_bd h.2.2 k
    have := h.2.1
    simp only [List.take_succ_cons, rgSum]
    omega
theorem sum_bd {xs : List Rg} (h : isRgs xs = true) (k : Nat) : 0 ≤ rgSum (xs.take k) ∧ rgSum (xs.take k) ≤ 4611686018427387903 := by
  obtain ⟨c, t⟩ := rgsFrom_can h
  have h1 := sum_take_bd c k
  have h2 := rgSum_top c t (by omega)
  omega
theorem rgs_at' {xs : List Rg} (h : isRgs xs = true) {k : Nat} (hk : k < xs.length) : 0 ≤ (xs.getD k dr).1 ∧ (xs.getD k dr).1 < (xs.getD k dr).2 ∧ (xs.getD k dr).2 ≤ 4611686018427387903 := by
  refine rgFine_bd (rgs_fine h _ ?_)
  rw [List.getD, List.getElem?_eq_getElem hk]
  exact List.getElem_mem hk
theorem gap_take_succ {xs : List Rg} {g : Int} {k : Nat} (hk : k < xs.length) : (xs.take (k + 1)).foldl gapStep g = gapStep ((xs.take k).foldl gapStep g) (xs.getD k dr) := by
  rw [takeR_succ xs hk, List.foldl_append]; rfl
set_option maxHeartbeats 4000000 in
set_option maxRecDepth 100000 in
theorem CountNumbers_impl (ao : Option Addr) (n ca : Nat) (rs : List Rg) (w : World) (hx : ReadR w ao rs) (hn : rs.length = n) (hl : (n : Int) ≤ 9223372036854775807) :
    Calls Try.prog 128 #[.slice ao n ca] w fun e w' => e = .returned (.int .i64 (cntR rs)) ∧ Ext w w' := by
  have hn' := hide hn
  have hx' := hide hx
  clear hn hx
  rcases Bool.eq_false_or_eq_true (isRgs rs) with hi | hi
  · have hA : cntR rs = rgSum rs := if_pos hi
    rw [hA]
    clear hA
    go_enter Try.func128, Try.ntmps128
    go_wp2_with fail
    refine (IsRanges_impl ao n ca rs _ (hx'.out.ext (by repeat (first | with_reducible exact Ext.refl _ | with_reducible assumption | with_reducible refine Ext.alloc ?_ _ | with_reducible refine Ext.drew ?_ | with_reducible refine Ext.drewN ?_ _ | ((with_reducible refine Ext.set ?_ ?_ _); (focus (first | (simp; done) | (simp; omega)))) | with_reducible refine Ext.trans ?_ (by assumption)))) hn'.out (by omega)).mono ?_
    rintro en w1 ⟨rfl, hb1⟩
    rw [hi]
    go_wp2_with fail
    go_loopw [3, 11] (fun s i wr => ∃ (k : Nat) (c : Int), i = .int .i64 k ∧ k ≤ n ∧ s = .int .i64 c ∧ Hid (rgSum (rs.take k) = c) ∧ Ext w wr) (fun _ i _ => n - (intOf i).toNat)
    case atStart => exact ⟨0, 0, rfl, by omega, rfl, hide (by simp [rgSum]), (by repeat (first | with_reducible exact Ext.refl _ | with_reducible assumption | with_reducible refine Ext.alloc ?_ _ | with_reducible refine Ext.drew ?_ | with_reducible refine Ext.drewN ?_ _ | ((with_reducible refine Ext.set ?_ ?_ _); (focus (first | (simp; done) | (simp; omega)))) | with_reducible refine Ext.trans ?_ (by assumption)))⟩
    case round =>
      obtain ⟨k, c, rfl, hk, rfl, hc, hg⟩ := hrel
      by_cases hlt : k < n
      · skip
        have hkx : k < rs.length := by rw [hn'.out]; exact hlt
        rcases hx'.out with hnil | ⟨bx, off, rfl, hx⟩
        · rw [hnil] at hkx; simp at hkx
        obtain ⟨cx, cx2⟩ := hx k hkx
        have la : bx < w.heap.size := World.block_lt_of_cell? w _ cx
        have hr := (hg.row la).1
        have dx := (hr _).trans cx
        have dx2 := (hr _).trans cx2
        have i1 : (0 : Int) ≤ (k : Int) := by omega
        have i2 : (k : Int) < (n : Int) := by omega
        have lw : bx < wr.heap.size := hg.more la
        have hxb := rgs_at' hi hkx
        obtain ⟨⟨x1, x2⟩, hx0⟩ : ∃ x : Rg, Hid (rs.getD k dr = x) := ⟨_, hide rfl⟩
        rw [hx0.out] at dx dx2 hxb
        dsimp only at dx dx2 hxb
        clear hx cx cx2 hr
        obtain ⟨hx00, h12, hxm⟩ := hxb
        have hcb := sum_bd hi k
        obtain ⟨c2, hc2⟩ : ∃ c2, Hid (rgSum (rs.take (k + 1)) = c2) := ⟨_, hide rfl⟩
        have hstep := sum_take_succ rs hkx
        have hcb2 := sum_bd hi (k + 1)
        rw [hc2.out, hc.out, hx0.out] at hstep
        rw [hc2.out] at hcb2
        rw [hc.out] at hcb
        dsimp only at hstep
        clear hc hx0
        have hwa : IntKind.i64.wrap (x2 - x1) = x2 - x1 := IntWalk.i64_in _ (by omega)
        have hwb : IntKind.i64.wrap (c + (x2 - x1)) = c2 := (IntWalk.i64_in _ (by omega)).trans (by omega)
        clear hstep
        go_wp2
        go_roundw
        case rel => exact ⟨k + 1, c2, by go_num, by omega, by first | rfl | assumption, hc2, hg.trans ((Ext.refl _).alloc _)⟩
        case measure => simp [intOf]; omega
      · obtain rfl : k = n := by omega
        have hall : Hid (rgSum rs = c) := hide (by rw [← hc.out, ← hn'.out, List.take_length])
        clear hc
        go_wp2
        go_ret
        exact ⟨by (rw [hall.out]) <;> rfl, hg⟩
  · have hA : cntR rs = -1 := if_neg (by simp [hi])
    rw [hA]
    clear hA
    go_enter Try.func128, Try.ntmps128
    go_wp2_with fail
    refine (IsRanges_impl ao n ca rs _ (hx'.out.ext (by repeat (first | with_reducible exact Ext.refl _ | with_reducible assumption | with_reducible refine Ext.alloc ?_ _ | with_reducible refine Ext.drew ?_ | with_reducible refine Ext.drewN ?_ _ | ((with_reducible refine Ext.set ?_ ?_ _); (focus (first | (simp; done) | (simp; omega)))) | with_reducible refine Ext.trans ?_ (by assumption)))) hn'.out (by omega)).mono ?_
    rintro en w1 ⟨rfl, hb1⟩
    rw [hi]
    go_wp2
    go_ret
    exact ⟨rfl, (by repeat (first | with_reducible exact Ext.refl _ | with_reducible assumption | with_reducible refine Ext.alloc ?_ _ | with_reducible refine Ext.drew ?_ | with_reducible refine Ext.drewN ?_ _ | ((with_reducible refine Ext.set ?_ ?_ _); (focus (first | (simp; done) | (simp; omega)))) | with_reducible refine Ext.trans ?_ (by assumption)))⟩
set_option maxHeartbeats 4000000 in
set_option maxRecDepth 100000 in
theorem CountNumbers_spec (ao : Option Addr) (n ca : Nat) (rs : List Rg) (w : World) (hx : ReadR w ao rs) (hn : rs.length = n) (hl : (n : Int) ≤ 9223372036854775807) :
    Calls Try.prog 84 #[.slice ao n ca] w fun e w' => e = .returned (.int .i64 (cntR rs)) ∧ Ext w w' := by
  have hn' := hide hn
  have hx' := hide hx
  clear hn hx
  rcases Bool.eq_false_or_eq_true (isRgs rs) with hi | hi
  · have hA : cntR rs = rgSum rs := if_pos hi
    rw [hA]
    clear hA
    go_enter Try.func84, Try.ntmps84
    go_wp2_with fail
    refine (IsRanges_spec ao n ca rs _ (hx'.out.ext (by repeat (first | with_reducible exact Ext.refl _ | with_reducible assumption | with_reducible refine Ext.alloc ?_ _ | with_reducible refine Ext.drew ?_ | with_reducible refine Ext.drewN ?_ _ | ((with_reducible refine Ext.set ?_ ?_ _); (focus (first | (simp; done) | (simp; omega)))) | with_reducible refine Ext.trans ?_ (by assumption)))) hn'.out (by omega)).mono ?_
    rintro en w1 ⟨rfl, hb1⟩
    rw [hi]
    go_wp2_with fail
    go_loopw [3, 4] (fun s i wr => ∃ (k : Nat) (c : Int), i = .int .i64 k ∧ k ≤ n ∧ s = .int .i64 c ∧ Hid (rgSum (rs.take k) = c) ∧ Ext w wr) (fun _ i _ => n - (intOf i).toNat)
    case atStart => exact ⟨0, 0, rfl, by omega, rfl, hide (by simp [rgSum]), (by repeat (first | with_reducible exact Ext.refl _ | with_reducible assumption | with_reducible refine Ext.alloc ?_ _ | with_reducible refine Ext.drew ?_ | with_reducible refine Ext.drewN ?_ _ | ((with_reducible refine Ext.set ?_ ?_ _); (focus (first | (simp; done) | (simp; omega)))) | with_reducible refine Ext.trans ?_ (by assumption)))⟩
    case round =>
      obtain ⟨k, c, rfl, hk, rfl, hc, hg⟩ := hrel
      by_cases hlt : k < n
      · skip
        have hkx : k < rs.length := by rw [hn'.out]; exact hlt
        rcases hx'.out with hnil | ⟨bx, off, rfl, hx⟩
        · rw [hnil] at hkx; simp at hkx
        obtain ⟨cx, cx2⟩ := hx k hkx
        have la : bx < w.heap.size := World.block_lt_of_cell? w _ cx
        have hr := (hg.row la).1
        have dx := (hr _).trans cx
        have dx2 := (hr _).trans cx2
        have i1 : (0 : Int) ≤ (k : Int) := by omega
        have i2 : (k : Int) < (n : Int) := by omega
        have lw : bx < wr.heap.size := hg.more la
        have hxb := rgs_at' hi hkx
        obtain ⟨⟨x1, x2⟩, hx0⟩ : ∃ x : Rg, Hid (rs.getD k dr = x) := ⟨_, hide rfl⟩
        rw [hx0.out] at dx dx2 hxb
        dsimp only at dx dx2 hxb
        clear hx cx cx2 hr
        obtain ⟨hx00, h12, hxm⟩ := hxb
        have hcb := sum_bd hi k
        obtain ⟨c2, hc2⟩ : ∃ c2, Hid (rgSum (rs.take (k + 1)) = c2) := ⟨_, hide rfl⟩
        have hstep := sum_take_succ rs hkx
        have hcb2 := sum_bd hi (k + 1)
        rw [hc2.out, hc.out, hx0.out] at hstep
        rw [hc2.out] at hcb2
        rw [hc.out] at hcb
        dsimp only at hstep
        clear hc hx0
        have hwa : IntKind.i64.wrap (c + x2) = c + x2 := IntWalk.i64_in _ (by omega)
        have hwb : IntKind.i64.wrap (c + x2 - x1) = c2 := (IntWalk.i64_in _ (by omega)).trans (by omega)
        have hwb2 : IntKind.i64.wrap (c + (x2 - x1)) = c2 := (IntWalk.i64_in _ (by omega)).trans (by omega)
        clear hstep
        go_wp2_with fail
        refine wp_region_seq (Ext _) (by kernel_rfl) (by kernel_rfl) ((Ext.refl _).drew) ?_
        iterate 14 (((first | (refine wpSeqS_plain (v := ?_) rfl (by rfl) ?_ ?_; rotate_left; (focus (intro ws hws; obtain ⟨q0, p0⟩ := hws.row (k := bx) (by first | assumption | (simp; done) | (simp; omega) | omega); go_simp; (try with_reducible rfl); done))) | fail)); (try simp only [Act.put, List.getElem_toArray, List.getElem_cons_zero, List.getElem_cons_succ, List.setIfInBounds_toArray, List.set_cons_zero, List.set_cons_succ]))
        refine wpSeqS_done (by kernel_rfl) (fun ws hws => ?_)
        go_wp2
        go_roundw
        case rel => exact ⟨k + 1, c2, by go_num, by omega, by first | rfl | assumption, hc2, hg.trans hws⟩
        case measure => simp [intOf]; omega
      · obtain rfl : k = n := by omega
        have hall : Hid (rgSum rs = c) := hide (by rw [← hc.out, ← hn'.out, List.take_length])
        clear hc
        go_wp2
        go_ret
        exact ⟨by (rw [hall.out]) <;> rfl, hg⟩
  · have hA : cntR rs = -1 := if_neg (by simp [hi])
    rw [hA]
    clear hA
    go_enter Try.func84, Try.ntmps84
    go_wp2_with fail
    refine (IsRanges_spec ao n ca rs _ (hx'.out.ext (by repeat (first | with_reducible exact Ext.refl _ | with_reducible assumption | with_reducible refine Ext.alloc ?_ _ | with_reducible refine Ext.drew ?_ | with_reducible refine Ext.drewN ?_ _ | ((with_reducible refine Ext.set ?_ ?_ _); (focus (first | (simp; done) | (simp; omega)))) | with_reducible refine Ext.trans ?_ (by assumption)))) hn'.out (by omega)).mono ?_
    rintro en w1 ⟨rfl, hb1⟩
    rw [hi]
    go_wp2
    go_ret
    exact ⟨rfl, (by repeat (first | with_reducible exact Ext.refl _ | with_reducible assumption | with_reducible refine Ext.alloc ?_ _ | with_reducible refine Ext.drew ?_ | with_reducible refine Ext.drewN ?_ _ | ((with_reducible refine Ext.set ?_ ?_ _); (focus (first | (simp; done) | (simp; omega)))) | with_reducible refine Ext.trans ?_ (by assumption)))⟩
set_option maxHeartbeats 4000000 in
set_option maxRecDepth 100000 in
theorem FirstGap_impl (frm : Int) (ao : Option Addr) (n ca : Nat) (rs : List Rg) (w : World) (hx : ReadR w ao rs) (hn : rs.length = n) (hl : (n : Int) ≤ 9223372036854775807) :
    Calls Try.prog 77 #[.slice ao n ca, .int .i64 frm] w fun e w' => e = .returned (.int .i64 (gapR rs frm)) ∧ Ext w w' := by
  have hn' := hide hn
  have hx' := hide hx
  clear hn hx
  rcases Bool.eq_false_or_eq_true (isRgs rs) with hi | hi
  · by_cases h0 : 0 ≤ frm
    · have h0e : decide (frm < 0) = false := decide_eq_false (by omega)
      have hA : gapR rs frm = rs.foldl gapStep frm := if_pos ⟨hi, h0⟩
      rw [hA]
      clear hA
      go_enter Try.func77, Try.ntmps77
      go_wp2_with fail
      refine (IsRanges_impl ao n ca rs _ (hx'.out.ext (by repeat (first | with_reducible exact Ext.refl _ | with_reducible assumption | with_reducible refine Ext.alloc ?_ _ | with_reducible refine Ext.drew ?_ | with_reducible refine Ext.drewN ?_ _ | ((with_reducible refine Ext.set ?_ ?_ _); (focus (first | (simp; done) | (simp; omega)))) | with_reducible refine Ext.trans ?_ (by assumption)))) hn'.out (by omega)).mono ?_
      rintro en w1 ⟨rfl, hb1⟩
      rw [hi]
      go_wp2_with fail
      go_loopw [1, 16] (fun s i wr => ∃ (k : Nat) (g : Int), i = .int .i64 k ∧ k ≤ n ∧ s = .int .i64 g ∧ Hid ((rs.take k).foldl gapStep frm = g) ∧ Ext w wr) (fun _ i _ => n - (intOf i).toNat)
      case atStart => exact ⟨0, frm, rfl, by omega, rfl, hide rfl, (by repeat (first | with_reducible exact Ext.refl _ | with_reducible assumption | with_reducible refine Ext.alloc ?_ _ | with_reducible refine Ext.drew ?_ | with_reducible refine Ext.drewN ?_ _ | ((with_reducible refine Ext.set ?_ ?_ _); (focus (first | (simp; done) | (simp; omega)))) | with_reducible refine Ext.trans ?_ (by assumption)))⟩
      case round =>
        obtain ⟨k, g, rfl, hk, rfl, hc, hg⟩ := hrel
        by_cases hlt : k < n
        · skip
          have hkx : k < rs.length := by rw [hn'.out]; exact hlt
          rcases hx'.out with hnil | ⟨bx, off, rfl, hx⟩
          · rw [hnil] at hkx; simp at hkx
          obtain ⟨cx, cx2⟩ := hx k hkx
          have la : bx < w.heap.size := World.block_lt_of_cell? w _ cx
          have hr := (hg.row la).1
          have dx := (hr _).trans cx
          have dx2 := (hr _).trans cx2
          have i1 : (0 : Int) ≤ (k : Int) := by omega
          have i2 : (k : Int) < (n : Int) := by omega
          have lw : bx < wr.heap.size := hg.more la
          have hxb := rgs_at' hi hkx
          obtain ⟨⟨x1, x2⟩, hx0⟩ : ∃ x : Rg, Hid (rs.getD k dr = x) := ⟨_, hide rfl⟩
          rw [hx0.out] at dx dx2 hxb
          dsimp only at dx dx2 hxb
          clear hx cx cx2 hr
          by_cases t1 : x1 ≤ g
          · by_cases t2 : g < x2
            · have hst : Hid ((rs.take (k + 1)).foldl gapStep frm = x2) := hide (by rw [gap_take_succ hkx, hc.out, hx0.out]; simp only [gapStep]; first | rw [if_pos (by omega)] | rw [if_neg (by omega)])
              clear hc hx0
              go_wp2
              go_roundw
              case rel => exact ⟨k + 1, x2, by go_num, by omega, rfl, hst, hg.trans ((Ext.refl _).alloc _)⟩
              case measure => simp [intOf]; omega
            · have t2e : decide (g < x2) = false := decide_eq_false t2
              have hst : Hid ((rs.take (k + 1)).foldl gapStep frm = g) := hide (by rw [gap_take_succ hkx, hc.out, hx0.out]; simp only [gapStep]; first | rw [if_pos (by omega)] | rw [if_neg (by omega)])
              clear hc hx0
              go_wp2
              go_roundw
              case rel => exact ⟨k + 1, g, by go_num, by omega, rfl, hst, hg.trans ((Ext.refl _).alloc _)⟩
              case measure => simp [intOf]; omega
          · have t1e : decide (x1 ≤ g) = false := decide_eq_false t1
            have hst : Hid ((rs.take (k + 1)).foldl gapStep frm = g) := hide (by rw [gap_take_succ hkx, hc.out, hx0.out]; simp only [gapStep]; first | rw [if_pos (by omega)] | rw [if_neg (by omega)])
            clear hc hx0
            go_wp2
            go_roundw
            case rel => exact ⟨k + 1, g, by go_num, by omega, rfl, hst, hg.trans ((Ext.refl _).alloc _)⟩
            case measure => simp [intOf]; omega
        · obtain rfl : k = n := by omega
          have hall : Hid (rs.foldl gapStep frm = g) := hide (by rw [← hc.out, ← hn'.out, List.take_length])
          clear hc
          go_wp2
          go_ret
          exact ⟨by (rw [hall.out]) <;> rfl, hg⟩
    · have h0e : decide (frm < 0) = true := decide_eq_true (by omega)
      have hA : gapR rs frm = -1 := if_neg (fun hh => h0 hh.2)
      rw [hA]
      clear hA
      go_enter Try.func77, Try.ntmps77
      go_wp2_with fail
      refine (IsRanges_impl ao n ca rs _ (hx'.out.ext (by repeat (first | with_reducible exact Ext.refl _ | with_reducible assumption | with_reducible refine Ext.alloc ?_ _ | with_reducible refine Ext.drew ?_ | with_reducible refine Ext.drewN ?_ _ | ((with_reducible refine Ext.set ?_ ?_ _); (focus (first | (simp; done) | (simp; omega)))) | with_reducible refine Ext.trans ?_ (by assumption)))) hn'.out (by omega)).mono ?_
      rintro en w1 ⟨rfl, hb1⟩
      rw [hi]
      go_wp2
      go_ret
      exact ⟨rfl, (by repeat (first | with_reducible exact Ext.refl _ | with_reducible assumption | with_reducible refine Ext.alloc ?_ _ | with_reducible refine Ext.drew ?_ | with_reducible refine Ext.drewN ?_ _ | ((with_reducible refine Ext.set ?_ ?_ _); (focus (first | (simp; done) | (simp; omega)))) | with_reducible refine Ext.trans ?_ (by assumption)))⟩
  · have hA : gapR rs frm = -1 := if_neg (by simp [hi])
    rw [hA]
    clear hA
    go_enter Try.func77, Try.ntmps77
    go_wp2_with fail
    refine (IsRanges_impl ao n ca rs _ (hx'.out.ext (by repeat (first | with_reducible exact Ext.refl _ | with_reducible assumption | with_reducible refine Ext.alloc ?_ _ | with_reducible refine Ext.drew ?_ | with_reducible refine Ext.drewN ?_ _ | ((with_reducible refine Ext.set ?_ ?_ _); (focus (first | (simp; done) | (simp; omega)))) | with_reducible refine Ext.trans ?_ (by assumption)))) hn'.out (by omega)).mono ?_
    rintro en w1 ⟨rfl, hb1⟩
    rw [hi]
    go_wp2
    go_ret
    exact ⟨rfl, (by repeat (first | with_reducible exact Ext.refl _ | with_reducible assumption | with_reducible refine Ext.alloc ?_ _ | with_reducible refine Ext.drew ?_ | with_reducible refine Ext.drewN ?_ _ | ((with_reducible refine Ext.set ?_ ?_ _); (focus (first | (simp; done) | (simp; omega)))) | with_reducible refine Ext.trans ?_ (by assumption)))⟩
set_option maxHeartbeats 4000000 in
set_option maxRecDepth 100000 in
theorem FirstGap_spec (frm : Int) (ao : Option Addr) (n ca : Nat) (rs : List Rg) (w : World) (hx : ReadR w ao rs) (hn : rs.length = n) (hl : (n : Int) ≤ 9223372036854775807) :
    Calls Try.prog 85 #[.slice ao n ca, .int .i64 frm] w fun e w' => e = .returned (.int .i64 (gapR rs frm)) ∧ Ext w w' := by
  have hn' := hide hn
  have hx' := hide hx
  clear hn hx
  rcases Bool.eq_false_or_eq_true (isRgs rs) with hi | hi
  · by_cases h0 : 0 ≤ frm
    · have h0e : decide (frm < 0) = false := decide_eq_false (by omega)
      have hA : gapR rs frm = rs.foldl gapStep frm := if_pos ⟨hi, h0⟩
      rw [hA]
      clear hA
      go_enter Try.func85, Try.ntmps85
      go_wp2_with fail
      refine (IsRanges_spec ao n ca rs _ (hx'.out.ext (by repeat (first | with_reducible exact Ext.refl _ | with_reducible assumption | with_reducible refine Ext.alloc ?_ _ | with_reducible refine Ext.drew ?_ | with_reducible refine Ext.drewN ?_ _ | ((with_reducible refine Ext.set ?_ ?_ _); (focus (first | (simp; done) | (simp; omega)))) | with_reducible refine Ext.trans ?_ (by assumption)))) hn'.out (by omega)).mono ?_
      rintro en w1 ⟨rfl, hb1⟩
      rw [hi]
      go_wp2_with fail
      go_loopw [1, 5] (fun s i wr => ∃ (k : Nat) (g : Int), i = .int .i64 k ∧ k ≤ n ∧ s = .int .i64 g ∧ Hid ((rs.take k).foldl gapStep frm = g) ∧ Ext w wr) (fun _ i _ => n - (intOf i).toNat)
      case atStart => exact ⟨0, frm, rfl, by omega, rfl, hide rfl, (by repeat (first | with_reducible exact Ext.refl _ | with_reducible assumption | with_reducible refine Ext.alloc ?_ _ | with_reducible refine Ext.drew ?_ | with_reducible refine Ext.drewN ?_ _ | ((with_reducible refine Ext.set ?_ ?_ _); (focus (first | (simp; done) | (simp; omega)))) | with_reducible refine Ext.trans ?_ (by assumption)))⟩
      case round =>
        obtain ⟨k, g, rfl, hk, rfl, hc, hg⟩ := hrel
        by_cases hlt : k < n
        · skip
          have hkx : k < rs.length := by rw [hn'.out]; exact hlt
          rcases hx'.out with hnil | ⟨bx, off, rfl, hx⟩
          · rw [hnil] at hkx; simp at hkx
          obtain ⟨cx, cx2⟩ := hx k hkx
          have la : bx < w.heap.size := World.block_lt_of_cell? w _ cx
          have hr := (hg.row la).1
          have dx := (hr _).trans cx
          have dx2 := (hr _).trans cx2
          have i1 : (0 : Int) ≤ (k : Int) := by omega
          have i2 : (k : Int) < (n : Int) := by omega
          have lw : bx < wr.heap.size := hg.more la
          have hxb := rgs_at' hi hkx
          obtain ⟨⟨x1, x2⟩, hx0⟩ : ∃ x : Rg, Hid (rs.getD k dr = x) := ⟨_, hide rfl⟩
          rw [hx0.out] at dx dx2 hxb
          dsimp only at dx dx2 hxb
          clear hx cx cx2 hr
          by_cases t1 : x1 ≤ g
          · by_cases t2 : g < x2
            · have hst : Hid ((rs.take (k + 1)).foldl gapStep frm = x2) := hide (by rw [gap_take_succ hkx, hc.out, hx0.out]; simp only [gapStep]; first | rw [if_pos (by omega)] | rw [if_neg (by omega)])
              clear hc hx0
              go_wp2
              go_roundw
              case rel => exact ⟨k + 1, x2, by go_num, by omega, rfl, hst, hg⟩
              case measure => simp [intOf]; omega
            · have t2e : decide (g < x2) = false := decide_eq_false t2
              have hst : Hid ((rs.take (k + 1)).foldl gapStep frm = g) := hide (by rw [gap_take_succ hkx, hc.out, hx0.out]; simp only [gapStep]; first | rw [if_pos (by omega)] | rw [if_neg (by omega)])
              clear hc hx0
              go_wp2
              go_roundw
              case rel => exact ⟨k + 1, g, by go_num, by omega, rfl, hst, hg⟩
              case measure => simp [intOf]; omega
          · have t1e : decide (x1 ≤ g) = false := decide_eq_false t1
            have hst : Hid ((rs.take (k + 1)).foldl gapStep frm = g) := hide (by rw [gap_take_succ hkx, hc.out, hx0.out]; simp only [gapStep]; first | rw [if_pos (by omega)] | rw [if_neg (by omega)])
            clear hc hx0
            go_wp2
            go_roundw
            case rel => exact ⟨k + 1, g, by go_num, by omega, rfl, hst, hg⟩
            case measure => simp [intOf]; omega
        · obtain rfl : k = n := by omega
          have hall : Hid (rs.foldl gapStep frm = g) := hide (by rw [← hc.out, ← hn'.out, List.take_length])
          clear hc
          go_wp2
          go_ret
          exact ⟨by (rw [hall.out]) <;> rfl, hg⟩
    · have h0e : decide (frm < 0) = true := decide_eq_true (by omega)
      have hA : gapR rs frm = -1 := if_neg (fun hh => h0 hh.2)
      rw [hA]
      clear hA
      go_enter Try.func85, Try.ntmps85
      go_wp2_with fail
      refine (IsRanges_spec ao n ca rs _ (hx'.out.ext (by repeat (first | with_reducible exact Ext.refl _ | with_reducible assumption | with_reducible refine Ext.alloc ?_ _ | with_reducible refine Ext.drew ?_ | with_reducible refine Ext.drewN ?_ _ | ((with_reducible refine Ext.set ?_ ?_ _); (focus (first | (simp; done) | (simp; omega)))) | with_reducible refine Ext.trans ?_ (by assumption)))) hn'.out (by omega)).mono ?_
      rintro en w1 ⟨rfl, hb1⟩
      rw [hi]
      go_wp2
      go_ret
      exact ⟨rfl, (by repeat (first | with_reducible exact Ext.refl _ | with_reducible assumption | with_reducible refine Ext.alloc ?_ _ | with_reducible refine Ext.drew ?_ | with_reducible refine Ext.drewN ?_ _ | ((with_reducible refine Ext.set ?_ ?_ _); (focus (first | (simp; done) | (simp; omega)))) | with_reducible refine Ext.trans ?_ (by assumption)))⟩
  · have hA : gapR rs frm = -1 := if_neg (by simp [hi])
    rw [hA]
    clear hA
    go_enter Try.func85, Try.ntmps85
    go_wp2_with fail
    refine (IsRanges_spec ao n ca rs _ (hx'.out.ext (by repeat (first | with_reducible exact Ext.refl _ | with_reducible assumption | with_reducible refine Ext.alloc ?_ _ | with_reducible refine Ext.drew ?_ | with_reducible refine Ext.drewN ?_ _ | ((with_reducible refine Ext.set ?_ ?_ _); (focus (first | (simp; done) | (simp; omega)))) | with_reducible refine Ext.trans ?_ (by assumption)))) hn'.out (by omega)).mono ?_
    rintro en w1 ⟨rfl, hb1⟩
    rw [hi]
    go_wp2
    go_ret
    exact ⟨rfl, (by repeat (first | with_reducible exact Ext.refl _ | with_reducible assumption | with_reducible refine Ext.alloc ?_ _ | with_reducible refine Ext.drew ?_ | with_reducible refine Ext.drewN ?_ _ | ((with_reducible refine Ext.set ?_ ?_ _); (focus (first | (simp; done) | (simp; omega)))) | with_reducible refine Ext.trans ?_ (by assumption)))⟩
end Go.Proofs.Ytjhgcbchdnoleaa

/-
  Contracts of isRange, IsRanges and copyRanges of the program. Conditions: the slices can be read.
-/
import Derived.Test.YtjnbiacnhimkgaaRgS
namespace Go.Proofs.Ytjnbiacnhimkgaa
open Go.ChangeShapes Go.WideShapes Go.ChangeAt Go.RowKit
set_option linter.unusedSimpArgs false
set_option linter.unusedVariables false
set_option maxHeartbeats 1000000 in
theorem fine_impl (a b : Int) (w : World) : Calls Try.prog 42 #[.agg #[.int .i64 a, .int .i64 b]] w fun e w' => e = .returned (.bool (rgFine (a, b))) ∧ Ext w w' := by
  by_cases h0 : 0 ≤ a
  · -- yes
    by_cases h1 : a < b
    · -- yes
      by_cases h2 : b ≤ 4611686018427387903
      · -- yes
        go_enter Try.func42, Try.ntmps42
        go_wp2
        go_ret
        exact ⟨(by first | (simp [rgFine, *]; done) | (simp [rgFine, *]; omega) | (simp [rgFine, *]; split <;> first | (exfalso; omega) | (simp; done) | (simp; omega))), (by repeat (first | with_reducible exact Ext.refl _ | with_reducible assumption | with_reducible refine Ext.alloc ?_ _ | with_reducible refine Ext.drew ?_ | with_reducible refine Ext.drewN ?_ _ | ((with_reducible refine Ext.set ?_ ?_ _); (focus (first | (simp; done) | (simp; omega)))) | with_reducible refine Ext.trans ?_ (by assumption)))⟩
      · -- no
        have h2x : ¬ (b ≤ 4611686018427387903) := h2
        have h2d : decide (b ≤ 4611686018427387903) = false := decide_eq_false h2x
        replace h2 : 4611686018427387903 < b := by omega
        go_enter Try.func42, Try.ntmps42
        go_wp2
        go_ret
        exact ⟨(by first | (simp [rgFine, *]; done) | (simp [rgFine, *]; omega) | (simp [rgFine, *]; split <;> first | (exfalso; omega) | (simp; done) | (simp; omega))), (by repeat (first | with_reducible exact Ext.refl _ | with_reducible assumption | with_reducible refine Ext.alloc ?_ _ | with_reducible refine Ext.drew ?_ | with_reducible refine Ext.drewN ?_ _ | ((with_reducible refine Ext.set ?_ ?_ _); (focus (first | (simp; done) | (simp; omega)))) | with_reducible refine Ext.trans ?_ (by assumption)))⟩
    · -- no
      have h1x : ¬ (a < b) := h1
      have h1d : decide (a < b) = false := decide_eq_false h1x
      replace h1 : b ≤ a := by omega
      go_enter Try.func42, Try.ntmps42
      go_wp2
      go_ret
      exact ⟨(by first | (simp [rgFine, *]; done) | (simp [rgFine, *]; omega) | (simp [rgFine, *]; split <;> first | (exfalso; omega) | (simp; done) | (simp; omega))), (by repeat (first | with_reducible exact Ext.refl _ | with_reducible assumption | with_reducible refine Ext.alloc ?_ _ | with_reducible refine Ext.drew ?_ | with_reducible refine Ext.drewN ?_ _ | ((with_reducible refine Ext.set ?_ ?_ _); (focus (first | (simp; done) | (simp; omega)))) | with_reducible refine Ext.trans ?_ (by assumption)))⟩
  · -- no
    have h0x : ¬ (0 ≤ a) := h0
    have h0d : decide (0 ≤ a) = false := decide_eq_false h0x
    replace h0 : a < 0 := by omega
    go_enter Try.func42, Try.ntmps42
    go_wp2
    go_ret
    exact ⟨(by first | (simp [rgFine, *]; done) | (simp [rgFine, *]; omega) | (simp [rgFine, *]; split <;> first | (exfalso; omega) | (simp; done) | (simp; omega))), (by repeat (first | with_reducible exact Ext.refl _ | with_reducible assumption | with_reducible refine Ext.alloc ?_ _ | with_reducible refine Ext.drew ?_ | with_reducible refine Ext.drewN ?_ _ | ((with_reducible refine Ext.set ?_ ?_ _); (focus (first | (simp; done) | (simp; omega)))) | with_reducible refine Ext.trans ?_ (by assumption)))⟩
set_option maxHeartbeats 2000000 in
set_option maxRecDepth 100000 in
theorem IsRanges_impl (ao : Option Addr) (n ca : Nat) (rs : List Rg) (w : World) (hx : ReadR w ao rs) (hn : rs.length = n) (hl : (n : Int) ≤ 9223372036854775807) :
    Calls Try.prog 13 #[.slice ao n ca] w fun e w' => e = .returned (.bool (isRgs rs)) ∧ Ext w w' := by
  have hn' := hide hn
  have hx' := hide hx
  clear hn hx
  go_enter Try.func13, Try.ntmps13
  go_wp2_with fail
  go_loopw [7] (fun i wr => ∃ (k : Nat), i = .int .i64 k ∧ k ≤ n ∧ isRgs rs = rgsFrom (loR rs k) (rs.drop k) ∧ Ext w wr) (fun i _ => n - (intOf i).toNat)
  case atStart => exact ⟨0, rfl, by omega, rfl, Ext.refl _⟩
  case round =>
    obtain ⟨k, rfl, hk, hb, hg⟩ := hrel
    have hb' := hide hb
    clear hb
    by_cases hlt : k < n
    · have hkx : k < rs.length := by rw [hn'.out]; exact hlt
      rcases hx'.out with hnil | ⟨bx, off, rfl, hx⟩
      · rw [hnil] at hkx; simp at hkx
      obtain ⟨cx, cx2⟩ := hx k hkx
      have la : bx < w.heap.size := World.block_lt_of_cell? w _ cx
      have hr := (hg.row la).1
      have dx := (hr _).trans cx
      have dx2 := (hr _).trans cx2
      have i1 : (0 : Int) ≤ (k : Int) := by omega
      have i2 : (k : Int) < (n : Int) := by omega
      have lw : bx < wr.heap.size := hg.more la
      rw [dropR_cons rs hkx] at hb'
      clear cx cx2
      have hls := hide (loR_succ rs k)
      by_cases hk0 : k = 0
      · have e1 : decide (0 < k) = false := by simp; omega
        have hlz : loR rs k = 0 := by rw [hk0]; rfl
        rw [hlz] at hb'
        clear hx hr hk0 hlz
        generalize rs.getD k dr = x at *
        obtain ⟨a, b⟩ := x
        dsimp only at *
        rcases Bool.eq_false_or_eq_true (rgFine (a, b)) with hf | hf
        · have hbd := rgFine_bd hf
          have hbn : Hid (isRgs rs = rgsFrom (loR rs (k + 1)) (rs.drop (k + 1))) := hide (by rw [hb'.out, hls.out]; simp [rgsFrom, hf]; omega)
          clear hb' hls hbd
          go_wp2_with fail
          refine wp_region_seq (Ext _) (by kernel_rfl) (by kernel_rfl) ((Ext.refl _).drew) ?_
          iterate 18 (((first | (refine wpSeqS_off rfl (by rfl) ?_) | (refine wpSeqS_plain (v := ?_) rfl (by rfl) ?_ ?_; rotate_left; (focus (intro ws hws; obtain ⟨q0, p0⟩ := hws.row (k := bx) (by first | assumption | (simp; done) | (simp; omega) | omega); obtain ⟨q1, p1⟩ := hws.row (k := wr.heap.size) (by first | assumption | (simp; done) | (simp; omega) | omega); go_simp; (try with_reducible rfl); done))) | (refine wpSeqS_call (v := ?_) 42 ?_ rfl (by rfl) ?_ ?_ ?_; rotate_left; rotate_left; (focus (intro ws hws; skip; go_simp; (try with_reducible rfl); done)); (focus (intro ws hws; refine (fine_impl a b _).mono ?_; rintro e w' ⟨rfl, h2⟩; refine ⟨?_, hws.trans h2⟩; (try simp only [*]); (try with_reducible rfl); done))) | fail)); (try simp only [Act.put, List.getElem_toArray, List.getElem_cons_zero, List.getElem_cons_succ, List.setIfInBounds_toArray, List.set_cons_zero, List.set_cons_succ]))
          refine wpSeqS_done (by kernel_rfl) (fun ws hws => ?_)
          go_wp2
          go_roundw
          case rel => exact ⟨k + 1, by go_num, by omega, hbn.out, hg.trans (((Ext.refl wr).alloc _).trans hws)⟩
          case measure => simp [intOf]; omega
        · have hbn : Hid (isRgs rs = false) := hide (by rw [hb'.out]; simp [rgsFrom, hf])
          clear hb' hls
          go_wp2_with fail
          refine wp_region_seq (Ext _) (by kernel_rfl) (by kernel_rfl) ((Ext.refl _).drew) ?_
          iterate 18 (((first | (refine wpSeqS_off rfl (by rfl) ?_) | (refine wpSeqS_plain (v := ?_) rfl (by rfl) ?_ ?_; rotate_left; (focus (intro ws hws; obtain ⟨q0, p0⟩ := hws.row (k := bx) (by first | assumption | (simp; done) | (simp; omega) | omega); obtain ⟨q1, p1⟩ := hws.row (k := wr.heap.size) (by first | assumption | (simp; done) | (simp; omega) | omega); go_simp; (try with_reducible rfl); done))) | (refine wpSeqS_call (v := ?_) 42 ?_ rfl (by rfl) ?_ ?_ ?_; rotate_left; rotate_left; (focus (intro ws hws; skip; go_simp; (try with_reducible rfl); done)); (focus (intro ws hws; refine (fine_impl a b _).mono ?_; rintro e w' ⟨rfl, h2⟩; refine ⟨?_, hws.trans h2⟩; (try simp only [*]); (try with_reducible rfl); done))) | fail)); (try simp only [Act.put, List.getElem_toArray, List.getElem_cons_zero, List.getElem_cons_succ, List.setIfInBounds_toArray, List.set_cons_zero, List.set_cons_succ]))
          refine wpSeqS_done (by kernel_rfl) (fun ws hws => ?_)
          go_wp2
          go_ret
          exact ⟨by rw [hbn.out]; rfl, hg.trans (((Ext.refl wr).alloc _).trans hws)⟩
      · have e1 : decide (0 < k) = true := by simp; omega
        obtain ⟨p, hp⟩ : ∃ p : Nat, p + 1 = k := ⟨k - 1, by omega⟩
        have hlz : loR rs k = (rs.getD p dr).2 + 1 := by rw [← hp, loR_succ]
        rw [hlz] at hb'
        obtain ⟨cy, cy2⟩ := hx p (by omega)
        have dy2 := (hr _).trans cy2
        have p1 : IntKind.i64.wrap ((k : Int) - 1) = (p : Int) := by
          rw [show ((k : Int) - 1) = (p : Int) from by omega]
          exact IntWalk.i64_in _ (by omega)
        have p2 : (0 : Int) ≤ (p : Int) := by omega
        have p3 : (p : Int) < (n : Int) := by omega
        clear hx hr cy cy2 hp hk0 hlz
        generalize rs.getD k dr = x at *
        generalize rs.getD p dr = y at *
        obtain ⟨a, b⟩ := x
        obtain ⟨c, d⟩ := y
        dsimp only at *
        rcases Bool.eq_false_or_eq_true (rgFine (a, b)) with hf | hf
        · by_cases hd : d < a
          · have e2 : decide (a ≤ d) = false := by simp; omega
            have hbn : Hid (isRgs rs = rgsFrom (loR rs (k + 1)) (rs.drop (k + 1))) := hide (by rw [hb'.out, hls.out]; simp [rgsFrom, hf]; omega)
            clear hb' hls hd
            go_wp2_with fail
            refine wp_region_seq (Ext _) (by kernel_rfl) (by kernel_rfl) ((Ext.refl _).drew) ?_
            iterate 18 (((first | (refine wpSeqS_off rfl (by rfl) ?_) | (refine wpSeqS_plain (v := ?_) rfl (by rfl) ?_ ?_; rotate_left; (focus (intro ws hws; obtain ⟨q0, p0⟩ := hws.row (k := bx) (by first | assumption | (simp; done) | (simp; omega) | omega); obtain ⟨q1, p1⟩ := hws.row (k := wr.heap.size) (by first | assumption | (simp; done) | (simp; omega) | omega); go_simp; (try with_reducible rfl); done))) | (refine wpSeqS_call (v := ?_) 42 ?_ rfl (by rfl) ?_ ?_ ?_; rotate_left; rotate_left; (focus (intro ws hws; skip; go_simp; (try with_reducible rfl); done)); (focus (intro ws hws; refine (fine_impl a b _).mono ?_; rintro e w' ⟨rfl, h2⟩; refine ⟨?_, hws.trans h2⟩; (try simp only [*]); (try with_reducible rfl); done))) | fail)); (try simp only [Act.put, List.getElem_toArray, List.getElem_cons_zero, List.getElem_cons_succ, List.setIfInBounds_toArray, List.set_cons_zero, List.set_cons_succ]))
            refine wpSeqS_done (by kernel_rfl) (fun ws hws => ?_)
            go_wp2
            go_roundw
            case rel => exact ⟨k + 1, by go_num, by omega, hbn.out, hg.trans (((Ext.refl wr).alloc _).trans hws)⟩
            case measure => simp [intOf]; omega
          · have e2 : decide (a ≤ d) = true := by simp; omega
            have hbn : Hid (isRgs rs = false) := hide (by rw [hb'.out]; simp [rgsFrom, hf]; omega)
            clear hb' hls hd
            go_wp2_with fail
            refine wp_region_seq (Ext _) (by kernel_rfl) (by kernel_rfl) ((Ext.refl _).drew) ?_
            iterate 18 (((first | (refine wpSeqS_off rfl (by rfl) ?_) | (refine wpSeqS_plain (v := ?_) rfl (by rfl) ?_ ?_; rotate_left; (focus (intro ws hws; obtain ⟨q0, p0⟩ := hws.row (k := bx) (by first | assumption | (simp; done) | (simp; omega) | omega); obtain ⟨q1, p1⟩ := hws.row (k := wr.heap.size) (by first | assumption | (simp; done) | (simp; omega) | omega); go_simp; (try with_reducible rfl); done))) | (refine wpSeqS_call (v := ?_) 42 ?_ rfl (by rfl) ?_ ?_ ?_; rotate_left; rotate_left; (focus (intro ws hws; skip; go_simp; (try with_reducible rfl); done)); (focus (intro ws hws; refine (fine_impl a b _).mono ?_; rintro e w' ⟨rfl, h2⟩; refine ⟨?_, hws.trans h2⟩; (try simp only [*]); (try with_reducible rfl); done))) | fail)); (try simp only [Act.put, List.getElem_toArray, List.getElem_cons_zero, List.getElem_cons_succ, List.setIfInBounds_toArray, List.set_cons_zero, List.set_cons_succ]))
            refine wpSeqS_done (by kernel_rfl) (fun ws hws => ?_)
            go_wp2
            go_ret
            exact ⟨by rw [hbn.out]; rfl, hg.trans (((Ext.refl wr).alloc _).trans hws)⟩
        · have hbn : Hid (isRgs rs = false) := hide (by rw [hb'.out]; simp [rgsFrom, hf])
          clear hb' hls
          go_wp2_with fail
          refine wp_region_seq (Ext _) (by kernel_rfl) (by kernel_rfl) ((Ext.refl _).drew) ?_
          iterate 18 (((first | (refine wpSeqS_off rfl (by rfl) ?_) | (refine wpSeqS_plain (v := ?_) rfl (by rfl) ?_ ?_; rotate_left; (focus (intro ws hws; obtain ⟨q0, p0⟩ := hws.row (k := bx) (by first | assumption | (simp; done) | (simp; omega) | omega); obtain ⟨q1, p1⟩ := hws.row (k := wr.heap.size) (by first | assumption | (simp; done) | (simp; omega) | omega); go_simp; (try with_reducible rfl); done))) | (refine wpSeqS_call (v := ?_) 42 ?_ rfl (by rfl) ?_ ?_ ?_; rotate_left; rotate_left; (focus (intro ws hws; skip; go_simp; (try with_reducible rfl); done)); (focus (intro ws hws; refine (fine_impl a b _).mono ?_; rintro e w' ⟨rfl, h2⟩; refine ⟨?_, hws.trans h2⟩; (try simp only [*]); (try with_reducible rfl); done))) | fail)); (try simp only [Act.put, List.getElem_toArray, List.getElem_cons_zero, List.getElem_cons_succ, List.setIfInBounds_toArray, List.set_cons_zero, List.set_cons_succ]))
          refine wpSeqS_done (by kernel_rfl) (fun ws hws => ?_)
          go_wp2
          go_ret
          exact ⟨by rw [hbn.out]; rfl, hg.trans (((Ext.refl wr).alloc _).trans hws)⟩
    · obtain rfl : k = n := by omega
      have hbn : Hid (isRgs rs = true) := hide (by rw [hb'.out, List.drop_of_length_le (Nat.le_of_eq hn'.out)]; rfl)
      clear hb'
      go_wp2
      go_ret
      exact ⟨by rw [hbn.out]; rfl, hg⟩
end Go.Proofs.Ytjnbiacnhimkgaa

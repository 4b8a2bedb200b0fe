/-
  Contract of ByteAt of the reference. Conditions: the chunks can be read, and lie below the greatest number.
-/
import Derived.Test.YtjnbiacnhimkgaaBufRgs
import Derived.Test.YtjnbiacnhimkgaaJoin
namespace Go.Proofs.Ytjnbiacnhimkgaa
open Go.ChangeShapes Go.WideShapes Go.ChangeAt Go.RowKit
set_option linter.unusedSimpArgs false
set_option linter.unusedVariables false
/-- The byte at a place, or -1. -/
def bytAt : List Ck → Int → Int
  | [], _ => -1
  | c :: cs, n => if c.1 ≤ n ∧ n - c.1 < c.2.size then ((c.2.data.getD (n - c.1).toNat 0).toNat : Int) else bytAt cs n
theorem bytAt_yes {c : Ck} {cs : List Ck} {n : Int} (h : c.1 ≤ n ∧ n - c.1 < c.2.size) : bytAt (c :: cs) n = ((c.2.data.getD (n - c.1).toNat 0).toNat : Int) := if_pos h
theorem bytAt_no {c : Ck} {cs : List Ck} {n : Int} (h : ¬ (c.1 ≤ n ∧ n - c.1 < c.2.size)) : bytAt (c :: cs) n = bytAt cs n := if_neg h
theorem bytAt_at : ∀ (cs : List Ck) (n : Int), bytAt cs n = match atC cs n with | some b => (b.toNat : Int) | none => -1
  | [], _ => rfl
  | c :: cs, n => by
    have q : c.2.data.size = c.2.size := rfl
    rw [bytAt, atC]
    by_cases h : c.1 ≤ n ∧ n < c.1 + c.2.size
    · rw [if_pos h, if_pos ⟨h.1, by omega⟩, Array.getElem?_eq_getElem (by omega : (n - c.1).toNat < c.2.data.size)]
      simp only [Array.getD_eq_getD_getElem?, Array.getElem?_eq_getElem (by omega : (n - c.1).toNat < c.2.data.size), Option.getD_some]
    · rw [if_neg h, if_neg (by omega), bytAt_at cs n]
theorem bytAt_bd : ∀ (cs : List Ck) (n : Int), -1 ≤ bytAt cs n ∧ bytAt cs n ≤ 255 := by
  intro cs n
  rw [bytAt_at]
  split
  · rename_i b _
    have := UInt8.toNat_lt b
    omega
  · omega
set_option maxHeartbeats 4000000 in
theorem ByteAt_spec (nx n : Int) (ao : Option Addr) (len ca : Nat) (cs : List Ck) (w : World) (hx : ReadC w ao cs) (hn : cs.length = len) (hl : len ≤ 1048576) (hw : WB cs) (hn0 : -1 ≤ n ∧ n ≤ 4611686018427387903) :
    Calls Try.prog 11 #[.agg #[.int .i64 nx, .slice ao len ca], .int .i64 n] w fun e w' => e = .returned (.int .i64 (bytAt cs n)) ∧ Ext w w' := by
  have hn' := hide hn
  have hx' := hide hx
  have hw' := hide hw
  clear hn hx hw
  obtain ⟨n1, n2⟩ := hn0
  go_enter Try.func11, Try.ntmps11
  go_wp2_with fail
  go_loopw [5, 6] (fun i t wr => ∃ (k : Nat), i = .int .i64 k ∧ k ≤ len ∧ bytAt cs n = bytAt (cs.drop k) n ∧ Ext (w.alloc (.cells #[.int .i64 nx, .slice ao len ca] 26)) wr) (fun i _ _ => len - (intOf i).toNat)
  case atStart => exact ⟨0, rfl, by omega, rfl, Ext.refl _⟩
  case round =>
    obtain ⟨k, rfl, hk, hb, hg⟩ := hrel
    have hb' := hide hb
    clear hb
    obtain ⟨xb, yb⟩ := hg.row (k := w.heap.size) (by simp)
    have b1 : wr.cell? ⟨w.heap.size, 1, none⟩ = some (.slice ao len ca) := (by rw [xb]; simp [go_sem])
    have hgw : Ext w wr := Ext.trans ((Ext.refl w).alloc _) hg
    clear xb yb
    by_cases hlt : k < len
    · have hkx : k < cs.length := by rw [hn'.out]; exact hlt
      rcases hx'.out with hnil | ⟨bx, off, rfl, hx⟩
      · rw [hnil] at hkx; simp at hkx
      obtain ⟨cx, cx2⟩ := hx k hkx
      have la : bx < w.heap.size := World.block_lt_of_cell? w _ cx
      have hr := (hgw.row la).1
      have dx := (hr _).trans cx
      have dx2 := (hr _).trans cx2
      have i1 : (0 : Int) ≤ (k : Int) := by omega
      have i2 : (k : Int) < (len : Int) := by omega
      have hbk := hw'.out.at hkx
      have hcons := hide (drop_cons cs hkx)
      clear hx cx cx2 hr
      rw [hcons.out] at hb'
      generalize cs.getD k dk = c at *
      obtain ⟨o, s⟩ := c
      dsimp only at *
      obtain ⟨z1, z2⟩ := hbk
      have g2 : decide (0 ≤ o) = true := decide_eq_true z1
      by_cases t1 : 0 ≤ n
      · have g1 : decide (0 ≤ n) = true := decide_eq_true t1
        by_cases t2 : o ≤ n
        · obtain ⟨j, hj⟩ : ∃ j : Nat, n - o = (j : Int) := ⟨(n - o).toNat, by omega⟩
          have g3 : decide (o ≤ n) = true := decide_eq_true t2
          have g5 : decide ((0 : Int) ≤ (j : Int)) = true := decide_eq_true (by omega)
          by_cases t3 : j < s.size
          · have g4 : decide ((j : Int) < (s.size : Int)) = true := decide_eq_true (by omega)
            have g6 : decide (j < s.size) = true := decide_eq_true t3
            obtain ⟨v, hv⟩ : ∃ v : Int, v = ((s.data.getD j 0).toNat : Int) := ⟨_, rfl⟩
            have hbv : Hid (bytAt cs n = v) := hide (by
              rw [hb'.out, bytAt_yes ⟨t2, by dsimp only; omega⟩, hv]
              dsimp only
              rw [hj, Int.toNat_natCast])
            have hby : IntKind.i64.wrap ((s[j]'t3).toNat : Int) = v := by
              rw [IntWalk.i64_in _ (by have := UInt8.toNat_lt (s[j]'t3); omega), hv]
              have q : j < s.data.size := t3
              simp [Array.getD_eq_getD_getElem?, Array.getElem?_eq_getElem q]
              rfl
            have j0 : (0 : Int) ≤ (j : Int) := by omega
            have j1 : (j : Int) < (s.size : Int) := by omega
            clear hb' hcons hv
            go_wp2
            go_ret
            exact ⟨by rw [hbv.out]; rfl, hgw⟩
          · have g4 : decide ((j : Int) < (s.size : Int)) = false := decide_eq_false (by omega)
            have g6 : decide (j < s.size) = false := decide_eq_false t3
            have hbn : Hid (bytAt cs n = bytAt (cs.drop (k + 1)) n) := hide (by rw [hb'.out, bytAt_no (by dsimp only; omega)])
            clear hb' hcons
            go_wp2
            go_roundw
            case rel => exact ⟨k + 1, by go_num, by omega, hbn.out, hg⟩
            case measure => simp [intOf]; omega
        · have g3 : decide (0 ≤ n - o) = false := decide_eq_false (by omega)
          have g5 : decide (o ≤ n) = false := decide_eq_false (by omega)
          have hbn : Hid (bytAt cs n = bytAt (cs.drop (k + 1)) n) := hide (by rw [hb'.out, bytAt_no (by dsimp only; omega)])
          clear hb' hcons
          go_wp2
          go_roundw
          case rel => exact ⟨k + 1, by go_num, by omega, hbn.out, hg⟩
          case measure => simp [intOf]; omega
      · have g1 : decide (0 ≤ n) = false := decide_eq_false t1
        have hbn : Hid (bytAt cs n = bytAt (cs.drop (k + 1)) n) := hide (by rw [hb'.out, bytAt_no (by dsimp only; omega)])
        clear hb' hcons
        go_wp2
        go_roundw
        case rel => exact ⟨k + 1, by go_num, by omega, hbn.out, hg⟩
        case measure => simp [intOf]; omega
    · obtain rfl : k = len := by omega
      have hbn : Hid (bytAt cs n = -1) := hide (by rw [hb'.out, List.drop_of_length_le (Nat.le_of_eq hn'.out)]; rfl)
      clear hb'
      go_wp2
      go_ret
      exact ⟨by rw [hbn.out]; rfl, hgw⟩
end Go.Proofs.Ytjnbiacnhimkgaa

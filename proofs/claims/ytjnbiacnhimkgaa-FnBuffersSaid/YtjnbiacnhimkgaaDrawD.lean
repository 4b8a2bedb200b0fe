/-
  The cursor that draws inputs: contracts of l1New, l1Byte, l1Below, l1Once: each gives some number within its bounds, and turns the cursor's own block alone. Conditions: the code's bytes can be read, its length is below 2^48.
-/
import Derived.Test.YtjnbiacnhimkgaaLawKit
import Derived.Test.YtjnbiacnhimkgaaNum
import Derived.Test.YtjnbiacnhimkgaaChg
import Derived.Deep.QuietTactic
import Derived.BigQuiet
import Derived.Laws.Bits128
namespace Go.Proofs.Ytjnbiacnhimkgaa
open Go.ChangeShapes Go.WideShapes Go.ChangeAt Go.RowKit
set_option linter.unusedSimpArgs false
set_option linter.unusedVariables false

/-- The code's bytes can be read; they lie below block p. -/
def CodeAt (w : World) (p : Nat) (code : Value) : Prop :=
  (∃ (ao : Option Addr) (cap : Nat), code = .slice ao 0 cap) ∨ ∃ (b off len cap : Nat), code = .slice (some ⟨b, off, none⟩) len cap ∧ b < p ∧ len ≤ 281474976710656 ∧ ∀ j : Nat, j < len → ∃ y : Int, w.cell? ⟨b, off + j, none⟩ = some (.int .u8 y) ∧ 0 ≤ y ∧ y ≤ 255
/-- Block p is a cursor over the code. -/
def CurAt (w : World) (p : Nat) (code : Value) : Prop :=
  (∃ i h : Int, w.heap[p]? = some (.cells #[code, .int .i64 i, .int .i64 h] 67) ∧ 0 ≤ i) ∧ CodeAt w p code
theorem CodeAt.stays {S : Nat → Prop} {w w' : World} {p : Nat} {code : Value} (h : CodeAt w p code) (k : Chg S w w') (hp : p ≤ w.heap.size) (hS : ∀ b, b < p → ¬ S b) : CodeAt w' p code := by
  rcases h with h | ⟨b, off, len, cap, h1, h2, h3, h4⟩
  · exact Or.inl h
  · refine Or.inr ⟨b, off, len, cap, h1, h2, h3, fun j hj => ?_⟩
    obtain ⟨y, hy, hb⟩ := h4 j hj
    exact ⟨y, by rw [(k.row (by omega) (hS b h2)).1]; exact hy, hb⟩
theorem CurAt.lt {w : World} {p : Nat} {code : Value} (h : CurAt w p code) : p < w.heap.size := by
  obtain ⟨⟨i, hh, h1, _⟩, _⟩ := h
  exact lt_of_block h1
theorem CurAt.stays {S : Nat → Prop} {w w' : World} {p : Nat} {code : Value} (h : CurAt w p code) (k : Chg S w w') (hS : ∀ b, b ≤ p → ¬ S b) : CurAt w' p code := by
  have hl := h.lt
  obtain ⟨⟨i, hh, h1, h2⟩, h3⟩ := h
  exact ⟨⟨i, hh, by rw [k.block p hl (hS p (Nat.le_refl _))]; exact h1, h2⟩, h3.stays k (Nat.le_of_lt hl) (fun b hb => hS b (Nat.le_of_lt hb))⟩

/-- A drawn number: within bounds; only the cursor has turned. -/
def Drawn (Q : Int → Prop) (p : Nat) (code : Value) (w : World) (e : Ending) (w' : World) : Prop :=
  ∃ x : Int, e = .returned (.int .i64 x) ∧ Q x ∧ CurAt w' p code ∧ Chg (fun k => k = p) w w'

theorem i64_and255 (n : Int) : bits .and .i64 n 255 = n % 256 := by
  have h127 : (BitVec.ofInt 64 255).toNat = 2 ^ 8 - 1 := by decide
  have key : (BitVec.ofInt 64 n &&& BitVec.ofInt 64 255).toNat = (n % ((2 ^ 64 : Nat) : Int)).toNat % 2 ^ 8 := by
    rw [BitVec.toNat_and, BitVec.toNat_ofInt, h127, Nat.and_two_pow_sub_one_eq_mod]
  show IntKind.i64.wrap ((BitVec.ofInt 64 n &&& BitVec.ofInt 64 255).toNat : Nat) = n % 256
  rw [key, IntKind.wrap_i64]
  omega
theorem and255 (n : Int) : 0 ≤ bits .and .i64 n 255 ∧ bits .and .i64 n 255 ≤ 255 := by
  rw [i64_and255]; omega

theorem drewN_heap (w : World) (n : Nat) : (w.drewN n).heap = w.heap := rfl
set_option maxHeartbeats 1000000 in
theorem l1Byte_more (p : Nat) (w : World) (b off len cap : Nat) (i h : Int) (y : Int)
   (hb : w.heap[p]? = some (.cells #[.slice (some ⟨b, off, none⟩) len cap, .int .i64 i, .int .i64 h] 67)) (hi : 0 ≤ i) (hl : len ≤ 281474976710656) (hlt : i < len)
   (cy : w.cell? ⟨b, off + i.toNat, none⟩ = some (.int .u8 y)) (y0 : 0 ≤ y) (y1 : y ≤ 255) (hbp : b ≠ p) :
    Calls Try.prog 45 #[.pointer (some ⟨p, 0, none⟩)] w fun e w' => ∃ x h' : Int, e = .returned (.int .i64 x) ∧ 0 ≤ x ∧ x ≤ 255 ∧ w'.heap[p]? = some (.cells #[.slice (some ⟨b, off, none⟩) len cap, .int .i64 (i + 1), .int .i64 h'] 67) ∧ Chg (fun k => k = p) w w' := by
  have c0 : w.cell? ⟨p, 0, none⟩ = some (.slice (some ⟨b, off, none⟩) len cap) := by simp [World.cell?, hb]
  have c1 : w.cell? ⟨p, 1, none⟩ = some (.int .i64 i) := by simp [World.cell?, hb]
  have c2 : w.cell? ⟨p, 2, none⟩ = some (.int .i64 h) := by simp [World.cell?, hb]
  have f : ∀ o, w.frozen? ⟨p, o, none⟩ = false := fun o => by simp [World.frozen?, hb]
  have hb' := hide hb
  clear hb
  go_enter Try.func45, Try.ntmps45
  go_wp2
  generalize wrap64 (wrap64 (h * 6364136223846793005) + 1442695040888963407) = h'
  go_quiet (fail)
  have hx := and255 (bits BinOp.xor IntKind.i64 (h' / 8589934592) (h' / 35184372088832))
  generalize bits BinOp.and IntKind.i64 (bits BinOp.xor IntKind.i64 (h' / 8589934592) (h' / 35184372088832)) 255 = x at *
  obtain ⟨x0, x1⟩ := hx
  go_wp2
  go_quiet (fail)
  go_wp2
  go_quiet (fail)
  have hx2 := and255 (x + y)
  generalize bits BinOp.and IntKind.i64 (x + y) 255 = x2 at *
  obtain ⟨z0, z1⟩ := hx2
  go_wp2
  go_ret
  refine ⟨_, h', rfl, z0, z1, ?_, (by repeat (first | with_reducible exact Chg.refl _ _ | with_reducible assumption | with_reducible refine Chg.alloc ?_ _ | with_reducible refine Chg.drew ?_ | with_reducible refine Chg.drewN ?_ _ | ((with_reducible refine Chg.set ?_ ?_ _); (focus (first | exact Or.inl rfl | (right; simp; done) | (right; simp; omega)))) | with_reducible refine Chg.trans ?_ (by assumption)))⟩
  have e1 := block_set (i := 2) hb'.out (.int .i64 h')
  exact block_set (i := 1) e1 (.int .i64 (i + 1))
set_option maxHeartbeats 1000000 in
theorem l1Byte_less (p : Nat) (w : World) (ao : Option Addr) (len cap : Nat) (i h : Int)
   (hb : w.heap[p]? = some (.cells #[.slice ao len cap, .int .i64 i, .int .i64 h] 67)) (hi : 0 ≤ i) (hlt : len ≤ i) :
    Calls Try.prog 45 #[.pointer (some ⟨p, 0, none⟩)] w fun e w' => ∃ x h' : Int, e = .returned (.int .i64 x) ∧ 0 ≤ x ∧ x ≤ 255 ∧ w'.heap[p]? = some (.cells #[.slice ao len cap, .int .i64 i, .int .i64 h'] 67) ∧ Chg (fun k => k = p) w w' := by
  have c0 : w.cell? ⟨p, 0, none⟩ = some (.slice ao len cap) := by simp [World.cell?, hb]
  have c1 : w.cell? ⟨p, 1, none⟩ = some (.int .i64 i) := by simp [World.cell?, hb]
  have c2 : w.cell? ⟨p, 2, none⟩ = some (.int .i64 h) := by simp [World.cell?, hb]
  have f : ∀ o, w.frozen? ⟨p, o, none⟩ = false := fun o => by simp [World.frozen?, hb]
  have hb' := hide hb
  clear hb
  go_enter Try.func45, Try.ntmps45
  go_wp2
  generalize wrap64 (wrap64 (h * 6364136223846793005) + 1442695040888963407) = h'
  go_quiet (fail)
  have hx := and255 (bits BinOp.xor IntKind.i64 (h' / 8589934592) (h' / 35184372088832))
  generalize bits BinOp.and IntKind.i64 (bits BinOp.xor IntKind.i64 (h' / 8589934592) (h' / 35184372088832)) 255 = x at *
  obtain ⟨x0, x1⟩ := hx
  go_wp2
  go_quiet (fail)
  go_wp2
  go_ret
  refine ⟨_, h', rfl, x0, x1, ?_, (by repeat (first | with_reducible exact Chg.refl _ _ | with_reducible assumption | with_reducible refine Chg.alloc ?_ _ | with_reducible refine Chg.drew ?_ | with_reducible refine Chg.drewN ?_ _ | ((with_reducible refine Chg.set ?_ ?_ _); (focus (first | exact Or.inl rfl | (right; simp; done) | (right; simp; omega)))) | with_reducible refine Chg.trans ?_ (by assumption)))⟩
  exact block_set (i := 2) hb'.out (.int .i64 h')
theorem l1Byte_any (p : Nat) (code : Value) (w : World) (hc : CurAt w p code) :
    Calls Try.prog 45 #[.pointer (some ⟨p, 0, none⟩)] w (Drawn (fun x => 0 ≤ x ∧ x ≤ 255) p code w) := by
  have hc' := hc
  obtain ⟨⟨i, h, hb, hi⟩, hcode⟩ := hc
  rcases hcode with ⟨ao, cap, rfl⟩ | ⟨b, off, len, cap, rfl, hbp, hl, hy⟩
  · refine (l1Byte_less p w ao 0 cap i h hb hi (by omega)).mono ?_
    rintro e w' ⟨x, h', rfl, x0, x1, hb2, hg⟩
    exact ⟨x, rfl, ⟨x0, x1⟩, ⟨⟨i, h', hb2, hi⟩, Or.inl ⟨ao, cap, rfl⟩⟩, hg⟩
  · by_cases hlt : i < len
    · obtain ⟨y, cy, y0, y1⟩ := hy i.toNat (by omega)
      refine (l1Byte_more p w b off len cap i h y hb hi hl hlt cy y0 y1 (by omega)).mono ?_
      rintro e w' ⟨x, h', rfl, x0, x1, hb2, hg⟩
      exact ⟨x, rfl, ⟨x0, x1⟩, ⟨⟨i + 1, h', hb2, by omega⟩, hc'.2.stays hg (Nat.le_of_lt hc'.lt) (by omega)⟩, hg⟩
    · refine (l1Byte_less p w (some ⟨b, off, none⟩) len cap i h hb hi (by omega)).mono ?_
      rintro e w' ⟨x, h', rfl, x0, x1, hb2, hg⟩
      exact ⟨x, rfl, ⟨x0, x1⟩, ⟨⟨i, h', hb2, hi⟩, hc'.2.stays hg (Nat.le_of_lt hc'.lt) (by omega)⟩, hg⟩
set_option maxHeartbeats 1000000 in
theorem l1Below_any (p : Nat) (code : Value) (n : Int) (w : World) (hc : CurAt w p code) :
    Calls Try.prog 27 #[.pointer (some ⟨p, 0, none⟩), .int .i64 n] w (Drawn (fun x => (0 < n → 0 ≤ x ∧ x < n) ∧ (n ≤ 0 → x = 0)) p code w) := by
  by_cases h0 : n ≤ 0
  · go_enter Try.func27, Try.ntmps27
    go_wp2
    go_ret
    exact ⟨0, rfl, ⟨by omega, by simp⟩, hc, Chg.refl _ _⟩
  have h1 : 0 < n := by omega
  have h2 : 1 ≤ n := by omega
  have h3 : (n == 0) = false := by simp; omega
  have h4 : decide (n ≤ 0) = false := by simp; omega
  by_cases h5 : n ≤ 256
  · go_enter Try.func27, Try.ntmps27
    go_wp2_with fail
    refine (l1Byte_any p code _ hc).mono ?_
    rintro e w1 ⟨x, rfl, ⟨x0, x1⟩, hcur, hg⟩
    go_wp2
    go_ret
    exact ⟨x % n, rfl, ⟨fun _ => ⟨Int.emod_nonneg _ (by omega), Int.emod_lt_of_pos _ h1⟩, fun h => by omega⟩, hcur, hg⟩
  · have h6 : decide (n ≤ 256) = false := by simp; omega
    have h7 : 256 < n := by omega
    go_enter Try.func27, Try.ntmps27
    go_wp2_with fail
    refine (l1Byte_any p code _ hc).mono ?_
    rintro e w1 ⟨x, rfl, ⟨x0, x1⟩, hcur1, hg1⟩
    go_wp2_with fail
    refine (l1Byte_any p code _ hcur1).mono ?_
    rintro e w2 ⟨y, rfl, ⟨y0, y1⟩, hcur2, hg2⟩
    go_wp2_with fail
    refine (l1Byte_any p code _ hcur2).mono ?_
    rintro e w3 ⟨z, rfl, ⟨z0, z1⟩, hcur3, hg3⟩
    go_wp2_with fail
    refine (l1Byte_any p code _ hcur3).mono ?_
    rintro e w4 ⟨v, rfl, ⟨v0, v1⟩, hcur4, hg4⟩
    go_wp2
    go_ret
    exact ⟨(x * 16777216 + y * 65536 + z * 256 + v) % n, rfl, ⟨fun _ => ⟨Int.emod_nonneg _ (by omega), Int.emod_lt_of_pos _ h1⟩, fun h => by omega⟩, hcur4, (hg1.trans hg2).trans (hg3.trans hg4)⟩
/-- l1Below with a positive bound. -/
theorem l1Below_pos (p : Nat) (code : Value) (n : Int) (w : World) (hn : 0 < n) (hc : CurAt w p code) :
    Calls Try.prog 27 #[.pointer (some ⟨p, 0, none⟩), .int .i64 n] w (Drawn (fun x => 0 ≤ x ∧ x < n) p code w) :=
  (l1Below_any p code n w hc).mono fun e w' ⟨x, h1, h2, h3⟩ => ⟨x, h1, h2.1 hn, h3⟩
/-- A new cursor. -/
def MadeCur (code : Value) (w : World) (e : Ending) (w' : World) : Prop :=
  ∃ h : Int, e = .returned (.pointer (some ⟨w.heap.size, 0, none⟩)) ∧ w' = w.alloc (.cells #[code, .int .i64 0, .int .i64 h] 67)
set_option maxHeartbeats 1000000 in
theorem l1New_some (w : World) (b off len cap : Nat) (hl : len ≤ 281474976710656) (hy : ∀ j : Nat, j < len → ∃ y : Int, w.cell? ⟨b, off + j, none⟩ = some (.int .u8 y) ∧ 0 ≤ y ∧ y ≤ 255) :
    Calls Try.prog 25 #[.slice (some ⟨b, off, none⟩) len cap] w (MadeCur (.slice (some ⟨b, off, none⟩) len cap) w) := by
  go_enter Try.func25, Try.ntmps25
  go_wp2
  go_loop [3, 4] (fun h i => ∃ (k : Nat) (q : Int), k ≤ len ∧ (k : Int) ≤ 4000 ∧ i = .int .i64 k ∧ h = .int .i64 q) (fun _ i => len - (intOf i).toNat)
  case atStart => exact ⟨0, _, by omega, by omega, rfl, rfl⟩
  case round =>
    obtain ⟨k, q, h1, h2, rfl, rfl⟩ := hrel
    by_cases h3 : k < len
    · by_cases h4 : (k : Int) < 4000
      · obtain ⟨y, cy, y0, y1⟩ := hy k h3
        clear hy
        go_wp2
        go_round
        case rel => exact ⟨k + 1, _, by omega, by omega, by go_num, rfl⟩
        case measure => simp [intOf]; omega
      · have h5 : decide ((k : Int) < 4000) = false := decide_eq_false h4
        clear hy
        go_wp2
        go_ret
        exact ⟨_, rfl, rfl⟩
    · obtain rfl : k = len := by omega
      clear hy
      go_wp2
      go_ret
      exact ⟨_, rfl, rfl⟩
theorem l1New_nil (ao : Option Addr) (cap : Nat) (w : World) : Calls Try.prog 25 #[.slice ao 0 cap] w (MadeCur (.slice ao 0 cap) w) := by
  go_enter Try.func25, Try.ntmps25
  go_wp2
  go_loop [3, 4] (fun h i => i = .int .i64 0 ∧ ∃ q : Int, h = .int .i64 q) (fun _ i => 0 - (intOf i).toNat)
  case atStart => exact ⟨rfl, _, rfl⟩
  case round =>
    obtain ⟨rfl, q, rfl⟩ := hrel
    go_wp2
    go_ret
    exact ⟨_, rfl, rfl⟩
/-- A cursor over the code, in a new block. -/
def GotCur (code : Value) (w : World) (e : Ending) (w' : World) : Prop :=
  e = .returned (.pointer (some ⟨w.heap.size, 0, none⟩)) ∧ CurAt w' w.heap.size code ∧ Ext w w'
theorem l1New_any (code : Value) (w : World) (hc : CodeAt w w.heap.size code) : Calls Try.prog 25 #[code] w (GotCur code w) := by
  have hk : ∀ h : Int, GotCur code w (.returned (.pointer (some ⟨w.heap.size, 0, none⟩))) (w.alloc (.cells #[code, .int .i64 0, .int .i64 h] 67)) := fun h =>
    ⟨rfl, ⟨⟨0, h, by show (w.heap.push _)[w.heap.size]? = _; simp, by omega⟩, hc.stays ((Ext.refl w).alloc _ |>.chg (fun _ => False)) (Nat.le_refl _) (fun _ _ h => h)⟩, (Ext.refl w).alloc _⟩
  rcases hc with ⟨ao, cap, rfl⟩ | ⟨b, off, len, cap, rfl, hb, hl, hy⟩
  · refine (l1New_nil ao cap w).mono ?_
    rintro e w' ⟨h, rfl, rfl⟩
    exact hk h
  · refine (l1New_some w b off len cap hl hy).mono ?_
    rintro e w' ⟨h, rfl, rfl⟩
    exact hk h
section
variable {H : Type} {enc : TypeId × Value → H} {P : Program}
/-- The law's argument, a slice of bytes, opened. -/
theorem open_code {w : World} {spare : Nat → Bool} {held : Bool} {r : Reach} {b0 : Nat} {t e : TypeId} {v : Value} {d : DataW H} {p : List MemPlace} (ht : P.underlying t = some (.slice e)) (he : P.underlying e = some (.int .u8)) (hC : P.cellsOf e = 1)
    (hv : Value.okWide P w r b0 t v) (h : DataW.Trod enc P w 0 spare held t v d p) :
    ∃ (ao : Option Addr) (len cap : Nat), v = .slice ao len cap ∧ (len ≤ 1048576 → CodeAt w w.heap.size (.slice ao len cap)) := by
  obtain ⟨ao, len, cap, rfl⟩ := okWide_slice ht hv
  refine ⟨ao, len, cap, rfl, fun hlen => ?_⟩
  obtain ⟨fuel, hf⟩ := h
  rcases open_ints ht he hC hf with ⟨hcs, _⟩ | ⟨a, len', cap', zs, hcs, _, hl, hm, hz, _, hcell, hwf⟩
  · simp [Value.cells] at hcs
    obtain ⟨rfl, rfl, rfl⟩ := hcs
    exact Or.inl ⟨none, 0, rfl⟩
  · simp [Value.cells] at hcs
    obtain ⟨rfl, rfl, rfl⟩ := hcs
    have hlz : len ≤ zs.length := by rw [hz]; split <;> omega
    rcases Nat.eq_zero_or_pos len with rfl | hpos
    · exact Or.inl ⟨some a, cap, rfl⟩
    · obtain ⟨b, off, rfl, hcell2⟩ := ints_at hcell (by omega)
      have h0 := hcell2 0 (by omega)
      refine Or.inr ⟨b, off, len, cap, rfl, World.block_lt_of_cell? w _ h0, by omega, fun j hj => ?_⟩
      have hj' : j < zs.length := by omega
      have e1 : zs.getD j 0 = zs[j] := by simp [List.getD, List.getElem?_eq_getElem hj']
      refine ⟨zs.getD j 0, hcell2 j hj', ?_⟩
      rw [e1]
      exact bounds_u8 (hwf (zs[j]) (List.getElem_mem hj'))
end
/-- A drawn bool. -/
def DrawnB (p : Nat) (code : Value) (w : World) (e : Ending) (w' : World) : Prop :=
  ∃ x : Bool, e = .returned (.bool x) ∧ CurAt w' p code ∧ Chg (fun k => k = p) w w'
theorem l1Once_any (p : Nat) (code : Value) (n : Int) (w : World) (hc : CurAt w p code) :
    Calls Try.prog 28 #[.pointer (some ⟨p, 0, none⟩), .int .i64 n] w (DrawnB p code w) := by
  go_enter Try.func28, Try.ntmps28
  go_wp2_with fail
  refine (l1Below_any p code n _ hc).mono ?_
  rintro e w1 ⟨x, rfl, hx, hcur, hg⟩
  go_wp2
  go_ret
  exact ⟨_, rfl, hcur, hg⟩
set_option maxHeartbeats 1000000 in
theorem l1PickInt_any (p : Nat) (code : Value) (b off cap : Nat) (xs : List Int) (w : World) (hc : CurAt w p code) (hn : 0 < xs.length) (hm : xs.length ≤ 1000) (hb : b < w.heap.size) (hbp : b ≠ p)
    (hl : ∀ (j : Nat) (h : j < xs.length), w.cell? ⟨b, off + j, none⟩ = some (.int .i64 xs[j])) :
    Calls Try.prog 29 #[.pointer (some ⟨p, 0, none⟩), .slice (some ⟨b, off, none⟩) xs.length cap] w (Drawn (fun x => x ∈ xs) p code w) := by
  go_enter Try.func29, Try.ntmps29
  go_wp2_with fail
  refine (l1Below_pos p code _ _ (by omega) hc).mono ?_
  rintro e w1 ⟨x, rfl, ⟨x0, x1⟩, hcur, hg⟩
  have hx : x.toNat < xs.length := by omega
  have hcell : w1.cell? ⟨b, off + x.toNat, none⟩ = some (.int .i64 xs[x.toNat]) := by rw [(hg.row hb hbp).1]; exact hl _ hx
  have hmem : xs[x.toNat] ∈ xs := List.getElem_mem hx
  generalize xs[x.toNat] = y at *
  clear hl
  go_wp2
  go_ret
  exact ⟨y, rfl, hmem, hcur, hg⟩
theorem CurAt.drew {w : World} {p : Nat} {code : Value} (h : CurAt w p code) : CurAt w.drew p code := h.stays (((Ext.refl w).drew).chg (fun _ => False)) (fun _ _ h => h)
theorem new_ints {w : World} {xs : List Int} {T : TypeId} (j : Nat) (h : j < xs.length) : (w.alloc (.cells (xs.map (Value.int .i64)).toArray T)).cell? ⟨w.heap.size, 0 + j, none⟩ = some (.int .i64 xs[j]) := by
  have : (w.alloc (.cells (xs.map (Value.int .i64)).toArray T)).heap[w.heap.size]? = some (.cells (xs.map (Value.int .i64)).toArray T) := by
    show (w.heap.push _)[w.heap.size]? = _
    simp
  unfold World.cell?
  simp only [this]
  simp [h]
theorem l1PickInt_new (p : Nat) (code : Value) (xs : List Int) (T : TypeId) (w : World) (hc : CurAt w p code) (hn : 0 < xs.length) (hm : xs.length ≤ 1000) :
    Calls Try.prog 29 #[.pointer (some ⟨p, 0, none⟩), .slice (some ⟨w.heap.size, 0, none⟩) xs.length xs.length] (w.alloc (.cells (xs.map (Value.int .i64)).toArray T)) (Drawn (fun x => x ∈ xs) p code (w.alloc (.cells (xs.map (Value.int .i64)).toArray T))) :=
  l1PickInt_any p code w.heap.size 0 xs.length xs _ (hc.stays (((Ext.refl w).alloc _).chg (fun _ => False)) (fun _ _ h => h)) hn hm (by simp) (by have := hc.lt; omega) (fun j h => new_ints j h)
/-- A drawn number. -/
def DrewInt (w : World) (e : Ending) (w' : World) : Prop := ∃ n : Int, e = .returned (.int .i64 n) ∧ Ext w w'
theorem CodeAt.up {w : World} {p q : Nat} {code : Value} (h : CodeAt w p code) (hq : p ≤ q) : CodeAt w q code := by
  rcases h with h | ⟨b, off, len, cap, h1, h2, h3, h4⟩
  · exact Or.inl h
  · exact Or.inr ⟨b, off, len, cap, h1, by omega, h3, h4⟩
theorem CodeAt.grown {w w' : World} {code : Value} (h : CodeAt w w.heap.size code) (hx : Ext w w') : CodeAt w' w'.heap.size code :=
  (h.stays (hx.chg (fun _ => False)) (Nat.le_refl _) (fun _ _ h => h)).up hx.size
theorem alloc_at (w : World) (o : Obj) : (w.alloc o).heap[w.heap.size]? = some o := by
  show (w.heap.push _)[w.heap.size]? = _
  simp
theorem alloc_at' {w w1 : World} {o : Obj} (h : Ext (w.alloc o) w1) : w1.heap[w.heap.size]? = some o :=
  ((h.chg (fun _ => False)).block _ (by simp) (fun h => h)).trans (alloc_at w o)
theorem alloc_size (w : World) (o : Obj) : (w.alloc o).heap.size = w.heap.size + 1 := by simp
/-- A drawn text: only the cursor has turned. -/
def DrawnS (Q : ByteArray → Prop) (p : Nat) (code : Value) (w : World) (e : Ending) (w' : World) : Prop :=
  ∃ x : ByteArray, e = .returned (.string x) ∧ Q x ∧ CurAt w' p code ∧ Chg (fun k => k = p) w w'
set_option maxHeartbeats 1000000 in
theorem l1Pick_any (p : Nat) (code : Value) (b off cap : Nat) (xs : List ByteArray) (w : World) (hc : CurAt w p code) (hn : 0 < xs.length) (hm : xs.length ≤ 1000) (hb : b < w.heap.size) (hbp : b ≠ p)
    (hl : ∀ (j : Nat) (h : j < xs.length), w.cell? ⟨b, off + j, none⟩ = some (.string xs[j])) :
    Calls Try.prog 46 #[.pointer (some ⟨p, 0, none⟩), .slice (some ⟨b, off, none⟩) xs.length cap] w (DrawnS (fun x => x ∈ xs) p code w) := by
  go_enter Try.func46, Try.ntmps46
  go_wp2_with fail
  refine (l1Below_pos p code _ _ (by omega) hc).mono ?_
  rintro e w1 ⟨x, rfl, ⟨x0, x1⟩, hcur, hg⟩
  have hx : x.toNat < xs.length := by omega
  have hcell : w1.cell? ⟨b, off + x.toNat, none⟩ = some (.string xs[x.toNat]) := by rw [(hg.row hb hbp).1]; exact hl _ hx
  have hmem : xs[x.toNat] ∈ xs := List.getElem_mem hx
  generalize xs[x.toNat] = y at *
  clear hl
  go_wp2
  go_ret
  exact ⟨y, rfl, hmem, hcur, hg⟩
set_option maxHeartbeats 2000000 in
theorem l4Data_any (p : Nat) (code : Value) (most : Int) (w : World) (hc : CurAt w p code) (h0 : 0 ≤ most) (h1 : most ≤ 1000) :
    Calls Try.prog 30 #[.pointer (some ⟨p, 0, none⟩), .int .i64 most] w (DrawnS (fun x => (x.size : Int) ≤ most) p code w) := by
  go_enter Try.func30, Try.ntmps30
  go_wp2_with fail
  refine (l1Below_pos p code _ _ (by omega) hc).mono ?_
  rintro e w1 ⟨n0, rfl, ⟨x0, x1⟩, hcur, hg⟩
  go_wp2_with fail
  go_loopw [5, 6] (fun s n wr => ∃ (x : ByteArray) (k : Int), s = .string x ∧ n = .int .i64 k ∧ 0 ≤ k ∧ k ≤ n0 ∧ (x.size : Int) ≤ n0 - k ∧ CurAt wr p code ∧ Chg (fun b => b = p) w wr) (fun _ n _ => (intOf n).toNat)
  case atStart => exact ⟨_, n0, rfl, rfl, x0, Int.le_refl _, by have e : ((ByteArray.mk #[]).size : Int) = 0 := rfl; omega, hcur, hg⟩
  case round =>
    obtain ⟨x, k, rfl, rfl, k0, k1, hz, hcu, hgr⟩ := hrel
    have hcl := hcu.lt
    by_cases hlt : 0 < k
    · have kx : 1 ≤ k := by omega
      have hne : wr.heap.size ≠ p := by omega
      go_wp2_with fail
      refine (l1Pick_any p code wr.heap.size 0 4 [⟨#[97]⟩, ⟨#[98]⟩, ⟨#[99]⟩, ⟨#[100]⟩] _ (hcu.stays (((Ext.refl wr).alloc (.cells #[.string ⟨#[97]⟩, .string ⟨#[98]⟩, .string ⟨#[99]⟩, .string ⟨#[100]⟩] 9)).chg (fun _ => False)) (fun _ _ h => h)) (by simp) (by simp) (by simp) hne ?_).mono ?_
      · intro j hj
        have hj4 : j < 4 := hj
        have hblk := heap_alloc_new wr (.cells #[.string ⟨#[97]⟩, .string ⟨#[98]⟩, .string ⟨#[99]⟩, .string ⟨#[100]⟩] 9)
        rw [cell_of_row _ _ _ _ _ _ hblk]
        match j, hj4 with
        | 0, _ => rfl
        | 1, _ => rfl
        | 2, _ => rfl
        | 3, _ => rfl
      rintro e2 w2 ⟨y, rfl, hy, hcu2, hg2⟩
      have hys : y.size = 1 := by
        simp only [List.mem_cons, List.not_mem_nil, or_false] at hy
        rcases hy with rfl | rfl | rfl | rfl <;> rfl
      have hsz : (x ++ y).size = x.size + y.size := ByteArray.size_append
      have hsz2 : x.size + y.size ≤ 9223372036854775807 := by omega
      have hgr2 : Chg (fun b => b = p) w w2 := (hgr.trans (((Ext.refl wr).alloc _).chg _)).trans hg2
      clear hy
      have hys' := hide hys
      have hsz' := hide hsz
      clear hys hsz
      go_wp2
      go_roundw
      case rel => exact ⟨x ++ y, k - 1, rfl, rfl, by omega, by omega, by have := hsz'.out; have := hys'.out; omega, hcu2, hgr2⟩
      case measure => simp [intOf]; omega
    · obtain rfl : k = 0 := by omega
      go_wp2
      go_ret
      exact ⟨x, rfl, by omega, hcu, hgr⟩
end Go.Proofs.Ytjnbiacnhimkgaa

/-
  Part of the proof: DrawD, DrawRg, RingEq, RnV, RgRm.
-/
import Derived.Deep.QuietTactic
import Derived.BigQuiet
import Derived.Laws.Bits128
import Derived.Deep.RegionHeld3
import Derived.Deep.DeepCutAuto
import Derived.Test.YtjhgcbchdnoleaaPG5
import Derived.Test.YtjhgcbchdnoleaaPG6
namespace Go.Proofs.Ytjhgcbchdnoleaa
section
open Go.ChangeShapes Go.WideShapes Go.ChangeAt Go.RowKit
set_option linter.unusedSimpArgs false
set_option linter.unusedVariables false
/-- The code's bytes can be read; they lie below block p. -/
def CodeAt (w : World) (p : Nat) (code : Value) : Prop :=
  (∃ (ao : Option Addr) (cap : Nat), code = .slice ao 0 cap) ∨ ∃ (b off len cap : Nat), code = .slice (some ⟨b, off, none⟩) len cap ∧ b < p ∧ len ≤ 281474976710656 ∧ ∀ j : Nat, j < len → ∃ y : Int, w.cell? ⟨b, off + j, none⟩ = some (.int .u8 y) ∧ 0 ≤ y ∧ y ≤ 255
/-- Block p is a cursor over the code. -/
def CurAt (w : World) (p : Nat) (code : Value) : Prop :=
  (∃ i h : Int, w.heap[p]? = some (.cells #[code, .int .i64 i, .int .i64 h] 114) ∧ 0 ≤ i) ∧ CodeAt w p code
theorem CodeAt.stays {S : Nat → Prop} {w w' : World} {p : Nat} {code : Value} (h : CodeAt w p code) (k : Chg S w w') (hp : p ≤ w.heap.size) (hS : ∀ b, b < p → ¬ S b) : CodeAt w' p code := by
  rcases h with h | ⟨b, off, len, cap, h1, h2, h3, h4⟩
  · exact Or.inl h
  · refine Or.inr ⟨b, off, len, cap, h1, h2, h3, fun j hj => ?_⟩
    obtain ⟨y, hy, hb⟩ := h4 j hj
    exact ⟨y, by rw [(k.row (by omega) (hS b h2)).1]; exact hy, hb⟩
theorem CurAt.lt {w : World} {p : Nat} {code : Value} (h : CurAt w p code) : p < w.heap.size := by
  obtain ⟨⟨i, hh, h1, _⟩, _⟩ := h
  exact lt_of_block h1
theorem CurAt.stays {S : Nat → Prop} {w w' : World} {p : Nat} {code : Value} (h : CurAt w p code) (k : Chg S w w') (hS : ∀ b, b ≤ p → ¬ S b) : CurAt w' p code := by
  have hl := h.lt
  obtain ⟨⟨i, hh, h1, h2⟩, h3⟩ := h
  exact ⟨⟨i, hh, by rw [k.block p hl (hS p (Nat.le_refl _))]; exact h1, h2⟩, h3.stays k (Nat.le_of_lt hl) (fun b hb => hS b (Nat.le_of_lt hb))⟩
/-- A drawn number: within bounds; only the cursor has turned. -/
def Drawn (Q : Int → Prop) (p : Nat) (code : Value) (w : World) (e : Ending) (w' : World) : Prop :=
  ∃ x : Int, e = .returned (.int .i64 x) ∧ Q x ∧ CurAt w' p code ∧ Chg (fun k => k = p) w w'
theorem i64_and255 (n : Int) : bits .and .i64 n 255 = n % 256 := by
  have h127 : (BitVec.ofInt 64 255).toNat = 2 ^ 8 - 1 := by decide
  have key : (BitVec.ofInt 64 n &&& BitVec.ofInt 64 255).toNat = (n % ((2 ^ 64 : Nat) : Int)).toNat % 2 ^ 8 := by
    rw [BitVec.toNat_and, BitVec.toNat_ofInt, h127, Nat.and_two_pow_sub_one_eq_mod]
  show IntKind.i64.wrap ((BitVec.ofInt 64 n &&& BitVec.ofInt 64 255).toNat : Nat) = n % 256
  rw [key, IntKind.wrap_i64]
  omega
theorem and255 (n : Int) : 0 ≤ bits .and .i64 n 255 ∧ bits .and .i64 n 255 ≤ 255 := by
  rw [i64_and255]; omega
set_option maxHeartbeats 1000000 in
theorem l1Byte_more (p : Nat) (w : World) (b off len cap : Nat) (i h : Int) (y : Int)
   (hb : w.heap[p]? = some (.cells #[.slice (some ⟨b, off, none⟩) len cap, .int .i64 i, .int .i64 h] 114)) (hi : 0 ≤ i) (hl : len ≤ 281474976710656) (hlt : i < len)
   (cy : w.cell? ⟨b, off + i.toNat, none⟩ = some (.int .u8 y)) (y0 : 0 ≤ y) (y1 : y ≤ 255) (hbp : b ≠ p) :
    Calls Try.prog 130 #[.pointer (some ⟨p, 0, none⟩)] w fun e w' => ∃ x h' : Int, e = .returned (.int .i64 x) ∧ 0 ≤ x ∧ x ≤ 255 ∧ w'.heap[p]? = some (.cells #[.slice (some ⟨b, off, none⟩) len cap, .int .i64 (i + 1), .int .i64 h'] 114) ∧ Chg (fun k => k = p) w w' := by
  have c0 : w.cell? ⟨p, 0, none⟩ = some (.slice (some ⟨b, off, none⟩) len cap) := by simp [World.cell?, hb]
  have c1 : w.cell? ⟨p, 1, none⟩ = some (.int .i64 i) := by simp [World.cell?, hb]
  have c2 : w.cell? ⟨p, 2, none⟩ = some (.int .i64 h) := by simp [World.cell?, hb]
  have f : ∀ o, w.frozen? ⟨p, o, none⟩ = false := fun o => by simp [World.frozen?, hb]
  have hb' := hide hb
  clear hb
  go_enter Try.func130, Try.ntmps130
  go_wp2
  generalize wrap64 (wrap64 (h * 6364136223846793005) + 1442695040888963407) = h'
  go_quiet (fail)
  have hx := and255 (bits BinOp.xor IntKind.i64 (h' / 8589934592) (h' / 35184372088832))
  generalize bits BinOp.and IntKind.i64 (bits BinOp.xor IntKind.i64 (h' / 8589934592) (h' / 35184372088832)) 255 = x at *
  obtain ⟨x0, x1⟩ := hx
  go_wp2
  go_quiet (fail)
  go_wp2
  go_quiet (fail)
  have hx2 := and255 (x + y)
  generalize bits BinOp.and IntKind.i64 (x + y) 255 = x2 at *
  obtain ⟨z0, z1⟩ := hx2
  go_wp2
  go_ret
  refine ⟨_, h', rfl, z0, z1, ?_, (by repeat (first | with_reducible exact Chg.refl _ _ | with_reducible assumption | with_reducible refine Chg.alloc ?_ _ | with_reducible refine Chg.drew ?_ | with_reducible refine Chg.drewN ?_ _ | ((with_reducible refine Chg.set ?_ ?_ _); (focus (first | exact Or.inl rfl | (right; simp; done) | (right; simp; omega)))) | with_reducible refine Chg.trans ?_ (by assumption)))⟩
  have e1 := block_set (i := 2) hb'.out (.int .i64 h')
  exact block_set (i := 1) e1 (.int .i64 (i + 1))
set_option maxHeartbeats 1000000 in
theorem l1Byte_less (p : Nat) (w : World) (ao : Option Addr) (len cap : Nat) (i h : Int)
   (hb : w.heap[p]? = some (.cells #[.slice ao len cap, .int .i64 i, .int .i64 h] 114)) (hi : 0 ≤ i) (hlt : len ≤ i) :
    Calls Try.prog 130 #[.pointer (some ⟨p, 0, none⟩)] w fun e w' => ∃ x h' : Int, e = .returned (.int .i64 x) ∧ 0 ≤ x ∧ x ≤ 255 ∧ w'.heap[p]? = some (.cells #[.slice ao len cap, .int .i64 i, .int .i64 h'] 114) ∧ Chg (fun k => k = p) w w' := by
  have c0 : w.cell? ⟨p, 0, none⟩ = some (.slice ao len cap) := by simp [World.cell?, hb]
  have c1 : w.cell? ⟨p, 1, none⟩ = some (.int .i64 i) := by simp [World.cell?, hb]
  have c2 : w.cell? ⟨p, 2, none⟩ = some (.int .i64 h) := by simp [World.cell?, hb]
  have f : ∀ o, w.frozen? ⟨p, o, none⟩ = false := fun o => by simp [World.frozen?, hb]
  have hb' := hide hb
  clear hb
  go_enter Try.func130, Try.ntmps130
  go_wp2
  generalize wrap64 (wrap64 (h * 6364136223846793005) + 1442695040888963407) = h'
  go_quiet (fail)
  have hx := and255 (bits BinOp.xor IntKind.i64 (h' / 8589934592) (h' / 35184372088832))
  generalize bits BinOp.and IntKind.i64 (bits BinOp.xor IntKind.i64 (h' / 8589934592) (h' / 35184372088832)) 255 = x at *
  obtain ⟨x0, x1⟩ := hx
  go_wp2
  go_quiet (fail)
  go_wp2
  go_ret
  refine ⟨_, h', rfl, x0, x1, ?_, (by repeat (first | with_reducible exact Chg.refl _ _ | with_reducible assumption | with_reducible refine Chg.alloc ?_ _ | with_reducible refine Chg.drew ?_ | with_reducible refine Chg.drewN ?_ _ | ((with_reducible refine Chg.set ?_ ?_ _); (focus (first | exact Or.inl rfl | (right; simp; done) | (right; simp; omega)))) | with_reducible refine Chg.trans ?_ (by assumption)))⟩
  exact block_set (i := 2) hb'.out (.int .i64 h')
theorem l1Byte_any (p : Nat) (code : Value) (w : World) (hc : CurAt w p code) :
    Calls Try.prog 130 #[.pointer (some ⟨p, 0, none⟩)] w (Drawn (fun x => 0 ≤ x ∧ x ≤ 255) p code w) := by
  have hc' := hc
  obtain ⟨⟨i, h, hb, hi⟩, hcode⟩ := hc
  rcases hcode with ⟨ao, cap, rfl⟩ | ⟨b, off, len, cap, rfl, hbp, hl, hy⟩
  · refine (l1Byte_less p w ao 0 cap i h hb hi (by omega)).mono ?_
    rintro e w' ⟨x, h', rfl, x0, x1, hb2, hg⟩
    exact ⟨x, rfl, ⟨x0, x1⟩, ⟨⟨i, h', hb2, hi⟩, Or.inl ⟨ao, cap, rfl⟩⟩, hg⟩
  · by_cases hlt : i < len
    · obtain ⟨y, cy, y0, y1⟩ := hy i.toNat (by omega)
      refine (l1Byte_more p w b off len cap i h y hb hi hl hlt cy y0 y1 (by omega)).mono ?_
      rintro e w' ⟨x, h', rfl, x0, x1, hb2, hg⟩
      exact ⟨x, rfl, ⟨x0, x1⟩, ⟨⟨i + 1, h', hb2, by omega⟩, hc'.2.stays hg (Nat.le_of_lt hc'.lt) (by omega)⟩, hg⟩
    · refine (l1Byte_less p w (some ⟨b, off, none⟩) len cap i h hb hi (by omega)).mono ?_
      rintro e w' ⟨x, h', rfl, x0, x1, hb2, hg⟩
      exact ⟨x, rfl, ⟨x0, x1⟩, ⟨⟨i, h', hb2, hi⟩, hc'.2.stays hg (Nat.le_of_lt hc'.lt) (by omega)⟩, hg⟩
set_option maxHeartbeats 1000000 in
theorem l1Below_any (p : Nat) (code : Value) (n : Int) (w : World) (hc : CurAt w p code) :
    Calls Try.prog 87 #[.pointer (some ⟨p, 0, none⟩), .int .i64 n] w (Drawn (fun x => (0 < n → 0 ≤ x ∧ x < n) ∧ (n ≤ 0 → x = 0)) p code w) := by
  by_cases h0 : n ≤ 0
  · go_enter Try.func87, Try.ntmps87
    go_wp2
    go_ret
    exact ⟨0, rfl, ⟨by omega, by simp⟩, hc, Chg.refl _ _⟩
  have h1 : 0 < n := by omega
  have h2 : 1 ≤ n := by omega
  have h3 : (n == 0) = false := by simp; omega
  have h4 : decide (n ≤ 0) = false := by simp; omega
  by_cases h5 : n ≤ 256
  · go_enter Try.func87, Try.ntmps87
    go_wp2_with fail
    refine (l1Byte_any p code _ hc).mono ?_
    rintro e w1 ⟨x, rfl, ⟨x0, x1⟩, hcur, hg⟩
    go_wp2
    go_ret
    exact ⟨x % n, rfl, ⟨fun _ => ⟨Int.emod_nonneg _ (by omega), Int.emod_lt_of_pos _ h1⟩, fun h => by omega⟩, hcur, hg⟩
  · have h6 : decide (n ≤ 256) = false := by simp; omega
    have h7 : 256 < n := by omega
    go_enter Try.func87, Try.ntmps87
    go_wp2_with fail
    refine (l1Byte_any p code _ hc).mono ?_
    rintro e w1 ⟨x, rfl, ⟨x0, x1⟩, hcur1, hg1⟩
    go_wp2_with fail
    refine (l1Byte_any p code _ hcur1).mono ?_
    rintro e w2 ⟨y, rfl, ⟨y0, y1⟩, hcur2, hg2⟩
    go_wp2_with fail
    refine (l1Byte_any p code _ hcur2).mono ?_
    rintro e w3 ⟨z, rfl, ⟨z0, z1⟩, hcur3, hg3⟩
    go_wp2_with fail
    refine (l1Byte_any p code _ hcur3).mono ?_
    rintro e w4 ⟨v, rfl, ⟨v0, v1⟩, hcur4, hg4⟩
    go_wp2
    go_ret
    exact ⟨(x * 16777216 + y * 65536 + z * 256 + v) % n, rfl, ⟨fun _ => ⟨Int.emod_nonneg _ (by omega), Int.emod_lt_of_pos _ h1⟩, fun h => by omega⟩, hcur4, (hg1.trans hg2).trans (hg3.trans hg4)⟩
/-- l1Below with a positive bound. -/
theorem l1Below_pos (p : Nat) (code : Value) (n : Int) (w : World) (hn : 0 < n) (hc : CurAt w p code) :
    Calls Try.prog 87 #[.pointer (some ⟨p, 0, none⟩), .int .i64 n] w (Drawn (fun x => 0 ≤ x ∧ x < n) p code w) :=
  (l1Below_any p code n w hc).mono fun e w' ⟨x, h1, h2, h3⟩ => ⟨x, h1, h2.1 hn, h3⟩
/-- A new cursor. -/
def MadeCur (code : Value) (w : World) (e : Ending) (w' : World) : Prop :=
  ∃ h : Int, e = .returned (.pointer (some ⟨w.heap.size, 0, none⟩)) ∧ w' = w.alloc (.cells #[code, .int .i64 0, .int .i64 h] 114)
set_option maxHeartbeats 1000000 in
theorem l1New_some (w : World) (b off len cap : Nat) (hl : len ≤ 281474976710656) (hy : ∀ j : Nat, j < len → ∃ y : Int, w.cell? ⟨b, off + j, none⟩ = some (.int .u8 y) ∧ 0 ≤ y ∧ y ≤ 255) :
    Calls Try.prog 62 #[.slice (some ⟨b, off, none⟩) len cap] w (MadeCur (.slice (some ⟨b, off, none⟩) len cap) w) := by
  go_enter Try.func62, Try.ntmps62
  go_wp2
  go_loop [3, 4] (fun h i => ∃ (k : Nat) (q : Int), k ≤ len ∧ (k : Int) ≤ 4000 ∧ i = .int .i64 k ∧ h = .int .i64 q) (fun _ i => len - (intOf i).toNat)
  case atStart => exact ⟨0, _, by omega, by omega, rfl, rfl⟩
  case round =>
    obtain ⟨k, q, h1, h2, rfl, rfl⟩ := hrel
    by_cases h3 : k < len
    · by_cases h4 : (k : Int) < 4000
      · obtain ⟨y, cy, y0, y1⟩ := hy k h3
        clear hy
        go_wp2
        go_round
        case rel => exact ⟨k + 1, _, by omega, by omega, by go_num, rfl⟩
        case measure => simp [intOf]; omega
      · have h5 : decide ((k : Int) < 4000) = false := decide_eq_false h4
        clear hy
        go_wp2
        go_ret
        exact ⟨_, rfl, rfl⟩
    · obtain rfl : k = len := by omega
      clear hy
      go_wp2
      go_ret
      exact ⟨_, rfl, rfl⟩
theorem l1New_nil (ao : Option Addr) (cap : Nat) (w : World) : Calls Try.prog 62 #[.slice ao 0 cap] w (MadeCur (.slice ao 0 cap) w) := by
  go_enter Try.func62, Try.ntmps62
  go_wp2
  go_loop [3, 4] (fun h i => i = .int .i64 0 ∧ ∃ q : Int, h = .int .i64 q) (fun _ i => 0 - (intOf i).toNat)
  case atStart => exact ⟨rfl, _, rfl⟩
  case round =>
    obtain ⟨rfl, q, rfl⟩ := hrel
    go_wp2
    go_ret
    exact ⟨_, rfl, rfl⟩
/-- A cursor over the code, in a new block. -/
def GotCur (code : Value) (w : World) (e : Ending) (w' : World) : Prop :=
  e = .returned (.pointer (some ⟨w.heap.size, 0, none⟩)) ∧ CurAt w' w.heap.size code ∧ Ext w w'
theorem l1New_any (code : Value) (w : World) (hc : CodeAt w w.heap.size code) : Calls Try.prog 62 #[code] w (GotCur code w) := by
  have hk : ∀ h : Int, GotCur code w (.returned (.pointer (some ⟨w.heap.size, 0, none⟩))) (w.alloc (.cells #[code, .int .i64 0, .int .i64 h] 114)) := fun h =>
    ⟨rfl, ⟨⟨0, h, by show (w.heap.push _)[w.heap.size]? = _; simp, by omega⟩, hc.stays ((Ext.refl w).alloc _ |>.chg (fun _ => False)) (Nat.le_refl _) (fun _ _ h => h)⟩, (Ext.refl w).alloc _⟩
  rcases hc with ⟨ao, cap, rfl⟩ | ⟨b, off, len, cap, rfl, hb, hl, hy⟩
  · refine (l1New_nil ao cap w).mono ?_
    rintro e w' ⟨h, rfl, rfl⟩
    exact hk h
  · refine (l1New_some w b off len cap hl hy).mono ?_
    rintro e w' ⟨h, rfl, rfl⟩
    exact hk h
section
variable {H : Type} {enc : TypeId × Value → H} {P : Program}
/-- The law's argument, a slice of bytes, opened. -/
theorem open_code {w : World} {spare : Nat → Bool} {held : Bool} {r : Reach} {b0 : Nat} {t e : TypeId} {v : Value} {d : DataW H} {p : List MemPlace} (ht : P.underlying t = some (.slice e)) (he : P.underlying e = some (.int .u8)) (hC : P.cellsOf e = 1)
    (hv : Value.okWide P w r b0 t v) (h : DataW.Trod enc P w 0 spare held t v d p) :
    ∃ (ao : Option Addr) (len cap : Nat), v = .slice ao len cap ∧ (len ≤ 1048576 → CodeAt w w.heap.size (.slice ao len cap)) := by
  obtain ⟨ao, len, cap, rfl⟩ := okWide_slice ht hv
  refine ⟨ao, len, cap, rfl, fun hlen => ?_⟩
  obtain ⟨fuel, hf⟩ := h
  rcases open_ints ht he hC hf with ⟨hcs, _⟩ | ⟨a, len', cap', zs, hcs, _, hl, hm, hz, _, hcell, hwf⟩
  · simp [Value.cells] at hcs
    obtain ⟨rfl, rfl, rfl⟩ := hcs
    exact Or.inl ⟨none, 0, rfl⟩
  · simp [Value.cells] at hcs
    obtain ⟨rfl, rfl, rfl⟩ := hcs
    have hlz : len ≤ zs.length := by rw [hz]; split <;> omega
    rcases Nat.eq_zero_or_pos len with rfl | hpos
    · exact Or.inl ⟨some a, cap, rfl⟩
    · obtain ⟨b, off, rfl, hcell2⟩ := ints_at hcell (by omega)
      have h0 := hcell2 0 (by omega)
      refine Or.inr ⟨b, off, len, cap, rfl, World.block_lt_of_cell? w _ h0, by omega, fun j hj => ?_⟩
      have hj' : j < zs.length := by omega
      have e1 : zs.getD j 0 = zs[j] := by simp [List.getD, List.getElem?_eq_getElem hj']
      refine ⟨zs.getD j 0, hcell2 j hj', ?_⟩
      rw [e1]
      exact bounds_u8 (hwf (zs[j]) (List.getElem_mem hj'))
end
/-- A drawn bool. -/
def DrawnB (p : Nat) (code : Value) (w : World) (e : Ending) (w' : World) : Prop :=
  ∃ x : Bool, e = .returned (.bool x) ∧ CurAt w' p code ∧ Chg (fun k => k = p) w w'
theorem l1Once_any (p : Nat) (code : Value) (n : Int) (w : World) (hc : CurAt w p code) :
    Calls Try.prog 92 #[.pointer (some ⟨p, 0, none⟩), .int .i64 n] w (DrawnB p code w) := by
  go_enter Try.func92, Try.ntmps92
  go_wp2_with fail
  refine (l1Below_any p code n _ hc).mono ?_
  rintro e w1 ⟨x, rfl, hx, hcur, hg⟩
  go_wp2
  go_ret
  exact ⟨_, rfl, hcur, hg⟩
set_option maxHeartbeats 1000000 in
theorem l1PickInt_any (p : Nat) (code : Value) (b off cap : Nat) (xs : List Int) (w : World) (hc : CurAt w p code) (hn : 0 < xs.length) (hm : xs.length ≤ 1000) (hb : b < w.heap.size) (hbp : b ≠ p)
    (hl : ∀ (j : Nat) (h : j < xs.length), w.cell? ⟨b, off + j, none⟩ = some (.int .i64 xs[j])) :
    Calls Try.prog 101 #[.pointer (some ⟨p, 0, none⟩), .slice (some ⟨b, off, none⟩) xs.length cap] w (Drawn (fun x => x ∈ xs) p code w) := by
  go_enter Try.func101, Try.ntmps101
  go_wp2_with fail
  refine (l1Below_pos p code _ _ (by omega) hc).mono ?_
  rintro e w1 ⟨x, rfl, ⟨x0, x1⟩, hcur, hg⟩
  have hx : x.toNat < xs.length := by omega
  have hcell : w1.cell? ⟨b, off + x.toNat, none⟩ = some (.int .i64 xs[x.toNat]) := by rw [(hg.row hb hbp).1]; exact hl _ hx
  have hmem : xs[x.toNat] ∈ xs := List.getElem_mem hx
  generalize xs[x.toNat] = y at *
  clear hl
  go_wp2
  go_ret
  exact ⟨y, rfl, hmem, hcur, hg⟩
theorem CurAt.drew {w : World} {p : Nat} {code : Value} (h : CurAt w p code) : CurAt w.drew p code := h.stays (((Ext.refl w).drew).chg (fun _ => False)) (fun _ _ h => h)
theorem new_ints {w : World} {xs : List Int} {T : TypeId} (j : Nat) (h : j < xs.length) : (w.alloc (.cells (xs.map (Value.int .i64)).toArray T)).cell? ⟨w.heap.size, 0 + j, none⟩ = some (.int .i64 xs[j]) := by
  have : (w.alloc (.cells (xs.map (Value.int .i64)).toArray T)).heap[w.heap.size]? = some (.cells (xs.map (Value.int .i64)).toArray T) := by
    show (w.heap.push _)[w.heap.size]? = _
    simp
  unfold World.cell?
  simp only [this]
  simp [h]
theorem l1PickInt_new (p : Nat) (code : Value) (xs : List Int) (T : TypeId) (w : World) (hc : CurAt w p code) (hn : 0 < xs.length) (hm : xs.length ≤ 1000) :
    Calls Try.prog 101 #[.pointer (some ⟨p, 0, none⟩), .slice (some ⟨w.heap.size, 0, none⟩) xs.length xs.length] (w.alloc (.cells (xs.map (Value.int .i64)).toArray T)) (Drawn (fun x => x ∈ xs) p code (w.alloc (.cells (xs.map (Value.int .i64)).toArray T))) :=
  l1PickInt_any p code w.heap.size 0 xs.length xs _ (hc.stays (((Ext.refl w).alloc _).chg (fun _ => False)) (fun _ _ h => h)) hn hm (by simp) (by have := hc.lt; omega) (fun j h => new_ints j h)
theorem CodeAt.up {w : World} {p q : Nat} {code : Value} (h : CodeAt w p code) (hq : p ≤ q) : CodeAt w q code := by
  rcases h with h | ⟨b, off, len, cap, h1, h2, h3, h4⟩
  · exact Or.inl h
  · exact Or.inr ⟨b, off, len, cap, h1, by omega, h3, h4⟩
theorem CodeAt.grown {w w' : World} {code : Value} (h : CodeAt w w.heap.size code) (hx : Ext w w') : CodeAt w' w'.heap.size code :=
  (h.stays (hx.chg (fun _ => False)) (Nat.le_refl _) (fun _ _ h => h)).up hx.size
/-- A drawn text: only the cursor has turned. -/
def DrawnS (Q : ByteArray → Prop) (p : Nat) (code : Value) (w : World) (e : Ending) (w' : World) : Prop :=
  ∃ x : ByteArray, e = .returned (.string x) ∧ Q x ∧ CurAt w' p code ∧ Chg (fun k => k = p) w w'
set_option maxHeartbeats 1000000 in
theorem l1Pick_any (p : Nat) (code : Value) (b off cap : Nat) (xs : List ByteArray) (w : World) (hc : CurAt w p code) (hn : 0 < xs.length) (hm : xs.length ≤ 1000) (hb : b < w.heap.size) (hbp : b ≠ p)
    (hl : ∀ (j : Nat) (h : j < xs.length), w.cell? ⟨b, off + j, none⟩ = some (.string xs[j])) :
    Calls Try.prog 120 #[.pointer (some ⟨p, 0, none⟩), .slice (some ⟨b, off, none⟩) xs.length cap] w (DrawnS (fun x => x ∈ xs) p code w) := by
  go_enter Try.func120, Try.ntmps120
  go_wp2_with fail
  refine (l1Below_pos p code _ _ (by omega) hc).mono ?_
  rintro e w1 ⟨x, rfl, ⟨x0, x1⟩, hcur, hg⟩
  have hx : x.toNat < xs.length := by omega
  have hcell : w1.cell? ⟨b, off + x.toNat, none⟩ = some (.string xs[x.toNat]) := by rw [(hg.row hb hbp).1]; exact hl _ hx
  have hmem : xs[x.toNat] ∈ xs := List.getElem_mem hx
  generalize xs[x.toNat] = y at *
  clear hl
  go_wp2
  go_ret
  exact ⟨y, rfl, hmem, hcur, hg⟩
set_option maxHeartbeats 2000000 in
theorem l4Data_any (p : Nat) (code : Value) (most : Int) (w : World) (hc : CurAt w p code) (h0 : 0 ≤ most) (h1 : most ≤ 1000) :
    Calls Try.prog 64 #[.pointer (some ⟨p, 0, none⟩), .int .i64 most] w (DrawnS (fun x => (x.size : Int) ≤ most) p code w) := by
  go_enter Try.func64, Try.ntmps64
  go_wp2_with fail
  refine (l1Below_pos p code _ _ (by omega) hc).mono ?_
  rintro e w1 ⟨n0, rfl, ⟨x0, x1⟩, hcur, hg⟩
  go_wp2_with fail
  go_loopw [5, 6] (fun s n wr => ∃ (x : ByteArray) (k : Int), s = .string x ∧ n = .int .i64 k ∧ 0 ≤ k ∧ k ≤ n0 ∧ (x.size : Int) ≤ n0 - k ∧ CurAt wr p code ∧ Chg (fun b => b = p) w wr) (fun _ n _ => (intOf n).toNat)
  case atStart => exact ⟨_, n0, rfl, rfl, x0, Int.le_refl _, by have e : ((ByteArray.mk #[]).size : Int) = 0 := rfl; omega, hcur, hg⟩
  case round =>
    obtain ⟨x, k, rfl, rfl, k0, k1, hz, hcu, hgr⟩ := hrel
    have hcl := hcu.lt
    by_cases hlt : 0 < k
    · have kx : 1 ≤ k := by omega
      have hne : wr.heap.size ≠ p := by omega
      go_wp2_with fail
      refine (l1Pick_any p code wr.heap.size 0 4 [⟨#[97]⟩, ⟨#[98]⟩, ⟨#[99]⟩, ⟨#[100]⟩] _ (hcu.stays (((Ext.refl wr).alloc (.cells #[.string ⟨#[97]⟩, .string ⟨#[98]⟩, .string ⟨#[99]⟩, .string ⟨#[100]⟩] 9)).chg (fun _ => False)) (fun _ _ h => h)) (by simp) (by simp) (by simp) hne ?_).mono ?_
      · intro j hj
        have hj4 : j < 4 := hj
        have hblk := heap_alloc_new wr (.cells #[.string ⟨#[97]⟩, .string ⟨#[98]⟩, .string ⟨#[99]⟩, .string ⟨#[100]⟩] 9)
        rw [cell_of_row _ _ _ _ _ _ hblk]
        match j, hj4 with
        | 0, _ => rfl
        | 1, _ => rfl
        | 2, _ => rfl
        | 3, _ => rfl
      rintro e2 w2 ⟨y, rfl, hy, hcu2, hg2⟩
      have hys : y.size = 1 := by
        simp only [List.mem_cons, List.not_mem_nil, or_false] at hy
        rcases hy with rfl | rfl | rfl | rfl <;> rfl
      have hsz : (x ++ y).size = x.size + y.size := ByteArray.size_append
      have hsz2 : x.size + y.size ≤ 9223372036854775807 := by omega
      have hgr2 : Chg (fun b => b = p) w w2 := (hgr.trans (((Ext.refl wr).alloc _).chg _)).trans hg2
      clear hy
      have hys' := hide hys
      have hsz' := hide hsz
      clear hys hsz
      go_wp2
      go_roundw
      case rel => exact ⟨x ++ y, k - 1, rfl, rfl, by omega, by omega, by have := hsz'.out; have := hys'.out; omega, hcu2, hgr2⟩
      case measure => simp [intOf]; omega
    · obtain rfl : k = 0 := by omega
      go_wp2
      go_ret
      exact ⟨x, rfl, by omega, hcu, hgr⟩
end
section
open Go.ChangeShapes Go.WideShapes Go.ChangeAt Go.RowKit
set_option linter.unusedSimpArgs false
set_option linter.unusedVariables false
structure Rn where
  z : Int
  b : Int
  e : Int
  xs : List Int
/-- What is known of a drawn ring: ahead of the last change, and behind it. -/
structure RnOk (m : Int) (r : Rn) : Prop where
  len : r.xs.length ≤ 64
  z0 : 0 ≤ r.z
  z1 : r.z ≤ 128
  b0 : 0 ≤ r.b
  be : r.b ≤ r.e
  em : r.e ≤ m
structure RnAny (r : Rn) : Prop where
  len : r.xs.length ≤ 64
  z0 : 0 ≤ r.z
  z1 : r.z ≤ 128
  b0 : 0 ≤ r.b
  b1 : r.b ≤ 100
  e0 : -1 ≤ r.e
  e1 : r.e ≤ 4611686018427387904
theorem RnOk.any {m : Int} {r : Rn} (h : RnOk m r) (hm : m ≤ 100) : RnAny r := by
  obtain ⟨h1, h2, h3, h4, h5, h6⟩ := h
  exact ⟨h1, h2, h3, h4, by omega, by omega, by omega⟩
theorem RnOk.mono {m m' : Int} {r : Rn} (h : RnOk m r) (k : m ≤ m') : RnOk m' r := ⟨h.len, h.z0, h.z1, h.b0, h.be, Int.le_trans h.em k⟩
def wrR (r : Rn) (d : ByteArray) : Rn := ⟨r.z, r.b, r.e + (writeM r.z r.b r.e d r.xs : Nat), setN r.xs r.z r.e (byteAt d) (writeM r.z r.b r.e d r.xs)⟩
theorem writeM_eq (z b e : Int) (d : ByteArray) (xs : List Int) : (writeM z b e d xs : Int) = min (d.size : Int) (roomOf z b e xs) := by
  have := roomOf_bd z b e xs
  unfold writeM
  omega
theorem CurAt.ext {w w' : World} {p : Nat} {code : Value} (h : CurAt w p code) (hx : Ext w w') : CurAt w' p code := h.stays (hx.chg (fun _ => False)) (fun _ _ h => h)
/-- A ring's box, and its cells in memory from L on, not in the box. -/
def RingAt (L B : Nat) (m : Int) (w : World) : Prop :=
  ∃ (q : Rn) (ao : Option Addr) (cap lo hi : Nat), RnOk m q ∧ BoxV B w [.int .i64 q.z, .int .i64 q.b, .int .i64 q.e, .slice ao q.xs.length cap] ∧ OwnS lo hi w ao q.xs ∧ L ≤ lo ∧ (hi ≤ B ∨ B < lo) ∧ hi ≤ w.heap.size
theorem RingAt.chg {S : Nat → Prop} {L B : Nat} {m : Int} {w w' : World} (h : RingAt L B m w) (hx : Chg S w w') (hB : ¬ S B) (hS : ∀ b, L ≤ b → b ≠ B → ¬ S b) : RingAt L B m w' := by
  obtain ⟨q, ao, cap, lo, hi, h1, h2, h3, h4, h5, h6⟩ := h
  exact ⟨q, ao, cap, lo, hi, h1, h2.chg hx hB, h3.chg hx (fun b b1 b2 => hS b (by omega) (by omega)), h4, h5, Nat.le_trans h6 hx.size⟩
theorem RingAt.mono {L B : Nat} {m m' : Int} {w : World} (h : RingAt L B m w) (k : m ≤ m') : RingAt L B m' w := by
  obtain ⟨q, ao, cap, lo, hi, h1, h2⟩ := h
  exact ⟨q, ao, cap, lo, hi, h1.mono k, h2⟩
/-- What turns as a ring is drawn: the cursor and the ring's box. -/
def CurBox (p B : Nat) (u v : World) : Prop := Chg (fun k => k = p ∨ k = B) u v
theorem CurBox.refl (p B : Nat) (u : World) : CurBox p B u u := Chg.refl _ _
theorem CurBox.trans (p B : Nat) (u v w : World) (h : CurBox p B u v) (k : CurBox p B v w) : CurBox p B u w := Chg.trans h k
theorem CurBox.of {p B : Nat} {u v : World} (h : Chg (fun k => k = p) u v) : CurBox p B u v := Chg.mono h (fun _ _ h => Or.inl h)
theorem CurBox.ext {p B : Nat} {u v : World} (h : Ext u v) : CurBox p B u v := h.chg _
end
section
open Go.ChangeShapes Go.WideShapes Go.ChangeAt Go.RowKit
set_option linter.unusedSimpArgs false
/-- Are two rings equal? -/
def ringEq (z b e z2 b2 e2 : Int) (xs ys : List Int) : Bool := z == z2 && (b == b2 && (e == e2 && decide (xs = ys)))
set_option maxHeartbeats 1000000 in
theorem EqualRings_spec (z b e z2 b2 e2 : Int) (ao bo : Option Addr) (n m ca cb : Nat) (xs ys : List Int) (w : World) (hx : ReadS w ao xs) (hy : ReadS w bo ys) (hn : xs.length = n) (hm : ys.length = m) (hl : (n : Int) ≤ 9223372036854775807) :
    Calls Try.prog 70 #[.agg #[.int .i64 z, .int .i64 b, .int .i64 e, .slice ao n ca], .agg #[.int .i64 z2, .int .i64 b2, .int .i64 e2, .slice bo m cb]] w fun en w' => en = .returned (.bool (ringEq z b e z2 b2 e2 xs ys)) ∧ Ext w w' := by
  by_cases hz : z = z2
  · -- equal
    have hze : (z == z2) = true := by simp [hz]
    have hzn : (z != z2) = false := by simp [hz]
    have hzH := hide hz
    clear hz
    by_cases hb : b = b2
    · -- equal
      have hbe : (b == b2) = true := by simp [hb]
      have hbn : (b != b2) = false := by simp [hb]
      have hbH := hide hb
      clear hb
      by_cases he : e = e2
      · -- equal
        have hee : (e == e2) = true := by simp [he]
        have hen : (e != e2) = false := by simp [he]
        have heH := hide he
        clear he
        by_cases hl : (n : Int) = (m : Int)
        · -- equal
          have hle : ((n : Int) == (m : Int)) = true := by simp [hl]
          have hln : ((n : Int) != (m : Int)) = false := by simp [hl]
          have hlH := hide hl
          clear hl
          obtain rfl : n = m := Int.ofNat_inj.1 hlH.out
          clear hlH
          rcases Nat.eq_zero_or_pos n with rfl | hpos
          · obtain rfl : xs = [] := List.eq_nil_of_length_eq_zero hn
            obtain rfl : ys = [] := List.eq_nil_of_length_eq_zero hm
            clear hx hy hn hm
            go_enter Try.func70, Try.ntmps70
            go_wp2
            go_loop [5] (fun i => i = .int .i64 0) (fun _ => 0)
            case atStart => rfl
            case round =>
              obtain rfl := hrel
              go_wp2
              go_ret
              exact ⟨by simp [ringEq, *], (by repeat (first | with_reducible exact Ext.refl _ | with_reducible assumption | with_reducible refine Ext.alloc ?_ _ | with_reducible refine Ext.drew ?_ | with_reducible refine Ext.drewN ?_ _ | ((with_reducible refine Ext.set ?_ ?_ _); (focus (first | (simp; done) | (simp; omega)))) | with_reducible refine Ext.trans ?_ (by assumption)))⟩
          · rcases hx with rfl | ⟨ba, off, rfl, hx⟩
            · simp at hn; omega
            rcases hy with rfl | ⟨bb, off2, rfl, hy⟩
            · simp at hm; omega
            rw [hn] at hx
            rw [hm] at hy
            have la : ba < w.heap.size := World.block_lt_of_cell? w _ (hx 0 hpos)
            have lb : bb < w.heap.size := World.block_lt_of_cell? w _ (hy 0 hpos)
            have hn' := hide hn
            have hm' := hide hm
            clear hn hm
            go_enter Try.func70, Try.ntmps70
            go_wp2
            go_loopw [5] (fun i wr => ∃ k q : Nat, i = .int .i64 k ∧ k ≤ n ∧ xs.take k = ys.take k ∧ wr = ((w.alloc (.cells #[.int .i64 z, .int .i64 b, .int .i64 e, .slice (some ⟨ba, off, none⟩) n ca] 29)).alloc (.cells #[.int .i64 z2, .int .i64 b2, .int .i64 e2, .slice (some ⟨bb, off2, none⟩) n cb] 29)).drewN q) (fun i _ => n - (intOf i).toNat)
            case atStart => exact ⟨0, 0, rfl, by omega, by simp, rfl⟩
            case round =>
              obtain ⟨k, q, rfl, hk, ht, rfl⟩ := hrel
              have ht' := hide ht
              clear ht
              by_cases hlt : k < n
              · have cx := hx k hlt
                have cy := hy k hlt
                have i1 : (0 : Int) ≤ (k : Int) := by omega
                have i2 : (k : Int) < (n : Int) := by omega
                have hkx : k < xs.length := by rw [hn'.out]; exact hlt
                have hky : k < ys.length := by rw [hm'.out]; exact hlt
                clear hx hy
                by_cases he : xs.getD k 0 = ys.getD k 0
                · have e3 : (xs.getD k 0 != ys.getD k 0) = false := by rw [he]; simp
                  have hts := hide (take_succ_eq hkx hky ht'.out he)
                  clear he
                  generalize xs.getD k 0 = x at *
                  generalize ys.getD k 0 = y at *
                  go_wp2
                  go_quiet (fail)
                  go_wp2
                  go_roundw
                  case rel => exact ⟨k + 1, _, by go_num, by omega, hts.out, rfl⟩
                  case measure => simp [intOf]; omega
                · have e3 : (xs.getD k 0 != ys.getD k 0) = true := by simpa using he
                  have hne' := hide (ne_of_getD he)
                  clear he
                  generalize xs.getD k 0 = x at *
                  generalize ys.getD k 0 = y at *
                  go_wp2
                  go_quiet (fail)
                  go_wp2
                  go_ret
                  exact ⟨by simp [ringEq, hne'.out], (by repeat (first | with_reducible exact Ext.refl _ | with_reducible assumption | with_reducible refine Ext.alloc ?_ _ | with_reducible refine Ext.drew ?_ | with_reducible refine Ext.drewN ?_ _ | ((with_reducible refine Ext.set ?_ ?_ _); (focus (first | (simp; done) | (simp; omega)))) | with_reducible refine Ext.trans ?_ (by assumption)))⟩
              · obtain rfl : k = n := by omega
                have hxy' : Hid (xs = ys) := hide (by
                  have h1 := ht'.out
                  rwa [List.take_of_length_le (Nat.le_of_eq hn'.out), List.take_of_length_le (Nat.le_of_eq hm'.out)] at h1)
                clear hx hy
                go_wp2
                go_ret
                exact ⟨by simp [ringEq, hxy'.out, *], (by repeat (first | with_reducible exact Ext.refl _ | with_reducible assumption | with_reducible refine Ext.alloc ?_ _ | with_reducible refine Ext.drew ?_ | with_reducible refine Ext.drewN ?_ _ | ((with_reducible refine Ext.set ?_ ?_ _); (focus (first | (simp; done) | (simp; omega)))) | with_reducible refine Ext.trans ?_ (by assumption)))⟩
        · -- other
          have hle : ((n : Int) == (m : Int)) = false := by simp [hl]
          have hln : ((n : Int) != (m : Int)) = true := by simp [hl]
          have hlH := hide hl
          clear hl
          have hne' : Hid (¬ xs = ys) := hide (fun h => hlH.out (by rw [← hn, ← hm, h]))
          clear hn hm
          clear hx hy
          go_enter Try.func70, Try.ntmps70
          go_wp2
          go_ret
          exact ⟨by simp [ringEq, hne'.out], (by repeat (first | with_reducible exact Ext.refl _ | with_reducible assumption | with_reducible refine Ext.alloc ?_ _ | with_reducible refine Ext.drew ?_ | with_reducible refine Ext.drewN ?_ _ | ((with_reducible refine Ext.set ?_ ?_ _); (focus (first | (simp; done) | (simp; omega)))) | with_reducible refine Ext.trans ?_ (by assumption)))⟩
      · -- other
        have hee : (e == e2) = false := by simp [he]
        have hen : (e != e2) = true := by simp [he]
        have heH := hide he
        clear he
        clear hx hy
        go_enter Try.func70, Try.ntmps70
        go_wp2
        go_ret
        exact ⟨by simp [ringEq, *], (by repeat (first | with_reducible exact Ext.refl _ | with_reducible assumption | with_reducible refine Ext.alloc ?_ _ | with_reducible refine Ext.drew ?_ | with_reducible refine Ext.drewN ?_ _ | ((with_reducible refine Ext.set ?_ ?_ _); (focus (first | (simp; done) | (simp; omega)))) | with_reducible refine Ext.trans ?_ (by assumption)))⟩
    · -- other
      have hbe : (b == b2) = false := by simp [hb]
      have hbn : (b != b2) = true := by simp [hb]
      have hbH := hide hb
      clear hb
      clear hx hy
      go_enter Try.func70, Try.ntmps70
      go_wp2
      go_ret
      exact ⟨by simp [ringEq, *], (by repeat (first | with_reducible exact Ext.refl _ | with_reducible assumption | with_reducible refine Ext.alloc ?_ _ | with_reducible refine Ext.drew ?_ | with_reducible refine Ext.drewN ?_ _ | ((with_reducible refine Ext.set ?_ ?_ _); (focus (first | (simp; done) | (simp; omega)))) | with_reducible refine Ext.trans ?_ (by assumption)))⟩
  · -- other
    have hze : (z == z2) = false := by simp [hz]
    have hzn : (z != z2) = true := by simp [hz]
    have hzH := hide hz
    clear hz
    clear hx hy
    go_enter Try.func70, Try.ntmps70
    go_wp2
    go_ret
    exact ⟨by simp [ringEq, *], (by repeat (first | with_reducible exact Ext.refl _ | with_reducible assumption | with_reducible refine Ext.alloc ?_ _ | with_reducible refine Ext.drew ?_ | with_reducible refine Ext.drewN ?_ _ | ((with_reducible refine Ext.set ?_ ?_ _); (focus (first | (simp; done) | (simp; omega)))) | with_reducible refine Ext.trans ?_ (by assumption)))⟩
end
section
open Go.ChangeShapes Go.WideShapes Go.ChangeAt Go.RowKit
set_option linter.unusedSimpArgs false
set_option linter.unusedVariables false
theorem big_any (ao : Option Addr) (len cap : Nat) (w : World) : Calls Try.prog 14 #[.slice ao len cap] w fun e w' => e = .returned (.bool (decide (1048576 < (len : Int)))) ∧ w = w' := by
  go_enter Try.func14, Try.ntmps14
  go_wp2
  go_ret
  simp
def pkOk (r : Rn) (o n : Int) : Bool := peekOk r.z r.b r.e o n r.xs
def pkS (r : Rn) (o n : Int) : ByteArray := if pkOk r o n = true then peekS r.xs r.z o n.toNat else ⟨#[]⟩
theorem pk_v (r : Rn) (o n : Int) : peekV r.z r.b r.e o n r.xs = .tuple #[.string (pkS r o n), .bool (pkOk r o n)] := by
  have hd : pkOk r o n = peekOk r.z r.b r.e o n r.xs := rfl
  unfold peekV pkS
  rw [hd]
  cases peekOk r.z r.b r.e o n r.xs <;> rfl
theorem RnAny.wr {r : Rn} (h : RnAny r) {d : ByteArray} (hd : (d.size : Int) ≤ 9) : (wrR r d).xs.length ≤ 64 ∧ (wrR r d).e ≤ 4611686018427387913 ∧ -1 ≤ (wrR r d).e := by
  have := writeM_eq r.z r.b r.e d r.xs
  have h1 := h.e0
  have h2 := h.e1
  have h3 := roomOf_bd r.z r.b r.e r.xs
  refine ⟨by show (setN _ _ _ _ _).length ≤ 64; rw [setN_length]; exact h.len, ?_, ?_⟩
  · show r.e + _ ≤ _
    omega
  · show _ ≤ r.e + _
    omega
theorem pk_spec (r : Rn) (o n : Int) (ao : Option Addr) (ca : Nat) (w : World) (hx : ReadS w ao r.xs) (hl : r.xs.length ≤ 64) (he : r.e ≤ 9223372036854775807) :
    Calls Try.prog 46 #[.agg #[.int .i64 r.z, .int .i64 r.b, .int .i64 r.e, .slice ao r.xs.length ca], .int .i64 o, .int .i64 n] w fun en w' => en = .returned (.tuple #[.string (pkS r o n), .bool (pkOk r o n)]) ∧ Ext w w' := by
  have h := PeekRing_spec r.z r.b r.e o n ao _ ca r.xs w hx rfl (by omega) he
  rw [pk_v] at h
  exact h
end
section
open Go.ChangeShapes Go.WideShapes Go.ChangeAt Go.RowKit
set_option linter.unusedSimpArgs false
set_option linter.unusedVariables false
theorem remK_succ {xs : List Rg} {r : Rg} {k : Nat} (hk : k < xs.length) : remRec r (xs.take (k + 1)) = remRec r (xs.take k) ++ remOne r (xs.getD k dr) := by
  rw [takeR_succ xs hk]
  simp [remRec]
theorem remR_yes {xs : List Rg} {r : Rg} (h : isRgs xs = true) (hr : rgFine r = true) : remR xs r = remRec r xs := if_pos ⟨h, hr⟩
theorem rgs_at {xs : List Rg} (h : isRgs xs = true) {k : Nat} (hk : k < xs.length) : 0 ≤ (xs.getD k dr).1 ∧ (xs.getD k dr).1 < (xs.getD k dr).2 ∧ (xs.getD k dr).2 ≤ 4611686018427387903 := by
  refine rgFine_bd (rgs_fine h _ ?_)
  rw [List.getD, List.getElem?_eq_getElem hk]
  exact List.getElem_mem hk
end
end Go.Proofs.Ytjhgcbchdnoleaa

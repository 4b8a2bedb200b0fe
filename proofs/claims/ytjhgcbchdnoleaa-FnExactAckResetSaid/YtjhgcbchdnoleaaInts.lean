/-
  Slices of ints: what they hold (ReadS, OwnS), and contracts of the laws' helpers on them: szIntS, eqIntS, heldIntS, markIntS, toIntS. Conditions: the slices can be read (for markIntS: written).
-/
import Derived.Test.YtjhgcbchdnoleaaLawKit
import Derived.Test.YtjhgcbchdnoleaaChg
import Derived.Deep.QuietTactic
import Derived.BigQuiet
import Derived.LoopTactic
import Derived.Deep.OwnRows
namespace Go.Proofs.Ytjhgcbchdnoleaa
open Go.ChangeShapes Go.WideShapes Go.ChangeAt Go.RowKit
set_option linter.unusedSimpArgs false
set_option linter.unusedVariables false

/-- The slice's first cells hold xs. -/
def ReadS (w : World) (ao : Option Addr) (xs : List Int) : Prop :=
  xs = [] ∨ ∃ b off : Nat, ao = some ⟨b, off, none⟩ ∧ ∀ j : Nat, j < xs.length → w.cell? ⟨b, off + j, none⟩ = some (.int .i64 (xs.getD j 0))
/-- Likewise, in a block from lo up to hi, which may be written. -/
def OwnS (lo hi : Nat) (w : World) (ao : Option Addr) (xs : List Int) : Prop :=
  xs = [] ∨ ∃ b off : Nat, ao = some ⟨b, off, none⟩ ∧ lo ≤ b ∧ b < hi ∧ (∀ o, w.frozen? ⟨b, o, none⟩ = false) ∧ ∀ j : Nat, j < xs.length → w.cell? ⟨b, off + j, none⟩ = some (.int .i64 (xs.getD j 0))
theorem OwnS.read {lo hi : Nat} {w : World} {ao : Option Addr} {xs : List Int} (h : OwnS lo hi w ao xs) : ReadS w ao xs := by
  rcases h with h | ⟨b, off, h1, _, _, _, h2⟩
  · exact Or.inl h
  · exact Or.inr ⟨b, off, h1, h2⟩
theorem ReadS.ext {w w' : World} {ao : Option Addr} {xs : List Int} (h : ReadS w ao xs) (hx : Ext w w') : ReadS w' ao xs := by
  rcases h with h | ⟨b, off, h1, h2⟩
  · exact Or.inl h
  · refine Or.inr ⟨b, off, h1, fun j hj => ?_⟩
    have := h2 j hj
    rw [(hx.row (World.block_lt_of_cell? w _ this)).1]
    exact this
theorem OwnS.chg {lo hi : Nat} {S : Nat → Prop} {w w' : World} {ao : Option Addr} {xs : List Int} (h : OwnS lo hi w ao xs) (hx : Chg S w w') (hS : ∀ b, lo ≤ b → b < hi → ¬ S b) : OwnS lo hi w' ao xs := by
  rcases h with h | ⟨b, off, h1, h2, h3, h4, h5⟩
  · exact Or.inl h
  · rcases xs with _ | ⟨x, xs⟩
    · exact Or.inl rfl
    · have hb := World.block_lt_of_cell? w _ (h5 0 (by simp))
      obtain ⟨r1, r2⟩ := hx.row hb (hS b h2 h3)
      exact Or.inr ⟨b, off, h1, h2, h3, fun o => by rw [r2]; exact h4 o, fun j hj => by rw [r1]; exact h5 j hj⟩

theorem OwnS.mono {lo hi lo' hi' : Nat} {w : World} {ao : Option Addr} {xs : List Int} (h : OwnS lo hi w ao xs) (h1 : lo' ≤ lo) (h2 : hi ≤ hi') : OwnS lo' hi' w ao xs := by
  rcases h with h | ⟨b, off, k1, k2, k3, k4, k5⟩
  · exact Or.inl h
  · exact Or.inr ⟨b, off, k1, Nat.le_trans h1 k2, Nat.lt_of_lt_of_le k3 h2, k4, k5⟩
theorem cell_set_other {w : World} {b o1 o2 : Nat} {v : Value} (h : o1 ≠ o2) : (w.setCell ⟨b, o1, none⟩ v).cell? ⟨b, o2, none⟩ = w.cell? ⟨b, o2, none⟩ :=
  World.cell?_setCell_other w ⟨b, o1, none⟩ ⟨b, o2, none⟩ v (fun e => h (by injection e))
theorem szIntS_any (ao : Option Addr) (len cap : Nat) (left : Int) (w : World) (hl : (len : Int) ≤ 9223372036854775807) (h0 : 0 ≤ left) (h1 : left ≤ 1048576) :
    Calls Try.prog 108 #[.slice ao len cap, .int .i64 left] w fun e w' => e = .returned (.int .i64 (if left < len then -1 else left - len)) ∧ w = w' := by
  by_cases h : left < len
  · go_enter Try.func108, Try.ntmps108
    go_wp2
    all_goals go_ret
    all_goals (simp [h]; try omega)
  · go_enter Try.func108, Try.ntmps108
    go_wp2
    all_goals go_ret
    all_goals (simp [h]; try omega)

theorem take_succ_getD (xs : List Int) {k : Nat} (hk : k < xs.length) : xs.take (k + 1) = xs.take k ++ [xs.getD k 0] := by
  rw [List.take_succ_eq_append_getElem hk]; simp [List.getD, List.getElem?_eq_getElem hk]
theorem take_succ_eq {xs ys : List Int} {k : Nat} (hk : k < xs.length) (hk2 : k < ys.length) (h : xs.take k = ys.take k) (e : xs.getD k 0 = ys.getD k 0) : xs.take (k + 1) = ys.take (k + 1) := by
  rw [take_succ_getD xs hk, take_succ_getD ys hk2, h, e]
theorem ne_of_getD {xs ys : List Int} {k : Nat} (e : ¬ xs.getD k 0 = ys.getD k 0) : ¬ xs = ys := fun h => e (by rw [h])
set_option maxHeartbeats 1000000 in
theorem eqIntS_any (ao bo : Option Addr) (n m ca cb : Nat) (xs ys : List Int) (w : World) (hx : ReadS w ao xs) (hy : ReadS w bo ys) (hn : xs.length = n) (hm : ys.length = m) (hl : (n : Int) ≤ 9223372036854775807) :
    Calls Try.prog 115 #[.slice ao n ca, .slice bo m cb] w fun e w' => e = .returned (.bool (decide (xs = ys))) ∧ Ext w w' := by
  by_cases hlen : n = m
  · subst hlen
    rcases Nat.eq_zero_or_pos n with rfl | hpos
    · obtain rfl : xs = [] := List.eq_nil_of_length_eq_zero hn
      obtain rfl : ys = [] := List.eq_nil_of_length_eq_zero hm
      clear hx hy hn hm
      go_enter Try.func115, Try.ntmps115
      go_wp2
      go_loop [5] (fun i => i = .int .i64 0) (fun _ => 0)
      case atStart => rfl
      case round =>
        obtain rfl := hrel
        go_wp2
        go_ret
        exact ⟨by simp, Ext.refl _⟩
    · rcases hx with rfl | ⟨b, off, rfl, hx⟩
      · simp at hn; omega
      rcases hy with rfl | ⟨b2, off2, rfl, hy⟩
      · simp at hm; omega
      rw [hn] at hx
      rw [hm] at hy
      have hn' := hide hn
      have hm' := hide hm
      clear hn hm
      go_enter Try.func115, Try.ntmps115
      go_wp2
      go_loopw [5] (fun i wr => ∃ k q : Nat, i = .int .i64 k ∧ k ≤ n ∧ xs.take k = ys.take k ∧ wr = w.drewN q) (fun i _ => n - (intOf i).toNat)
      case atStart => exact ⟨0, 0, rfl, by omega, by simp, rfl⟩
      case round =>
        obtain ⟨k, q, rfl, hk, ht, rfl⟩ := hrel
        have ht' := hide ht
        clear ht
        by_cases hlt : k < n
        · have cx := hx k hlt
          have cy := hy k hlt
          have i1 : (0 : Int) ≤ (k : Int) := by omega
          have i2 : (k : Int) < (n : Int) := by omega
          have hkx : k < xs.length := by rw [hn'.out]; exact hlt
          have hky : k < ys.length := by rw [hm'.out]; exact hlt
          clear hx hy
          by_cases he : xs.getD k 0 = ys.getD k 0
          · have e3 : (xs.getD k 0 != ys.getD k 0) = false := by rw [he]; simp
            have hts := hide (take_succ_eq hkx hky ht'.out he)
            clear he
            generalize xs.getD k 0 = x at *
            generalize ys.getD k 0 = y at *
            go_wp2
            go_quiet (fail)
            go_wp2
            go_roundw
            case rel => exact ⟨k + 1, _, by go_num, by omega, hts.out, rfl⟩
            case measure => simp [intOf]; omega
          · have e3 : (xs.getD k 0 != ys.getD k 0) = true := by simpa using he
            have hne' := hide (ne_of_getD he)
            clear he
            generalize xs.getD k 0 = x at *
            generalize ys.getD k 0 = y at *
            go_wp2
            go_quiet (fail)
            go_wp2
            go_ret
            exact ⟨by simp [hne'.out], by repeat (first | exact Ext.refl _ | refine Ext.drewN ?_ _)⟩
        · obtain rfl : k = n := by omega
          have hxy' : Hid (xs = ys) := hide (by
            have h1 := ht'.out
            rwa [List.take_of_length_le (Nat.le_of_eq hn'.out), List.take_of_length_le (Nat.le_of_eq hm'.out)] at h1)
          clear hx hy
          go_wp2
          go_ret
          exact ⟨by simp [hxy'.out], by repeat (first | exact Ext.refl _ | refine Ext.drewN ?_ _)⟩
  · have e1 : ((n : Int) == (m : Int)) = false := by simp; omega
    have e2 : ((n : Int) != (m : Int)) = true := by simp; omega
    have hne' : Hid (¬ xs = ys) := hide (fun h => hlen (by rw [← hn, ← hm, h]))
    clear hlen hn hm
    go_enter Try.func115, Try.ntmps115
    go_wp2
    go_ret
    exact ⟨by simp [hne'.out], Ext.refl _⟩
/-- k, k + 1, .. -/
def marks (k : Int) (n : Nat) : List Int := (List.range n).map fun i : Nat => k + (i : Int)
theorem marks_length (k : Int) (n : Nat) : (marks k n).length = n := by simp [marks]
theorem marks_getD (k : Int) (n j : Nat) (h : j < n) : (marks k n).getD j 0 = k + (j : Int) := by
  simp [marks, List.getD, List.getElem?_map, List.getElem?_range h]
set_option maxHeartbeats 1000000 in
theorem heldIntS_any (ao : Option Addr) (n cap : Nat) (k0 : Int) (w : World) (hx : ReadS w ao (marks k0 n)) (hl : n ≤ 4611686018427387904) (h0 : 0 ≤ k0) (h1 : k0 ≤ 2305843009213693952) :
    Calls Try.prog 118 #[.slice ao n cap, .int .i64 k0] w fun e w' => e = .returned (.int .i64 (k0 + n)) ∧ w = w' := by
  have hl' : (n : Int) ≤ 4611686018427387904 := by omega
  clear hl
  rcases Nat.eq_zero_or_pos n with rfl | hpos
  · clear hx
    go_enter Try.func118, Try.ntmps118
    go_wp2
    go_loop [1, 5] (fun q i => i = .int .i64 0 ∧ q = .int .i64 k0) (fun _ _ => 0)
    case atStart => exact ⟨rfl, rfl⟩
    case round =>
      obtain ⟨rfl, rfl⟩ := hrel
      go_wp2
      go_ret
      exact ⟨by simp, rfl⟩
  · rcases hx with hx | ⟨b, off, rfl, hx⟩
    · have := congrArg List.length hx; rw [marks_length] at this; simp at this; omega
    rw [marks_length] at hx
    go_enter Try.func118, Try.ntmps118
    go_wp2
    go_loop [1, 5] (fun q i => ∃ k : Nat, i = .int .i64 k ∧ k ≤ n ∧ q = .int .i64 (k0 + k)) (fun _ i => n - (intOf i).toNat)
    case atStart => exact ⟨0, rfl, by omega, by simp⟩
    case round =>
      obtain ⟨k, rfl, hk, rfl⟩ := hrel
      by_cases hlt : k < n
      · have cx := hx k hlt
        rw [marks_getD k0 n k hlt] at cx
        have i1 : (0 : Int) ≤ (k : Int) := by omega
        have i2 : (k : Int) < (n : Int) := by omega
        clear hx
        go_wp2
        go_round
        case rel => exact ⟨k + 1, by go_num, by omega, by congr 1; omega⟩
        case measure => simp [intOf]; omega
      · obtain rfl : k = n := by omega
        clear hx
        go_wp2
        go_ret
        exact ⟨rfl, rfl⟩
/-- What markIntS leaves. -/
def Marked (lo hi : Nat) (ao : Option Addr) (k0 : Int) (n : Nat) (w : World) (e : Ending) (w' : World) : Prop :=
  e = .returned (.int .i64 (k0 + n)) ∧ OwnS lo hi w' ao (marks k0 n) ∧ Chg (fun b => lo ≤ b ∧ b < hi) w w'
set_option maxHeartbeats 1000000 in
theorem markIntS_any (lo hi : Nat) (ao : Option Addr) (n cap : Nat) (xs : List Int) (k0 : Int) (w : World) (hx : OwnS lo hi w ao xs) (hn : xs.length = n) (hl : n ≤ 4611686018427387904) (h0 : 0 ≤ k0) (h1 : k0 ≤ 2305843009213693952) :
    Calls Try.prog 117 #[.slice ao n cap, .int .i64 k0] w (Marked lo hi ao k0 n w) := by
  have hl' : (n : Int) ≤ 4611686018427387904 := by omega
  clear hl
  rcases Nat.eq_zero_or_pos n with rfl | hpos
  · clear hx hn
    go_enter Try.func117, Try.ntmps117
    go_wp2
    go_loop [1, 5] (fun q i => i = .int .i64 0 ∧ q = .int .i64 k0) (fun _ _ => 0)
    case atStart => exact ⟨rfl, rfl⟩
    case round =>
      obtain ⟨rfl, rfl⟩ := hrel
      go_wp2
      go_ret
      exact ⟨by simp, Or.inl rfl, Chg.refl _ _⟩
  · rcases hx with rfl | ⟨b, off, rfl, hlo, hhi, hf, hx⟩
    · simp at hn; omega
    rw [hn] at hx
    clear hn
    have hx' := hide hx
    clear hx
    go_enter Try.func117, Try.ntmps117
    go_wp2
    go_loopw [1, 5] (fun q i wr => ∃ k : Nat, i = .int .i64 k ∧ k ≤ n ∧ q = .int .i64 (k0 + k) ∧ (∀ o, wr.frozen? ⟨b, o, none⟩ = false) ∧ Hid (∀ j : Nat, j < n → wr.cell? ⟨b, off + j, none⟩ = some (.int .i64 (if j < k then k0 + j else xs.getD j 0))) ∧ Chg (fun b' => b' = b) w wr) (fun _ i _ => n - (intOf i).toNat)
    case atStart => exact ⟨0, rfl, by omega, by simp, hf, hide (fun j hj => by rw [if_neg (by omega)]; exact hx'.out j hj), Chg.refl _ _⟩
    case round =>
      obtain ⟨k, rfl, hk, rfl, hfr, hcells, hg⟩ := hrel
      by_cases hlt : k < n
      · have cx := hcells.out k hlt
        have i1 : (0 : Int) ≤ (k : Int) := by omega
        have i2 : (k : Int) < (n : Int) := by omega
        rw [if_neg (by omega)] at cx
        go_wp2
        go_roundw
        case rel =>
          refine ⟨k + 1, by go_num, by omega, by congr 1; omega, fun o => ?_, hide (fun j hj => ?_), Chg.set (S := fun b' => b' = b) (Or.inl rfl) hg _⟩
          · rw [World.frozen?_setCell]; exact hfr o
          · by_cases hjk : j = k
            · subst hjk
              rw [World.cell?_setCell_same' _ _ _ (by rw [cx]; rfl), if_pos (by omega)]
            · rw [cell_set_other (by omega)]
              rw [hcells.out j hj]
              congr 3
              exact propext ⟨fun h => by omega, fun h => by omega⟩
        case measure => simp [intOf]; omega
      · obtain rfl : k = n := by omega
        go_wp2
        go_ret
        refine ⟨rfl, Or.inr ⟨b, off, rfl, hlo, hhi, hfr, fun j hj => ?_⟩, hg.mono fun k _ h => by subst h; exact ⟨hlo, hhi⟩⟩
        rw [marks_length] at hj
        rw [hcells.out j hj, if_pos hj, marks_getD _ _ _ hj]
/-- A new slice that holds xs. -/
def NewInts (xs : List Int) (w : World) (e : Ending) (w' : World) : Prop :=
  ∃ (ao : Option Addr) (cap : Nat), e = .returned (.slice ao xs.length cap) ∧ OwnS w.heap.size w'.heap.size w' ao xs ∧ Ext w w'
theorem infoInt : (Try.prog.info? 3).map (fun i => (i.zero, i.size, i.bytes)) = some (some (.int .i64 0), 1, 8) := by kernel_rfl
theorem toIntS_nil (ao : Option Addr) (cap : Nat) (w : World) : Calls Try.prog 111 #[.slice ao 0 cap] w (NewInts [] w) := by
  have hmk : ∀ w, (Instr.makeSlice 22 (.int .i64 0) (.int .i64 0)).run Try.prog w = .ok (.slice (some ⟨w.heap.size, 0, none⟩) 0 0) (w.alloc (.cells (madeCells #[.int .i64 0] 0) 3)) :=
    run_make_row' (P := Try.prog) 22 3 (.int .i64 0) 8 Try.underlying22 infoInt rfl .i64 .i64 0 (by omega) (by omega)
  go_enter Try.func111, Try.ntmps111
  go_wp2
  go_loop [4] (fun i => i = .int .i64 0) (fun _ => 0)
  case atStart => rfl
  case round =>
    obtain rfl := hrel
    go_wp2
    go_ret
    exact ⟨_, _, rfl, Or.inl rfl, (Ext.refl _).alloc _⟩
set_option maxHeartbeats 1000000 in
theorem toIntS_any (ao : Option Addr) (n cap : Nat) (xs : List Int) (w : World) (hx : ReadS w ao xs) (hn : xs.length = n) (hl : n ≤ 4194304) :
    Calls Try.prog 111 #[.slice ao n cap] w (NewInts xs w) := by
  rcases Nat.eq_zero_or_pos n with rfl | hpos
  · obtain rfl : xs = [] := List.eq_nil_of_length_eq_zero hn
    exact toIntS_nil ao cap w
  · rcases hx with rfl | ⟨b, off, rfl, hx⟩
    · simp at hn; omega
    have hmk := run_make_row' (P := Try.prog) 22 3 (.int .i64 0) 8 Try.underlying22 infoInt rfl .i64 .i64 n (by omega) (by omega)
    have hb : b < w.heap.size := World.block_lt_of_cell? w _ (hx 0 (by omega))
    rw [hn] at hx
    have hn' := hide hn
    clear hn
    have hl' : (n : Int) ≤ 4194304 := by omega
    clear hl
    have hx' := hide hx
    clear hx
    go_enter Try.func111, Try.ntmps111
    go_wp2
    go_loopw [4] (fun i wr => ∃ k : Nat, i = .int .i64 k ∧ k ≤ n ∧ (∀ o, wr.frozen? ⟨w.heap.size, o, none⟩ = false) ∧ Hid (∀ j : Nat, j < n → wr.cell? ⟨w.heap.size, j, none⟩ = some (.int .i64 (if j < k then xs.getD j 0 else 0))) ∧ Ext w wr ∧ w.heap.size < wr.heap.size) (fun i _ => n - (intOf i).toNat)
    case atStart =>
      refine ⟨0, rfl, by omega, fun o => by simp, hide (fun j hj => ?_), (Ext.refl _).alloc _, by simp⟩
      rw [World.cell?_alloc_at _ _ _ _ rfl, if_neg (by omega), ← Array.getElem?_toList, toList_madeCells_one]
      simp [hj]
    case round =>
      obtain ⟨k, rfl, hk, hfr, hcells, hg, hsz⟩ := hrel
      by_cases hlt : k < n
      · have cx := hcells.out k hlt
        have cs := hx'.out k hlt
        rw [if_neg (by omega)] at cx
        have cs' : wr.cell? ⟨b, off + k, none⟩ = some (.int .i64 (xs.getD k 0)) := by rw [(hg.row hb).1]; exact cs
        clear cs
        have i1 : (0 : Int) ≤ (k : Int) := by omega
        have i2 : (k : Int) < (n : Int) := by omega
        go_wp2
        go_roundw
        case rel =>
          refine ⟨k + 1, by go_num, by omega, fun o => ?_, hide (fun j hj => ?_), Ext.set (by simp) hg _, by simpa [World.setCell] using hsz⟩
          · rw [World.frozen?_setCell]; exact hfr o
          · by_cases hjk : j = k
            · subst hjk
              rw [World.cell?_setCell_same' _ _ _ (by rw [cx]; rfl), if_pos (by omega)]
              simp
            · rw [cell_set_other (by omega)]
              rw [hcells.out j hj]
              congr 3
              exact propext ⟨fun h => by omega, fun h => by omega⟩
        case measure => simp [intOf]; omega
      · obtain rfl : k = n := by omega
        go_wp2
        go_ret
        refine ⟨some ⟨w.heap.size, 0, none⟩, k, by simp [hn'.out], Or.inr ⟨w.heap.size, 0, rfl, Nat.le_refl _, hsz, hfr, fun j hj => ?_⟩, hg⟩
        rw [hn'.out] at hj
        rw [Nat.zero_add, hcells.out j hj, if_pos hj]
end Go.Proofs.Ytjhgcbchdnoleaa

/-
  Part of the proof: Peek.
-/
import Derived.Deep.RegionHeld3
import Derived.Deep.AppendLies
import Derived.Test.YtjhgcbchdnoleaaPG3
namespace Go.Proofs.Ytjhgcbchdnoleaa
section
open Go.ChangeShapes Go.WideShapes Go.ChangeAt Go.RowKit
set_option linter.unusedSimpArgs false
/-- The bytes of a look into a ring, as cells. -/
def peekC (xs : List Int) (z o : Int) (k : Nat) : List Value := (List.range k).map fun i => .int .u8 (cellAt xs z o i)
theorem peekC_succ (xs : List Int) (z o : Int) (k : Nat) : peekC xs z o k ++ [.int .u8 (cellAt xs z o k)] = peekC xs z o (k + 1) := by
  simp [peekC, List.range_succ]
theorem peek_string {w : World} {base : Nat} {v : Value} {xs : List Int} {z o : Int} {k : Nat} (hown : w.ownsRow base 5 1 v k (peekC xs z o k)) (hc : ∀ j, 0 ≤ cellAt xs z o j ∧ cellAt xs z o j ≤ 255) :
    (convert 39 9 v).run Try.prog w = .ok (.string (peekS xs z o k)) w := by
  obtain ⟨_, ⟨rfl, rfl⟩ | ⟨g, cap, cur, rfl, _, hblk, hle, _, hsz, htake⟩⟩ := hown
  · rw [run_convert_bytes_string w _ _ 5 none 0 0 Try.underlying39 Try.underlying5 Try.underlying9]
    simp [Conv.bytesToString]
    rfl
  · have h := run_convert_bytes_back (P := Try.prog) w 39 9 5 ⟨g, 0, none⟩ cap (peekL xs z o k) Try.underlying39 Try.underlying5 Try.underlying9 (by
      intro j hj
      rw [peekL_length] at hj
      have hadd : (⟨g, 0, none⟩ : Addr).add j = ⟨g, j, none⟩ := by unfold Addr.add; split <;> simp_all
      rw [hadd, cell_of_row w g j cur _ _ hblk]
      have h1 := congrArg (fun l => l[j]?) htake
      simp only [Nat.mul_one, List.getElem?_take, hj, if_true] at h1
      rw [← Array.getElem?_toList, h1]
      have := hc j
      simp [peekC, peekL, hj]
      omega)
    rw [peekL_length] at h
    exact h
theorem infoU8 : (Try.prog.info? 5).map (fun i => (i.zero, i.size, i.bytes)) = some (some (.int .u8 0), 1, 1) := by kernel_rfl
set_option maxHeartbeats 2000000 in
set_option maxRecDepth 100000 in
theorem PeekRing_impl_yes (z b e o n : Int) (ao : Option Addr) (len ca : Nat) (xs : List Int) (w : World) (hx : ReadS w ao xs) (hn : xs.length = len) (hl : (len : Int) ≤ 9223372036854775807) (hR : isRing z b e xs = true) (h1 : b ≤ o) (h2 : 0 ≤ n) (h3 : o ≤ e) (h4 : n ≤ e - o) :
    Calls Try.prog 103 #[.agg #[.int .i64 z, .int .i64 b, .int .i64 e, .slice ao len ca], .int .i64 o, .int .i64 n] w fun en w' => en = .returned (.tuple #[.string (peekS xs z o n.toNat), .bool true]) ∧ Ext w w' := by
  obtain ⟨b1, b2, b3, b4, b5, b6, b7⟩ := isRing_bd hR
  have hin : inB b o e = true := inB_mk h1 h3
  go_enter Try.func103, Try.ntmps103
  go_wp2_with fail
  refine (IsRing_impl z b e ao len ca xs _ (hx.ext Ext.go) hn hl).mono ?_
  rintro en w1 ⟨rfl, hb⟩
  rw [hR]
  obtain ⟨c1, f1⟩ := hb.row (k := w.heap.size) (by simp)
  have hsz1 : w.heap.size < w1.heap.size := by have := hb.size; simp at this; omega
  go_wp2_with (go_at_call 74; refine (within_any _ _ _ _).mono ?_; rintro en w9 ⟨rfl, rfl⟩)
  have hpos : 0 < len := by omega
  rcases hx with rfl | ⟨bx, off, rfl, hx⟩
  · simp at hn; omega
  rw [hn] at hx
  have la : bx < w.heap.size := World.block_lt_of_cell? w _ (hx 0 hpos)
  have hw1 : Ext w w1 := Ext.go
  obtain ⟨i0, hi0, hz0, hz1, hz2⟩ := info_parts infoU8
  have hn' := hide hn
  clear hn
  go_loopw [8, 36] (fun s i wr => ∃ k : Nat, i = .int .i64 k ∧ (k : Int) ≤ n ∧ wr.ownsRow w1.heap.size 5 1 s k (peekC xs z o k) ∧ Chg (fun b => w1.heap.size ≤ b) w1 wr) (fun _ i _ => n.toNat - (intOf i).toNat)
  case atStart => exact ⟨0, rfl, by omega, World.ownsRow_made w1 #[] 0 (Nat.le_refl _) (by decide) rfl, (Chg.refl _ _).alloc _⟩
  case round =>
    obtain ⟨k, rfl, hk, hown, hg⟩ := hrel
    obtain ⟨c2, f2⟩ := hg.row (k := w.heap.size) (by omega) (by omega)
    obtain ⟨cx2, fx2⟩ := ((hw1.chg _).trans hg).row (k := bx) la (by have := hw1.size; omega)
    have hsz2 := hg.size
    by_cases hlt : (k : Int) < n
    · obtain ⟨j1, j2⟩ := cellIx_lt (z := z) (o := o) (k := k) (by omega) (by omega)
      have j3 := isRing_cell hR (j := cellIx z o k) (by omega)
      have hsucc := hide (peekC_succ xs z o k)
      have cx := hx (cellIx z o k) (by rw [hn'.out] at b3; omega)
      have j0 : (0 : Int) ≤ (cellIx z o k : Int) := by omega
      have j4 : (cellIx z o k : Int) < (len : Int) := by rw [hn'.out] at b3; omega
      unfold cellAt at hsucc
      clear hx
      generalize cellIx z o k = j at *
      generalize xs.getD j 0 = x at *
      obtain ⟨x0, x1⟩ := j3
      have cxw : wr.cell? ⟨bx, off + j, none⟩ = some (.int .i64 x) := by rw [cx2]; exact cx
      have cz : wr.cell? ⟨w.heap.size, 0, none⟩ = some (.int .i64 z) := by rw [c2, c1]; simp [go_sem]
      have cs : wr.cell? ⟨w.heap.size, 3, none⟩ = some (.slice (some ⟨bx, off, none⟩) len ca) := by rw [c2, c1]; simp [go_sem]
      have hwr : IntKind.i64.wrap (o + (k : Int)) = o + (k : Int) := IntWalk.i64_in _ (by omega)
      have hwx : IntKind.u8.wrap x = x := IntWalk.u8_in _ (by omega)
      have hzz : ¬ z = 0 := by omega
      have ag : u8.ownBlock ≠ some w.heap.size := fun h => by have := (hown.lt _ h).1; omega
      have ab : u8.ownBlock ≠ some bx := fun h => by have := (hown.lt _ h).1; omega
      go_wp2_with fail
      go_region_held3 (fun w' => w'.cell? ⟨w.heap.size, 0, none⟩ = some (.int .i64 z) ∧ w'.cell? ⟨w.heap.size, 3, none⟩ = some (.slice (some ⟨bx, off, none⟩) len ca) ∧ w'.cell? ⟨bx, off + j, none⟩ = some (.int .i64 x))
        (first
          | go_keep
          | (go_split_ands
             refine ⟨?_, ?_, ?_⟩
             · (rw [hgrow.cell_far _ (by simp; omega) (Ne.symm ag)]; assumption)
             · (rw [hgrow.cell_far _ (by simp; omega) (Ne.symm ag)]; assumption)
             · (rw [hgrow.cell_far _ (by simp; omega) (Ne.symm ab)]; assumption)))
        ((refine step_append_lies _ (by rfl) _ _ _ (by rfl) w1.heap.size 5 i0 _ 1 1 Try.underlying39 hi0 hz0 hz1 hz2 rfl (by omega) u8 k _ (by rfl) ((hown.alloc _).drew)
            ⟨wr.heap.size, 0, none⟩ 1 1 [.int .u8 x] (by rfl) (by rfl) (World.news_of_block (cs := #[.int .u8 x]) (t := 5) (fr := (0, 0)) (heap_alloc_new wr _)) (by simp [Value.oneCell'])
            (by omega) (by simp [maxLen]; omega) (by omega) (by simp; omega) (wr.heap.size + 1) (by simp) ?_; intro gg cap w2 hown1 hgrow hat hlt2))
      go_wp2
      go_roundw
      case rel => exact ⟨k + 1, by go_num, by omega, by rw [← hsucc.out]; exact hown1, ((hg.alloc _).drew).trans (grown_chg hgrow (fun k hk => (hown.lt _ hk).1))⟩
      case measure => simp [intOf]; omega
    · obtain rfl : k = n.toNat := by omega
      have hcv := peek_string hown (fun j => isRing_cell hR (by have := (cellIx_lt (z := z) (o := o) (k := j) (by omega) (by omega)).1; omega))
      go_wp2
      exact bodyPost_ret (v := .tuple #[.string (peekS xs z o n.toNat), .bool true]) (by simp [results, Try.results103, go_sem]) rfl ⟨rfl, hw1.trans (hg.ext (fun k hk h => by omega))⟩
set_option maxHeartbeats 2000000 in
theorem PeekRing_impl (z b e o n : Int) (ao : Option Addr) (len ca : Nat) (xs : List Int) (w : World) (hx : ReadS w ao xs) (hn : xs.length = len) (hl : (len : Int) ≤ 9223372036854775807) :
    Calls Try.prog 103 #[.agg #[.int .i64 z, .int .i64 b, .int .i64 e, .slice ao len ca], .int .i64 o, .int .i64 n] w fun en w' => en = .returned (peekV z b e o n xs) ∧ Ext w w' := by
  rcases Bool.eq_false_or_eq_true (isRing z b e xs) with hR | hR
  · -- yes
    by_cases h2 : 0 ≤ n
    · -- yes
      rcases Bool.eq_false_or_eq_true (inB b o e) with hin | hin
      · -- yes
        by_cases h4 : n ≤ e - o
        · -- yes
          rw [show peekV z b e o n xs = .tuple #[.string (peekS xs z o n.toNat), .bool true] from if_pos (by simp [peekOk, *])]
          obtain ⟨h1, h3⟩ := inB_true hin
          exact PeekRing_impl_yes z b e o n ao len ca xs w hx hn hl hR h1 h2 h3 h4
        · -- no
          have h4x : ¬ (n ≤ e - o) := h4
          have h4d : decide (n ≤ e - o) = false := decide_eq_false h4x
          replace h4 : e - o < n := by omega
          rw [show peekV z b e o n xs = .tuple #[.string ⟨#[]⟩, .bool false] from if_neg (by simp [peekOk, *]; try omega)]
          obtain ⟨b1, b2, b3, b4, b5, b6, b7⟩ := isRing_bd hR
          obtain ⟨h1, h3⟩ := inB_true hin
          go_enter Try.func103, Try.ntmps103
          go_wp2_with fail
          refine (IsRing_impl z b e ao len ca xs _ (hx.ext Ext.go) hn hl).mono ?_
          rintro en w1 ⟨rfl, hb⟩
          rw [hR]
          obtain ⟨c1, f1⟩ := hb.row (k := w.heap.size) (by simp)
          have hsz1 : w.heap.size < w1.heap.size := by have := hb.size; simp at this; omega
          clear hx hn
          go_wp2_with (go_at_call 74; refine (within_any _ _ _ _).mono ?_; rintro en w9 ⟨rfl, rfl⟩)
          exact bodyPost_ret (v := .tuple #[.string ⟨#[]⟩, .bool false]) (by simp [results, Try.results103, go_sem]) rfl ⟨rfl, Ext.go⟩
      · -- no
        rw [show peekV z b e o n xs = .tuple #[.string ⟨#[]⟩, .bool false] from if_neg (by simp [peekOk, *]; try omega)]
        obtain ⟨b1, b2, b3, b4, b5, b6, b7⟩ := isRing_bd hR
        go_enter Try.func103, Try.ntmps103
        go_wp2_with fail
        refine (IsRing_impl z b e ao len ca xs _ (hx.ext Ext.go) hn hl).mono ?_
        rintro en w1 ⟨rfl, hb⟩
        rw [hR]
        obtain ⟨c1, f1⟩ := hb.row (k := w.heap.size) (by simp)
        have hsz1 : w.heap.size < w1.heap.size := by have := hb.size; simp at this; omega
        clear hx hn
        go_wp2_with (go_at_call 74; refine (within_any _ _ _ _).mono ?_; rintro en w9 ⟨rfl, rfl⟩)
        exact bodyPost_ret (v := .tuple #[.string ⟨#[]⟩, .bool false]) (by simp [results, Try.results103, go_sem]) rfl ⟨rfl, Ext.go⟩
    · -- no
      have h2x : ¬ (0 ≤ n) := h2
      have h2d : decide (0 ≤ n) = false := decide_eq_false h2x
      replace h2 : n < 0 := by omega
      rw [show peekV z b e o n xs = .tuple #[.string ⟨#[]⟩, .bool false] from if_neg (by simp [peekOk, *]; try omega)]
      obtain ⟨b1, b2, b3, b4, b5, b6, b7⟩ := isRing_bd hR
      go_enter Try.func103, Try.ntmps103
      go_wp2_with fail
      refine (IsRing_impl z b e ao len ca xs _ (hx.ext Ext.go) hn hl).mono ?_
      rintro en w1 ⟨rfl, hb⟩
      rw [hR]
      obtain ⟨c1, f1⟩ := hb.row (k := w.heap.size) (by simp)
      have hsz1 : w.heap.size < w1.heap.size := by have := hb.size; simp at this; omega
      clear hx hn
      go_wp2_with (go_at_call 74; refine (within_any _ _ _ _).mono ?_; rintro en w9 ⟨rfl, rfl⟩)
      exact bodyPost_ret (v := .tuple #[.string ⟨#[]⟩, .bool false]) (by simp [results, Try.results103, go_sem]) rfl ⟨rfl, Ext.go⟩
  · -- no
    rw [show peekV z b e o n xs = .tuple #[.string ⟨#[]⟩, .bool false] from if_neg (by simp [peekOk, *]; try omega)]
    go_enter Try.func103, Try.ntmps103
    go_wp2_with fail
    refine (IsRing_impl z b e ao len ca xs _ (hx.ext Ext.go) hn hl).mono ?_
    rintro en w1 ⟨rfl, hb⟩
    rw [hR]
    obtain ⟨c1, f1⟩ := hb.row (k := w.heap.size) (by simp)
    have hsz1 : w.heap.size < w1.heap.size := by have := hb.size; simp at this; omega
    clear hx hn
    go_wp2_with (go_at_call 74; refine (within_any _ _ _ _).mono ?_; rintro en w9 ⟨rfl, rfl⟩)
    exact bodyPost_ret (v := .tuple #[.string ⟨#[]⟩, .bool false]) (by simp [results, Try.results103, go_sem]) rfl ⟨rfl, Ext.go⟩
end
end Go.Proofs.Ytjhgcbchdnoleaa

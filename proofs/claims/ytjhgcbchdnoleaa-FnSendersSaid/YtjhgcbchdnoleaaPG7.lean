/-
  Part of the proof: SnSt, SnWh, IsSnd0.
-/
import Derived.Deep.DeepCutAuto
import Derived.Test.YtjhgcbchdnoleaaPG5
import Derived.Test.YtjhgcbchdnoleaaPG6
namespace Go.Proofs.Ytjhgcbchdnoleaa
section
open Go.ChangeShapes Go.WideShapes Go.ChangeAt Go.RowKit
set_option linter.unusedSimpArgs false
set_option linter.unusedVariables false
set_option maxHeartbeats 2000000 in
set_option maxRecDepth 100000 in
theorem state_impl (s : Sn) (a : Ads) (c1 c2 c3 c4 : Nat) (w : World) :
    Calls Try.prog 79 #[.agg #[.int .i64 s.st, .int .i64 s.z, .int .i64 s.b, .int .i64 s.e, .slice a.r s.xs.length c1, .slice a.p s.p.length c2, .slice a.f s.f.length c3, .slice a.k s.k.length c4, .int .i64 s.fi, .int .i64 s.fk, .int .i64 s.se, .int .i64 s.co]] w fun e w' => e = .returned (.int .i64 (stI s.st s.b s.e s.fk s.se)) ∧ Ext w w' := by
  obtain ⟨st, z, b, e, xs, p, f, k, fi, fk, se, co⟩ := s
  dsimp only
  by_cases h1 : fk = 3
  · subst h1
    by_cases h2 : b = e
    · subst h2
      go_enter Try.func79, Try.ntmps79
      go_wp2
      go_ret
      exact ⟨by first | (simp [stI, *]; done) | (simp [stI, *]; (repeat' split) <;> omega), Ext.go⟩
    · have h2e : (b == e) = false := by simp [h2]
      go_enter Try.func79, Try.ntmps79
      go_wp2
      go_ret
      exact ⟨by first | (simp [stI, *]; done) | (simp [stI, *]; (repeat' split) <;> omega), Ext.go⟩
  · have h1e : (fk == 3) = false := by simp [h1]
    by_cases h3 : fk = 2
    · subst h3
      go_enter Try.func79, Try.ntmps79
      go_wp2
      go_ret
      exact ⟨by first | (simp [stI, *]; done) | (simp [stI, *]; (repeat' split) <;> omega), Ext.go⟩
    · have h3e : (fk == 2) = false := by simp [h3]
      by_cases h4 : fk = 1
      · subst h4
        by_cases h5 : st = 2
        · subst h5
          go_enter Try.func79, Try.ntmps79
          go_wp2
          go_ret
          exact ⟨by first | (simp [stI, *]; done) | (simp [stI, *]; (repeat' split) <;> omega), Ext.go⟩
        · have h5e : (st == 2) = false := by simp [h5]
          by_cases h6 : 0 < se
          · have h6e : decide (0 < se) = true := decide_eq_true h6
            go_enter Try.func79, Try.ntmps79
            go_wp2
            go_ret
            exact ⟨by first | (simp [stI, *]; done) | (simp [stI, *]; (repeat' split) <;> omega), Ext.go⟩
          · have h6e : decide (0 < se) = false := decide_eq_false h6
            by_cases h7 : st = 1
            · subst h7
              go_enter Try.func79, Try.ntmps79
              go_wp2
              go_ret
              exact ⟨by first | (simp [stI, *]; done) | (simp [stI, *]; (repeat' split) <;> omega), Ext.go⟩
            · have h7e : (st == 1) = false := by simp [h7]
              go_enter Try.func79, Try.ntmps79
              go_wp2
              go_ret
              exact ⟨by first | (simp [stI, *]; done) | (simp [stI, *]; (repeat' split) <;> omega), Ext.go⟩
      · have h4e : (fk == 1) = false := by simp [h4]
        by_cases h8 : 1 < fk
        · have h8e : decide (1 < fk) = true := decide_eq_true h8
          by_cases h6 : 0 < se
          · have h6e : decide (0 < se) = true := decide_eq_true h6
            go_enter Try.func79, Try.ntmps79
            go_wp2
            go_ret
            exact ⟨by first | (simp [stI, *]; done) | (simp [stI, *]; (repeat' split) <;> omega), Ext.go⟩
          · have h6e : decide (0 < se) = false := decide_eq_false h6
            go_enter Try.func79, Try.ntmps79
            go_wp2
            go_ret
            exact ⟨by first | (simp [stI, *]; done) | (simp [stI, *]; (repeat' split) <;> omega), Ext.go⟩
        · have h8e : decide (1 < fk) = false := decide_eq_false h8
          by_cases h6 : 0 < se
          · have h6e : decide (0 < se) = true := decide_eq_true h6
            go_enter Try.func79, Try.ntmps79
            go_wp2
            go_ret
            exact ⟨by first | (simp [stI, *]; done) | (simp [stI, *]; (repeat' split) <;> omega), Ext.go⟩
          · have h6e : decide (0 < se) = false := decide_eq_false h6
            go_enter Try.func79, Try.ntmps79
            go_wp2
            go_ret
            exact ⟨by first | (simp [stI, *]; done) | (simp [stI, *]; (repeat' split) <;> omega), Ext.go⟩
set_option maxHeartbeats 2000000 in
set_option maxRecDepth 100000 in
theorem state_spec (s : Sn) (a : Ads) (c1 c2 c3 c4 : Nat) (w : World) :
    Calls Try.prog 86 #[.agg #[.int .i64 s.st, .int .i64 s.z, .int .i64 s.b, .int .i64 s.e, .slice a.r s.xs.length c1, .slice a.p s.p.length c2, .slice a.f s.f.length c3, .slice a.k s.k.length c4, .int .i64 s.fi, .int .i64 s.fk, .int .i64 s.se, .int .i64 s.co]] w fun e w' => e = .returned (.int .i64 (stS s.st s.b s.e s.fk s.se)) ∧ Ext w w' := by
  obtain ⟨st, z, b, e, xs, p, f, k, fi, fk, se, co⟩ := s
  dsimp only
  by_cases h1 : fk = 3
  · subst h1
    by_cases h2 : b = e
    · subst h2
      go_enter Try.func86, Try.ntmps86
      go_wp2
      go_ret
      exact ⟨by first | (simp [stS, *]; done) | (simp [stS, *]; (repeat' split) <;> omega), Ext.go⟩
    · have h2e : (b == e) = false := by simp [h2]
      go_enter Try.func86, Try.ntmps86
      go_wp2
      go_ret
      exact ⟨by first | (simp [stS, *]; done) | (simp [stS, *]; (repeat' split) <;> omega), Ext.go⟩
  · have h1e : (fk == 3) = false := by simp [h1]
    by_cases h3 : fk = 2
    · subst h3
      go_enter Try.func86, Try.ntmps86
      go_wp2
      go_ret
      exact ⟨by first | (simp [stS, *]; done) | (simp [stS, *]; (repeat' split) <;> omega), Ext.go⟩
    · have h3e : (fk == 2) = false := by simp [h3]
      by_cases h4 : fk = 1
      · subst h4
        by_cases h5 : st = 2
        · subst h5
          go_enter Try.func86, Try.ntmps86
          go_wp2
          go_ret
          exact ⟨by first | (simp [stS, *]; done) | (simp [stS, *]; (repeat' split) <;> omega), Ext.go⟩
        · have h5e : (st == 2) = false := by simp [h5]
          by_cases h6 : 0 < se
          · have h6e : decide (0 < se) = true := decide_eq_true h6
            go_enter Try.func86, Try.ntmps86
            go_wp2
            go_ret
            exact ⟨by first | (simp [stS, *]; done) | (simp [stS, *]; (repeat' split) <;> omega), Ext.go⟩
          · have h6e : decide (0 < se) = false := decide_eq_false h6
            by_cases h7 : st = 1
            · subst h7
              go_enter Try.func86, Try.ntmps86
              go_wp2
              go_ret
              exact ⟨by first | (simp [stS, *]; done) | (simp [stS, *]; (repeat' split) <;> omega), Ext.go⟩
            · have h7e : (st == 1) = false := by simp [h7]
              go_enter Try.func86, Try.ntmps86
              go_wp2
              go_ret
              exact ⟨by first | (simp [stS, *]; done) | (simp [stS, *]; (repeat' split) <;> omega), Ext.go⟩
      · have h4e : (fk == 1) = false := by simp [h4]
        by_cases h8 : 1 < fk
        · have h8e : decide (1 < fk) = true := decide_eq_true h8
          by_cases h6 : 0 < se
          · have h6e : decide (0 < se) = true := decide_eq_true h6
            go_enter Try.func86, Try.ntmps86
            go_wp2
            go_ret
            exact ⟨by first | (simp [stS, *]; done) | (simp [stS, *]; (repeat' split) <;> omega), Ext.go⟩
          · have h6e : decide (0 < se) = false := decide_eq_false h6
            go_enter Try.func86, Try.ntmps86
            go_wp2
            go_ret
            exact ⟨by first | (simp [stS, *]; done) | (simp [stS, *]; (repeat' split) <;> omega), Ext.go⟩
        · have h8e : decide (1 < fk) = false := decide_eq_false h8
          by_cases h6 : 0 < se
          · have h6e : decide (0 < se) = true := decide_eq_true h6
            go_enter Try.func86, Try.ntmps86
            go_wp2
            go_ret
            exact ⟨by first | (simp [stS, *]; done) | (simp [stS, *]; (repeat' split) <;> omega), Ext.go⟩
          · have h6e : decide (0 < se) = false := decide_eq_false h6
            go_enter Try.func86, Try.ntmps86
            go_wp2
            go_ret
            exact ⟨by first | (simp [stS, *]; done) | (simp [stS, *]; (repeat' split) <;> omega), Ext.go⟩
set_option maxHeartbeats 2000000 in
theorem endsBehind_impl (m : Int) (ao : Option Addr) (n ca : Nat) (rs : List Rg) (w : World) (hx : ReadR w ao rs) (hn : rs.length = n) (hl : (n : Int) ≤ 9223372036854775807) :
    Calls Try.prog 78 #[.slice ao n ca, .int .i64 m] w fun e w' => e = .returned (.bool (endsB rs m)) ∧ Ext w w' := by
  by_cases h0 : 0 < n
  · have h0e : decide ((0 : Int) < (n : Int)) = true := decide_eq_true (by omega)
    have h0f : decide (0 < n) = true := decide_eq_true h0
    rcases hx with hnil | ⟨bx, off, rfl, hx⟩
    · rw [hnil] at hn; simp at hn; omega
    obtain ⟨cx, cx2⟩ := hx (n - 1) (by omega)
    have la : bx < w.heap.size := World.block_lt_of_cell? w _ cx
    have hwr : IntKind.i64.wrap ((n : Int) - 1) = ((n - 1 : Nat) : Int) := (IntWalk.i64_in _ (by omega)).trans (by omega)
    have i1 : (0 : Int) ≤ ((n - 1 : Nat) : Int) := by omega
    have i2 : ((n - 1 : Nat) : Int) < (n : Int) := by omega
    have hE : Hid (endsB rs m = decide (m < (rs.getD (n - 1) dr).2)) := hide (by
      unfold endsB
      rw [hn, decide_eq_true h0]; rfl)
    clear hx
    obtain ⟨j, hj⟩ : ∃ j, j = n - 1 := ⟨_, rfl⟩
    rw [← hj] at cx cx2 hwr i1 i2 hE
    clear hj
    generalize rs.getD j dr = x at *
    obtain ⟨x1, x2⟩ := x
    dsimp only at *
    go_enter Try.func78, Try.ntmps78
    go_wp2
    go_ret
    exact ⟨by first | (rw [hE.out]; rfl) | (simp [hE.out]), Ext.go⟩
  · have h0e : decide ((0 : Int) < (n : Int)) = false := decide_eq_false (by omega)
    have h0f : decide (0 < n) = false := decide_eq_false h0
    have hE : Hid (endsB rs m = false) := hide (by
      unfold endsB
      rw [hn, decide_eq_false h0]; rfl)
    clear hx
    go_enter Try.func78, Try.ntmps78
    go_wp2
    go_ret
    exact ⟨by (rw [hE.out]) <;> rfl, Ext.go⟩
end
section
open Go.ChangeShapes Go.WideShapes Go.ChangeAt Go.RowKit
set_option linter.unusedSimpArgs false
set_option linter.unusedVariables false
theorem join_take_succ {p l : List Rg} {i : Nat} (hi : i < l.length) : (l.take (i + 1)).foldl addR p = addR ((l.take i).foldl addR p) (l.getD i dr) := by
  rw [takeR_succ l hi, List.foldl_append]; rfl
set_option maxHeartbeats 4000000 in
set_option maxRecDepth 100000 in
theorem areWhole_impl (e : Int) (a1 a2 a3 : Option Addr) (c1 c2 c3 : Nat) (p f k : List Rg) (w : World) (h1 : ReadR w a1 p) (h2 : ReadR w a2 f) (h3 : ReadR w a3 k) (hsum : p.length + f.length + k.length ≤ 1048576) :
    Calls Try.prog 76 #[.slice a1 p.length c1, .slice a2 f.length c2, .slice a3 k.length c3, .int .i64 e] w fun en w' => en = .returned (.bool (decide (cntSum p f k = e) && (decide (cntR (joinR p f k) = e) && !endsB (joinR p f k) e))) ∧ Ext w w' := by
  have h1' := hide h1
  have h2' := hide h2
  have h3' := hide h3
  clear h1 h2 h3
  obtain ⟨i0, hi0, hz0, hz1, hz2⟩ := info_parts infoRange
  obtain ⟨q, hq⟩ : ∃ q, Hid (cntSum p f k = q) := ⟨_, hide rfl⟩
  obtain ⟨J, hJ⟩ : ∃ J, Hid (joinR p f k = J) := ⟨_, hide rfl⟩
  rw [hq.out, hJ.out]
  go_enter Try.func76, Try.ntmps76
  go_wp2_with fail
  refine (CountNumbers_impl a1 _ c1 p _ (h1'.out.ext Ext.go) rfl (by omega)).mono ?_
  rintro en w1 ⟨rfl, hb1⟩
  go_wp2_with fail
  refine (CountNumbers_impl a2 _ c2 f _ (h2'.out.ext Ext.go) rfl (by omega)).mono ?_
  rintro en w2 ⟨rfl, hb2⟩
  go_wp2_with fail
  refine (CountNumbers_impl a3 _ c3 k _ (h3'.out.ext Ext.go) rfl (by omega)).mono ?_
  rintro en w3 ⟨rfl, hb3⟩
  have hx3 : Ext w w3 := (hb1.trans hb2).trans hb3
  clear hb1 hb2 hb3
  have hqe : IntKind.i64.wrap (IntKind.i64.wrap (cntR p + cntR f) + cntR k) = q := hq.out
  have hqe2 : wrap64 (wrap64 (cntR p + cntR f) + cntR k) = q := by
    rw [← hqe, IntWalk.i64_left, IntWalk.i64_left]
  by_cases hs : q = e
  · have hse : (q != e) = false := by simp [hs]
    replace hs := hide hs
    go_wp2_with fail
    refine (copyW_impl a1 _ c1 p _ (h1'.out.ext hx3) rfl (by omega)).mono ?_
    rintro en w4 ⟨ao4, cap4, rfl, ho4, hb4⟩
    have hx4 := hx3.trans hb4
    go_wp2_with fail
    refine (copyW_impl a2 _ c2 f _ (h2'.out.ext hx4) rfl (by omega)).mono ?_
    rintro en w5 ⟨ao5, cap5, rfl, ho5, hb5⟩
    have hx5 := hx4.trans hb5
    have hr4' := hide (own_ranges' ho4).read
    have hfl := hide (rgCells_length f)
    have hkl := hide (rgCells_length k)
    clear ho4 hb4
    go_wp2_with (at_builtin; refine wpList_append_any (by rfl) _ _ 30 (by rfl) w4.heap.size 61 i0 (.agg #[.int .i64 0, .int .i64 0]) 2 16 Try.underlying30 hi0 hz0 hz1 hz2 rfl (by omega) (.slice ao5 f.length cap5) f.length (rgCells f) (by rfl) ho5 a3 k.length c3 (rgCells k) (by rfl) (by rw [hkl.out]) (h3'.out.v.ext hx5) (rgCells_one k) (by simp [maxLen]; omega) (by omega) hb5.size ?_)
    intro v6 w6 hown6 hgrow6
    have hg6 : Chg (fun b => (.slice ao5 f.length cap5 : Value).ownBlock = some b) w5 w6 := grown_chg hgrow6 (fun b hb => hb)
    have hx6 : Ext w4 w6 := ((hb5.chg _).trans hg6).ext (fun b hb h => by have := (ho5.lt _ h).1; omega)
    have hr6 := hide (hr4'.out.ext hx6)
    rw [show rgCells f ++ rgCells k = rgCells (f ++ k) from by simp [rgCells]] at hown6
    obtain ⟨ao6, cap6, rfl, hlen, -⟩ := own_ranges hown6
    have hN : Hid ((f ++ k).length = f.length + k.length) := hide (by simp)
    rw [← hlen] at hown6
    have hown := hide (own_ranges' hown6).read
    have hx36 : Ext w w6 := hx4.trans hx6
    clear hown6 hgrow6 hg6 hr4' ho5 hb5 hfl hkl hlen
    generalize hl0 : f ++ k = l at *
    replace hl0 := hide hl0
    have hx6w : w.heap.size ≤ w6.heap.size := hx36.size
    go_wp2_with fail
    go_loopw [9, 29] (fun t i wr => ∃ (j : Nat) (L : List Rg) (ao1 : Option Addr) (ca1 : Nat), i = .int .i64 j ∧ j ≤ l.length ∧ Hid ((l.take j).foldl addR p = L) ∧ t = .slice ao1 L.length ca1 ∧ Hid (ReadR wr ao1 L) ∧ Ext w6 wr) (fun _ i _ => l.length - (intOf i).toNat)
    case atStart => exact ⟨0, p, _, _, rfl, Nat.zero_le _, hide rfl, rfl, hr6, Ext.refl _⟩
    case round =>
      obtain ⟨j, L, ao1, ca1, rfl, hj, hL, rfl, hrd, hg⟩ := hrel
      have hlenL := fold_len (l.take j) p
      rw [hL.out] at hlenL
      have hlj : (l.take j).length ≤ l.length := by simp; omega
      have hNo := hN.out
      have hLb : L.length ≤ 1048576 := by omega
      have hlb : l.length ≤ 1048576 := by omega
      by_cases hlt : j < l.length
      · rcases hown.out with hnil | ⟨bx, off, rfl, hx⟩
        · rw [hnil] at hlt; simp at hlt
        obtain ⟨cx, cx2⟩ := hx j hlt
        have la : bx < w6.heap.size := World.block_lt_of_cell? w6 _ cx
        have hr := (hg.row la).1
        have dx := (hr _).trans cx
        have dx2 := (hr _).trans cx2
        have i1 : (0 : Int) ≤ (j : Int) := by omega
        have i2 : (j : Int) < (l.length : Int) := by omega
        have lw : bx < wr.heap.size := hg.more la
        have hst := hide (join_take_succ (p := p) hlt)
        rw [hL.out] at hst
        obtain ⟨⟨x1, x2⟩, hx0⟩ : ∃ x : Rg, Hid (l.getD j dr = x) := ⟨_, hide rfl⟩
        rw [hx0.out] at dx dx2 hst
        dsimp only at dx dx2
        clear hx cx cx2 hr hx0 hNo
        generalize hn : l.length = n at *
        replace hn := hide hn
        generalize hm : L.length = m at *
        replace hm := hide hm
        go_wp2_with fail
        refine (AddRange_impl x1 x2 ao1 m ca1 L _ (hrd.out.ext ((Ext.refl _).alloc _)) hm.out (by omega)).mono ?_
        rintro en w7 ⟨ao7, cap7, rfl, ho7, hb7⟩
        have hr7 := hide (own_ranges' ho7).read
        have hg7 : Ext w6 w7 := hg.trans (Ext.trans ((Ext.refl _).alloc _) hb7)
        go_wp2
        go_roundw
        case rel => exact ⟨j + 1, _, _, _, by go_num, by omega, hst, rfl, hr7, hg7⟩
        case measure => simp [intOf]; omega
      · obtain rfl : j = l.length := by omega
        have hJL : Hid (J = L) := hide (by rw [← hJ.out, ← hL.out, List.take_length, ← hl0.out]; rfl)
        obtain rfl : J = L := hJL.out
        go_wp2_with fail
        refine (CountNumbers_impl ao1 _ ca1 J _ hrd.out rfl (by omega)).mono ?_
        rintro en w7 ⟨rfl, hb7⟩
        have hx7 : Ext w w7 := hx36.trans (hg.trans hb7)
        by_cases hc : cntR J = e
        · have hce : (cntR J == e) = true := by simp [hc]
          replace hc := hide hc
          go_wp2_with fail
          refine (endsBehind_impl e ao1 _ ca1 J _ (hrd.out.ext hb7) rfl (by omega)).mono ?_
          rintro en w8 ⟨rfl, hb8⟩
          go_wp2
          go_ret
          exact ⟨by rw [decide_eq_true hs.out, decide_eq_true hc.out]; rfl, hx7.trans hb8⟩
        · have hce : (cntR J == e) = false := by simp [hc]
          replace hc := hide hc
          go_wp2
          go_ret
          exact ⟨by rw [decide_eq_false hc.out, decide_eq_true hs.out]; rfl, hx7⟩
  · have hse : (q != e) = true := by simp [hs]
    go_wp2
    go_ret
    exact ⟨by first | (simp [hs]; done) | (rw [decide_eq_false hs]; rfl), hx3⟩
end
section
open Go.ChangeShapes Go.WideShapes Go.ChangeAt Go.RowKit
set_option linter.unusedSimpArgs false
set_option linter.unusedVariables false
theorem beq_dec (x y : Int) : (x == y) = decide (x = y) := by
  by_cases h : x = y <;> simp [h]
theorem sndI_tail (s : Sn) (hd : sndHd s = true) (hn : isRst s = false) (F : Int) (hF : F = if s.fk = 0 then -1 else s.e) :
    sndI s = (((((((decide (cntSum s.p s.f s.k = s.e) && (decide (cntR (joinR s.p s.f s.k) = s.e) && !endsB (joinR s.p s.f s.k) s.e)) && gapR s.k 0 == s.b) && !endsB s.f s.se) && !endsB s.k s.se) && s.co == 0) && s.fi == F) && s.st == stI s.st s.b s.e s.fk s.se) := by
  subst hF
  unfold sndI wholeI
  rw [hd, hn]
  simp only [beq_dec, Bool.true_and, Bool.and_assoc]
  rfl
end
end Go.Proofs.Ytjhgcbchdnoleaa

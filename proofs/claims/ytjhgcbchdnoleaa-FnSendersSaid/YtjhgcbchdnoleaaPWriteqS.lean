/-
  Part of the proof: Write.
-/
import Derived.Deep.DeepCutAuto
import Derived.Test.YtjhgcbchdnoleaaPRoomOfqS
import Derived.Test.YtjhgcbchdnoleaaPRingBoxqS
import Derived.Test.YtjhgcbchdnoleaaPG5
namespace Go.Proofs.Ytjhgcbchdnoleaa
section
open Go.ChangeShapes Go.WideShapes Go.ChangeAt Go.RowKit
set_option linter.unusedSimpArgs false
theorem ringNeInt : (29 : Nat) ≠ 3 := by decide
set_option maxHeartbeats 2000000 in
theorem WriteRing_impl (z b e : Int) (s : ByteArray) (ao : Option Addr) (len ca : Nat) (xs : List Int) (w : World) (hx : ReadS w ao xs) (hn : xs.length = len) (hl : len ≤ 1048576) (he0 : -9223372036854775808 ≤ e) (he : e ≤ 9223372036854775807) (m : Nat) (hm : (m : Int) = min (s.size : Int) (roomOf z b e xs)) :
    Calls Try.prog 66 #[.agg #[.int .i64 z, .int .i64 b, .int .i64 e, .slice ao len ca], .string s] w (RingRes z b (e + m) (setN xs z e (byteAt s) m) (.int .i64 m) w) := by
  have hn' := hide hn
  have hx' := hide hx
  have hm' := hide hm
  clear hn hx hm
  have hroom := roomOf_bd z b e xs
  go_enter Try.func66, Try.ntmps66
  go_upto_region 1 with fail
  have hxe : Ext w ((w.alloc (.cells #[.int .i64 z, .int .i64 b, .int .i64 e, .slice ao len ca] 29)).alloc (.cells #[.int .i64 0, .int .i64 0, .int .i64 0, .slice none 0 0] 29)) := ((Ext.refl w).alloc _).alloc _
  refine wp_region_box 29 7 8 1 6 10 #[.int .i64 0, .int .i64 0, .int .i64 0, .slice none 0 0] [BLine.is (.agg #[.int .i64 z, .int .i64 b, .int .i64 e, .slice ao len ca]), ringB _ _ ringNeInt z b e xs, BLine.is (.string s), BLine.is (.int .i64 (s.size : Int)), BLine.is (.agg #[.int .i64 z, .int .i64 b, .int .i64 e, .slice ao len ca]), BLine.is (.int .i64 (roomOf z b e xs)), BLine.is (.int .i64 (m : Int)), BLine.free, BLine.free, BLine.is (.int .i64 (m : Int))] [9, 10, 11, 12, 13, 14, 15, 6, 7] (by kernel_rfl) rfl rfl rfl rfl rfl rfl rfl rfl (by kernel_rfl) (by kernel_rfl) (by decide) (by kernel_rfl) (by kernel_rfl) (by kernel_rfl) (by kernel_rfl) ?_ ?_ ?_ ?_
  · intro a wa
    go_simp
  · intro g ws B hws hgB hl hB
    obtain ⟨ao1, cap1, l1, u1, ln1, hO, hO1, hO2⟩ := (show (ringB _ _ ringNeInt z b e xs).p (g 10) ws from hl)
    simp only [fillAt, List.foldl_cons, List.foldl_nil, Act.put, List.setIfInBounds_toArray, List.set_cons_zero, List.set_cons_succ, hgB, ln1]
    have d0 : ws.cell? ⟨B, 0, none⟩ = some (.int .i64 0) := (by rw [cell_of_row ws B 0 _ _ _ hB]; rfl)
    have d1 : ws.cell? ⟨B, 1, none⟩ = some (.int .i64 0) := (by rw [cell_of_row ws B 1 _ _ _ hB]; rfl)
    have d2 : ws.cell? ⟨B, 2, none⟩ = some (.int .i64 0) := (by rw [cell_of_row ws B 2 _ _ _ hB]; rfl)
    have d3 : ws.cell? ⟨B, 3, none⟩ = some (.slice none 0 0) := (by rw [cell_of_row ws B 3 _ _ _ hB]; rfl)
    have fz : ∀ o, ws.frozen? ⟨B, o, none⟩ = false := fun o => (by simp [World.frozen?, hB])
    obtain ⟨s1, s2⟩ := store_ring (v0 := .int .i64 z) (v1 := .int .i64 b) (v2 := .int .i64 e) (v3 := .slice ao1 xs.length cap1) hB
    refine ⟨_, ?_, s1, s2⟩
    go_simp
  · refine Each.cons ?_ (Each.cons ?_ (Each.cons ?_ (Each.cons ?_ (Each.cons ?_ (Each.cons ?_ (Each.cons ?_ (Each.cons ?_ (Each.cons ?_ (Each.cons ?_ (Each.nil))))))))))
    · intro _ _ g ws hws hl
      have hxs : Ext w ws := hxe.drew.trans hws
      simp only [fillAt, List.foldl_cons, List.foldl_nil, Act.put, List.setIfInBounds_toArray, List.set_cons_zero, List.set_cons_succ]
      obtain ⟨q0, p0⟩ := hws.row (k := w.heap.size) xpf
      refine Stays.plain ?_ (by rfl) ?_ ?_
      rotate_left
      · go_simp
        try with_reducible rfl
      · exact rfl
    · intro _ _ g ws hws hl
      have hxs : Ext w ws := hxe.drew.trans hws
      have ln0 : g 9 = (.agg #[.int .i64 z, .int .i64 b, .int .i64 e, .slice ao len ca]) := linesOfB_get 0 (by decide) hl (by kernel_rfl)
      simp only [fillAt, List.foldl_cons, List.foldl_nil, Act.put, List.setIfInBounds_toArray, List.set_cons_zero, List.set_cons_succ, ln0]
      refine Stays.call 113 ?_ (by rfl) ?_ ?_
      rotate_left
      · go_simp
        try with_reducible rfl
      · refine (copyRing_own z b e ao len ca xs _ (hx'.out.ext hxs) hn'.out (by omega)).mono ?_
        rintro en w5 ⟨ao5, cap5, rfl, ho5, hb5⟩
        exact ⟨_, rfl, hb5, ⟨ao5, cap5, _, _, rfl, ho5, by have := hws.size; simpa using this, Nat.le_refl _⟩⟩
    · intro _ _ g ws hws hl
      have hxs : Ext w ws := hxe.drew.trans hws
      simp only [fillAt, List.foldl_cons, List.foldl_nil, Act.put, List.setIfInBounds_toArray, List.set_cons_zero, List.set_cons_succ]
      refine Stays.plain ?_ (by rfl) ?_ ?_
      rotate_left
      · go_simp
        try with_reducible rfl
      · exact rfl
    · intro _ _ g ws hws hl
      have hxs : Ext w ws := hxe.drew.trans hws
      have ln2 : g 11 = (.string s) := linesOfB_get 2 (by decide) hl (by kernel_rfl)
      simp only [fillAt, List.foldl_cons, List.foldl_nil, Act.put, List.setIfInBounds_toArray, List.set_cons_zero, List.set_cons_succ, ln2]
      refine Stays.plain ?_ (by rfl) ?_ ?_
      rotate_left
      · go_simp
        try with_reducible rfl
      · exact rfl
    · intro _ _ g ws hws hl
      have hxs : Ext w ws := hxe.drew.trans hws
      simp only [fillAt, List.foldl_cons, List.foldl_nil, Act.put, List.setIfInBounds_toArray, List.set_cons_zero, List.set_cons_succ]
      obtain ⟨q0, p0⟩ := hws.row (k := w.heap.size) xpf
      refine Stays.plain ?_ (by rfl) ?_ ?_
      rotate_left
      · go_simp
        try with_reducible rfl
      · exact rfl
    · intro _ _ g ws hws hl
      have hxs : Ext w ws := hxe.drew.trans hws
      have ln4 : g 13 = (.agg #[.int .i64 z, .int .i64 b, .int .i64 e, .slice ao len ca]) := linesOfB_get 4 (by decide) hl (by kernel_rfl)
      simp only [fillAt, List.foldl_cons, List.foldl_nil, Act.put, List.setIfInBounds_toArray, List.set_cons_zero, List.set_cons_succ, ln4]
      refine Stays.call 121 ?_ (by rfl) ?_ ?_
      rotate_left
      · go_simp
        try with_reducible rfl
      · refine (RoomOf_impl z b e ao len ca xs _ (hx'.out.ext hxs) hn'.out (by omega)).mono ?_
        rintro en w5 ⟨rfl, hb5⟩
        exact ⟨_, rfl, hb5, rfl⟩
    · intro _ _ g ws hws hl
      have hxs : Ext w ws := hxe.drew.trans hws
      have ln3 : g 12 = (.int .i64 (s.size : Int)) := linesOfB_get 3 (by decide) hl (by kernel_rfl)
      have ln5 : g 14 = (.int .i64 (roomOf z b e xs)) := linesOfB_get 5 (by decide) hl (by kernel_rfl)
      simp only [fillAt, List.foldl_cons, List.foldl_nil, Act.put, List.setIfInBounds_toArray, List.set_cons_zero, List.set_cons_succ, ln3, ln5]
      refine Stays.plain (.int .i64 (m : Int)) (by rfl) ?_ rfl
      rcases Int.le_total (s.size : Int) (roomOf z b e xs) with hle | hle
      · have hm2 : (m : Int) = s.size := by rw [hm'.out]; omega
        rw [hm2]
        go_simp
        omega
      · have hm2 : (m : Int) = roomOf z b e xs := by rw [hm'.out]; omega
        rw [hm2]
        go_simp
        omega
    · exact fun h => absurd rfl h
    · exact fun _ h => absurd rfl h
    · intro _ _ g ws hws hl
      have hxs : Ext w ws := hxe.drew.trans hws
      have ln6 : g 15 = (.int .i64 (m : Int)) := linesOfB_get 6 (by decide) hl (by kernel_rfl)
      simp only [fillAt, List.foldl_cons, List.foldl_nil, Act.put, List.setIfInBounds_toArray, List.set_cons_zero, List.set_cons_succ, ln6]
      refine Stays.plain ?_ (by rfl) ?_ ?_
      rotate_left
      · go_simp
        try with_reducible rfl
      · exact rfl
  · intro g w1 B hw1 hl hgB hB1 hB2 hB3
    have xw1 : Ext w w1 := hxe.drew.trans hw1
    have ln0 : g 9 = (.agg #[.int .i64 z, .int .i64 b, .int .i64 e, .slice ao len ca]) := allLinesB_get 9 0 0 hl rfl (by decide)
    obtain ⟨ao1, cap1, l1, u1, ln1, hO, hO1, hO2⟩ := (show (ringB _ _ ringNeInt z b e xs).p (g 10) w1 from allLinesB_get 10 1 0 hl rfl (by decide))
    have ln2 : g 11 = (.string s) := allLinesB_get 11 2 0 hl rfl (by decide)
    have ln3 : g 12 = (.int .i64 (s.size : Int)) := allLinesB_get 12 3 0 hl rfl (by decide)
    have ln4 : g 13 = (.agg #[.int .i64 z, .int .i64 b, .int .i64 e, .slice ao len ca]) := allLinesB_get 13 4 0 hl rfl (by decide)
    have ln5 : g 14 = (.int .i64 (roomOf z b e xs)) := allLinesB_get 14 5 0 hl rfl (by decide)
    have ln6 : g 15 = (.int .i64 (m : Int)) := allLinesB_get 15 6 0 hl rfl (by decide)
    have ln9 : g 7 = (.int .i64 (m : Int)) := allLinesB_get 7 9 0 hl rfl (by decide)
    clear hl
    rw [ln1] at hB3
    simp only [fillAt, List.foldl_cons, List.foldl_nil, Act.put, List.setIfInBounds_toArray, List.set_cons_zero, List.set_cons_succ, hgB, ln0, ln1, ln2, ln3, ln4, ln5, ln6, ln9]
    obtain ⟨l2, u2, ho2, hl2, hu2, hBl⟩ := own_one hO hO1 hB3 ringNeInt hB1
    have hB1' : w.heap.size + 2 ≤ B := by simpa using hB1
    have hl2' : w.heap.size + 2 ≤ l2 := by simpa using hl2
    have hs1 : w.heap.size + 2 ≤ w1.heap.size := by omega
    obtain ⟨c0, f0⟩ := hw1.row (k := w.heap.size) xpf
    obtain ⟨c1, f1c⟩ := hw1.row (k := w.heap.size + 1) xpf
    have f1F : ∀ o, w1.frozen? ⟨w.heap.size + 1, o, none⟩ = false := fun o => (by rw [f1c]; simp [go_sem])
    have g0' : w1.cell? ⟨w.heap.size + 1, 0, none⟩ = some (.int .i64 0) := (by rw [c1]; simp [go_sem])
    have g1' : w1.cell? ⟨w.heap.size + 1, 1, none⟩ = some (.int .i64 0) := (by rw [c1]; simp [go_sem])
    have g2' : w1.cell? ⟨w.heap.size + 1, 2, none⟩ = some (.int .i64 0) := (by rw [c1]; simp [go_sem])
    have g3' : w1.cell? ⟨w.heap.size + 1, 3, none⟩ = some (.slice none 0 0) := (by rw [c1]; simp [go_sem])
    have a0 : w1.cell? ⟨w.heap.size, 0, none⟩ = some (.int .i64 z) := (by rw [c0]; simp [go_sem])
    have a1 : w1.cell? ⟨w.heap.size, 1, none⟩ = some (.int .i64 b) := (by rw [c0]; simp [go_sem])
    have a2 : w1.cell? ⟨w.heap.size, 2, none⟩ = some (.int .i64 e) := (by rw [c0]; simp [go_sem])
    have b0 : w1.cell? ⟨B, 0, none⟩ = some (.int .i64 z) := (by rw [cell_of_row w1 B 0 _ _ _ hB3]; rfl)
    have b1 : w1.cell? ⟨B, 1, none⟩ = some (.int .i64 b) := (by rw [cell_of_row w1 B 1 _ _ _ hB3]; rfl)
    have b2 : w1.cell? ⟨B, 2, none⟩ = some (.int .i64 e) := (by rw [cell_of_row w1 B 2 _ _ _ hB3]; rfl)
    have b3 : w1.cell? ⟨B, 3, none⟩ = some (.slice ao1 xs.length cap1) := (by rw [cell_of_row w1 B 3 _ _ _ hB3]; rfl)
    have bF : ∀ o, w1.frozen? ⟨B, o, none⟩ = false := fun o => (by simp [World.frozen?, hB3])
    clear hB3
    go_wp2
    go_loopw [17] (fun at_ wr => ∃ i : Nat, at_ = .int .i64 (i : Int) ∧ i ≤ m ∧ Hid (OwnS l2 u2 wr ao1 (setN xs z e (byteAt s) i)) ∧ Chg (fun k => l2 ≤ k ∧ k < u2) w1 wr) (fun at_ _ => m - (intOf at_).toNat)
    case atStart => exact ⟨0, rfl, by omega, hide ho2, Chg.refl _ _⟩
    case round =>
      obtain ⟨i, rfl, hi, hown, hg⟩ := hrel
      obtain ⟨r0, f0⟩ := hg.row (k := w.heap.size) (by omega) (by omega)
      obtain ⟨r1, f1⟩ := hg.row (k := w.heap.size + 1) (by omega) (by omega)
      obtain ⟨r2, f2⟩ := hg.row (k := B) (by omega) (by omega)
      have hs3 := hg.size
      have d0 : wr.cell? ⟨w.heap.size, 0, none⟩ = some (.int .i64 z) := (by rw [r0]; exact a0)
      have d2 : wr.cell? ⟨w.heap.size, 2, none⟩ = some (.int .i64 e) := (by rw [r0]; exact a2)
      have e0 : wr.cell? ⟨B, 0, none⟩ = some (.int .i64 z) := (by rw [r2]; exact b0)
      have e1 : wr.cell? ⟨B, 1, none⟩ = some (.int .i64 b) := (by rw [r2]; exact b1)
      have e2 : wr.cell? ⟨B, 2, none⟩ = some (.int .i64 e) := (by rw [r2]; exact b2)
      have e3 : wr.cell? ⟨B, 3, none⟩ = some (.slice ao1 xs.length cap1) := (by rw [r2]; exact b3)
      have eF : ∀ o, wr.frozen? ⟨B, o, none⟩ = false := fun o => (by rw [f2]; exact bF o)
      by_cases hlt : i < m
      · have hR : isRing z b e xs = true := by
          cases hh : isRing z b e xs with
          | true => rfl
          | false =>
            have h0 : roomOf z b e xs = 0 := by simp [roomOf, hh]
            have := hm'.out
            omega
        obtain ⟨q1, q2, q3, q4, q5, q6, q7⟩ := isRing_bd hR
        have his : (i : Int) < (s.size : Int) := by have := hm'.out; omega
        have hi0 : (0 : Int) ≤ (i : Int) := by omega
        have hroom2 : (i : Int) < 64 := by have := hm'.out; omega
        obtain ⟨ba, off, rfl⟩ := own_some hown.out (by rw [setN_length]; omega)
        obtain ⟨j1, j2⟩ := cellIx_lt (z := z) (o := e) (k := i) (by omega) (by omega)
        have hjl : cellIx z e i < (setN xs z e (byteAt s) i).length := by rw [setN_length]; omega
        have hset := hide (own_set hown.out hjl (byteAt s i))
        obtain ⟨cx, k1, k2, fx⟩ := own_at hown.out hjl
        have hsucc : Hid ((setN xs z e (byteAt s) i).set (cellIx z e i) (byteAt s i) = (setN xs z e (byteAt s) (i + 1))) := hide rfl
        generalize cellIx z e i = j at *
        generalize (setN xs z e (byteAt s) i) = ys at *
        generalize ys.getD j 0 = x at *
        have j0 : (0 : Int) ≤ (j : Int) := by omega
        have hzz : ¬ z = 0 := by omega
        have hlen1 : (j : Int) < (xs.length : Int) := by omega
        have hwr : IntKind.i64.wrap (e + (i : Int)) = e + (i : Int) := IntWalk.i64_in _ (by omega)
        have his2 : i < s.size := by omega
        have hby : IntKind.i64.wrap ((s[i]'his2).toNat : Int) = byteAt s i := by
          rw [IntWalk.i64_in _ (by have := UInt8.toNat_lt (s[i]'his2); omega)]
          simp [byteAt, his2]
        have hne0 : ba ≠ w.heap.size := by omega
        have hne1 : ba ≠ B := by omega
        clear r0 r1 r2
        go_wp2_with fail
        go_region_held3 (fun w' => w'.cell? ⟨w.heap.size, 0, none⟩ = some (.int .i64 z) ∧ w'.cell? ⟨w.heap.size, 2, none⟩ = some (.int .i64 e) ∧ w'.cell? ⟨B, 3, none⟩ = some (.slice (some ⟨ba, off, none⟩) xs.length cap1)) (first | go_keep | (go_split_ands; refine ⟨?_, ?_, ?_⟩ <;> (rw [World.cell?_setCell_other _ _ _ _ (by simp; omega)]; simp [go_sem, *]))) (fail)
        go_wp2
        go_roundw
        case rel => exact ⟨i + 1, by go_num, by omega, hide (by rw [← hsucc.out]; exact hset.out.chg ((Chg.refl (fun _ => False) _).drew) (fun _ _ _ h => h)), Chg.drew (Chg.set (S := fun k => l2 ≤ k ∧ k < u2) (p := ⟨ba, off + j, none⟩) (Or.inl ⟨k1, k2⟩) hg _)⟩
        case measure => simp [intOf]; omega
      · obtain rfl : i = m := by omega
        have hnn := setN_length xs z e (byteAt s) i
        have hEr : Ext w wr := (Chg.trans (Ext.chg (S := fun k => l2 ≤ k ∧ k < u2) xw1) hg).ext (fun k hk h => by omega)
        have hwr : IntKind.i64.wrap (e + (i : Int)) = e + (i : Int) := IntWalk.i64_in _ (by
          have hh := hm'.out
          cases hR : isRing z b e xs with
          | true => have := isRing_bd hR; omega
          | false =>
            have h0 : roomOf z b e xs = 0 := by simp [roomOf, hR]
            omega)
        have f1' : ∀ o, wr.frozen? ⟨w.heap.size + 1, o, none⟩ = false := fun o => (by rw [f1]; exact f1F o)
        have g0 : wr.cell? ⟨w.heap.size + 1, 0, none⟩ = some (.int .i64 0) := (by rw [r1]; exact g0')
        have g1 : wr.cell? ⟨w.heap.size + 1, 1, none⟩ = some (.int .i64 0) := (by rw [r1]; exact g1')
        have g2 : wr.cell? ⟨w.heap.size + 1, 2, none⟩ = some (.int .i64 0) := (by rw [r1]; exact g2')
        have g3 : wr.cell? ⟨w.heap.size + 1, 3, none⟩ = some (.slice none 0 0) := (by rw [r1]; exact g3')
        have hB0 : B ≠ w.heap.size + 1 := by omega
        have hB0' : B ≠ w.heap.size := by omega
        clear r0 r1 r2 f0 f1 f2 f1F bF
        go_wp2
        refine bodyPost_ret (v := .tuple #[.agg #[.int .i64 z, .int .i64 b, .int .i64 (e + (i : Int)), .slice ao1 xs.length cap1], .int .i64 (i : Int)]) (by simp [results, Try.results66, go_sem, *]) rfl ⟨ao1, cap1, by rw [hnn], ?_, ?_⟩
        · refine OwnS.mono (OwnS.chg (S := fun k => k < l2 ∨ u2 ≤ k) hown.out (by repeat (first | with_reducible exact Chg.refl _ _ | with_reducible assumption | with_reducible refine Chg.alloc ?_ _ | with_reducible refine Chg.drew ?_ | with_reducible refine Chg.drewN ?_ _ | ((with_reducible refine Chg.set ?_ ?_ _); (focus (first | (left; simp; done) | (left; simp; omega) | (right; simp; done) | (right; simp; omega)))))) (fun b h1 h2 h3 => by omega)) (by omega) (by simp; omega)
        · exact Ext.go
end
end Go.Proofs.Ytjhgcbchdnoleaa

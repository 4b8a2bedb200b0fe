/-
  Contracts of ByteAt and BufferRanges of the program. Conditions: the chunks can be read, and lie below the greatest number. What lies at each place of a buffer behind an insertion. No program in sight. Conditions: each lemma bears its own. The law FnBuffers holds of every code. No condition.
-/
import Derived.Test.YtjnbiacnhimkgaaByteAt
import Derived.Test.YtjnbiacnhimkgaaFlow
import Derived.Test.YtjnbiacnhimkgaaBoxV
import Derived.Test.YtjnbiacnhimkgaaTake
import Derived.Test.YtjnbiacnhimkgaaBufW
import Derived.Test.YtjnbiacnhimkgaaRvP
import Derived.Test.YtjnbiacnhimkgaaDrawBufs
import Derived.Test.YtjnbiacnhimkgaaSndEq
import Derived.Test.YtjnbiacnhimkgaaRecvEq
import Derived.Test.YtjnbiacnhimkgaaRgI
import Derived.Deep.DeepCutAuto
import Derived.Deep.CutBlock
namespace Go.Proofs.Ytjnbiacnhimkgaa
section
open Go.ChangeShapes Go.WideShapes Go.ChangeAt Go.RowKit
set_option linter.unusedSimpArgs false
set_option linter.unusedVariables false
set_option maxHeartbeats 4000000 in
theorem ByteAt_impl (nx n : Int) (ao : Option Addr) (len ca : Nat) (cs : List Ck) (w : World) (hx : ReadC w ao cs) (hn : cs.length = len) (hl : len ≤ 1048576) (hw : WB cs) (hn0 : -1 ≤ n ∧ n ≤ 4611686018427387903) :
    Calls Try.prog 12 #[.agg #[.int .i64 nx, .slice ao len ca], .int .i64 n] w fun e w' => e = .returned (.int .i64 (bytAt cs n)) ∧ Ext w w' := by
  have hn' := hide hn
  have hx' := hide hx
  have hw' := hide hw
  clear hn hx hw
  obtain ⟨n1, n2⟩ := hn0
  go_enter Try.func12, Try.ntmps12
  go_wp2_with fail
  go_loopw [10] (fun i wr => ∃ (k : Nat), i = .int .i64 k ∧ k ≤ len ∧ bytAt cs n = bytAt (cs.drop k) n ∧ Ext (w.alloc (.cells #[.int .i64 nx, .slice ao len ca] 26)) wr) (fun i _ => len - (intOf i).toNat)
  case atStart => exact ⟨0, rfl, by omega, rfl, Ext.refl _⟩
  case round =>
    obtain ⟨k, rfl, hk, hb, hg⟩ := hrel
    have hb' := hide hb
    clear hb
    have hgw : Ext w wr := Ext.trans ((Ext.refl w).alloc _) hg
    by_cases hlt : k < len
    · have hkx : k < cs.length := by rw [hn'.out]; exact hlt
      rcases hx'.out with hnil | ⟨bx, off, rfl, hx⟩
      · rw [hnil] at hkx; simp at hkx
      obtain ⟨cx, cx2⟩ := hx k hkx
      have la : bx < w.heap.size := World.block_lt_of_cell? w _ cx
      have hr := (hgw.row la).1
      have dx := (hr _).trans cx
      have dx2 := (hr _).trans cx2
      have hsz := hgw.size
      have lw : bx ≠ wr.heap.size := by omega
      have i1 : (0 : Int) ≤ (k : Int) := by omega
      have i2 : (k : Int) < (len : Int) := by omega
      have hbk := hw'.out.at hkx
      have hcons := hide (drop_cons cs hkx)
      clear hx cx cx2 hr
      rw [hcons.out] at hb'
      generalize cs.getD k dk = c at *
      obtain ⟨o, s⟩ := c
      dsimp only at *
      obtain ⟨z1, z2⟩ := hbk
      have hgx : Ext (w.alloc (.cells #[.int .i64 nx, .slice (some ⟨bx, off, none⟩) len ca] 26)) (wr.alloc (.cells #[.int .i64 o, .string s] 53)) := hg.alloc _
      have g2 : decide (0 ≤ o) = true := decide_eq_true z1
      by_cases t2 : o ≤ n
      · obtain ⟨j, hj⟩ : ∃ j : Nat, n - o = (j : Int) := ⟨(n - o).toNat, by omega⟩
        have g3 : decide (o ≤ n) = true := decide_eq_true t2
        have g5 : decide ((0 : Int) ≤ (j : Int)) = true := decide_eq_true (by omega)
        by_cases t3 : j < s.size
        · have g4 : decide ((j : Int) < (s.size : Int)) = true := decide_eq_true (by omega)
          have g6 : decide (j < s.size) = true := decide_eq_true t3
          obtain ⟨v, hv⟩ : ∃ v : Int, v = ((s.data.getD j 0).toNat : Int) := ⟨_, rfl⟩
          have hbv : Hid (bytAt cs n = v) := hide (by
            rw [hb'.out, bytAt_yes ⟨t2, by dsimp only; omega⟩, hv]
            dsimp only
            rw [hj, Int.toNat_natCast])
          have hby : IntKind.i64.wrap ((s[j]'t3).toNat : Int) = v := by
            rw [IntWalk.i64_in _ (by have := UInt8.toNat_lt (s[j]'t3); omega), hv]
            have q : j < s.data.size := t3
            simp [Array.getD_eq_getD_getElem?, Array.getElem?_eq_getElem q]
            rfl
          have j0 : (0 : Int) ≤ (j : Int) := by omega
          have j1 : (j : Int) < (s.size : Int) := by omega
          clear hb' hcons hv
          go_wp2
          go_ret
          exact ⟨by rw [hbv.out]; rfl, hgw.alloc _⟩
        · have g4 : decide ((j : Int) < (s.size : Int)) = false := decide_eq_false (by omega)
          have g6 : decide (j < s.size) = false := decide_eq_false t3
          have hbn : Hid (bytAt cs n = bytAt (cs.drop (k + 1)) n) := hide (by rw [hb'.out, bytAt_no (by dsimp only; omega)])
          clear hb' hcons
          go_wp2
          go_roundw
          case rel => exact ⟨k + 1, by go_num, by omega, hbn.out, hgx⟩
          case measure => simp [intOf]; omega
      · have g5 : decide (o ≤ n) = false := decide_eq_false (by omega)
        have hbn : Hid (bytAt cs n = bytAt (cs.drop (k + 1)) n) := hide (by rw [hb'.out, bytAt_no (by dsimp only; omega)])
        clear hb' hcons
        go_wp2
        go_roundw
        case rel => exact ⟨k + 1, by go_num, by omega, hbn.out, hgx⟩
        case measure => simp [intOf]; omega
    · obtain rfl : k = len := by omega
      have hbn : Hid (bytAt cs n = -1) := hide (by rw [hb'.out, List.drop_of_length_le (Nat.le_of_eq hn'.out)]; rfl)
      clear hb'
      go_wp2
      go_ret
      exact ⟨by rw [hbn.out]; rfl, hgw⟩
/-- A row of ranges of the call's own, in blocks from lo up to hi. -/
def RowAt (lo hi : Nat) (w : World) (v : Value) (m : Nat) (L : List Rg) : Prop := w.ownsRow lo 61 2 v m (rgCells L) ∧ ∀ k, v.ownBlock = some k → k < hi
theorem RowAt.of {lo : Nat} {w : World} {v : Value} {m : Nat} {L : List Rg} (h : w.ownsRow lo 61 2 v m (rgCells L)) : RowAt lo w.heap.size w v m L := ⟨h, fun k hk => (h.lt k hk).2⟩
theorem RowAt.chg {lo hi m : Nat} {S : Nat → Prop} {w w' : World} {v : Value} {L : List Rg} (h : RowAt lo hi w v m L) (hx : Chg S w w') (hS : ∀ b, lo ≤ b → b < hi → ¬ S b) : RowAt lo hi w' v m L :=
  ⟨ownsBlkC h.1 hx (fun k hk => hS k (h.1.lt k hk).1 (h.2 k hk)), h.2⟩
set_option maxHeartbeats 4000000 in
set_option maxRecDepth 100000 in
theorem BufferRanges_impl (nx : Int) (ao : Option Addr) (n ca : Nat) (cs : List Ck) (w : World) (hx : ReadC w ao cs) (hn : cs.length = n) (hl : n ≤ 1048576) (hw : WfC cs) :
    Calls Try.prog 14 #[.agg #[.int .i64 nx, .slice ao n ca]] w (NewR (bufRgs nx cs) w) := by
  have hn' := hide hn
  have hx' := hide hx
  have hw' := hide hw
  clear hn hx hw
  obtain ⟨i0, hi0, hz0, hz1, hz2⟩ := info_parts infoRange
  skip
  go_enter Try.func14, Try.ntmps14
  have hgw0 : Chg (fun b => w.heap.size ≤ b) w w := Chg.refl _ _
  go_wp2_with fail
  refine (IsBuffer_impl nx ao n ca cs _ (hx'.out.ext (by repeat (first | with_reducible exact Ext.refl _ | with_reducible refine Ext.alloc ?_ _))) hn'.out (by omega) hw'.out).mono ?_
  rintro en w1 ⟨rfl, hw1⟩
  have gw1 : Chg (fun b => False) w w1 := Chg.trans (by repeat (first | with_reducible exact Chg.refl _ _ | with_reducible refine Chg.alloc ?_ _ | with_reducible refine Chg.drew ?_ | ((with_reducible refine Chg.set ?_ ?_ _); (focus (first | (left; first | rfl | (simp; done) | ((try dsimp only); omega) | (simp; omega)) | (right; simp; done) | (right; simp; omega) | (right; omega)))))) (Ext.chg hw1 _)
  have zw1 := hw1.size
  (try simp at zw1)
  have yw1 : w.heap.size ≤ w1.heap.size := gw1.size
  have ha_w1 := hide (BoxV.chg (BoxV.new w [.int .i64 nx, .slice ao n ca] 26) (S := fun b => False) (Chg.trans (by repeat (first | with_reducible exact Chg.refl _ _ | with_reducible refine Chg.alloc ?_ _ | with_reducible refine Chg.drew ?_ | ((with_reducible refine Chg.set ?_ ?_ _); (focus (first | (left; first | rfl | (simp; done) | ((try dsimp only); omega) | (simp; omega)) | (right; simp; done) | (right; simp; omega) | (right; omega)))))) (Ext.chg hw1 _)) (by first | exact fun h => h | ((try dsimp only); omega)))
  have hgww1 : Chg (fun b => w.heap.size ≤ b) w w1 := Chg.trans hgw0 (Chg.mono (T := fun b => w.heap.size ≤ b) gw1 (fun b _ h => by first | exact False.elim h | ((try dsimp only at h ⊢); omega)))
  clear hgw0
  have ba0 := ha_w1.out.c 0 _ rfl
  have ba1 := ha_w1.out.c 1 _ rfl
  have baF := ha_w1.out.fr
  have kba : w.heap.size < w1.heap.size := ha_w1.out.lt
  have hown0 : Hid (w1.ownsRow (w.heap.size + 1) 61 2 (.slice (some ⟨w.heap.size + 1, 0, none⟩) 0 0) 0 (rgCells [])) := hide (ownsBlkC (S := fun _ => False) (own_made (w := w.alloc (.cells #[.int .i64 nx, .slice ao n ca] 26)) (base := w.heap.size + 1) (B := w.heap.size + 1) (by simp) (by omega)) (Ext.chg hw1 _) (fun _ _ h => h))
  rcases Bool.eq_false_or_eq_true (isBuf nx cs) with hi | hi
  rotate_left
  · rw [hi]
    have hbr : bufRgs nx cs = [] := by rw [bufRgs, if_neg (by rw [hi]; decide)]
    rw [hbr]
    go_wp2
    refine bodyPost_ret (v := .slice (some ⟨w.heap.size + 1, 0, none⟩) 0 0) (by simp [results, Try.results14, go_sem, *]) rfl ⟨some ⟨w.heap.size + 1, 0, none⟩, 0, by rw [hbr]; rfl, Or.inl hbr, ?_⟩
    exact hgww1.ext (fun b h1 h2 => by (try dsimp only at h2); omega)
  · rw [hi]
    have hbr : bufRgs nx cs = ckRgs cs := by rw [bufRgs, if_pos hi]
    rw [hbr]
    go_wp2_with fail
    go_loopw [3, 14] (fun s i wr => ∃ (k : Nat) (ao1 : Option Addr) (ca1 : Nat), i = .int .i64 k ∧ k ≤ n ∧ s = .slice ao1 k ca1 ∧ Hid (wr.ownsRow (w.heap.size + 1) 61 2 (.slice ao1 k ca1) k (rgCells (ckRgs (cs.take k)))) ∧ w.heap.size + 2 ≤ wr.heap.size ∧ Chg (fun b => w.heap.size ≤ b) w wr) (fun _ i _ => n - (intOf i).toNat)
    case atStart => exact ⟨0, _, _, rfl, by omega, rfl, hown0, by omega, hgww1⟩
    case round =>
      clear hown0 ba0 ba1 baF kba hgww1 ha_w1
      obtain ⟨k, ao1, ca1, rfl, hk, rfl, hown, hsz, hgw⟩ := hrel
      have hxr : Ext w wr := hgw.ext (fun b h1 h2 => by (try dsimp only at h2); omega)
      by_cases hlt : k < n
      · skip
        replace hown := hide (RowAt.of hown.out)
        have hkx : k < cs.length := by rw [hn'.out]; exact hlt
        rcases hx'.out with hnil | ⟨bx, off, rfl, hx⟩
        · rw [hnil] at hkx; simp at hkx
        obtain ⟨cx, cx2⟩ := hx k hkx
        have la : bx < w.heap.size := World.block_lt_of_cell? w _ cx
        have hr := (hxr.row la).1
        have dx := (hr _).trans cx
        have dx2 := (hr _).trans cx2
        have i1 : (0 : Int) ≤ (k : Int) := by omega
        have i2 : (k : Int) < (n : Int) := by omega
        have hbk := isBuf_at hi hkx
        have htk := hide (ckRgs_take cs hkx)
        clear hx cx cx2 hr
        generalize cs.getD k dk = c at *
        obtain ⟨o, s⟩ := c
        dsimp only at *
        obtain ⟨z1, z2, z3, z4⟩ := hbk
        have hwre : IntKind.i64.wrap (o + (s.size : Int)) = o + (s.size : Int) := IntWalk.i64_in _ (by omega)
        have hne : bx ≠ wr.heap.size := by omega
        have hne2 : bx < wr.heap.size := by omega
        go_wp2_with fail
        refine wp_region_flowC (fun _ => False) 7 [(0, 1), (1, 1), (2, 1), (3, 1), (4, 0), (5, 1), (6, 0)] (by kernel_rfl) (by kernel_rfl) ?_
        (refine wpC_pure (v := ?_) rfl rfl (by rfl) ?_ ?_; rotate_left; (focus (intro ws hws; go_simp; (try with_reducible rfl); done)))
        try simp only [Act.put, List.getElem_toArray, List.getElem_cons_zero, List.getElem_cons_succ, List.setIfInBounds_toArray, List.set_cons_zero, List.set_cons_succ]
        (refine wpC_pure (v := ?_) rfl rfl (by rfl) ?_ ?_; rotate_left; (focus (intro ws hws; go_simp; (try with_reducible rfl); done)))
        try simp only [Act.put, List.getElem_toArray, List.getElem_cons_zero, List.getElem_cons_succ, List.setIfInBounds_toArray, List.set_cons_zero, List.set_cons_succ]
        (refine wpC_pure (v := ?_) rfl rfl (by rfl) ?_ ?_; rotate_left; (focus (intro ws hws; obtain ⟨q0, p0⟩ := hws.row (k := wr.heap.size) (by first | assumption | (simp; done) | (simp; omega) | omega) (by first | exact fun h => h | ((try dsimp only); omega)); go_simp; (try with_reducible rfl); done)))
        try simp only [Act.put, List.getElem_toArray, List.getElem_cons_zero, List.getElem_cons_succ, List.setIfInBounds_toArray, List.set_cons_zero, List.set_cons_succ]
        (refine wpC_pure (v := ?_) rfl rfl (by rfl) ?_ ?_; rotate_left; (focus (intro ws hws; obtain ⟨q0, p0⟩ := hws.row (k := wr.heap.size) (by first | assumption | (simp; done) | (simp; omega) | omega) (by first | exact fun h => h | ((try dsimp only); omega)); go_simp; (try with_reducible rfl); done)))
        try simp only [Act.put, List.getElem_toArray, List.getElem_cons_zero, List.getElem_cons_succ, List.setIfInBounds_toArray, List.set_cons_zero, List.set_cons_succ]
        (refine wpC_call 33 ?_ rfl rfl (by rfl) ?_ ?_; rotate_left; (focus (go_simp; (try with_reducible rfl); done)))
        refine (end_any (o, s) _ (by dsimp only; omega) (by dsimp only; omega)).mono ?_
        rintro en v1 ⟨rfl, hv1⟩
        refine ⟨_, rfl, (Ext.chg hv1 _), ?_⟩
        try simp only [Act.put, List.getElem_toArray, List.getElem_cons_zero, List.getElem_cons_succ, List.setIfInBounds_toArray, List.set_cons_zero, List.set_cons_succ]
        have gv1 : Chg (fun b => False) wr v1 := Chg.trans (by repeat (first | with_reducible exact Chg.refl _ _ | with_reducible refine Chg.alloc ?_ _ | with_reducible refine Chg.drew ?_ | ((with_reducible refine Chg.set ?_ ?_ _); (focus (first | (left; first | rfl | (simp; done) | ((try dsimp only); omega) | (simp; omega)) | (right; simp; done) | (right; simp; omega) | (right; omega)))))) (Ext.chg hv1 _)
        have zv1 := hv1.size
        (try simp at zv1)
        have yv1 : wr.heap.size ≤ v1.heap.size := gv1.size
        have hc_v1 := hide (BoxV.chg (BoxV.new wr [.int .i64 o, .string s] 53) (S := fun b => False) (Chg.trans (by repeat (first | with_reducible exact Chg.refl _ _ | with_reducible refine Chg.alloc ?_ _ | with_reducible refine Chg.drew ?_ | ((with_reducible refine Chg.set ?_ ?_ _); (focus (first | (left; first | rfl | (simp; done) | ((try dsimp only); omega) | (simp; omega)) | (right; simp; done) | (right; simp; omega) | (right; omega)))))) (Ext.chg hv1 _)) (by first | exact fun h => h | ((try dsimp only); omega)))
        have oo_v1 := hide (RowAt.chg hown.out gv1 (fun b h1 h2 h3 => by first | exact False.elim h3 | ((try dsimp only at h3); omega)))
        have hgwv1 : Chg (fun b => w.heap.size ≤ b) w v1 := Chg.trans hgw (Chg.mono (T := fun b => w.heap.size ≤ b) gv1 (fun b _ h => by first | exact False.elim h | ((try dsimp only at h ⊢); omega)))
        clear hown hgw
        clear gv1 hv1
        have bc0 := hc_v1.out.c 0 _ rfl
        have bc1 := hc_v1.out.c 1 _ rfl
        have bcF := hc_v1.out.fr
        have kbc : wr.heap.size < v1.heap.size := hc_v1.out.lt
        skip
        (refine wpC_pure (v := ?_) rfl rfl (by rfl) ?_ ?_; rotate_left; (focus (intro ws hws; go_simp; (try with_reducible rfl); done)))
        try simp only [Act.put, List.getElem_toArray, List.getElem_cons_zero, List.getElem_cons_succ, List.setIfInBounds_toArray, List.set_cons_zero, List.set_cons_succ]
        refine wpC_made (.slice (some ⟨v1.heap.size, 0, none⟩) 1 1) (v1.alloc (.cells #[.int .i64 o, .int .i64 (o + (s.size : Int))] 61)) rfl rfl (by rfl) (by go_simp) (Chg.alloc (Chg.refl _ _) _) ?_
        try simp only [Act.put, List.getElem_toArray, List.getElem_cons_zero, List.getElem_cons_succ, List.setIfInBounds_toArray, List.set_cons_zero, List.set_cons_succ]
        refine wpF_done rfl ?_
        simp only [List.drop_succ_cons, List.drop_zero, List.drop_nil]
        have hrl := rgCells_length (ckRgs (cs.take k))
        have hlk : (ckRgs (cs.take k)).length = k := by rw [ckRgs_length, List.length_take]; omega
        go_wp2_with (at_builtin; refine wpList_append_lies _ rfl _ _ _ (by rfl) (w.heap.size + 1) 61 i0 _ 2 16 Try.underlying34 hi0 hz0 hz1 hz2 rfl (by omega) (.slice ao1 k ca1) k _ (by rfl) (oo_v1.out.1.alloc _) ⟨v1.heap.size, 0, none⟩ 1 1 [.int .i64 o, .int .i64 (o + (s.size : Int))] (by rfl) (by rfl) (World.news_of_block (cs := #[.int .i64 o, .int .i64 (o + (s.size : Int))]) (t := 61) (fr := (0, 0)) (heap_alloc_new v1 _)) (by simp [Value.oneCell']) (by omega) (by simp [maxLen] <;> omega) (by omega) (by simp; omega) (v1.heap.size + 1) (by simp) ?_)
        intro gg1 cap1 va1 hown1 hgrow1 hat1 hlt1
        have hgc1 : Chg (fun b => ((.slice ao1 k ca1) : Value).ownBlock = some b) v1 va1 := (((Ext.refl v1).alloc _).chg _).trans (grown_chg hgrow1 (fun k hk => hk))
        have hlb : ∀ b, ((.slice ao1 k ca1) : Value).ownBlock = some b → (w.heap.size + 1) ≤ b ∧ b < v1.heap.size := fun b hb => oo_v1.out.1.lt _ hb
        rw [rgCells_app (ckRgs (cs.take k)) (o, (o + (s.size : Int)))] at hown1
        replace hown1 := hide (RowAt.of hown1)
        have zz1 := hgc1.size
        clear hgrow1 hat1 hlt1
        have hgwva1 := hgwv1.trans (hgc1.mono (T := fun b => w.heap.size ≤ b) (fun b _ h => by have := hlb b h; (try dsimp only); omega))
        clear bc0 bc1 bcF kbc hc_v1 hgwv1 oo_v1 hlb hgc1
        go_wp2
        go_roundw
        case rel => exact ⟨k + 1, _, _, by go_num, by omega, rfl, hide (by rw [htk.out]; exact hown1.out.1), by omega, hgwva1⟩
        case measure => simp [intOf]; omega
      · obtain rfl : k = n := by omega
        have hfull : cs.take k = cs := List.take_of_length_le (by rw [hn'.out]; exact Nat.le_refl _)
        rw [hfull] at hown
        go_wp2
        refine bodyPost_ret (v := .slice ao1 k ca1) (by simp [results, Try.results14, go_sem]) rfl ?_
        obtain ⟨aoC, capC, e1, e2, ho⟩ := own_ranges hown.out
        first | exact ⟨aoC, capC, by rw [e1], ho.mono (by omega) (Nat.le_refl _), hxr⟩ | exact ⟨aoC, capC, by rw [hbr, e1], by rw [hbr]; exact ho.mono (by omega) (Nat.le_refl _), hxr⟩
end
section
set_option linter.unusedSimpArgs false
set_option linter.unusedVariables false
/-- The byte that must lie at a place behind the insertion. -/
def wantB (nx : Int) (cs : List Ck) (off : Int) (d : ByteArray) (n : Int) : Int :=
  if bytAt cs n < 0 ∧ nx ≤ n ∧ 0 ≤ off ∧ off ≤ n ∧ n < off + (d.size : Int) then ((d.data.getD (n - off).toNat 0).toNat : Int) else bytAt cs n
theorem ins_want {nx : Int} {cs : List Ck} {off : Int} {d : ByteArray} (hb : isBuf nx cs = true) (hs : (d.size : Int) ≤ 1000) {n : Int} (hn : n ≤ 1000) : bytAt (insC nx cs off d) n = wantB nx cs off d n := by
  have q : d.data.size = d.size := rfl
  unfold wantB
  by_cases hk : insOk nx cs off d = true
  · obtain ⟨_, k1, k2, k3, k4⟩ := insOk_parts hk
    rw [bytAt_at (insC nx cs off d) n, insC_at hk n, bytAt_at cs n]
    cases hc : atC cs n with
    | some b =>
      simp only [Option.some_or]
      rw [if_neg (by have := UInt8.toNat_lt b; omega)]
    | none =>
      simp only [Option.none_or]
      by_cases hm : max off nx ≤ n ∧ n < off + (d.size : Int)
      · rw [if_pos hm, if_pos ⟨by omega, by omega, by omega, by omega, by omega⟩, Array.getElem?_eq_getElem (by omega : (n - off).toNat < d.data.size)]
        simp only [Array.getD_eq_getD_getElem?, Array.getElem?_eq_getElem (by omega : (n - off).toNat < d.data.size), Option.getD_some]
      · rw [if_neg hm, if_neg (by omega)]
  · have hno : ¬ (0 < d.size ∧ 0 ≤ off ∧ off + (d.size : Int) ≤ 4611686018427387903 ∧ nx < off + (d.size : Int)) := by
      intro h
      apply hk
      simp only [insOk, Bool.and_eq_true, decide_eq_true_eq]
      exact ⟨hb, h.1, h.2.1, h.2.2.1, h.2.2.2⟩
    rw [insC, if_neg hk, if_neg (by omega)]
theorem wantB_bd {nx : Int} {cs : List Ck} {off : Int} {d : ByteArray} {n : Int} : -1 ≤ wantB nx cs off d n ∧ wantB nx cs off d n ≤ 255 := by
  have h := bytAt_bd cs n
  unfold wantB
  split
  · have := UInt8.toNat_lt (d.data.getD (n - off).toNat 0)
    omega
  · exact h
end
section
open Go.ChangeShapes Go.WideShapes Go.ChangeAt Go.RowKit
set_option linter.unusedSimpArgs false
set_option linter.unusedVariables false
theorem big_any (ao : Option Addr) (len cap : Nat) (w : World) : Calls Try.prog 4 #[.slice ao len cap] w fun e w' => e = .returned (.bool (decide (1048576 < (len : Int)))) ∧ w = w' := by
  go_enter Try.func4, Try.ntmps4
  go_wp2
  go_ret
  simp
theorem bufEq_refl (nx : Int) (xs : List Ck) : bufEq nx nx xs xs = true := by simp [bufEq]
theorem eqb_same (nx : Int) (ao bo : Option Addr) (ca cb : Nat) (xs : List Ck) (w : World) (hx : ReadC w ao xs) (hy : ReadC w bo xs) (hl : xs.length ≤ 1048576) :
    Calls Try.prog 8 #[.agg #[.int .i64 nx, .slice ao xs.length ca], .agg #[.int .i64 nx, .slice bo xs.length cb]] w fun en w' => en = .returned (.bool true) ∧ Ext w w' := by
  have h := EqualBuffers_spec nx nx ao bo _ _ ca cb xs xs w hx hy rfl rfl (by omega)
  rw [bufEq_refl] at h
  exact h
theorem eqr_same (ao bo : Option Addr) (ca cb : Nat) (xs : List Rg) (w : World) (hx : ReadR w ao xs) (hy : ReadR w bo xs) (hl : xs.length ≤ 1048576) :
    Calls Try.prog 23 #[.slice ao xs.length ca, .slice bo xs.length cb] w fun en w' => en = .returned (.bool true) ∧ Ext w w' := by
  have h := EqualRanges_spec ao bo _ _ ca cb xs xs w hx hy rfl rfl (by omega)
  rw [decide_eq_true rfl] at h
  exact h
theorem insC_wb {nx : Int} {cs : List Ck} {off : Int} {d : ByteArray} (h : WB cs) : WB (insC nx cs off d) := by
  by_cases hk : insOk nx cs off d = true
  · exact isBuf_wb (insC_isBuf (insOk_parts hk).1)
  · rw [insC, if_neg hk]; exact h
theorem bufRgs_length (nx : Int) (cs : List Ck) : (bufRgs nx cs).length ≤ cs.length := by
  unfold bufRgs
  split
  · rw [ckRgs_length]; exact Nat.le_refl _
  · simp
set_option maxHeartbeats 8000000 in
set_option maxRecDepth 100000 in
theorem buffers_walk (ao : Option Addr) (len cap : Nat) (w : World) (hc : len ≤ 1048576 → CodeAt w w.heap.size (.slice ao len cap)) :
    Calls Try.prog 3 #[.slice ao len cap] w fun e w' => e = .returned (.bool true) ∧ Ext w w' := by
  by_cases hbig : (1048576 : Int) < len
  · have hbd : decide ((1048576 : Int) < len) = true := decide_eq_true hbig
    go_enter Try.func3, Try.ntmps3
    go_wp2_with fail
    refine (big_any ao len cap _).mono ?_
    rintro e _ ⟨rfl, rfl⟩
    go_wp2
    go_ret
    exact ⟨rfl, Ext.refl _⟩
  have hbd : decide ((1048576 : Int) < len) = false := decide_eq_false hbig
  replace hc := hc (by omega)
  clear hbig
  go_enter Try.func3, Try.ntmps3
  go_wp2_with fail
  refine (big_any ao len cap _).mono ?_
  rintro e _ ⟨rfl, rfl⟩
  go_wp2_with fail
  refine (DrawInsertData_any _ _ hc).mono ?_
  rintro en w1 ⟨nx, cs, ar, cr, off, d, rfl, ok, ho, hds, own, hw1⟩
  have zw1 := hw1.size
  (try simp at zw1)
  have hr := hide own.read
  clear own
  have hcl := ok.len
  have hwf := hide ok.wf
  have hwb := hide ok.wb
  have hnx := ok.nx
  go_wp2_with fail
  refine (InsertData_impl nx off d ar _ cr cs _ (hr.out.ext (by repeat (first | with_reducible exact Ext.refl _ | with_reducible assumption | with_reducible refine Ext.alloc ?_ _ | with_reducible refine Ext.drew ?_ | ((with_reducible refine Ext.set ?_ ?_ _); (focus (first | (simp; done) | (simp; omega) | omega)))))) rfl (by omega) hwf.out (by omega) (by omega)).mono ?_
  rintro en w2 ⟨ax, cx, rfl, ownx, hw2⟩
  have zw2 := hw2.size
  (try simp at zw2)
  have kw2_0 := hw2.more (k := w1.heap.size) (by first | (simp; done) | (simp; omega) | omega)
  obtain ⟨cw2_0, fw2_0⟩ := hw2.row (k := w1.heap.size) (by first | (simp; done) | (simp; omega) | omega)
  have hx := hide ownx.read
  clear ownx
  go_wp2_with fail
  refine (InsertData_spec nx off d ar _ cr cs _ (hr.out.ext (by repeat (first | with_reducible exact Ext.refl _ | with_reducible assumption | with_reducible refine Ext.alloc ?_ _ | with_reducible refine Ext.drew ?_ | ((with_reducible refine Ext.set ?_ ?_ _); (focus (first | (simp; done) | (simp; omega) | omega))) | with_reducible refine Ext.trans ?_ hw2))) rfl (by omega) hwf.out (by omega) (by omega)).mono ?_
  rintro en w3 ⟨ay, cy, rfl, owny, hw3⟩
  have zw3 := hw3.size
  (try simp at zw3)
  have kw3_0 := hw3.more (k := w1.heap.size) (by first | (simp; done) | (simp; omega) | omega)
  obtain ⟨cw3_0, fw3_0⟩ := hw3.row (k := w1.heap.size) (by first | (simp; done) | (simp; omega) | omega)
  have kw3_1 := hw3.more (k := w2.heap.size) (by first | (simp; done) | (simp; omega) | omega)
  obtain ⟨cw3_1, fw3_1⟩ := hw3.row (k := w2.heap.size) (by first | (simp; done) | (simp; omega) | omega)
  have hy := hide owny.read
  clear owny
  have hyl := insC_length nx cs off d
  have hyf := hide (insC_wf (nx := nx) (off := off) (data := d) hwf.out)
  have hyb := hide (insC_wb (nx := nx) (off := off) (d := d) hwb.out)
  go_wp2_with fail
  refine wp_region_flowE 11 [(0, 1), (1, 1), (2, 0), (3, 1), (4, 1), (5, 1), (7, 1), (6, 0), (8, 0), (9, 1), (10, 1)] (by kernel_rfl) (by kernel_rfl) ?_
  (refine wpF_pure (v := ?_) rfl rfl (by rfl) ?_ ?_; rotate_left; (focus (intro ws hws; obtain ⟨q0, p0⟩ := hws.row (k := w2.heap.size) (by first | (simp; done) | (simp; omega) | omega); go_simp; (try with_reducible rfl); done)))
  try simp only [Act.put, List.getElem_toArray, List.getElem_cons_zero, List.getElem_cons_succ, List.setIfInBounds_toArray, List.set_cons_zero, List.set_cons_succ]
  (refine wpF_pure (v := ?_) rfl rfl (by rfl) ?_ ?_; rotate_left; (focus (intro ws hws; obtain ⟨q0, p0⟩ := hws.row (k := w3.heap.size) (by first | (simp; done) | (simp; omega) | omega); go_simp; (try with_reducible rfl); done)))
  try simp only [Act.put, List.getElem_toArray, List.getElem_cons_zero, List.getElem_cons_succ, List.setIfInBounds_toArray, List.set_cons_zero, List.set_cons_succ]
  (refine wpF_call 8 ?_ rfl rfl (by rfl) ?_ ?_; rotate_left; (focus (go_simp; (try with_reducible rfl); done)))
  refine (eqb_same nx ax ay cx cy (insC nx cs off d) _ (hx.out.ext (by repeat (first | with_reducible exact Ext.refl _ | with_reducible assumption | with_reducible refine Ext.alloc ?_ _ | with_reducible refine Ext.drew ?_ | ((with_reducible refine Ext.set ?_ ?_ _); (focus (first | (simp; done) | (simp; omega) | omega))) | with_reducible refine Ext.trans ?_ hw3))) (hy.out.ext (by repeat (first | with_reducible exact Ext.refl _ | with_reducible assumption | with_reducible refine Ext.alloc ?_ _ | with_reducible refine Ext.drew ?_ | ((with_reducible refine Ext.set ?_ ?_ _); (focus (first | (simp; done) | (simp; omega) | omega)))))) (by omega)).mono ?_
  rintro en w4 ⟨rfl, hw4⟩
  refine ⟨_, rfl, hw4, ?_⟩
  try simp only [Act.put, List.getElem_toArray, List.getElem_cons_zero, List.getElem_cons_succ, List.setIfInBounds_toArray, List.set_cons_zero, List.set_cons_succ]
  have zw4 := hw4.size
  (try simp at zw4)
  have kw4_0 := hw4.more (k := w1.heap.size) (by first | (simp; done) | (simp; omega) | omega)
  obtain ⟨cw4_0, fw4_0⟩ := hw4.row (k := w1.heap.size) (by first | (simp; done) | (simp; omega) | omega)
  have kw4_1 := hw4.more (k := w2.heap.size) (by first | (simp; done) | (simp; omega) | omega)
  obtain ⟨cw4_1, fw4_1⟩ := hw4.row (k := w2.heap.size) (by first | (simp; done) | (simp; omega) | omega)
  have kw4_2 := hw4.more (k := w3.heap.size) (by first | (simp; done) | (simp; omega) | omega)
  obtain ⟨cw4_2, fw4_2⟩ := hw4.row (k := w3.heap.size) (by first | (simp; done) | (simp; omega) | omega)
  (refine wpF_pure (v := ?_) rfl rfl (by rfl) ?_ ?_; rotate_left; (focus (intro ws hws; go_simp; (try with_reducible rfl); done)))
  try simp only [Act.put, List.getElem_toArray, List.getElem_cons_zero, List.getElem_cons_succ, List.setIfInBounds_toArray, List.set_cons_zero, List.set_cons_succ]
  (refine wpF_pure (v := ?_) rfl rfl (by rfl) ?_ ?_; rotate_left; (focus (intro ws hws; go_simp; (try with_reducible rfl); done)))
  try simp only [Act.put, List.getElem_toArray, List.getElem_cons_zero, List.getElem_cons_succ, List.setIfInBounds_toArray, List.set_cons_zero, List.set_cons_succ]
  (refine wpF_pure (v := ?_) rfl rfl (by rfl) ?_ ?_; rotate_left; (focus (intro ws hws; obtain ⟨q0, p0⟩ := hws.row (k := w1.heap.size) (by first | (simp; done) | (simp; omega) | omega); go_simp; (try with_reducible rfl); done)))
  try simp only [Act.put, List.getElem_toArray, List.getElem_cons_zero, List.getElem_cons_succ, List.setIfInBounds_toArray, List.set_cons_zero, List.set_cons_succ]
  (refine wpF_pure (v := ?_) rfl rfl (by rfl) ?_ ?_; rotate_left; (focus (intro ws hws; obtain ⟨q0, p0⟩ := hws.row (k := w1.heap.size) (by first | (simp; done) | (simp; omega) | omega); go_simp; (try with_reducible rfl); done)))
  try simp only [Act.put, List.getElem_toArray, List.getElem_cons_zero, List.getElem_cons_succ, List.setIfInBounds_toArray, List.set_cons_zero, List.set_cons_succ]
  (refine wpF_call 9 ?_ rfl rfl (by rfl) ?_ ?_; rotate_left; (focus (go_simp; (try with_reducible rfl); done)))
  refine (IsBuffer_impl nx ar _ cr cs _ (hr.out.ext (by repeat (first | with_reducible exact Ext.refl _ | with_reducible assumption | with_reducible refine Ext.alloc ?_ _ | with_reducible refine Ext.drew ?_ | ((with_reducible refine Ext.set ?_ ?_ _); (focus (first | (simp; done) | (simp; omega) | omega))) | with_reducible refine Ext.trans ?_ hw4 | with_reducible refine Ext.trans ?_ hw3 | with_reducible refine Ext.trans ?_ hw2))) rfl (by omega) hwf.out).mono ?_
  rintro en w5 ⟨rfl, hw5⟩
  refine ⟨_, rfl, hw5, ?_⟩
  try simp only [Act.put, List.getElem_toArray, List.getElem_cons_zero, List.getElem_cons_succ, List.setIfInBounds_toArray, List.set_cons_zero, List.set_cons_succ]
  have zw5 := hw5.size
  (try simp at zw5)
  have kw5_0 := hw5.more (k := w1.heap.size) (by first | (simp; done) | (simp; omega) | omega)
  obtain ⟨cw5_0, fw5_0⟩ := hw5.row (k := w1.heap.size) (by first | (simp; done) | (simp; omega) | omega)
  have kw5_1 := hw5.more (k := w2.heap.size) (by first | (simp; done) | (simp; omega) | omega)
  obtain ⟨cw5_1, fw5_1⟩ := hw5.row (k := w2.heap.size) (by first | (simp; done) | (simp; omega) | omega)
  have kw5_2 := hw5.more (k := w3.heap.size) (by first | (simp; done) | (simp; omega) | omega)
  obtain ⟨cw5_2, fw5_2⟩ := hw5.row (k := w3.heap.size) (by first | (simp; done) | (simp; omega) | omega)
  (refine wpF_call 10 ?_ rfl rfl (by rfl) ?_ ?_; rotate_left; (focus (go_simp; (try with_reducible rfl); done)))
  refine (IsBuffer_spec nx ar _ cr cs _ (hr.out.ext (by repeat (first | with_reducible exact Ext.refl _ | with_reducible assumption | with_reducible refine Ext.alloc ?_ _ | with_reducible refine Ext.drew ?_ | ((with_reducible refine Ext.set ?_ ?_ _); (focus (first | (simp; done) | (simp; omega) | omega))) | with_reducible refine Ext.trans ?_ hw5 | with_reducible refine Ext.trans ?_ hw4 | with_reducible refine Ext.trans ?_ hw3 | with_reducible refine Ext.trans ?_ hw2))) rfl (by omega) hwf.out).mono ?_
  rintro en w6 ⟨rfl, hw6⟩
  refine ⟨_, rfl, hw6, ?_⟩
  try simp only [Act.put, List.getElem_toArray, List.getElem_cons_zero, List.getElem_cons_succ, List.setIfInBounds_toArray, List.set_cons_zero, List.set_cons_succ]
  have zw6 := hw6.size
  (try simp at zw6)
  have kw6_0 := hw6.more (k := w1.heap.size) (by first | (simp; done) | (simp; omega) | omega)
  obtain ⟨cw6_0, fw6_0⟩ := hw6.row (k := w1.heap.size) (by first | (simp; done) | (simp; omega) | omega)
  have kw6_1 := hw6.more (k := w2.heap.size) (by first | (simp; done) | (simp; omega) | omega)
  obtain ⟨cw6_1, fw6_1⟩ := hw6.row (k := w2.heap.size) (by first | (simp; done) | (simp; omega) | omega)
  have kw6_2 := hw6.more (k := w3.heap.size) (by first | (simp; done) | (simp; omega) | omega)
  obtain ⟨cw6_2, fw6_2⟩ := hw6.row (k := w3.heap.size) (by first | (simp; done) | (simp; omega) | omega)
  (refine wpF_pure (v := ?_) rfl rfl (by rfl) ?_ ?_; rotate_left; (focus (intro ws hws; go_simp; (try with_reducible rfl); done)))
  try simp only [Act.put, List.getElem_toArray, List.getElem_cons_zero, List.getElem_cons_succ, List.setIfInBounds_toArray, List.set_cons_zero, List.set_cons_succ]
  (refine wpF_pure (v := ?_) rfl rfl (by rfl) ?_ ?_; rotate_left; (focus (intro ws hws; go_simp; (try with_reducible rfl); done)))
  try simp only [Act.put, List.getElem_toArray, List.getElem_cons_zero, List.getElem_cons_succ, List.setIfInBounds_toArray, List.set_cons_zero, List.set_cons_succ]
  refine wpF_done rfl ?_
  simp only [List.drop_succ_cons, List.drop_zero, List.drop_nil]
  generalize hqb : isBuf nx cs = qb
  replace hqb := hide hqb
  go_upto_block 0 with fail
  go_cut [] (fun wx => Ext w6 wx)
  case first =>
    go_wp2_with fail
    go_loopw [8] (fun i wr => ∃ k : Int, i = .int .i64 k ∧ -1 ≤ k ∧ k ≤ 40 ∧ Ext w6 wr) (fun i _ => (40 - intOf i).toNat)
    case atStart => exact ⟨-1, rfl, by omega, by omega, Ext.refl _⟩
    case round =>
      obtain ⟨k, rfl, k0, k1, hwr⟩ := hrel
      have zwr := hwr.size
      (try simp at zwr)
      have kwr_0 := hwr.more (k := w1.heap.size) (by first | (simp; done) | (simp; omega) | omega)
      obtain ⟨cwr_0, fwr_0⟩ := hwr.row (k := w1.heap.size) (by first | (simp; done) | (simp; omega) | omega)
      have kwr_1 := hwr.more (k := w2.heap.size) (by first | (simp; done) | (simp; omega) | omega)
      obtain ⟨cwr_1, fwr_1⟩ := hwr.row (k := w2.heap.size) (by first | (simp; done) | (simp; omega) | omega)
      have kwr_2 := hwr.more (k := w3.heap.size) (by first | (simp; done) | (simp; omega) | omega)
      obtain ⟨cwr_2, fwr_2⟩ := hwr.row (k := w3.heap.size) (by first | (simp; done) | (simp; omega) | omega)
      by_cases hlt : k < 40
      · skip
        go_wp2_with fail
        refine (IsBuffer_spec nx ar _ cr cs _ (hr.out.ext (by repeat (first | with_reducible exact Ext.refl _ | with_reducible assumption | with_reducible refine Ext.alloc ?_ _ | with_reducible refine Ext.drew ?_ | ((with_reducible refine Ext.set ?_ ?_ _); (focus (first | (simp; done) | (simp; omega) | omega))) | with_reducible refine Ext.trans ?_ hwr | with_reducible refine Ext.trans ?_ hw6 | with_reducible refine Ext.trans ?_ hw5 | with_reducible refine Ext.trans ?_ hw4 | with_reducible refine Ext.trans ?_ hw3 | with_reducible refine Ext.trans ?_ hw2))) rfl (by omega) hwf.out).mono ?_
        rintro en w101 ⟨rfl, hw101⟩
        have zw101 := hw101.size
        (try simp at zw101)
        have kw101_0 := hw101.more (k := w1.heap.size) (by first | (simp; done) | (simp; omega) | omega)
        obtain ⟨cw101_0, fw101_0⟩ := hw101.row (k := w1.heap.size) (by first | (simp; done) | (simp; omega) | omega)
        have kw101_1 := hw101.more (k := w2.heap.size) (by first | (simp; done) | (simp; omega) | omega)
        obtain ⟨cw101_1, fw101_1⟩ := hw101.row (k := w2.heap.size) (by first | (simp; done) | (simp; omega) | omega)
        have kw101_2 := hw101.more (k := w3.heap.size) (by first | (simp; done) | (simp; omega) | omega)
        obtain ⟨cw101_2, fw101_2⟩ := hw101.row (k := w3.heap.size) (by first | (simp; done) | (simp; omega) | omega)
        rw [hqb.out]
        cases qb
        · go_wp2_with fail
          go_meet
          exact hwr.trans hw101
        go_wp2_with fail
        refine (ByteAt_spec nx k ar _ cr cs _ (hr.out.ext (by repeat (first | with_reducible exact Ext.refl _ | with_reducible assumption | with_reducible refine Ext.alloc ?_ _ | with_reducible refine Ext.drew ?_ | ((with_reducible refine Ext.set ?_ ?_ _); (focus (first | (simp; done) | (simp; omega) | omega))) | with_reducible refine Ext.trans ?_ hw101 | with_reducible refine Ext.trans ?_ hwr | with_reducible refine Ext.trans ?_ hw6 | with_reducible refine Ext.trans ?_ hw5 | with_reducible refine Ext.trans ?_ hw4 | with_reducible refine Ext.trans ?_ hw3 | with_reducible refine Ext.trans ?_ hw2))) rfl (by omega) hwb.out (by omega)).mono ?_
        rintro en w102 ⟨rfl, hw102⟩
        have zw102 := hw102.size
        (try simp at zw102)
        have kw102_0 := hw102.more (k := w1.heap.size) (by first | (simp; done) | (simp; omega) | omega)
        obtain ⟨cw102_0, fw102_0⟩ := hw102.row (k := w1.heap.size) (by first | (simp; done) | (simp; omega) | omega)
        have kw102_1 := hw102.more (k := w2.heap.size) (by first | (simp; done) | (simp; omega) | omega)
        obtain ⟨cw102_1, fw102_1⟩ := hw102.row (k := w2.heap.size) (by first | (simp; done) | (simp; omega) | omega)
        have kw102_2 := hw102.more (k := w3.heap.size) (by first | (simp; done) | (simp; omega) | omega)
        obtain ⟨cw102_2, fw102_2⟩ := hw102.row (k := w3.heap.size) (by first | (simp; done) | (simp; omega) | omega)
        have hbd := bytAt_bd cs k
        have hsub : IntKind.i64.wrap (k - off) = k - off := IntWalk.i64_in _ (by omega)
        have hadd : IntKind.i64.wrap (off + (d.size : Int)) = off + (d.size : Int) := IntWalk.i64_in _ (by omega)
        have hinc : IntKind.i64.wrap (k + 1) = k + 1 := IntWalk.i64_in _ (by omega)
        have hww := ins_want (d := d) (off := off) hqb.out (by omega) (n := k) (by omega)
        unfold wantB at hww
        replace hww := hide hww
        by_cases v0 : bytAt cs k < 0
        · have v0e : decide (bytAt cs k < 0) = true := decide_eq_true v0
          by_cases v1 : nx ≤ k
          · have v1e : decide (nx ≤ k) = true := decide_eq_true v1
            by_cases v2 : 0 ≤ off
            · have v2e : decide (0 ≤ off) = true := decide_eq_true v2
              by_cases v3 : off ≤ k
              · have v3e : decide (off ≤ k) = true := decide_eq_true v3
                by_cases v4 : k < off + (d.size : Int)
                · have v4e : decide (k < off + (d.size : Int)) = true := decide_eq_true v4
                  have hwv : Hid (bytAt (insC nx cs off d) k = ((d.data.getD (k - off).toNat 0).toNat : Int)) := hide (by rw [hww.out, if_pos ⟨v0, v1, v2, v3, v4⟩])
                  clear hww
                  obtain ⟨j, hj⟩ : ∃ j : Nat, k - off = (j : Int) := ⟨(k - off).toNat, by omega⟩
                  have hjs : j < d.size := by omega
                  have hj0 : (0 : Int) ≤ (j : Int) := by omega
                  have hj1 : (j : Int) < (d.size : Int) := by omega
                  have hby : IntKind.i64.wrap ((d[j]'hjs).toNat : Int) = ((d.data.getD (k - off).toNat 0).toNat : Int) := by
                    rw [IntWalk.i64_in _ (by have := UInt8.toNat_lt (d[j]'hjs); omega), hj, Int.toNat_natCast]
                    have q : j < d.data.size := hjs
                    simp [Array.getD_eq_getD_getElem?, Array.getElem?_eq_getElem q]
                    rfl
                  generalize ((d.data.getD (k - off).toNat 0).toNat : Int) = bv at *
                  rw [hj] at hsub
                  go_wp2_with fail
                  refine (ByteAt_impl nx k ay _ cy (insC nx cs off d) _ (hy.out.ext (by repeat (first | with_reducible exact Ext.refl _ | with_reducible assumption | with_reducible refine Ext.alloc ?_ _ | with_reducible refine Ext.drew ?_ | ((with_reducible refine Ext.set ?_ ?_ _); (focus (first | (simp; done) | (simp; omega) | omega))) | with_reducible refine Ext.trans ?_ hw102 | with_reducible refine Ext.trans ?_ hw101 | with_reducible refine Ext.trans ?_ hwr | with_reducible refine Ext.trans ?_ hw6 | with_reducible refine Ext.trans ?_ hw5 | with_reducible refine Ext.trans ?_ hw4))) rfl (by omega) hyb.out (by omega)).mono ?_
                  rintro en w103 ⟨rfl, hw103⟩
                  have zw103 := hw103.size
                  (try simp at zw103)
                  have kw103_0 := hw103.more (k := w1.heap.size) (by first | (simp; done) | (simp; omega) | omega)
                  obtain ⟨cw103_0, fw103_0⟩ := hw103.row (k := w1.heap.size) (by first | (simp; done) | (simp; omega) | omega)
                  have kw103_1 := hw103.more (k := w2.heap.size) (by first | (simp; done) | (simp; omega) | omega)
                  obtain ⟨cw103_1, fw103_1⟩ := hw103.row (k := w2.heap.size) (by first | (simp; done) | (simp; omega) | omega)
                  have kw103_2 := hw103.more (k := w3.heap.size) (by first | (simp; done) | (simp; omega) | omega)
                  obtain ⟨cw103_2, fw103_2⟩ := hw103.row (k := w3.heap.size) (by first | (simp; done) | (simp; omega) | omega)
                  rw [hwv.out]
                  go_wp2
                  go_roundw
                  case rel => exact ⟨k + 1, by go_num, by omega, by omega, (by repeat (first | with_reducible exact Ext.refl _ | with_reducible assumption | with_reducible refine Ext.alloc ?_ _ | with_reducible refine Ext.drew ?_ | ((with_reducible refine Ext.set ?_ ?_ _); (focus (first | (simp; done) | (simp; omega) | omega))) | with_reducible refine Ext.trans ?_ hw103 | with_reducible refine Ext.trans ?_ hw102 | with_reducible refine Ext.trans ?_ hw101 | with_reducible refine Ext.trans ?_ hwr))⟩
                  case measure => simp [intOf]; omega
                · have v4e : decide (k < off + (d.size : Int)) = false := decide_eq_false v4
                  have hwv : Hid (bytAt (insC nx cs off d) k = bytAt cs k) := hide (by rw [hww.out, if_neg (fun h => v4 h.2.2.2.2)])
                  clear hww
                  generalize bytAt cs k = bv at *
                  go_wp2_with fail
                  refine (ByteAt_impl nx k ay _ cy (insC nx cs off d) _ (hy.out.ext (by repeat (first | with_reducible exact Ext.refl _ | with_reducible assumption | with_reducible refine Ext.alloc ?_ _ | with_reducible refine Ext.drew ?_ | ((with_reducible refine Ext.set ?_ ?_ _); (focus (first | (simp; done) | (simp; omega) | omega))) | with_reducible refine Ext.trans ?_ hw102 | with_reducible refine Ext.trans ?_ hw101 | with_reducible refine Ext.trans ?_ hwr | with_reducible refine Ext.trans ?_ hw6 | with_reducible refine Ext.trans ?_ hw5 | with_reducible refine Ext.trans ?_ hw4))) rfl (by omega) hyb.out (by omega)).mono ?_
                  rintro en w103 ⟨rfl, hw103⟩
                  have zw103 := hw103.size
                  (try simp at zw103)
                  have kw103_0 := hw103.more (k := w1.heap.size) (by first | (simp; done) | (simp; omega) | omega)
                  obtain ⟨cw103_0, fw103_0⟩ := hw103.row (k := w1.heap.size) (by first | (simp; done) | (simp; omega) | omega)
                  have kw103_1 := hw103.more (k := w2.heap.size) (by first | (simp; done) | (simp; omega) | omega)
                  obtain ⟨cw103_1, fw103_1⟩ := hw103.row (k := w2.heap.size) (by first | (simp; done) | (simp; omega) | omega)
                  have kw103_2 := hw103.more (k := w3.heap.size) (by first | (simp; done) | (simp; omega) | omega)
                  obtain ⟨cw103_2, fw103_2⟩ := hw103.row (k := w3.heap.size) (by first | (simp; done) | (simp; omega) | omega)
                  rw [hwv.out]
                  go_wp2
                  go_roundw
                  case rel => exact ⟨k + 1, by go_num, by omega, by omega, (by repeat (first | with_reducible exact Ext.refl _ | with_reducible assumption | with_reducible refine Ext.alloc ?_ _ | with_reducible refine Ext.drew ?_ | ((with_reducible refine Ext.set ?_ ?_ _); (focus (first | (simp; done) | (simp; omega) | omega))) | with_reducible refine Ext.trans ?_ hw103 | with_reducible refine Ext.trans ?_ hw102 | with_reducible refine Ext.trans ?_ hw101 | with_reducible refine Ext.trans ?_ hwr))⟩
                  case measure => simp [intOf]; omega
              · have v3e : decide (off ≤ k) = false := decide_eq_false v3
                have hwv : Hid (bytAt (insC nx cs off d) k = bytAt cs k) := hide (by rw [hww.out, if_neg (fun h => v3 h.2.2.2.1)])
                clear hww
                generalize bytAt cs k = bv at *
                go_wp2_with fail
                refine (ByteAt_impl nx k ay _ cy (insC nx cs off d) _ (hy.out.ext (by repeat (first | with_reducible exact Ext.refl _ | with_reducible assumption | with_reducible refine Ext.alloc ?_ _ | with_reducible refine Ext.drew ?_ | ((with_reducible refine Ext.set ?_ ?_ _); (focus (first | (simp; done) | (simp; omega) | omega))) | with_reducible refine Ext.trans ?_ hw102 | with_reducible refine Ext.trans ?_ hw101 | with_reducible refine Ext.trans ?_ hwr | with_reducible refine Ext.trans ?_ hw6 | with_reducible refine Ext.trans ?_ hw5 | with_reducible refine Ext.trans ?_ hw4))) rfl (by omega) hyb.out (by omega)).mono ?_
                rintro en w103 ⟨rfl, hw103⟩
                have zw103 := hw103.size
                (try simp at zw103)
                have kw103_0 := hw103.more (k := w1.heap.size) (by first | (simp; done) | (simp; omega) | omega)
                obtain ⟨cw103_0, fw103_0⟩ := hw103.row (k := w1.heap.size) (by first | (simp; done) | (simp; omega) | omega)
                have kw103_1 := hw103.more (k := w2.heap.size) (by first | (simp; done) | (simp; omega) | omega)
                obtain ⟨cw103_1, fw103_1⟩ := hw103.row (k := w2.heap.size) (by first | (simp; done) | (simp; omega) | omega)
                have kw103_2 := hw103.more (k := w3.heap.size) (by first | (simp; done) | (simp; omega) | omega)
                obtain ⟨cw103_2, fw103_2⟩ := hw103.row (k := w3.heap.size) (by first | (simp; done) | (simp; omega) | omega)
                rw [hwv.out]
                go_wp2
                go_roundw
                case rel => exact ⟨k + 1, by go_num, by omega, by omega, (by repeat (first | with_reducible exact Ext.refl _ | with_reducible assumption | with_reducible refine Ext.alloc ?_ _ | with_reducible refine Ext.drew ?_ | ((with_reducible refine Ext.set ?_ ?_ _); (focus (first | (simp; done) | (simp; omega) | omega))) | with_reducible refine Ext.trans ?_ hw103 | with_reducible refine Ext.trans ?_ hw102 | with_reducible refine Ext.trans ?_ hw101 | with_reducible refine Ext.trans ?_ hwr))⟩
                case measure => simp [intOf]; omega
            · have v2e : decide (0 ≤ off) = false := decide_eq_false v2
              have hwv : Hid (bytAt (insC nx cs off d) k = bytAt cs k) := hide (by rw [hww.out, if_neg (fun h => v2 h.2.2.1)])
              clear hww
              generalize bytAt cs k = bv at *
              go_wp2_with fail
              refine (ByteAt_impl nx k ay _ cy (insC nx cs off d) _ (hy.out.ext (by repeat (first | with_reducible exact Ext.refl _ | with_reducible assumption | with_reducible refine Ext.alloc ?_ _ | with_reducible refine Ext.drew ?_ | ((with_reducible refine Ext.set ?_ ?_ _); (focus (first | (simp; done) | (simp; omega) | omega))) | with_reducible refine Ext.trans ?_ hw102 | with_reducible refine Ext.trans ?_ hw101 | with_reducible refine Ext.trans ?_ hwr | with_reducible refine Ext.trans ?_ hw6 | with_reducible refine Ext.trans ?_ hw5 | with_reducible refine Ext.trans ?_ hw4))) rfl (by omega) hyb.out (by omega)).mono ?_
              rintro en w103 ⟨rfl, hw103⟩
              have zw103 := hw103.size
              (try simp at zw103)
              have kw103_0 := hw103.more (k := w1.heap.size) (by first | (simp; done) | (simp; omega) | omega)
              obtain ⟨cw103_0, fw103_0⟩ := hw103.row (k := w1.heap.size) (by first | (simp; done) | (simp; omega) | omega)
              have kw103_1 := hw103.more (k := w2.heap.size) (by first | (simp; done) | (simp; omega) | omega)
              obtain ⟨cw103_1, fw103_1⟩ := hw103.row (k := w2.heap.size) (by first | (simp; done) | (simp; omega) | omega)
              have kw103_2 := hw103.more (k := w3.heap.size) (by first | (simp; done) | (simp; omega) | omega)
              obtain ⟨cw103_2, fw103_2⟩ := hw103.row (k := w3.heap.size) (by first | (simp; done) | (simp; omega) | omega)
              rw [hwv.out]
              go_wp2
              go_roundw
              case rel => exact ⟨k + 1, by go_num, by omega, by omega, (by repeat (first | with_reducible exact Ext.refl _ | with_reducible assumption | with_reducible refine Ext.alloc ?_ _ | with_reducible refine Ext.drew ?_ | ((with_reducible refine Ext.set ?_ ?_ _); (focus (first | (simp; done) | (simp; omega) | omega))) | with_reducible refine Ext.trans ?_ hw103 | with_reducible refine Ext.trans ?_ hw102 | with_reducible refine Ext.trans ?_ hw101 | with_reducible refine Ext.trans ?_ hwr))⟩
              case measure => simp [intOf]; omega
          · have v1e : decide (nx ≤ k) = false := decide_eq_false v1
            have hwv : Hid (bytAt (insC nx cs off d) k = bytAt cs k) := hide (by rw [hww.out, if_neg (fun h => v1 h.2.1)])
            clear hww
            generalize bytAt cs k = bv at *
            go_wp2_with fail
            refine (ByteAt_impl nx k ay _ cy (insC nx cs off d) _ (hy.out.ext (by repeat (first | with_reducible exact Ext.refl _ | with_reducible assumption | with_reducible refine Ext.alloc ?_ _ | with_reducible refine Ext.drew ?_ | ((with_reducible refine Ext.set ?_ ?_ _); (focus (first | (simp; done) | (simp; omega) | omega))) | with_reducible refine Ext.trans ?_ hw102 | with_reducible refine Ext.trans ?_ hw101 | with_reducible refine Ext.trans ?_ hwr | with_reducible refine Ext.trans ?_ hw6 | with_reducible refine Ext.trans ?_ hw5 | with_reducible refine Ext.trans ?_ hw4))) rfl (by omega) hyb.out (by omega)).mono ?_
            rintro en w103 ⟨rfl, hw103⟩
            have zw103 := hw103.size
            (try simp at zw103)
            have kw103_0 := hw103.more (k := w1.heap.size) (by first | (simp; done) | (simp; omega) | omega)
            obtain ⟨cw103_0, fw103_0⟩ := hw103.row (k := w1.heap.size) (by first | (simp; done) | (simp; omega) | omega)
            have kw103_1 := hw103.more (k := w2.heap.size) (by first | (simp; done) | (simp; omega) | omega)
            obtain ⟨cw103_1, fw103_1⟩ := hw103.row (k := w2.heap.size) (by first | (simp; done) | (simp; omega) | omega)
            have kw103_2 := hw103.more (k := w3.heap.size) (by first | (simp; done) | (simp; omega) | omega)
            obtain ⟨cw103_2, fw103_2⟩ := hw103.row (k := w3.heap.size) (by first | (simp; done) | (simp; omega) | omega)
            rw [hwv.out]
            go_wp2
            go_roundw
            case rel => exact ⟨k + 1, by go_num, by omega, by omega, (by repeat (first | with_reducible exact Ext.refl _ | with_reducible assumption | with_reducible refine Ext.alloc ?_ _ | with_reducible refine Ext.drew ?_ | ((with_reducible refine Ext.set ?_ ?_ _); (focus (first | (simp; done) | (simp; omega) | omega))) | with_reducible refine Ext.trans ?_ hw103 | with_reducible refine Ext.trans ?_ hw102 | with_reducible refine Ext.trans ?_ hw101 | with_reducible refine Ext.trans ?_ hwr))⟩
            case measure => simp [intOf]; omega
        · have v0e : decide (bytAt cs k < 0) = false := decide_eq_false v0
          have hwv : Hid (bytAt (insC nx cs off d) k = bytAt cs k) := hide (by rw [hww.out, if_neg (fun h => v0 h.1)])
          clear hww
          generalize bytAt cs k = bv at *
          go_wp2_with fail
          refine (ByteAt_impl nx k ay _ cy (insC nx cs off d) _ (hy.out.ext (by repeat (first | with_reducible exact Ext.refl _ | with_reducible assumption | with_reducible refine Ext.alloc ?_ _ | with_reducible refine Ext.drew ?_ | ((with_reducible refine Ext.set ?_ ?_ _); (focus (first | (simp; done) | (simp; omega) | omega))) | with_reducible refine Ext.trans ?_ hw102 | with_reducible refine Ext.trans ?_ hw101 | with_reducible refine Ext.trans ?_ hwr | with_reducible refine Ext.trans ?_ hw6 | with_reducible refine Ext.trans ?_ hw5 | with_reducible refine Ext.trans ?_ hw4))) rfl (by omega) hyb.out (by omega)).mono ?_
          rintro en w103 ⟨rfl, hw103⟩
          have zw103 := hw103.size
          (try simp at zw103)
          have kw103_0 := hw103.more (k := w1.heap.size) (by first | (simp; done) | (simp; omega) | omega)
          obtain ⟨cw103_0, fw103_0⟩ := hw103.row (k := w1.heap.size) (by first | (simp; done) | (simp; omega) | omega)
          have kw103_1 := hw103.more (k := w2.heap.size) (by first | (simp; done) | (simp; omega) | omega)
          obtain ⟨cw103_1, fw103_1⟩ := hw103.row (k := w2.heap.size) (by first | (simp; done) | (simp; omega) | omega)
          have kw103_2 := hw103.more (k := w3.heap.size) (by first | (simp; done) | (simp; omega) | omega)
          obtain ⟨cw103_2, fw103_2⟩ := hw103.row (k := w3.heap.size) (by first | (simp; done) | (simp; omega) | omega)
          rw [hwv.out]
          go_wp2
          go_roundw
          case rel => exact ⟨k + 1, by go_num, by omega, by omega, (by repeat (first | with_reducible exact Ext.refl _ | with_reducible assumption | with_reducible refine Ext.alloc ?_ _ | with_reducible refine Ext.drew ?_ | ((with_reducible refine Ext.set ?_ ?_ _); (focus (first | (simp; done) | (simp; omega) | omega))) | with_reducible refine Ext.trans ?_ hw103 | with_reducible refine Ext.trans ?_ hw102 | with_reducible refine Ext.trans ?_ hw101 | with_reducible refine Ext.trans ?_ hwr))⟩
          case measure => simp [intOf]; omega
      · obtain rfl : k = 40 := by omega
        go_wp2_with fail
        go_meet
        exact hwr
  case rest =>
    have zwr := hcut.size
    (try simp at zwr)
    have kwr_0 := hcut.more (k := w1.heap.size) (by first | (simp; done) | (simp; omega) | omega)
    obtain ⟨cwr_0, fwr_0⟩ := hcut.row (k := w1.heap.size) (by first | (simp; done) | (simp; omega) | omega)
    have kwr_1 := hcut.more (k := w2.heap.size) (by first | (simp; done) | (simp; omega) | omega)
    obtain ⟨cwr_1, fwr_1⟩ := hcut.row (k := w2.heap.size) (by first | (simp; done) | (simp; omega) | omega)
    have kwr_2 := hcut.more (k := w3.heap.size) (by first | (simp; done) | (simp; omega) | omega)
    obtain ⟨cwr_2, fwr_2⟩ := hcut.row (k := w3.heap.size) (by first | (simp; done) | (simp; omega) | omega)
    cases qb
    · skip
      go_wp2_with fail
      refine wp_region_flowE 20 [(0, 1), (1, 0), (2, 1), (3, 1), (4, 0), (5, 1), (6, 1), (7, 1), (8, 0), (9, 0), (10, 1), (11, 1), (12, 1), (13, 1), (15, 1), (14, 0), (16, 0), (17, 1), (18, 1), (19, 1)] (by kernel_rfl) (by kernel_rfl) ?_
      (refine wpF_pure (v := ?_) rfl rfl (by rfl) ?_ ?_; rotate_left; (focus (intro ws hws; obtain ⟨q0, p0⟩ := hws.row (k := w1.heap.size) (by first | (simp; done) | (simp; omega) | omega); go_simp; (try with_reducible rfl); done)))
      try simp only [Act.put, List.getElem_toArray, List.getElem_cons_zero, List.getElem_cons_succ, List.setIfInBounds_toArray, List.set_cons_zero, List.set_cons_succ]
      (refine wpF_call 10 ?_ rfl rfl (by rfl) ?_ ?_; rotate_left; (focus (go_simp; (try with_reducible rfl); done)))
      refine (IsBuffer_spec nx ar _ cr cs _ (hr.out.ext (by repeat (first | with_reducible exact Ext.refl _ | with_reducible assumption | with_reducible refine Ext.alloc ?_ _ | with_reducible refine Ext.drew ?_ | ((with_reducible refine Ext.set ?_ ?_ _); (focus (first | (simp; done) | (simp; omega) | omega))) | with_reducible refine Ext.trans ?_ hcut | with_reducible refine Ext.trans ?_ hw6 | with_reducible refine Ext.trans ?_ hw5 | with_reducible refine Ext.trans ?_ hw4 | with_reducible refine Ext.trans ?_ hw3 | with_reducible refine Ext.trans ?_ hw2))) rfl (by omega) hwf.out).mono ?_
      rintro en w21 ⟨rfl, hw21⟩
      refine ⟨_, rfl, hw21, ?_⟩
      try simp only [Act.put, List.getElem_toArray, List.getElem_cons_zero, List.getElem_cons_succ, List.setIfInBounds_toArray, List.set_cons_zero, List.set_cons_succ]
      have zw21 := hw21.size
      (try simp at zw21)
      have kw21_0 := hw21.more (k := w1.heap.size) (by first | (simp; done) | (simp; omega) | omega)
      obtain ⟨cw21_0, fw21_0⟩ := hw21.row (k := w1.heap.size) (by first | (simp; done) | (simp; omega) | omega)
      have kw21_1 := hw21.more (k := w2.heap.size) (by first | (simp; done) | (simp; omega) | omega)
      obtain ⟨cw21_1, fw21_1⟩ := hw21.row (k := w2.heap.size) (by first | (simp; done) | (simp; omega) | omega)
      have kw21_2 := hw21.more (k := w3.heap.size) (by first | (simp; done) | (simp; omega) | omega)
      obtain ⟨cw21_2, fw21_2⟩ := hw21.row (k := w3.heap.size) (by first | (simp; done) | (simp; omega) | omega)
      rw [hqb.out]
      (refine wpF_pure (v := ?_) rfl rfl (by rfl) ?_ ?_; rotate_left; (focus (intro ws hws; go_simp; (try with_reducible rfl); done)))
      try simp only [Act.put, List.getElem_toArray, List.getElem_cons_zero, List.getElem_cons_succ, List.setIfInBounds_toArray, List.set_cons_zero, List.set_cons_succ]
      refine wpF_off rfl rfl (by rfl) ?_
      try simp only [Act.put, List.getElem_toArray, List.getElem_cons_zero, List.getElem_cons_succ, List.setIfInBounds_toArray, List.set_cons_zero, List.set_cons_succ]
      refine wpF_offS rfl rfl (by rfl) ?_
      try simp only [Act.put, List.getElem_toArray, List.getElem_cons_zero, List.getElem_cons_succ, List.setIfInBounds_toArray, List.set_cons_zero, List.set_cons_succ]
      refine wpF_off rfl rfl (by rfl) ?_
      try simp only [Act.put, List.getElem_toArray, List.getElem_cons_zero, List.getElem_cons_succ, List.setIfInBounds_toArray, List.set_cons_zero, List.set_cons_succ]
      refine wpF_off rfl rfl (by rfl) ?_
      try simp only [Act.put, List.getElem_toArray, List.getElem_cons_zero, List.getElem_cons_succ, List.setIfInBounds_toArray, List.set_cons_zero, List.set_cons_succ]
      refine wpF_off rfl rfl (by rfl) ?_
      try simp only [Act.put, List.getElem_toArray, List.getElem_cons_zero, List.getElem_cons_succ, List.setIfInBounds_toArray, List.set_cons_zero, List.set_cons_succ]
      refine wpF_offS rfl rfl (by rfl) ?_
      try simp only [Act.put, List.getElem_toArray, List.getElem_cons_zero, List.getElem_cons_succ, List.setIfInBounds_toArray, List.set_cons_zero, List.set_cons_succ]
      refine wpF_offS rfl rfl (by rfl) ?_
      try simp only [Act.put, List.getElem_toArray, List.getElem_cons_zero, List.getElem_cons_succ, List.setIfInBounds_toArray, List.set_cons_zero, List.set_cons_succ]
      refine wpF_off rfl rfl (by rfl) ?_
      try simp only [Act.put, List.getElem_toArray, List.getElem_cons_zero, List.getElem_cons_succ, List.setIfInBounds_toArray, List.set_cons_zero, List.set_cons_succ]
      refine wpF_off rfl rfl (by rfl) ?_
      try simp only [Act.put, List.getElem_toArray, List.getElem_cons_zero, List.getElem_cons_succ, List.setIfInBounds_toArray, List.set_cons_zero, List.set_cons_succ]
      refine wpF_off rfl rfl (by rfl) ?_
      try simp only [Act.put, List.getElem_toArray, List.getElem_cons_zero, List.getElem_cons_succ, List.setIfInBounds_toArray, List.set_cons_zero, List.set_cons_succ]
      refine wpF_off rfl rfl (by rfl) ?_
      try simp only [Act.put, List.getElem_toArray, List.getElem_cons_zero, List.getElem_cons_succ, List.setIfInBounds_toArray, List.set_cons_zero, List.set_cons_succ]
      refine wpF_off rfl rfl (by rfl) ?_
      try simp only [Act.put, List.getElem_toArray, List.getElem_cons_zero, List.getElem_cons_succ, List.setIfInBounds_toArray, List.set_cons_zero, List.set_cons_succ]
      refine wpF_offS rfl rfl (by rfl) ?_
      try simp only [Act.put, List.getElem_toArray, List.getElem_cons_zero, List.getElem_cons_succ, List.setIfInBounds_toArray, List.set_cons_zero, List.set_cons_succ]
      refine wpF_offS rfl rfl (by rfl) ?_
      try simp only [Act.put, List.getElem_toArray, List.getElem_cons_zero, List.getElem_cons_succ, List.setIfInBounds_toArray, List.set_cons_zero, List.set_cons_succ]
      refine wpF_off rfl rfl (by rfl) ?_
      try simp only [Act.put, List.getElem_toArray, List.getElem_cons_zero, List.getElem_cons_succ, List.setIfInBounds_toArray, List.set_cons_zero, List.set_cons_succ]
      refine wpF_off rfl rfl (by rfl) ?_
      try simp only [Act.put, List.getElem_toArray, List.getElem_cons_zero, List.getElem_cons_succ, List.setIfInBounds_toArray, List.set_cons_zero, List.set_cons_succ]
      (refine wpF_pure (v := ?_) rfl rfl (by rfl) ?_ ?_; rotate_left; (focus (intro ws hws; go_simp; (try with_reducible rfl); done)))
      try simp only [Act.put, List.getElem_toArray, List.getElem_cons_zero, List.getElem_cons_succ, List.setIfInBounds_toArray, List.set_cons_zero, List.set_cons_succ]
      refine wpF_done rfl ?_
      simp only [List.drop_succ_cons, List.drop_zero, List.drop_nil]
      go_wp2_with fail
      refine (DrawEqualBuffers_any _ _ (hc.grown (by repeat (first | with_reducible exact Ext.refl _ | with_reducible assumption | with_reducible refine Ext.alloc ?_ _ | with_reducible refine Ext.drew ?_ | ((with_reducible refine Ext.set ?_ ?_ _); (focus (first | (simp; done) | (simp; omega) | omega))) | with_reducible refine Ext.trans ?_ hw21 | with_reducible refine Ext.trans ?_ hcut | with_reducible refine Ext.trans ?_ hw6 | with_reducible refine Ext.trans ?_ hw5 | with_reducible refine Ext.trans ?_ hw4 | with_reducible refine Ext.trans ?_ hw3 | with_reducible refine Ext.trans ?_ hw2 | with_reducible refine Ext.trans ?_ hw1)))).mono ?_
      rintro en w22 ⟨nx1, nx2, cs1, cs2, ao1, ao2, ca1, ca2, rfl, ok1, ok2, own1, own2, hw22⟩
      have zw22 := hw22.size
      (try simp at zw22)
      have kw22_0 := hw22.more (k := w1.heap.size) (by first | (simp; done) | (simp; omega) | omega)
      obtain ⟨cw22_0, fw22_0⟩ := hw22.row (k := w1.heap.size) (by first | (simp; done) | (simp; omega) | omega)
      have kw22_1 := hw22.more (k := w2.heap.size) (by first | (simp; done) | (simp; omega) | omega)
      obtain ⟨cw22_1, fw22_1⟩ := hw22.row (k := w2.heap.size) (by first | (simp; done) | (simp; omega) | omega)
      have kw22_2 := hw22.more (k := w3.heap.size) (by first | (simp; done) | (simp; omega) | omega)
      obtain ⟨cw22_2, fw22_2⟩ := hw22.row (k := w3.heap.size) (by first | (simp; done) | (simp; omega) | omega)
      have h1 := hide own1.read
      have h2 := hide own2.read
      clear own1 own2
      go_wp2_with fail
      refine (DrawEndOf_any _ _ (hc.grown (by repeat (first | with_reducible exact Ext.refl _ | with_reducible assumption | with_reducible refine Ext.alloc ?_ _ | with_reducible refine Ext.drew ?_ | ((with_reducible refine Ext.set ?_ ?_ _); (focus (first | (simp; done) | (simp; omega) | omega))) | with_reducible refine Ext.trans ?_ hw22 | with_reducible refine Ext.trans ?_ hw21 | with_reducible refine Ext.trans ?_ hcut | with_reducible refine Ext.trans ?_ hw6 | with_reducible refine Ext.trans ?_ hw5 | with_reducible refine Ext.trans ?_ hw4 | with_reducible refine Ext.trans ?_ hw3 | with_reducible refine Ext.trans ?_ hw2 | with_reducible refine Ext.trans ?_ hw1)))).mono ?_
      rintro en w23 ⟨nx3, cs3, ao3, ca3, rfl, ok3, own3, hw23⟩
      have zw23 := hw23.size
      (try simp at zw23)
      have kw23_0 := hw23.more (k := w1.heap.size) (by first | (simp; done) | (simp; omega) | omega)
      obtain ⟨cw23_0, fw23_0⟩ := hw23.row (k := w1.heap.size) (by first | (simp; done) | (simp; omega) | omega)
      have kw23_1 := hw23.more (k := w2.heap.size) (by first | (simp; done) | (simp; omega) | omega)
      obtain ⟨cw23_1, fw23_1⟩ := hw23.row (k := w2.heap.size) (by first | (simp; done) | (simp; omega) | omega)
      have kw23_2 := hw23.more (k := w3.heap.size) (by first | (simp; done) | (simp; omega) | omega)
      obtain ⟨cw23_2, fw23_2⟩ := hw23.row (k := w3.heap.size) (by first | (simp; done) | (simp; omega) | omega)
      have kw23_3 := hw23.more (k := w22.heap.size) (by first | (simp; done) | (simp; omega) | omega)
      obtain ⟨cw23_3, fw23_3⟩ := hw23.row (k := w22.heap.size) (by first | (simp; done) | (simp; omega) | omega)
      have kw23_4 := hw23.more (k := w22.heap.size + 1) (by first | (simp; done) | (simp; omega) | omega)
      obtain ⟨cw23_4, fw23_4⟩ := hw23.row (k := w22.heap.size + 1) (by first | (simp; done) | (simp; omega) | omega)
      have h3 := hide own3.read
      clear own3
      go_wp2_with fail
      refine (DrawByteAt_any _ _ (hc.grown (by repeat (first | with_reducible exact Ext.refl _ | with_reducible assumption | with_reducible refine Ext.alloc ?_ _ | with_reducible refine Ext.drew ?_ | ((with_reducible refine Ext.set ?_ ?_ _); (focus (first | (simp; done) | (simp; omega) | omega))) | with_reducible refine Ext.trans ?_ hw23 | with_reducible refine Ext.trans ?_ hw22 | with_reducible refine Ext.trans ?_ hw21 | with_reducible refine Ext.trans ?_ hcut | with_reducible refine Ext.trans ?_ hw6 | with_reducible refine Ext.trans ?_ hw5 | with_reducible refine Ext.trans ?_ hw4 | with_reducible refine Ext.trans ?_ hw3 | with_reducible refine Ext.trans ?_ hw2 | with_reducible refine Ext.trans ?_ hw1)))).mono ?_
      rintro en w24 ⟨nx4, cs4, ao4, ca4, k, rfl, ok4, hk4, own4, hw24⟩
      have zw24 := hw24.size
      (try simp at zw24)
      have kw24_0 := hw24.more (k := w1.heap.size) (by first | (simp; done) | (simp; omega) | omega)
      obtain ⟨cw24_0, fw24_0⟩ := hw24.row (k := w1.heap.size) (by first | (simp; done) | (simp; omega) | omega)
      have kw24_1 := hw24.more (k := w2.heap.size) (by first | (simp; done) | (simp; omega) | omega)
      obtain ⟨cw24_1, fw24_1⟩ := hw24.row (k := w2.heap.size) (by first | (simp; done) | (simp; omega) | omega)
      have kw24_2 := hw24.more (k := w3.heap.size) (by first | (simp; done) | (simp; omega) | omega)
      obtain ⟨cw24_2, fw24_2⟩ := hw24.row (k := w3.heap.size) (by first | (simp; done) | (simp; omega) | omega)
      have kw24_3 := hw24.more (k := w22.heap.size) (by first | (simp; done) | (simp; omega) | omega)
      obtain ⟨cw24_3, fw24_3⟩ := hw24.row (k := w22.heap.size) (by first | (simp; done) | (simp; omega) | omega)
      have kw24_4 := hw24.more (k := w22.heap.size + 1) (by first | (simp; done) | (simp; omega) | omega)
      obtain ⟨cw24_4, fw24_4⟩ := hw24.row (k := w22.heap.size + 1) (by first | (simp; done) | (simp; omega) | omega)
      have kw24_5 := hw24.more (k := w23.heap.size) (by first | (simp; done) | (simp; omega) | omega)
      obtain ⟨cw24_5, fw24_5⟩ := hw24.row (k := w23.heap.size) (by first | (simp; done) | (simp; omega) | omega)
      have h4 := hide own4.read
      clear own4
      have l1 := ok1.len
      have l2 := ok2.len
      have l3 := ok3.len
      have l4 := ok4.len
      have f3 := hide ok3.wf
      have f4 := hide ok4.wb
      have hrl3 := bufRgs_length nx3 cs3
      go_wp2_with fail
      refine wp_region_flowE 38 [(0, 1), (1, 1), (3, 1), (4, 1), (2, 0), (5, 0), (6, 1), (7, 1), (8, 1), (10, 1), (9, 0), (11, 0), (12, 1), (13, 1), (14, 1), (15, 1), (17, 1), (16, 0), (18, 0), (19, 1), (20, 1), (21, 1), (22, 1), (24, 1), (23, 0), (25, 0), (26, 0), (27, 1), (28, 1), (29, 1), (30, 1), (32, 1), (33, 1), (31, 0), (34, 0), (35, 1), (36, 1), (37, 1)] (by kernel_rfl) (by kernel_rfl) ?_
      (refine wpF_pure (v := ?_) rfl rfl (by rfl) ?_ ?_; rotate_left; (focus (intro ws hws; obtain ⟨q0, p0⟩ := hws.row (k := w22.heap.size) (by first | (simp; done) | (simp; omega) | omega); go_simp; (try with_reducible rfl); done)))
      try simp only [Act.put, List.getElem_toArray, List.getElem_cons_zero, List.getElem_cons_succ, List.setIfInBounds_toArray, List.set_cons_zero, List.set_cons_succ]
      (refine wpF_pure (v := ?_) rfl rfl (by rfl) ?_ ?_; rotate_left; (focus (intro ws hws; obtain ⟨q0, p0⟩ := hws.row (k := w22.heap.size + 1) (by first | (simp; done) | (simp; omega) | omega); go_simp; (try with_reducible rfl); done)))
      try simp only [Act.put, List.getElem_toArray, List.getElem_cons_zero, List.getElem_cons_succ, List.setIfInBounds_toArray, List.set_cons_zero, List.set_cons_succ]
      (refine wpF_pure (v := ?_) rfl rfl (by rfl) ?_ ?_; rotate_left; (focus (intro ws hws; obtain ⟨q0, p0⟩ := hws.row (k := w22.heap.size) (by first | (simp; done) | (simp; omega) | omega); go_simp; (try with_reducible rfl); done)))
      try simp only [Act.put, List.getElem_toArray, List.getElem_cons_zero, List.getElem_cons_succ, List.setIfInBounds_toArray, List.set_cons_zero, List.set_cons_succ]
      (refine wpF_pure (v := ?_) rfl rfl (by rfl) ?_ ?_; rotate_left; (focus (intro ws hws; obtain ⟨q0, p0⟩ := hws.row (k := w22.heap.size + 1) (by first | (simp; done) | (simp; omega) | omega); go_simp; (try with_reducible rfl); done)))
      try simp only [Act.put, List.getElem_toArray, List.getElem_cons_zero, List.getElem_cons_succ, List.setIfInBounds_toArray, List.set_cons_zero, List.set_cons_succ]
      (refine wpF_call 19 ?_ rfl rfl (by rfl) ?_ ?_; rotate_left; (focus (go_simp; (try with_reducible rfl); done)))
      refine (EqualBuffers_impl nx1 nx2 ao1 ao2 _ _ ca1 ca2 cs1 cs2 _ (h1.out.ext (by repeat (first | with_reducible exact Ext.refl _ | with_reducible assumption | with_reducible refine Ext.alloc ?_ _ | with_reducible refine Ext.drew ?_ | ((with_reducible refine Ext.set ?_ ?_ _); (focus (first | (simp; done) | (simp; omega) | omega))) | with_reducible refine Ext.trans ?_ hw24 | with_reducible refine Ext.trans ?_ hw23))) (h2.out.ext (by repeat (first | with_reducible exact Ext.refl _ | with_reducible assumption | with_reducible refine Ext.alloc ?_ _ | with_reducible refine Ext.drew ?_ | ((with_reducible refine Ext.set ?_ ?_ _); (focus (first | (simp; done) | (simp; omega) | omega))) | with_reducible refine Ext.trans ?_ hw24 | with_reducible refine Ext.trans ?_ hw23))) rfl rfl (by omega)).mono ?_
      rintro en w25 ⟨rfl, hw25⟩
      refine ⟨_, rfl, hw25, ?_⟩
      try simp only [Act.put, List.getElem_toArray, List.getElem_cons_zero, List.getElem_cons_succ, List.setIfInBounds_toArray, List.set_cons_zero, List.set_cons_succ]
      have zw25 := hw25.size
      (try simp at zw25)
      have kw25_0 := hw25.more (k := w1.heap.size) (by first | (simp; done) | (simp; omega) | omega)
      obtain ⟨cw25_0, fw25_0⟩ := hw25.row (k := w1.heap.size) (by first | (simp; done) | (simp; omega) | omega)
      have kw25_1 := hw25.more (k := w2.heap.size) (by first | (simp; done) | (simp; omega) | omega)
      obtain ⟨cw25_1, fw25_1⟩ := hw25.row (k := w2.heap.size) (by first | (simp; done) | (simp; omega) | omega)
      have kw25_2 := hw25.more (k := w3.heap.size) (by first | (simp; done) | (simp; omega) | omega)
      obtain ⟨cw25_2, fw25_2⟩ := hw25.row (k := w3.heap.size) (by first | (simp; done) | (simp; omega) | omega)
      have kw25_3 := hw25.more (k := w22.heap.size) (by first | (simp; done) | (simp; omega) | omega)
      obtain ⟨cw25_3, fw25_3⟩ := hw25.row (k := w22.heap.size) (by first | (simp; done) | (simp; omega) | omega)
      have kw25_4 := hw25.more (k := w22.heap.size + 1) (by first | (simp; done) | (simp; omega) | omega)
      obtain ⟨cw25_4, fw25_4⟩ := hw25.row (k := w22.heap.size + 1) (by first | (simp; done) | (simp; omega) | omega)
      have kw25_5 := hw25.more (k := w23.heap.size) (by first | (simp; done) | (simp; omega) | omega)
      obtain ⟨cw25_5, fw25_5⟩ := hw25.row (k := w23.heap.size) (by first | (simp; done) | (simp; omega) | omega)
      have kw25_6 := hw25.more (k := w24.heap.size) (by first | (simp; done) | (simp; omega) | omega)
      obtain ⟨cw25_6, fw25_6⟩ := hw25.row (k := w24.heap.size) (by first | (simp; done) | (simp; omega) | omega)
      (refine wpF_call 8 ?_ rfl rfl (by rfl) ?_ ?_; rotate_left; (focus (go_simp; (try with_reducible rfl); done)))
      refine (EqualBuffers_spec nx1 nx2 ao1 ao2 _ _ ca1 ca2 cs1 cs2 _ (h1.out.ext (by repeat (first | with_reducible exact Ext.refl _ | with_reducible assumption | with_reducible refine Ext.alloc ?_ _ | with_reducible refine Ext.drew ?_ | ((with_reducible refine Ext.set ?_ ?_ _); (focus (first | (simp; done) | (simp; omega) | omega))) | with_reducible refine Ext.trans ?_ hw25 | with_reducible refine Ext.trans ?_ hw24 | with_reducible refine Ext.trans ?_ hw23))) (h2.out.ext (by repeat (first | with_reducible exact Ext.refl _ | with_reducible assumption | with_reducible refine Ext.alloc ?_ _ | with_reducible refine Ext.drew ?_ | ((with_reducible refine Ext.set ?_ ?_ _); (focus (first | (simp; done) | (simp; omega) | omega))) | with_reducible refine Ext.trans ?_ hw25 | with_reducible refine Ext.trans ?_ hw24 | with_reducible refine Ext.trans ?_ hw23))) rfl rfl (by omega)).mono ?_
      rintro en w26 ⟨rfl, hw26⟩
      refine ⟨_, rfl, hw26, ?_⟩
      try simp only [Act.put, List.getElem_toArray, List.getElem_cons_zero, List.getElem_cons_succ, List.setIfInBounds_toArray, List.set_cons_zero, List.set_cons_succ]
      have zw26 := hw26.size
      (try simp at zw26)
      have kw26_0 := hw26.more (k := w1.heap.size) (by first | (simp; done) | (simp; omega) | omega)
      obtain ⟨cw26_0, fw26_0⟩ := hw26.row (k := w1.heap.size) (by first | (simp; done) | (simp; omega) | omega)
      have kw26_1 := hw26.more (k := w2.heap.size) (by first | (simp; done) | (simp; omega) | omega)
      obtain ⟨cw26_1, fw26_1⟩ := hw26.row (k := w2.heap.size) (by first | (simp; done) | (simp; omega) | omega)
      have kw26_2 := hw26.more (k := w3.heap.size) (by first | (simp; done) | (simp; omega) | omega)
      obtain ⟨cw26_2, fw26_2⟩ := hw26.row (k := w3.heap.size) (by first | (simp; done) | (simp; omega) | omega)
      have kw26_3 := hw26.more (k := w22.heap.size) (by first | (simp; done) | (simp; omega) | omega)
      obtain ⟨cw26_3, fw26_3⟩ := hw26.row (k := w22.heap.size) (by first | (simp; done) | (simp; omega) | omega)
      have kw26_4 := hw26.more (k := w22.heap.size + 1) (by first | (simp; done) | (simp; omega) | omega)
      obtain ⟨cw26_4, fw26_4⟩ := hw26.row (k := w22.heap.size + 1) (by first | (simp; done) | (simp; omega) | omega)
      have kw26_5 := hw26.more (k := w23.heap.size) (by first | (simp; done) | (simp; omega) | omega)
      obtain ⟨cw26_5, fw26_5⟩ := hw26.row (k := w23.heap.size) (by first | (simp; done) | (simp; omega) | omega)
      have kw26_6 := hw26.more (k := w24.heap.size) (by first | (simp; done) | (simp; omega) | omega)
      obtain ⟨cw26_6, fw26_6⟩ := hw26.row (k := w24.heap.size) (by first | (simp; done) | (simp; omega) | omega)
      (refine wpF_pure (v := ?_) rfl rfl (by rfl) ?_ ?_; rotate_left; (focus (intro ws hws; go_simp; (try with_reducible rfl); done)))
      try simp only [Act.put, List.getElem_toArray, List.getElem_cons_zero, List.getElem_cons_succ, List.setIfInBounds_toArray, List.set_cons_zero, List.set_cons_succ]
      (refine wpF_pure (v := ?_) rfl rfl (by rfl) ?_ ?_; rotate_left; (focus (intro ws hws; go_simp; (try with_reducible rfl); done)))
      try simp only [Act.put, List.getElem_toArray, List.getElem_cons_zero, List.getElem_cons_succ, List.setIfInBounds_toArray, List.set_cons_zero, List.set_cons_succ]
      (refine wpF_pure (v := ?_) rfl rfl (by rfl) ?_ ?_; rotate_left; (focus (intro ws hws; obtain ⟨q0, p0⟩ := hws.row (k := w23.heap.size) (by first | (simp; done) | (simp; omega) | omega); go_simp; (try with_reducible rfl); done)))
      try simp only [Act.put, List.getElem_toArray, List.getElem_cons_zero, List.getElem_cons_succ, List.setIfInBounds_toArray, List.set_cons_zero, List.set_cons_succ]
      (refine wpF_pure (v := ?_) rfl rfl (by rfl) ?_ ?_; rotate_left; (focus (intro ws hws; obtain ⟨q0, p0⟩ := hws.row (k := w23.heap.size) (by first | (simp; done) | (simp; omega) | omega); go_simp; (try with_reducible rfl); done)))
      try simp only [Act.put, List.getElem_toArray, List.getElem_cons_zero, List.getElem_cons_succ, List.setIfInBounds_toArray, List.set_cons_zero, List.set_cons_succ]
      (refine wpF_call 15 ?_ rfl rfl (by rfl) ?_ ?_; rotate_left; (focus (go_simp; (try with_reducible rfl); done)))
      refine (EndOf_impl nx3 ao3 _ ca3 cs3 _ (h3.out.ext (by repeat (first | with_reducible exact Ext.refl _ | with_reducible assumption | with_reducible refine Ext.alloc ?_ _ | with_reducible refine Ext.drew ?_ | ((with_reducible refine Ext.set ?_ ?_ _); (focus (first | (simp; done) | (simp; omega) | omega))) | with_reducible refine Ext.trans ?_ hw26 | with_reducible refine Ext.trans ?_ hw25 | with_reducible refine Ext.trans ?_ hw24))) rfl (by omega) f3.out).mono ?_
      rintro en w27 ⟨rfl, hw27⟩
      refine ⟨_, rfl, hw27, ?_⟩
      try simp only [Act.put, List.getElem_toArray, List.getElem_cons_zero, List.getElem_cons_succ, List.setIfInBounds_toArray, List.set_cons_zero, List.set_cons_succ]
      have zw27 := hw27.size
      (try simp at zw27)
      have kw27_0 := hw27.more (k := w1.heap.size) (by first | (simp; done) | (simp; omega) | omega)
      obtain ⟨cw27_0, fw27_0⟩ := hw27.row (k := w1.heap.size) (by first | (simp; done) | (simp; omega) | omega)
      have kw27_1 := hw27.more (k := w2.heap.size) (by first | (simp; done) | (simp; omega) | omega)
      obtain ⟨cw27_1, fw27_1⟩ := hw27.row (k := w2.heap.size) (by first | (simp; done) | (simp; omega) | omega)
      have kw27_2 := hw27.more (k := w3.heap.size) (by first | (simp; done) | (simp; omega) | omega)
      obtain ⟨cw27_2, fw27_2⟩ := hw27.row (k := w3.heap.size) (by first | (simp; done) | (simp; omega) | omega)
      have kw27_3 := hw27.more (k := w22.heap.size) (by first | (simp; done) | (simp; omega) | omega)
      obtain ⟨cw27_3, fw27_3⟩ := hw27.row (k := w22.heap.size) (by first | (simp; done) | (simp; omega) | omega)
      have kw27_4 := hw27.more (k := w22.heap.size + 1) (by first | (simp; done) | (simp; omega) | omega)
      obtain ⟨cw27_4, fw27_4⟩ := hw27.row (k := w22.heap.size + 1) (by first | (simp; done) | (simp; omega) | omega)
      have kw27_5 := hw27.more (k := w23.heap.size) (by first | (simp; done) | (simp; omega) | omega)
      obtain ⟨cw27_5, fw27_5⟩ := hw27.row (k := w23.heap.size) (by first | (simp; done) | (simp; omega) | omega)
      have kw27_6 := hw27.more (k := w24.heap.size) (by first | (simp; done) | (simp; omega) | omega)
      obtain ⟨cw27_6, fw27_6⟩ := hw27.row (k := w24.heap.size) (by first | (simp; done) | (simp; omega) | omega)
      (refine wpF_call 20 ?_ rfl rfl (by rfl) ?_ ?_; rotate_left; (focus (go_simp; (try with_reducible rfl); done)))
      refine (EndOf_spec nx3 ao3 _ ca3 cs3 _ (h3.out.ext (by repeat (first | with_reducible exact Ext.refl _ | with_reducible assumption | with_reducible refine Ext.alloc ?_ _ | with_reducible refine Ext.drew ?_ | ((with_reducible refine Ext.set ?_ ?_ _); (focus (first | (simp; done) | (simp; omega) | omega))) | with_reducible refine Ext.trans ?_ hw27 | with_reducible refine Ext.trans ?_ hw26 | with_reducible refine Ext.trans ?_ hw25 | with_reducible refine Ext.trans ?_ hw24))) rfl (by omega) f3.out).mono ?_
      rintro en w28 ⟨rfl, hw28⟩
      refine ⟨_, rfl, hw28, ?_⟩
      try simp only [Act.put, List.getElem_toArray, List.getElem_cons_zero, List.getElem_cons_succ, List.setIfInBounds_toArray, List.set_cons_zero, List.set_cons_succ]
      have zw28 := hw28.size
      (try simp at zw28)
      have kw28_0 := hw28.more (k := w1.heap.size) (by first | (simp; done) | (simp; omega) | omega)
      obtain ⟨cw28_0, fw28_0⟩ := hw28.row (k := w1.heap.size) (by first | (simp; done) | (simp; omega) | omega)
      have kw28_1 := hw28.more (k := w2.heap.size) (by first | (simp; done) | (simp; omega) | omega)
      obtain ⟨cw28_1, fw28_1⟩ := hw28.row (k := w2.heap.size) (by first | (simp; done) | (simp; omega) | omega)
      have kw28_2 := hw28.more (k := w3.heap.size) (by first | (simp; done) | (simp; omega) | omega)
      obtain ⟨cw28_2, fw28_2⟩ := hw28.row (k := w3.heap.size) (by first | (simp; done) | (simp; omega) | omega)
      have kw28_3 := hw28.more (k := w22.heap.size) (by first | (simp; done) | (simp; omega) | omega)
      obtain ⟨cw28_3, fw28_3⟩ := hw28.row (k := w22.heap.size) (by first | (simp; done) | (simp; omega) | omega)
      have kw28_4 := hw28.more (k := w22.heap.size + 1) (by first | (simp; done) | (simp; omega) | omega)
      obtain ⟨cw28_4, fw28_4⟩ := hw28.row (k := w22.heap.size + 1) (by first | (simp; done) | (simp; omega) | omega)
      have kw28_5 := hw28.more (k := w23.heap.size) (by first | (simp; done) | (simp; omega) | omega)
      obtain ⟨cw28_5, fw28_5⟩ := hw28.row (k := w23.heap.size) (by first | (simp; done) | (simp; omega) | omega)
      have kw28_6 := hw28.more (k := w24.heap.size) (by first | (simp; done) | (simp; omega) | omega)
      obtain ⟨cw28_6, fw28_6⟩ := hw28.row (k := w24.heap.size) (by first | (simp; done) | (simp; omega) | omega)
      (refine wpF_pure (v := ?_) rfl rfl (by rfl) ?_ ?_; rotate_left; (focus (intro ws hws; go_simp; (try with_reducible rfl); done)))
      try simp only [Act.put, List.getElem_toArray, List.getElem_cons_zero, List.getElem_cons_succ, List.setIfInBounds_toArray, List.set_cons_zero, List.set_cons_succ]
      (refine wpF_pure (v := ?_) rfl rfl (by rfl) ?_ ?_; rotate_left; (focus (intro ws hws; go_simp; (try with_reducible rfl); done)))
      try simp only [Act.put, List.getElem_toArray, List.getElem_cons_zero, List.getElem_cons_succ, List.setIfInBounds_toArray, List.set_cons_zero, List.set_cons_succ]
      (refine wpF_pure (v := ?_) rfl rfl (by rfl) ?_ ?_; rotate_left; (focus (intro ws hws; go_simp; (try with_reducible rfl); done)))
      try simp only [Act.put, List.getElem_toArray, List.getElem_cons_zero, List.getElem_cons_succ, List.setIfInBounds_toArray, List.set_cons_zero, List.set_cons_succ]
      (refine wpF_pure (v := ?_) rfl rfl (by rfl) ?_ ?_; rotate_left; (focus (intro ws hws; obtain ⟨q0, p0⟩ := hws.row (k := w23.heap.size) (by first | (simp; done) | (simp; omega) | omega); go_simp; (try with_reducible rfl); done)))
      try simp only [Act.put, List.getElem_toArray, List.getElem_cons_zero, List.getElem_cons_succ, List.setIfInBounds_toArray, List.set_cons_zero, List.set_cons_succ]
      (refine wpF_pure (v := ?_) rfl rfl (by rfl) ?_ ?_; rotate_left; (focus (intro ws hws; obtain ⟨q0, p0⟩ := hws.row (k := w23.heap.size) (by first | (simp; done) | (simp; omega) | omega); go_simp; (try with_reducible rfl); done)))
      try simp only [Act.put, List.getElem_toArray, List.getElem_cons_zero, List.getElem_cons_succ, List.setIfInBounds_toArray, List.set_cons_zero, List.set_cons_succ]
      (refine wpF_call 21 ?_ rfl rfl (by rfl) ?_ ?_; rotate_left; (focus (go_simp; (try with_reducible rfl); done)))
      refine (ReadyBytes_impl nx3 ao3 _ ca3 cs3 _ (h3.out.ext (by repeat (first | with_reducible exact Ext.refl _ | with_reducible assumption | with_reducible refine Ext.alloc ?_ _ | with_reducible refine Ext.drew ?_ | ((with_reducible refine Ext.set ?_ ?_ _); (focus (first | (simp; done) | (simp; omega) | omega))) | with_reducible refine Ext.trans ?_ hw28 | with_reducible refine Ext.trans ?_ hw27 | with_reducible refine Ext.trans ?_ hw26 | with_reducible refine Ext.trans ?_ hw25 | with_reducible refine Ext.trans ?_ hw24))) rfl (by omega) f3.out).mono ?_
      rintro en w29 ⟨rfl, hw29⟩
      refine ⟨_, rfl, hw29, ?_⟩
      try simp only [Act.put, List.getElem_toArray, List.getElem_cons_zero, List.getElem_cons_succ, List.setIfInBounds_toArray, List.set_cons_zero, List.set_cons_succ]
      have zw29 := hw29.size
      (try simp at zw29)
      have kw29_0 := hw29.more (k := w1.heap.size) (by first | (simp; done) | (simp; omega) | omega)
      obtain ⟨cw29_0, fw29_0⟩ := hw29.row (k := w1.heap.size) (by first | (simp; done) | (simp; omega) | omega)
      have kw29_1 := hw29.more (k := w2.heap.size) (by first | (simp; done) | (simp; omega) | omega)
      obtain ⟨cw29_1, fw29_1⟩ := hw29.row (k := w2.heap.size) (by first | (simp; done) | (simp; omega) | omega)
      have kw29_2 := hw29.more (k := w3.heap.size) (by first | (simp; done) | (simp; omega) | omega)
      obtain ⟨cw29_2, fw29_2⟩ := hw29.row (k := w3.heap.size) (by first | (simp; done) | (simp; omega) | omega)
      have kw29_3 := hw29.more (k := w22.heap.size) (by first | (simp; done) | (simp; omega) | omega)
      obtain ⟨cw29_3, fw29_3⟩ := hw29.row (k := w22.heap.size) (by first | (simp; done) | (simp; omega) | omega)
      have kw29_4 := hw29.more (k := w22.heap.size + 1) (by first | (simp; done) | (simp; omega) | omega)
      obtain ⟨cw29_4, fw29_4⟩ := hw29.row (k := w22.heap.size + 1) (by first | (simp; done) | (simp; omega) | omega)
      have kw29_5 := hw29.more (k := w23.heap.size) (by first | (simp; done) | (simp; omega) | omega)
      obtain ⟨cw29_5, fw29_5⟩ := hw29.row (k := w23.heap.size) (by first | (simp; done) | (simp; omega) | omega)
      have kw29_6 := hw29.more (k := w24.heap.size) (by first | (simp; done) | (simp; omega) | omega)
      obtain ⟨cw29_6, fw29_6⟩ := hw29.row (k := w24.heap.size) (by first | (simp; done) | (simp; omega) | omega)
      (refine wpF_call 22 ?_ rfl rfl (by rfl) ?_ ?_; rotate_left; (focus (go_simp; (try with_reducible rfl); done)))
      refine (ReadyBytes_spec nx3 ao3 _ ca3 cs3 _ (h3.out.ext (by repeat (first | with_reducible exact Ext.refl _ | with_reducible assumption | with_reducible refine Ext.alloc ?_ _ | with_reducible refine Ext.drew ?_ | ((with_reducible refine Ext.set ?_ ?_ _); (focus (first | (simp; done) | (simp; omega) | omega))) | with_reducible refine Ext.trans ?_ hw29 | with_reducible refine Ext.trans ?_ hw28 | with_reducible refine Ext.trans ?_ hw27 | with_reducible refine Ext.trans ?_ hw26 | with_reducible refine Ext.trans ?_ hw25 | with_reducible refine Ext.trans ?_ hw24))) rfl (by omega) f3.out).mono ?_
      rintro en w30 ⟨rfl, hw30⟩
      refine ⟨_, rfl, hw30, ?_⟩
      try simp only [Act.put, List.getElem_toArray, List.getElem_cons_zero, List.getElem_cons_succ, List.setIfInBounds_toArray, List.set_cons_zero, List.set_cons_succ]
      have zw30 := hw30.size
      (try simp at zw30)
      have kw30_0 := hw30.more (k := w1.heap.size) (by first | (simp; done) | (simp; omega) | omega)
      obtain ⟨cw30_0, fw30_0⟩ := hw30.row (k := w1.heap.size) (by first | (simp; done) | (simp; omega) | omega)
      have kw30_1 := hw30.more (k := w2.heap.size) (by first | (simp; done) | (simp; omega) | omega)
      obtain ⟨cw30_1, fw30_1⟩ := hw30.row (k := w2.heap.size) (by first | (simp; done) | (simp; omega) | omega)
      have kw30_2 := hw30.more (k := w3.heap.size) (by first | (simp; done) | (simp; omega) | omega)
      obtain ⟨cw30_2, fw30_2⟩ := hw30.row (k := w3.heap.size) (by first | (simp; done) | (simp; omega) | omega)
      have kw30_3 := hw30.more (k := w22.heap.size) (by first | (simp; done) | (simp; omega) | omega)
      obtain ⟨cw30_3, fw30_3⟩ := hw30.row (k := w22.heap.size) (by first | (simp; done) | (simp; omega) | omega)
      have kw30_4 := hw30.more (k := w22.heap.size + 1) (by first | (simp; done) | (simp; omega) | omega)
      obtain ⟨cw30_4, fw30_4⟩ := hw30.row (k := w22.heap.size + 1) (by first | (simp; done) | (simp; omega) | omega)
      have kw30_5 := hw30.more (k := w23.heap.size) (by first | (simp; done) | (simp; omega) | omega)
      obtain ⟨cw30_5, fw30_5⟩ := hw30.row (k := w23.heap.size) (by first | (simp; done) | (simp; omega) | omega)
      have kw30_6 := hw30.more (k := w24.heap.size) (by first | (simp; done) | (simp; omega) | omega)
      obtain ⟨cw30_6, fw30_6⟩ := hw30.row (k := w24.heap.size) (by first | (simp; done) | (simp; omega) | omega)
      (refine wpF_pure (v := ?_) rfl rfl (by rfl) ?_ ?_; rotate_left; (focus (intro ws hws; go_simp; (try with_reducible rfl); done)))
      try simp only [Act.put, List.getElem_toArray, List.getElem_cons_zero, List.getElem_cons_succ, List.setIfInBounds_toArray, List.set_cons_zero, List.set_cons_succ]
      (refine wpF_pure (v := ?_) rfl rfl (by rfl) ?_ ?_; rotate_left; (focus (intro ws hws; go_simp; (try with_reducible rfl); done)))
      try simp only [Act.put, List.getElem_toArray, List.getElem_cons_zero, List.getElem_cons_succ, List.setIfInBounds_toArray, List.set_cons_zero, List.set_cons_succ]
      (refine wpF_pure (v := ?_) rfl rfl (by rfl) ?_ ?_; rotate_left; (focus (intro ws hws; go_simp; (try with_reducible rfl); done)))
      try simp only [Act.put, List.getElem_toArray, List.getElem_cons_zero, List.getElem_cons_succ, List.setIfInBounds_toArray, List.set_cons_zero, List.set_cons_succ]
      (refine wpF_pure (v := ?_) rfl rfl (by rfl) ?_ ?_; rotate_left; (focus (intro ws hws; obtain ⟨q0, p0⟩ := hws.row (k := w23.heap.size) (by first | (simp; done) | (simp; omega) | omega); go_simp; (try with_reducible rfl); done)))
      try simp only [Act.put, List.getElem_toArray, List.getElem_cons_zero, List.getElem_cons_succ, List.setIfInBounds_toArray, List.set_cons_zero, List.set_cons_succ]
      (refine wpF_pure (v := ?_) rfl rfl (by rfl) ?_ ?_; rotate_left; (focus (intro ws hws; obtain ⟨q0, p0⟩ := hws.row (k := w23.heap.size) (by first | (simp; done) | (simp; omega) | omega); go_simp; (try with_reducible rfl); done)))
      try simp only [Act.put, List.getElem_toArray, List.getElem_cons_zero, List.getElem_cons_succ, List.setIfInBounds_toArray, List.set_cons_zero, List.set_cons_succ]
      (refine wpF_call 14 ?_ rfl rfl (by rfl) ?_ ?_; rotate_left; (focus (go_simp; (try with_reducible rfl); done)))
      refine (BufferRanges_impl nx3 ao3 _ ca3 cs3 _ (h3.out.ext (by repeat (first | with_reducible exact Ext.refl _ | with_reducible assumption | with_reducible refine Ext.alloc ?_ _ | with_reducible refine Ext.drew ?_ | ((with_reducible refine Ext.set ?_ ?_ _); (focus (first | (simp; done) | (simp; omega) | omega))) | with_reducible refine Ext.trans ?_ hw30 | with_reducible refine Ext.trans ?_ hw29 | with_reducible refine Ext.trans ?_ hw28 | with_reducible refine Ext.trans ?_ hw27 | with_reducible refine Ext.trans ?_ hw26 | with_reducible refine Ext.trans ?_ hw25 | with_reducible refine Ext.trans ?_ hw24))) rfl (by omega) f3.out).mono ?_
      rintro en w31 ⟨ag1, cg1, rfl, owg1, hw31⟩
      refine ⟨_, rfl, hw31, ?_⟩
      try simp only [Act.put, List.getElem_toArray, List.getElem_cons_zero, List.getElem_cons_succ, List.setIfInBounds_toArray, List.set_cons_zero, List.set_cons_succ]
      have zw31 := hw31.size
      (try simp at zw31)
      have kw31_0 := hw31.more (k := w1.heap.size) (by first | (simp; done) | (simp; omega) | omega)
      obtain ⟨cw31_0, fw31_0⟩ := hw31.row (k := w1.heap.size) (by first | (simp; done) | (simp; omega) | omega)
      have kw31_1 := hw31.more (k := w2.heap.size) (by first | (simp; done) | (simp; omega) | omega)
      obtain ⟨cw31_1, fw31_1⟩ := hw31.row (k := w2.heap.size) (by first | (simp; done) | (simp; omega) | omega)
      have kw31_2 := hw31.more (k := w3.heap.size) (by first | (simp; done) | (simp; omega) | omega)
      obtain ⟨cw31_2, fw31_2⟩ := hw31.row (k := w3.heap.size) (by first | (simp; done) | (simp; omega) | omega)
      have kw31_3 := hw31.more (k := w22.heap.size) (by first | (simp; done) | (simp; omega) | omega)
      obtain ⟨cw31_3, fw31_3⟩ := hw31.row (k := w22.heap.size) (by first | (simp; done) | (simp; omega) | omega)
      have kw31_4 := hw31.more (k := w22.heap.size + 1) (by first | (simp; done) | (simp; omega) | omega)
      obtain ⟨cw31_4, fw31_4⟩ := hw31.row (k := w22.heap.size + 1) (by first | (simp; done) | (simp; omega) | omega)
      have kw31_5 := hw31.more (k := w23.heap.size) (by first | (simp; done) | (simp; omega) | omega)
      obtain ⟨cw31_5, fw31_5⟩ := hw31.row (k := w23.heap.size) (by first | (simp; done) | (simp; omega) | omega)
      have kw31_6 := hw31.more (k := w24.heap.size) (by first | (simp; done) | (simp; omega) | omega)
      obtain ⟨cw31_6, fw31_6⟩ := hw31.row (k := w24.heap.size) (by first | (simp; done) | (simp; omega) | omega)
      have hg1 := hide owg1.read
      clear owg1
      (refine wpF_call 24 ?_ rfl rfl (by rfl) ?_ ?_; rotate_left; (focus (go_simp; (try with_reducible rfl); done)))
      refine (BufferRanges_spec nx3 ao3 _ ca3 cs3 _ (h3.out.ext (by repeat (first | with_reducible exact Ext.refl _ | with_reducible assumption | with_reducible refine Ext.alloc ?_ _ | with_reducible refine Ext.drew ?_ | ((with_reducible refine Ext.set ?_ ?_ _); (focus (first | (simp; done) | (simp; omega) | omega))) | with_reducible refine Ext.trans ?_ hw31 | with_reducible refine Ext.trans ?_ hw30 | with_reducible refine Ext.trans ?_ hw29 | with_reducible refine Ext.trans ?_ hw28 | with_reducible refine Ext.trans ?_ hw27 | with_reducible refine Ext.trans ?_ hw26 | with_reducible refine Ext.trans ?_ hw25 | with_reducible refine Ext.trans ?_ hw24))) rfl (by omega) f3.out).mono ?_
      rintro en w32 ⟨ag2, cg2, rfl, owg2, hw32⟩
      refine ⟨_, rfl, hw32, ?_⟩
      try simp only [Act.put, List.getElem_toArray, List.getElem_cons_zero, List.getElem_cons_succ, List.setIfInBounds_toArray, List.set_cons_zero, List.set_cons_succ]
      have zw32 := hw32.size
      (try simp at zw32)
      have kw32_0 := hw32.more (k := w1.heap.size) (by first | (simp; done) | (simp; omega) | omega)
      obtain ⟨cw32_0, fw32_0⟩ := hw32.row (k := w1.heap.size) (by first | (simp; done) | (simp; omega) | omega)
      have kw32_1 := hw32.more (k := w2.heap.size) (by first | (simp; done) | (simp; omega) | omega)
      obtain ⟨cw32_1, fw32_1⟩ := hw32.row (k := w2.heap.size) (by first | (simp; done) | (simp; omega) | omega)
      have kw32_2 := hw32.more (k := w3.heap.size) (by first | (simp; done) | (simp; omega) | omega)
      obtain ⟨cw32_2, fw32_2⟩ := hw32.row (k := w3.heap.size) (by first | (simp; done) | (simp; omega) | omega)
      have kw32_3 := hw32.more (k := w22.heap.size) (by first | (simp; done) | (simp; omega) | omega)
      obtain ⟨cw32_3, fw32_3⟩ := hw32.row (k := w22.heap.size) (by first | (simp; done) | (simp; omega) | omega)
      have kw32_4 := hw32.more (k := w22.heap.size + 1) (by first | (simp; done) | (simp; omega) | omega)
      obtain ⟨cw32_4, fw32_4⟩ := hw32.row (k := w22.heap.size + 1) (by first | (simp; done) | (simp; omega) | omega)
      have kw32_5 := hw32.more (k := w23.heap.size) (by first | (simp; done) | (simp; omega) | omega)
      obtain ⟨cw32_5, fw32_5⟩ := hw32.row (k := w23.heap.size) (by first | (simp; done) | (simp; omega) | omega)
      have kw32_6 := hw32.more (k := w24.heap.size) (by first | (simp; done) | (simp; omega) | omega)
      obtain ⟨cw32_6, fw32_6⟩ := hw32.row (k := w24.heap.size) (by first | (simp; done) | (simp; omega) | omega)
      have hg2 := hide owg2.read
      clear owg2
      (refine wpF_call 23 ?_ rfl rfl (by rfl) ?_ ?_; rotate_left; (focus (go_simp; (try with_reducible rfl); done)))
      refine (eqr_same ag1 ag2 cg1 cg2 (bufRgs nx3 cs3) _ (hg1.out.ext (by repeat (first | with_reducible exact Ext.refl _ | with_reducible assumption | with_reducible refine Ext.alloc ?_ _ | with_reducible refine Ext.drew ?_ | ((with_reducible refine Ext.set ?_ ?_ _); (focus (first | (simp; done) | (simp; omega) | omega))) | with_reducible refine Ext.trans ?_ hw32))) (hg2.out.ext (by repeat (first | with_reducible exact Ext.refl _ | with_reducible assumption | with_reducible refine Ext.alloc ?_ _ | with_reducible refine Ext.drew ?_ | ((with_reducible refine Ext.set ?_ ?_ _); (focus (first | (simp; done) | (simp; omega) | omega)))))) (by omega)).mono ?_
      rintro en w33 ⟨rfl, hw33⟩
      refine ⟨_, rfl, hw33, ?_⟩
      try simp only [Act.put, List.getElem_toArray, List.getElem_cons_zero, List.getElem_cons_succ, List.setIfInBounds_toArray, List.set_cons_zero, List.set_cons_succ]
      have zw33 := hw33.size
      (try simp at zw33)
      have kw33_0 := hw33.more (k := w1.heap.size) (by first | (simp; done) | (simp; omega) | omega)
      obtain ⟨cw33_0, fw33_0⟩ := hw33.row (k := w1.heap.size) (by first | (simp; done) | (simp; omega) | omega)
      have kw33_1 := hw33.more (k := w2.heap.size) (by first | (simp; done) | (simp; omega) | omega)
      obtain ⟨cw33_1, fw33_1⟩ := hw33.row (k := w2.heap.size) (by first | (simp; done) | (simp; omega) | omega)
      have kw33_2 := hw33.more (k := w3.heap.size) (by first | (simp; done) | (simp; omega) | omega)
      obtain ⟨cw33_2, fw33_2⟩ := hw33.row (k := w3.heap.size) (by first | (simp; done) | (simp; omega) | omega)
      have kw33_3 := hw33.more (k := w22.heap.size) (by first | (simp; done) | (simp; omega) | omega)
      obtain ⟨cw33_3, fw33_3⟩ := hw33.row (k := w22.heap.size) (by first | (simp; done) | (simp; omega) | omega)
      have kw33_4 := hw33.more (k := w22.heap.size + 1) (by first | (simp; done) | (simp; omega) | omega)
      obtain ⟨cw33_4, fw33_4⟩ := hw33.row (k := w22.heap.size + 1) (by first | (simp; done) | (simp; omega) | omega)
      have kw33_5 := hw33.more (k := w23.heap.size) (by first | (simp; done) | (simp; omega) | omega)
      obtain ⟨cw33_5, fw33_5⟩ := hw33.row (k := w23.heap.size) (by first | (simp; done) | (simp; omega) | omega)
      have kw33_6 := hw33.more (k := w24.heap.size) (by first | (simp; done) | (simp; omega) | omega)
      obtain ⟨cw33_6, fw33_6⟩ := hw33.row (k := w24.heap.size) (by first | (simp; done) | (simp; omega) | omega)
      (refine wpF_pure (v := ?_) rfl rfl (by rfl) ?_ ?_; rotate_left; (focus (intro ws hws; go_simp; (try with_reducible rfl); done)))
      try simp only [Act.put, List.getElem_toArray, List.getElem_cons_zero, List.getElem_cons_succ, List.setIfInBounds_toArray, List.set_cons_zero, List.set_cons_succ]
      (refine wpF_pure (v := ?_) rfl rfl (by rfl) ?_ ?_; rotate_left; (focus (intro ws hws; go_simp; (try with_reducible rfl); done)))
      try simp only [Act.put, List.getElem_toArray, List.getElem_cons_zero, List.getElem_cons_succ, List.setIfInBounds_toArray, List.set_cons_zero, List.set_cons_succ]
      (refine wpF_pure (v := ?_) rfl rfl (by rfl) ?_ ?_; rotate_left; (focus (intro ws hws; obtain ⟨q0, p0⟩ := hws.row (k := w24.heap.size) (by first | (simp; done) | (simp; omega) | omega); go_simp; (try with_reducible rfl); done)))
      try simp only [Act.put, List.getElem_toArray, List.getElem_cons_zero, List.getElem_cons_succ, List.setIfInBounds_toArray, List.set_cons_zero, List.set_cons_succ]
      (refine wpF_pure (v := ?_) rfl rfl (by rfl) ?_ ?_; rotate_left; (focus (intro ws hws; go_simp; (try with_reducible rfl); done)))
      try simp only [Act.put, List.getElem_toArray, List.getElem_cons_zero, List.getElem_cons_succ, List.setIfInBounds_toArray, List.set_cons_zero, List.set_cons_succ]
      (refine wpF_pure (v := ?_) rfl rfl (by rfl) ?_ ?_; rotate_left; (focus (intro ws hws; obtain ⟨q0, p0⟩ := hws.row (k := w24.heap.size) (by first | (simp; done) | (simp; omega) | omega); go_simp; (try with_reducible rfl); done)))
      try simp only [Act.put, List.getElem_toArray, List.getElem_cons_zero, List.getElem_cons_succ, List.setIfInBounds_toArray, List.set_cons_zero, List.set_cons_succ]
      (refine wpF_pure (v := ?_) rfl rfl (by rfl) ?_ ?_; rotate_left; (focus (intro ws hws; go_simp; (try with_reducible rfl); done)))
      try simp only [Act.put, List.getElem_toArray, List.getElem_cons_zero, List.getElem_cons_succ, List.setIfInBounds_toArray, List.set_cons_zero, List.set_cons_succ]
      (refine wpF_call 12 ?_ rfl rfl (by rfl) ?_ ?_; rotate_left; (focus (go_simp; (try with_reducible rfl); done)))
      refine (ByteAt_impl nx4 k ao4 _ ca4 cs4 _ (h4.out.ext (by repeat (first | with_reducible exact Ext.refl _ | with_reducible assumption | with_reducible refine Ext.alloc ?_ _ | with_reducible refine Ext.drew ?_ | ((with_reducible refine Ext.set ?_ ?_ _); (focus (first | (simp; done) | (simp; omega) | omega))) | with_reducible refine Ext.trans ?_ hw33 | with_reducible refine Ext.trans ?_ hw32 | with_reducible refine Ext.trans ?_ hw31 | with_reducible refine Ext.trans ?_ hw30 | with_reducible refine Ext.trans ?_ hw29 | with_reducible refine Ext.trans ?_ hw28 | with_reducible refine Ext.trans ?_ hw27 | with_reducible refine Ext.trans ?_ hw26 | with_reducible refine Ext.trans ?_ hw25))) rfl (by omega) f4.out (by omega)).mono ?_
      rintro en w34 ⟨rfl, hw34⟩
      refine ⟨_, rfl, hw34, ?_⟩
      try simp only [Act.put, List.getElem_toArray, List.getElem_cons_zero, List.getElem_cons_succ, List.setIfInBounds_toArray, List.set_cons_zero, List.set_cons_succ]
      have zw34 := hw34.size
      (try simp at zw34)
      have kw34_0 := hw34.more (k := w1.heap.size) (by first | (simp; done) | (simp; omega) | omega)
      obtain ⟨cw34_0, fw34_0⟩ := hw34.row (k := w1.heap.size) (by first | (simp; done) | (simp; omega) | omega)
      have kw34_1 := hw34.more (k := w2.heap.size) (by first | (simp; done) | (simp; omega) | omega)
      obtain ⟨cw34_1, fw34_1⟩ := hw34.row (k := w2.heap.size) (by first | (simp; done) | (simp; omega) | omega)
      have kw34_2 := hw34.more (k := w3.heap.size) (by first | (simp; done) | (simp; omega) | omega)
      obtain ⟨cw34_2, fw34_2⟩ := hw34.row (k := w3.heap.size) (by first | (simp; done) | (simp; omega) | omega)
      have kw34_3 := hw34.more (k := w22.heap.size) (by first | (simp; done) | (simp; omega) | omega)
      obtain ⟨cw34_3, fw34_3⟩ := hw34.row (k := w22.heap.size) (by first | (simp; done) | (simp; omega) | omega)
      have kw34_4 := hw34.more (k := w22.heap.size + 1) (by first | (simp; done) | (simp; omega) | omega)
      obtain ⟨cw34_4, fw34_4⟩ := hw34.row (k := w22.heap.size + 1) (by first | (simp; done) | (simp; omega) | omega)
      have kw34_5 := hw34.more (k := w23.heap.size) (by first | (simp; done) | (simp; omega) | omega)
      obtain ⟨cw34_5, fw34_5⟩ := hw34.row (k := w23.heap.size) (by first | (simp; done) | (simp; omega) | omega)
      have kw34_6 := hw34.more (k := w24.heap.size) (by first | (simp; done) | (simp; omega) | omega)
      obtain ⟨cw34_6, fw34_6⟩ := hw34.row (k := w24.heap.size) (by first | (simp; done) | (simp; omega) | omega)
      (refine wpF_call 11 ?_ rfl rfl (by rfl) ?_ ?_; rotate_left; (focus (go_simp; (try with_reducible rfl); done)))
      refine (ByteAt_spec nx4 k ao4 _ ca4 cs4 _ (h4.out.ext (by repeat (first | with_reducible exact Ext.refl _ | with_reducible assumption | with_reducible refine Ext.alloc ?_ _ | with_reducible refine Ext.drew ?_ | ((with_reducible refine Ext.set ?_ ?_ _); (focus (first | (simp; done) | (simp; omega) | omega))) | with_reducible refine Ext.trans ?_ hw34 | with_reducible refine Ext.trans ?_ hw33 | with_reducible refine Ext.trans ?_ hw32 | with_reducible refine Ext.trans ?_ hw31 | with_reducible refine Ext.trans ?_ hw30 | with_reducible refine Ext.trans ?_ hw29 | with_reducible refine Ext.trans ?_ hw28 | with_reducible refine Ext.trans ?_ hw27 | with_reducible refine Ext.trans ?_ hw26 | with_reducible refine Ext.trans ?_ hw25))) rfl (by omega) f4.out (by omega)).mono ?_
      rintro en w35 ⟨rfl, hw35⟩
      refine ⟨_, rfl, hw35, ?_⟩
      try simp only [Act.put, List.getElem_toArray, List.getElem_cons_zero, List.getElem_cons_succ, List.setIfInBounds_toArray, List.set_cons_zero, List.set_cons_succ]
      have zw35 := hw35.size
      (try simp at zw35)
      have kw35_0 := hw35.more (k := w1.heap.size) (by first | (simp; done) | (simp; omega) | omega)
      obtain ⟨cw35_0, fw35_0⟩ := hw35.row (k := w1.heap.size) (by first | (simp; done) | (simp; omega) | omega)
      have kw35_1 := hw35.more (k := w2.heap.size) (by first | (simp; done) | (simp; omega) | omega)
      obtain ⟨cw35_1, fw35_1⟩ := hw35.row (k := w2.heap.size) (by first | (simp; done) | (simp; omega) | omega)
      have kw35_2 := hw35.more (k := w3.heap.size) (by first | (simp; done) | (simp; omega) | omega)
      obtain ⟨cw35_2, fw35_2⟩ := hw35.row (k := w3.heap.size) (by first | (simp; done) | (simp; omega) | omega)
      have kw35_3 := hw35.more (k := w22.heap.size) (by first | (simp; done) | (simp; omega) | omega)
      obtain ⟨cw35_3, fw35_3⟩ := hw35.row (k := w22.heap.size) (by first | (simp; done) | (simp; omega) | omega)
      have kw35_4 := hw35.more (k := w22.heap.size + 1) (by first | (simp; done) | (simp; omega) | omega)
      obtain ⟨cw35_4, fw35_4⟩ := hw35.row (k := w22.heap.size + 1) (by first | (simp; done) | (simp; omega) | omega)
      have kw35_5 := hw35.more (k := w23.heap.size) (by first | (simp; done) | (simp; omega) | omega)
      obtain ⟨cw35_5, fw35_5⟩ := hw35.row (k := w23.heap.size) (by first | (simp; done) | (simp; omega) | omega)
      have kw35_6 := hw35.more (k := w24.heap.size) (by first | (simp; done) | (simp; omega) | omega)
      obtain ⟨cw35_6, fw35_6⟩ := hw35.row (k := w24.heap.size) (by first | (simp; done) | (simp; omega) | omega)
      (refine wpF_pure (v := ?_) rfl rfl (by rfl) ?_ ?_; rotate_left; (focus (intro ws hws; go_simp; (try with_reducible rfl); done)))
      try simp only [Act.put, List.getElem_toArray, List.getElem_cons_zero, List.getElem_cons_succ, List.setIfInBounds_toArray, List.set_cons_zero, List.set_cons_succ]
      (refine wpF_pure (v := ?_) rfl rfl (by rfl) ?_ ?_; rotate_left; (focus (intro ws hws; go_simp; (try with_reducible rfl); done)))
      try simp only [Act.put, List.getElem_toArray, List.getElem_cons_zero, List.getElem_cons_succ, List.setIfInBounds_toArray, List.set_cons_zero, List.set_cons_succ]
      (refine wpF_pure (v := ?_) rfl rfl (by rfl) ?_ ?_; rotate_left; (focus (intro ws hws; go_simp; (try with_reducible rfl); done)))
      try simp only [Act.put, List.getElem_toArray, List.getElem_cons_zero, List.getElem_cons_succ, List.setIfInBounds_toArray, List.set_cons_zero, List.set_cons_succ]
      refine wpF_done rfl ?_
      simp only [List.drop_succ_cons, List.drop_zero, List.drop_nil]
      go_wp2
      go_ret
      exact ⟨rfl, (by repeat (first | with_reducible exact Ext.refl _ | with_reducible assumption | with_reducible refine Ext.alloc ?_ _ | with_reducible refine Ext.drew ?_ | ((with_reducible refine Ext.set ?_ ?_ _); (focus (first | (simp; done) | (simp; omega) | omega))) | with_reducible refine Ext.trans ?_ hw35 | with_reducible refine Ext.trans ?_ hw34 | with_reducible refine Ext.trans ?_ hw33 | with_reducible refine Ext.trans ?_ hw32 | with_reducible refine Ext.trans ?_ hw31 | with_reducible refine Ext.trans ?_ hw30 | with_reducible refine Ext.trans ?_ hw29 | with_reducible refine Ext.trans ?_ hw28 | with_reducible refine Ext.trans ?_ hw27 | with_reducible refine Ext.trans ?_ hw26 | with_reducible refine Ext.trans ?_ hw25 | with_reducible refine Ext.trans ?_ hw24 | with_reducible refine Ext.trans ?_ hw23 | with_reducible refine Ext.trans ?_ hw22 | with_reducible refine Ext.trans ?_ hw21 | with_reducible refine Ext.trans ?_ hcut | with_reducible refine Ext.trans ?_ hw6 | with_reducible refine Ext.trans ?_ hw5 | with_reducible refine Ext.trans ?_ hw4 | with_reducible refine Ext.trans ?_ hw3 | with_reducible refine Ext.trans ?_ hw2 | with_reducible refine Ext.trans ?_ hw1))⟩
    · skip
      go_wp2_with fail
      refine wp_region_flowE 20 [(0, 1), (1, 0), (2, 1), (3, 1), (4, 0), (5, 1), (6, 1), (7, 1), (8, 0), (9, 0), (10, 1), (11, 1), (12, 1), (13, 1), (15, 1), (14, 0), (16, 0), (17, 1), (18, 1), (19, 1)] (by kernel_rfl) (by kernel_rfl) ?_
      (refine wpF_pure (v := ?_) rfl rfl (by rfl) ?_ ?_; rotate_left; (focus (intro ws hws; obtain ⟨q0, p0⟩ := hws.row (k := w1.heap.size) (by first | (simp; done) | (simp; omega) | omega); go_simp; (try with_reducible rfl); done)))
      try simp only [Act.put, List.getElem_toArray, List.getElem_cons_zero, List.getElem_cons_succ, List.setIfInBounds_toArray, List.set_cons_zero, List.set_cons_succ]
      (refine wpF_call 10 ?_ rfl rfl (by rfl) ?_ ?_; rotate_left; (focus (go_simp; (try with_reducible rfl); done)))
      refine (IsBuffer_spec nx ar _ cr cs _ (hr.out.ext (by repeat (first | with_reducible exact Ext.refl _ | with_reducible assumption | with_reducible refine Ext.alloc ?_ _ | with_reducible refine Ext.drew ?_ | ((with_reducible refine Ext.set ?_ ?_ _); (focus (first | (simp; done) | (simp; omega) | omega))) | with_reducible refine Ext.trans ?_ hcut | with_reducible refine Ext.trans ?_ hw6 | with_reducible refine Ext.trans ?_ hw5 | with_reducible refine Ext.trans ?_ hw4 | with_reducible refine Ext.trans ?_ hw3 | with_reducible refine Ext.trans ?_ hw2))) rfl (by omega) hwf.out).mono ?_
      rintro en w41 ⟨rfl, hw41⟩
      refine ⟨_, rfl, hw41, ?_⟩
      try simp only [Act.put, List.getElem_toArray, List.getElem_cons_zero, List.getElem_cons_succ, List.setIfInBounds_toArray, List.set_cons_zero, List.set_cons_succ]
      have zw41 := hw41.size
      (try simp at zw41)
      have kw41_0 := hw41.more (k := w1.heap.size) (by first | (simp; done) | (simp; omega) | omega)
      obtain ⟨cw41_0, fw41_0⟩ := hw41.row (k := w1.heap.size) (by first | (simp; done) | (simp; omega) | omega)
      have kw41_1 := hw41.more (k := w2.heap.size) (by first | (simp; done) | (simp; omega) | omega)
      obtain ⟨cw41_1, fw41_1⟩ := hw41.row (k := w2.heap.size) (by first | (simp; done) | (simp; omega) | omega)
      have kw41_2 := hw41.more (k := w3.heap.size) (by first | (simp; done) | (simp; omega) | omega)
      obtain ⟨cw41_2, fw41_2⟩ := hw41.row (k := w3.heap.size) (by first | (simp; done) | (simp; omega) | omega)
      rw [hqb.out]
      obtain ⟨le1, le2⟩ := insC_end (off := off) (data := d) hqb.out
      have hyi := insC_isBuf (off := off) (data := d) hqb.out
      have hyr : isRgs (bufRgs nx (insC nx cs off d)) = true := by
        unfold bufRgs
        rw [if_pos hyi]
        exact isBuf_rgs hyi
      replace hyi := hide hyi
      replace hyr := hide hyr
      have hrl := bufRgs_length nx (insC nx cs off d)
      have les : decide (endOf nx (insC nx cs off d) < endOf nx cs) = false := decide_eq_false (by omega)
      clear le1 le2
      (refine wpF_pure (v := ?_) rfl rfl (by rfl) ?_ ?_; rotate_left; (focus (intro ws hws; go_simp; (try with_reducible rfl); done)))
      try simp only [Act.put, List.getElem_toArray, List.getElem_cons_zero, List.getElem_cons_succ, List.setIfInBounds_toArray, List.set_cons_zero, List.set_cons_succ]
      (refine wpF_pure (v := ?_) rfl rfl (by rfl) ?_ ?_; rotate_left; (focus (intro ws hws; obtain ⟨q0, p0⟩ := hws.row (k := w3.heap.size) (by first | (simp; done) | (simp; omega) | omega); go_simp; (try with_reducible rfl); done)))
      try simp only [Act.put, List.getElem_toArray, List.getElem_cons_zero, List.getElem_cons_succ, List.setIfInBounds_toArray, List.set_cons_zero, List.set_cons_succ]
      (refine wpF_call 9 ?_ rfl rfl (by rfl) ?_ ?_; rotate_left; (focus (go_simp; (try with_reducible rfl); done)))
      refine (IsBuffer_impl nx ay _ cy (insC nx cs off d) _ (hy.out.ext (by repeat (first | with_reducible exact Ext.refl _ | with_reducible assumption | with_reducible refine Ext.alloc ?_ _ | with_reducible refine Ext.drew ?_ | ((with_reducible refine Ext.set ?_ ?_ _); (focus (first | (simp; done) | (simp; omega) | omega))) | with_reducible refine Ext.trans ?_ hw41 | with_reducible refine Ext.trans ?_ hcut | with_reducible refine Ext.trans ?_ hw6 | with_reducible refine Ext.trans ?_ hw5 | with_reducible refine Ext.trans ?_ hw4))) rfl (by omega) hyf.out).mono ?_
      rintro en w42 ⟨rfl, hw42⟩
      refine ⟨_, rfl, hw42, ?_⟩
      try simp only [Act.put, List.getElem_toArray, List.getElem_cons_zero, List.getElem_cons_succ, List.setIfInBounds_toArray, List.set_cons_zero, List.set_cons_succ]
      have zw42 := hw42.size
      (try simp at zw42)
      have kw42_0 := hw42.more (k := w1.heap.size) (by first | (simp; done) | (simp; omega) | omega)
      obtain ⟨cw42_0, fw42_0⟩ := hw42.row (k := w1.heap.size) (by first | (simp; done) | (simp; omega) | omega)
      have kw42_1 := hw42.more (k := w2.heap.size) (by first | (simp; done) | (simp; omega) | omega)
      obtain ⟨cw42_1, fw42_1⟩ := hw42.row (k := w2.heap.size) (by first | (simp; done) | (simp; omega) | omega)
      have kw42_2 := hw42.more (k := w3.heap.size) (by first | (simp; done) | (simp; omega) | omega)
      obtain ⟨cw42_2, fw42_2⟩ := hw42.row (k := w3.heap.size) (by first | (simp; done) | (simp; omega) | omega)
      rw [hyi.out]
      (refine wpF_pure (v := ?_) rfl rfl (by rfl) ?_ ?_; rotate_left; (focus (intro ws hws; go_simp; (try with_reducible rfl); done)))
      try simp only [Act.put, List.getElem_toArray, List.getElem_cons_zero, List.getElem_cons_succ, List.setIfInBounds_toArray, List.set_cons_zero, List.set_cons_succ]
      (refine wpF_pure (v := ?_) rfl rfl (by rfl) ?_ ?_; rotate_left; (focus (intro ws hws; go_simp; (try with_reducible rfl); done)))
      try simp only [Act.put, List.getElem_toArray, List.getElem_cons_zero, List.getElem_cons_succ, List.setIfInBounds_toArray, List.set_cons_zero, List.set_cons_succ]
      (refine wpF_pure (v := ?_) rfl rfl (by rfl) ?_ ?_; rotate_left; (focus (intro ws hws; obtain ⟨q0, p0⟩ := hws.row (k := w3.heap.size) (by first | (simp; done) | (simp; omega) | omega); go_simp; (try with_reducible rfl); done)))
      try simp only [Act.put, List.getElem_toArray, List.getElem_cons_zero, List.getElem_cons_succ, List.setIfInBounds_toArray, List.set_cons_zero, List.set_cons_succ]
      (refine wpF_call 14 ?_ rfl rfl (by rfl) ?_ ?_; rotate_left; (focus (go_simp; (try with_reducible rfl); done)))
      refine (BufferRanges_impl nx ay _ cy (insC nx cs off d) _ (hy.out.ext (by repeat (first | with_reducible exact Ext.refl _ | with_reducible assumption | with_reducible refine Ext.alloc ?_ _ | with_reducible refine Ext.drew ?_ | ((with_reducible refine Ext.set ?_ ?_ _); (focus (first | (simp; done) | (simp; omega) | omega))) | with_reducible refine Ext.trans ?_ hw42 | with_reducible refine Ext.trans ?_ hw41 | with_reducible refine Ext.trans ?_ hcut | with_reducible refine Ext.trans ?_ hw6 | with_reducible refine Ext.trans ?_ hw5 | with_reducible refine Ext.trans ?_ hw4))) rfl (by omega) hyf.out).mono ?_
      rintro en w43 ⟨ag, cg, rfl, owg, hw43⟩
      refine ⟨_, rfl, hw43, ?_⟩
      try simp only [Act.put, List.getElem_toArray, List.getElem_cons_zero, List.getElem_cons_succ, List.setIfInBounds_toArray, List.set_cons_zero, List.set_cons_succ]
      have zw43 := hw43.size
      (try simp at zw43)
      have kw43_0 := hw43.more (k := w1.heap.size) (by first | (simp; done) | (simp; omega) | omega)
      obtain ⟨cw43_0, fw43_0⟩ := hw43.row (k := w1.heap.size) (by first | (simp; done) | (simp; omega) | omega)
      have kw43_1 := hw43.more (k := w2.heap.size) (by first | (simp; done) | (simp; omega) | omega)
      obtain ⟨cw43_1, fw43_1⟩ := hw43.row (k := w2.heap.size) (by first | (simp; done) | (simp; omega) | omega)
      have kw43_2 := hw43.more (k := w3.heap.size) (by first | (simp; done) | (simp; omega) | omega)
      obtain ⟨cw43_2, fw43_2⟩ := hw43.row (k := w3.heap.size) (by first | (simp; done) | (simp; omega) | omega)
      have hg := hide owg.read
      clear owg
      (refine wpF_call 13 ?_ rfl rfl (by rfl) ?_ ?_; rotate_left; (focus (go_simp; (try with_reducible rfl); done)))
      refine (IsRanges_impl ag _ cg (bufRgs nx (insC nx cs off d)) _ (hg.out.ext (by repeat (first | with_reducible exact Ext.refl _ | with_reducible assumption | with_reducible refine Ext.alloc ?_ _ | with_reducible refine Ext.drew ?_ | ((with_reducible refine Ext.set ?_ ?_ _); (focus (first | (simp; done) | (simp; omega) | omega)))))) rfl (by omega)).mono ?_
      rintro en w44 ⟨rfl, hw44⟩
      refine ⟨_, rfl, hw44, ?_⟩
      try simp only [Act.put, List.getElem_toArray, List.getElem_cons_zero, List.getElem_cons_succ, List.setIfInBounds_toArray, List.set_cons_zero, List.set_cons_succ]
      have zw44 := hw44.size
      (try simp at zw44)
      have kw44_0 := hw44.more (k := w1.heap.size) (by first | (simp; done) | (simp; omega) | omega)
      obtain ⟨cw44_0, fw44_0⟩ := hw44.row (k := w1.heap.size) (by first | (simp; done) | (simp; omega) | omega)
      have kw44_1 := hw44.more (k := w2.heap.size) (by first | (simp; done) | (simp; omega) | omega)
      obtain ⟨cw44_1, fw44_1⟩ := hw44.row (k := w2.heap.size) (by first | (simp; done) | (simp; omega) | omega)
      have kw44_2 := hw44.more (k := w3.heap.size) (by first | (simp; done) | (simp; omega) | omega)
      obtain ⟨cw44_2, fw44_2⟩ := hw44.row (k := w3.heap.size) (by first | (simp; done) | (simp; omega) | omega)
      rw [hyr.out]
      (refine wpF_pure (v := ?_) rfl rfl (by rfl) ?_ ?_; rotate_left; (focus (intro ws hws; go_simp; (try with_reducible rfl); done)))
      try simp only [Act.put, List.getElem_toArray, List.getElem_cons_zero, List.getElem_cons_succ, List.setIfInBounds_toArray, List.set_cons_zero, List.set_cons_succ]
      (refine wpF_pure (v := ?_) rfl rfl (by rfl) ?_ ?_; rotate_left; (focus (intro ws hws; go_simp; (try with_reducible rfl); done)))
      try simp only [Act.put, List.getElem_toArray, List.getElem_cons_zero, List.getElem_cons_succ, List.setIfInBounds_toArray, List.set_cons_zero, List.set_cons_succ]
      (refine wpF_pure (v := ?_) rfl rfl (by rfl) ?_ ?_; rotate_left; (focus (intro ws hws; go_simp; (try with_reducible rfl); done)))
      try simp only [Act.put, List.getElem_toArray, List.getElem_cons_zero, List.getElem_cons_succ, List.setIfInBounds_toArray, List.set_cons_zero, List.set_cons_succ]
      (refine wpF_pure (v := ?_) rfl rfl (by rfl) ?_ ?_; rotate_left; (focus (intro ws hws; obtain ⟨q0, p0⟩ := hws.row (k := w3.heap.size) (by first | (simp; done) | (simp; omega) | omega); go_simp; (try with_reducible rfl); done)))
      try simp only [Act.put, List.getElem_toArray, List.getElem_cons_zero, List.getElem_cons_succ, List.setIfInBounds_toArray, List.set_cons_zero, List.set_cons_succ]
      (refine wpF_pure (v := ?_) rfl rfl (by rfl) ?_ ?_; rotate_left; (focus (intro ws hws; obtain ⟨q0, p0⟩ := hws.row (k := w1.heap.size) (by first | (simp; done) | (simp; omega) | omega); go_simp; (try with_reducible rfl); done)))
      try simp only [Act.put, List.getElem_toArray, List.getElem_cons_zero, List.getElem_cons_succ, List.setIfInBounds_toArray, List.set_cons_zero, List.set_cons_succ]
      (refine wpF_call 15 ?_ rfl rfl (by rfl) ?_ ?_; rotate_left; (focus (go_simp; (try with_reducible rfl); done)))
      refine (EndOf_impl nx ay _ cy (insC nx cs off d) _ (hy.out.ext (by repeat (first | with_reducible exact Ext.refl _ | with_reducible assumption | with_reducible refine Ext.alloc ?_ _ | with_reducible refine Ext.drew ?_ | ((with_reducible refine Ext.set ?_ ?_ _); (focus (first | (simp; done) | (simp; omega) | omega))) | with_reducible refine Ext.trans ?_ hw44 | with_reducible refine Ext.trans ?_ hw43 | with_reducible refine Ext.trans ?_ hw42 | with_reducible refine Ext.trans ?_ hw41 | with_reducible refine Ext.trans ?_ hcut | with_reducible refine Ext.trans ?_ hw6 | with_reducible refine Ext.trans ?_ hw5 | with_reducible refine Ext.trans ?_ hw4))) rfl (by omega) hyf.out).mono ?_
      rintro en w45 ⟨rfl, hw45⟩
      refine ⟨_, rfl, hw45, ?_⟩
      try simp only [Act.put, List.getElem_toArray, List.getElem_cons_zero, List.getElem_cons_succ, List.setIfInBounds_toArray, List.set_cons_zero, List.set_cons_succ]
      have zw45 := hw45.size
      (try simp at zw45)
      have kw45_0 := hw45.more (k := w1.heap.size) (by first | (simp; done) | (simp; omega) | omega)
      obtain ⟨cw45_0, fw45_0⟩ := hw45.row (k := w1.heap.size) (by first | (simp; done) | (simp; omega) | omega)
      have kw45_1 := hw45.more (k := w2.heap.size) (by first | (simp; done) | (simp; omega) | omega)
      obtain ⟨cw45_1, fw45_1⟩ := hw45.row (k := w2.heap.size) (by first | (simp; done) | (simp; omega) | omega)
      have kw45_2 := hw45.more (k := w3.heap.size) (by first | (simp; done) | (simp; omega) | omega)
      obtain ⟨cw45_2, fw45_2⟩ := hw45.row (k := w3.heap.size) (by first | (simp; done) | (simp; omega) | omega)
      (refine wpF_call 15 ?_ rfl rfl (by rfl) ?_ ?_; rotate_left; (focus (go_simp; (try with_reducible rfl); done)))
      refine (EndOf_impl nx ar _ cr cs _ (hr.out.ext (by repeat (first | with_reducible exact Ext.refl _ | with_reducible assumption | with_reducible refine Ext.alloc ?_ _ | with_reducible refine Ext.drew ?_ | ((with_reducible refine Ext.set ?_ ?_ _); (focus (first | (simp; done) | (simp; omega) | omega))) | with_reducible refine Ext.trans ?_ hw45 | with_reducible refine Ext.trans ?_ hw44 | with_reducible refine Ext.trans ?_ hw43 | with_reducible refine Ext.trans ?_ hw42 | with_reducible refine Ext.trans ?_ hw41 | with_reducible refine Ext.trans ?_ hcut | with_reducible refine Ext.trans ?_ hw6 | with_reducible refine Ext.trans ?_ hw5 | with_reducible refine Ext.trans ?_ hw4 | with_reducible refine Ext.trans ?_ hw3 | with_reducible refine Ext.trans ?_ hw2))) rfl (by omega) hwf.out).mono ?_
      rintro en w46 ⟨rfl, hw46⟩
      refine ⟨_, rfl, hw46, ?_⟩
      try simp only [Act.put, List.getElem_toArray, List.getElem_cons_zero, List.getElem_cons_succ, List.setIfInBounds_toArray, List.set_cons_zero, List.set_cons_succ]
      have zw46 := hw46.size
      (try simp at zw46)
      have kw46_0 := hw46.more (k := w1.heap.size) (by first | (simp; done) | (simp; omega) | omega)
      obtain ⟨cw46_0, fw46_0⟩ := hw46.row (k := w1.heap.size) (by first | (simp; done) | (simp; omega) | omega)
      have kw46_1 := hw46.more (k := w2.heap.size) (by first | (simp; done) | (simp; omega) | omega)
      obtain ⟨cw46_1, fw46_1⟩ := hw46.row (k := w2.heap.size) (by first | (simp; done) | (simp; omega) | omega)
      have kw46_2 := hw46.more (k := w3.heap.size) (by first | (simp; done) | (simp; omega) | omega)
      obtain ⟨cw46_2, fw46_2⟩ := hw46.row (k := w3.heap.size) (by first | (simp; done) | (simp; omega) | omega)
      (refine wpF_pure (v := ?_) rfl rfl (by rfl) ?_ ?_; rotate_left; (focus (intro ws hws; go_simp; (try with_reducible rfl); done)))
      try simp only [Act.put, List.getElem_toArray, List.getElem_cons_zero, List.getElem_cons_succ, List.setIfInBounds_toArray, List.set_cons_zero, List.set_cons_succ]
      (refine wpF_pure (v := ?_) rfl rfl (by rfl) ?_ ?_; rotate_left; (focus (intro ws hws; go_simp; (try with_reducible rfl); done)))
      try simp only [Act.put, List.getElem_toArray, List.getElem_cons_zero, List.getElem_cons_succ, List.setIfInBounds_toArray, List.set_cons_zero, List.set_cons_succ]
      (refine wpF_pure (v := ?_) rfl rfl (by rfl) ?_ ?_; rotate_left; (focus (intro ws hws; go_simp; (try with_reducible rfl); done)))
      try simp only [Act.put, List.getElem_toArray, List.getElem_cons_zero, List.getElem_cons_succ, List.setIfInBounds_toArray, List.set_cons_zero, List.set_cons_succ]
      refine wpF_done rfl ?_
      simp only [List.drop_succ_cons, List.drop_zero, List.drop_nil]
      go_wp2_with fail
      refine (DrawEqualBuffers_any _ _ (hc.grown (by repeat (first | with_reducible exact Ext.refl _ | with_reducible assumption | with_reducible refine Ext.alloc ?_ _ | with_reducible refine Ext.drew ?_ | ((with_reducible refine Ext.set ?_ ?_ _); (focus (first | (simp; done) | (simp; omega) | omega))) | with_reducible refine Ext.trans ?_ hw46 | with_reducible refine Ext.trans ?_ hw45 | with_reducible refine Ext.trans ?_ hw44 | with_reducible refine Ext.trans ?_ hw43 | with_reducible refine Ext.trans ?_ hw42 | with_reducible refine Ext.trans ?_ hw41 | with_reducible refine Ext.trans ?_ hcut | with_reducible refine Ext.trans ?_ hw6 | with_reducible refine Ext.trans ?_ hw5 | with_reducible refine Ext.trans ?_ hw4 | with_reducible refine Ext.trans ?_ hw3 | with_reducible refine Ext.trans ?_ hw2 | with_reducible refine Ext.trans ?_ hw1)))).mono ?_
      rintro en w47 ⟨nx1, nx2, cs1, cs2, ao1, ao2, ca1, ca2, rfl, ok1, ok2, own1, own2, hw47⟩
      have zw47 := hw47.size
      (try simp at zw47)
      have kw47_0 := hw47.more (k := w1.heap.size) (by first | (simp; done) | (simp; omega) | omega)
      obtain ⟨cw47_0, fw47_0⟩ := hw47.row (k := w1.heap.size) (by first | (simp; done) | (simp; omega) | omega)
      have kw47_1 := hw47.more (k := w2.heap.size) (by first | (simp; done) | (simp; omega) | omega)
      obtain ⟨cw47_1, fw47_1⟩ := hw47.row (k := w2.heap.size) (by first | (simp; done) | (simp; omega) | omega)
      have kw47_2 := hw47.more (k := w3.heap.size) (by first | (simp; done) | (simp; omega) | omega)
      obtain ⟨cw47_2, fw47_2⟩ := hw47.row (k := w3.heap.size) (by first | (simp; done) | (simp; omega) | omega)
      have h1 := hide own1.read
      have h2 := hide own2.read
      clear own1 own2
      go_wp2_with fail
      refine (DrawEndOf_any _ _ (hc.grown (by repeat (first | with_reducible exact Ext.refl _ | with_reducible assumption | with_reducible refine Ext.alloc ?_ _ | with_reducible refine Ext.drew ?_ | ((with_reducible refine Ext.set ?_ ?_ _); (focus (first | (simp; done) | (simp; omega) | omega))) | with_reducible refine Ext.trans ?_ hw47 | with_reducible refine Ext.trans ?_ hw46 | with_reducible refine Ext.trans ?_ hw45 | with_reducible refine Ext.trans ?_ hw44 | with_reducible refine Ext.trans ?_ hw43 | with_reducible refine Ext.trans ?_ hw42 | with_reducible refine Ext.trans ?_ hw41 | with_reducible refine Ext.trans ?_ hcut | with_reducible refine Ext.trans ?_ hw6 | with_reducible refine Ext.trans ?_ hw5 | with_reducible refine Ext.trans ?_ hw4 | with_reducible refine Ext.trans ?_ hw3 | with_reducible refine Ext.trans ?_ hw2 | with_reducible refine Ext.trans ?_ hw1)))).mono ?_
      rintro en w48 ⟨nx3, cs3, ao3, ca3, rfl, ok3, own3, hw48⟩
      have zw48 := hw48.size
      (try simp at zw48)
      have kw48_0 := hw48.more (k := w1.heap.size) (by first | (simp; done) | (simp; omega) | omega)
      obtain ⟨cw48_0, fw48_0⟩ := hw48.row (k := w1.heap.size) (by first | (simp; done) | (simp; omega) | omega)
      have kw48_1 := hw48.more (k := w2.heap.size) (by first | (simp; done) | (simp; omega) | omega)
      obtain ⟨cw48_1, fw48_1⟩ := hw48.row (k := w2.heap.size) (by first | (simp; done) | (simp; omega) | omega)
      have kw48_2 := hw48.more (k := w3.heap.size) (by first | (simp; done) | (simp; omega) | omega)
      obtain ⟨cw48_2, fw48_2⟩ := hw48.row (k := w3.heap.size) (by first | (simp; done) | (simp; omega) | omega)
      have kw48_3 := hw48.more (k := w47.heap.size) (by first | (simp; done) | (simp; omega) | omega)
      obtain ⟨cw48_3, fw48_3⟩ := hw48.row (k := w47.heap.size) (by first | (simp; done) | (simp; omega) | omega)
      have kw48_4 := hw48.more (k := w47.heap.size + 1) (by first | (simp; done) | (simp; omega) | omega)
      obtain ⟨cw48_4, fw48_4⟩ := hw48.row (k := w47.heap.size + 1) (by first | (simp; done) | (simp; omega) | omega)
      have h3 := hide own3.read
      clear own3
      go_wp2_with fail
      refine (DrawByteAt_any _ _ (hc.grown (by repeat (first | with_reducible exact Ext.refl _ | with_reducible assumption | with_reducible refine Ext.alloc ?_ _ | with_reducible refine Ext.drew ?_ | ((with_reducible refine Ext.set ?_ ?_ _); (focus (first | (simp; done) | (simp; omega) | omega))) | with_reducible refine Ext.trans ?_ hw48 | with_reducible refine Ext.trans ?_ hw47 | with_reducible refine Ext.trans ?_ hw46 | with_reducible refine Ext.trans ?_ hw45 | with_reducible refine Ext.trans ?_ hw44 | with_reducible refine Ext.trans ?_ hw43 | with_reducible refine Ext.trans ?_ hw42 | with_reducible refine Ext.trans ?_ hw41 | with_reducible refine Ext.trans ?_ hcut | with_reducible refine Ext.trans ?_ hw6 | with_reducible refine Ext.trans ?_ hw5 | with_reducible refine Ext.trans ?_ hw4 | with_reducible refine Ext.trans ?_ hw3 | with_reducible refine Ext.trans ?_ hw2 | with_reducible refine Ext.trans ?_ hw1)))).mono ?_
      rintro en w49 ⟨nx4, cs4, ao4, ca4, k, rfl, ok4, hk4, own4, hw49⟩
      have zw49 := hw49.size
      (try simp at zw49)
      have kw49_0 := hw49.more (k := w1.heap.size) (by first | (simp; done) | (simp; omega) | omega)
      obtain ⟨cw49_0, fw49_0⟩ := hw49.row (k := w1.heap.size) (by first | (simp; done) | (simp; omega) | omega)
      have kw49_1 := hw49.more (k := w2.heap.size) (by first | (simp; done) | (simp; omega) | omega)
      obtain ⟨cw49_1, fw49_1⟩ := hw49.row (k := w2.heap.size) (by first | (simp; done) | (simp; omega) | omega)
      have kw49_2 := hw49.more (k := w3.heap.size) (by first | (simp; done) | (simp; omega) | omega)
      obtain ⟨cw49_2, fw49_2⟩ := hw49.row (k := w3.heap.size) (by first | (simp; done) | (simp; omega) | omega)
      have kw49_3 := hw49.more (k := w47.heap.size) (by first | (simp; done) | (simp; omega) | omega)
      obtain ⟨cw49_3, fw49_3⟩ := hw49.row (k := w47.heap.size) (by first | (simp; done) | (simp; omega) | omega)
      have kw49_4 := hw49.more (k := w47.heap.size + 1) (by first | (simp; done) | (simp; omega) | omega)
      obtain ⟨cw49_4, fw49_4⟩ := hw49.row (k := w47.heap.size + 1) (by first | (simp; done) | (simp; omega) | omega)
      have kw49_5 := hw49.more (k := w48.heap.size) (by first | (simp; done) | (simp; omega) | omega)
      obtain ⟨cw49_5, fw49_5⟩ := hw49.row (k := w48.heap.size) (by first | (simp; done) | (simp; omega) | omega)
      have h4 := hide own4.read
      clear own4
      have l1 := ok1.len
      have l2 := ok2.len
      have l3 := ok3.len
      have l4 := ok4.len
      have f3 := hide ok3.wf
      have f4 := hide ok4.wb
      have hrl3 := bufRgs_length nx3 cs3
      go_wp2_with fail
      refine wp_region_flowE 38 [(0, 1), (1, 1), (3, 1), (4, 1), (2, 0), (5, 0), (6, 1), (7, 1), (8, 1), (10, 1), (9, 0), (11, 0), (12, 1), (13, 1), (14, 1), (15, 1), (17, 1), (16, 0), (18, 0), (19, 1), (20, 1), (21, 1), (22, 1), (24, 1), (23, 0), (25, 0), (26, 0), (27, 1), (28, 1), (29, 1), (30, 1), (32, 1), (33, 1), (31, 0), (34, 0), (35, 1), (36, 1), (37, 1)] (by kernel_rfl) (by kernel_rfl) ?_
      (refine wpF_pure (v := ?_) rfl rfl (by rfl) ?_ ?_; rotate_left; (focus (intro ws hws; obtain ⟨q0, p0⟩ := hws.row (k := w47.heap.size) (by first | (simp; done) | (simp; omega) | omega); go_simp; (try with_reducible rfl); done)))
      try simp only [Act.put, List.getElem_toArray, List.getElem_cons_zero, List.getElem_cons_succ, List.setIfInBounds_toArray, List.set_cons_zero, List.set_cons_succ]
      (refine wpF_pure (v := ?_) rfl rfl (by rfl) ?_ ?_; rotate_left; (focus (intro ws hws; obtain ⟨q0, p0⟩ := hws.row (k := w47.heap.size + 1) (by first | (simp; done) | (simp; omega) | omega); go_simp; (try with_reducible rfl); done)))
      try simp only [Act.put, List.getElem_toArray, List.getElem_cons_zero, List.getElem_cons_succ, List.setIfInBounds_toArray, List.set_cons_zero, List.set_cons_succ]
      (refine wpF_pure (v := ?_) rfl rfl (by rfl) ?_ ?_; rotate_left; (focus (intro ws hws; obtain ⟨q0, p0⟩ := hws.row (k := w47.heap.size) (by first | (simp; done) | (simp; omega) | omega); go_simp; (try with_reducible rfl); done)))
      try simp only [Act.put, List.getElem_toArray, List.getElem_cons_zero, List.getElem_cons_succ, List.setIfInBounds_toArray, List.set_cons_zero, List.set_cons_succ]
      (refine wpF_pure (v := ?_) rfl rfl (by rfl) ?_ ?_; rotate_left; (focus (intro ws hws; obtain ⟨q0, p0⟩ := hws.row (k := w47.heap.size + 1) (by first | (simp; done) | (simp; omega) | omega); go_simp; (try with_reducible rfl); done)))
      try simp only [Act.put, List.getElem_toArray, List.getElem_cons_zero, List.getElem_cons_succ, List.setIfInBounds_toArray, List.set_cons_zero, List.set_cons_succ]
      (refine wpF_call 19 ?_ rfl rfl (by rfl) ?_ ?_; rotate_left; (focus (go_simp; (try with_reducible rfl); done)))
      refine (EqualBuffers_impl nx1 nx2 ao1 ao2 _ _ ca1 ca2 cs1 cs2 _ (h1.out.ext (by repeat (first | with_reducible exact Ext.refl _ | with_reducible assumption | with_reducible refine Ext.alloc ?_ _ | with_reducible refine Ext.drew ?_ | ((with_reducible refine Ext.set ?_ ?_ _); (focus (first | (simp; done) | (simp; omega) | omega))) | with_reducible refine Ext.trans ?_ hw49 | with_reducible refine Ext.trans ?_ hw48))) (h2.out.ext (by repeat (first | with_reducible exact Ext.refl _ | with_reducible assumption | with_reducible refine Ext.alloc ?_ _ | with_reducible refine Ext.drew ?_ | ((with_reducible refine Ext.set ?_ ?_ _); (focus (first | (simp; done) | (simp; omega) | omega))) | with_reducible refine Ext.trans ?_ hw49 | with_reducible refine Ext.trans ?_ hw48))) rfl rfl (by omega)).mono ?_
      rintro en w50 ⟨rfl, hw50⟩
      refine ⟨_, rfl, hw50, ?_⟩
      try simp only [Act.put, List.getElem_toArray, List.getElem_cons_zero, List.getElem_cons_succ, List.setIfInBounds_toArray, List.set_cons_zero, List.set_cons_succ]
      have zw50 := hw50.size
      (try simp at zw50)
      have kw50_0 := hw50.more (k := w1.heap.size) (by first | (simp; done) | (simp; omega) | omega)
      obtain ⟨cw50_0, fw50_0⟩ := hw50.row (k := w1.heap.size) (by first | (simp; done) | (simp; omega) | omega)
      have kw50_1 := hw50.more (k := w2.heap.size) (by first | (simp; done) | (simp; omega) | omega)
      obtain ⟨cw50_1, fw50_1⟩ := hw50.row (k := w2.heap.size) (by first | (simp; done) | (simp; omega) | omega)
      have kw50_2 := hw50.more (k := w3.heap.size) (by first | (simp; done) | (simp; omega) | omega)
      obtain ⟨cw50_2, fw50_2⟩ := hw50.row (k := w3.heap.size) (by first | (simp; done) | (simp; omega) | omega)
      have kw50_3 := hw50.more (k := w47.heap.size) (by first | (simp; done) | (simp; omega) | omega)
      obtain ⟨cw50_3, fw50_3⟩ := hw50.row (k := w47.heap.size) (by first | (simp; done) | (simp; omega) | omega)
      have kw50_4 := hw50.more (k := w47.heap.size + 1) (by first | (simp; done) | (simp; omega) | omega)
      obtain ⟨cw50_4, fw50_4⟩ := hw50.row (k := w47.heap.size + 1) (by first | (simp; done) | (simp; omega) | omega)
      have kw50_5 := hw50.more (k := w48.heap.size) (by first | (simp; done) | (simp; omega) | omega)
      obtain ⟨cw50_5, fw50_5⟩ := hw50.row (k := w48.heap.size) (by first | (simp; done) | (simp; omega) | omega)
      have kw50_6 := hw50.more (k := w49.heap.size) (by first | (simp; done) | (simp; omega) | omega)
      obtain ⟨cw50_6, fw50_6⟩ := hw50.row (k := w49.heap.size) (by first | (simp; done) | (simp; omega) | omega)
      (refine wpF_call 8 ?_ rfl rfl (by rfl) ?_ ?_; rotate_left; (focus (go_simp; (try with_reducible rfl); done)))
      refine (EqualBuffers_spec nx1 nx2 ao1 ao2 _ _ ca1 ca2 cs1 cs2 _ (h1.out.ext (by repeat (first | with_reducible exact Ext.refl _ | with_reducible assumption | with_reducible refine Ext.alloc ?_ _ | with_reducible refine Ext.drew ?_ | ((with_reducible refine Ext.set ?_ ?_ _); (focus (first | (simp; done) | (simp; omega) | omega))) | with_reducible refine Ext.trans ?_ hw50 | with_reducible refine Ext.trans ?_ hw49 | with_reducible refine Ext.trans ?_ hw48))) (h2.out.ext (by repeat (first | with_reducible exact Ext.refl _ | with_reducible assumption | with_reducible refine Ext.alloc ?_ _ | with_reducible refine Ext.drew ?_ | ((with_reducible refine Ext.set ?_ ?_ _); (focus (first | (simp; done) | (simp; omega) | omega))) | with_reducible refine Ext.trans ?_ hw50 | with_reducible refine Ext.trans ?_ hw49 | with_reducible refine Ext.trans ?_ hw48))) rfl rfl (by omega)).mono ?_
      rintro en w51 ⟨rfl, hw51⟩
      refine ⟨_, rfl, hw51, ?_⟩
      try simp only [Act.put, List.getElem_toArray, List.getElem_cons_zero, List.getElem_cons_succ, List.setIfInBounds_toArray, List.set_cons_zero, List.set_cons_succ]
      have zw51 := hw51.size
      (try simp at zw51)
      have kw51_0 := hw51.more (k := w1.heap.size) (by first | (simp; done) | (simp; omega) | omega)
      obtain ⟨cw51_0, fw51_0⟩ := hw51.row (k := w1.heap.size) (by first | (simp; done) | (simp; omega) | omega)
      have kw51_1 := hw51.more (k := w2.heap.size) (by first | (simp; done) | (simp; omega) | omega)
      obtain ⟨cw51_1, fw51_1⟩ := hw51.row (k := w2.heap.size) (by first | (simp; done) | (simp; omega) | omega)
      have kw51_2 := hw51.more (k := w3.heap.size) (by first | (simp; done) | (simp; omega) | omega)
      obtain ⟨cw51_2, fw51_2⟩ := hw51.row (k := w3.heap.size) (by first | (simp; done) | (simp; omega) | omega)
      have kw51_3 := hw51.more (k := w47.heap.size) (by first | (simp; done) | (simp; omega) | omega)
      obtain ⟨cw51_3, fw51_3⟩ := hw51.row (k := w47.heap.size) (by first | (simp; done) | (simp; omega) | omega)
      have kw51_4 := hw51.more (k := w47.heap.size + 1) (by first | (simp; done) | (simp; omega) | omega)
      obtain ⟨cw51_4, fw51_4⟩ := hw51.row (k := w47.heap.size + 1) (by first | (simp; done) | (simp; omega) | omega)
      have kw51_5 := hw51.more (k := w48.heap.size) (by first | (simp; done) | (simp; omega) | omega)
      obtain ⟨cw51_5, fw51_5⟩ := hw51.row (k := w48.heap.size) (by first | (simp; done) | (simp; omega) | omega)
      have kw51_6 := hw51.more (k := w49.heap.size) (by first | (simp; done) | (simp; omega) | omega)
      obtain ⟨cw51_6, fw51_6⟩ := hw51.row (k := w49.heap.size) (by first | (simp; done) | (simp; omega) | omega)
      (refine wpF_pure (v := ?_) rfl rfl (by rfl) ?_ ?_; rotate_left; (focus (intro ws hws; go_simp; (try with_reducible rfl); done)))
      try simp only [Act.put, List.getElem_toArray, List.getElem_cons_zero, List.getElem_cons_succ, List.setIfInBounds_toArray, List.set_cons_zero, List.set_cons_succ]
      (refine wpF_pure (v := ?_) rfl rfl (by rfl) ?_ ?_; rotate_left; (focus (intro ws hws; go_simp; (try with_reducible rfl); done)))
      try simp only [Act.put, List.getElem_toArray, List.getElem_cons_zero, List.getElem_cons_succ, List.setIfInBounds_toArray, List.set_cons_zero, List.set_cons_succ]
      (refine wpF_pure (v := ?_) rfl rfl (by rfl) ?_ ?_; rotate_left; (focus (intro ws hws; obtain ⟨q0, p0⟩ := hws.row (k := w48.heap.size) (by first | (simp; done) | (simp; omega) | omega); go_simp; (try with_reducible rfl); done)))
      try simp only [Act.put, List.getElem_toArray, List.getElem_cons_zero, List.getElem_cons_succ, List.setIfInBounds_toArray, List.set_cons_zero, List.set_cons_succ]
      (refine wpF_pure (v := ?_) rfl rfl (by rfl) ?_ ?_; rotate_left; (focus (intro ws hws; obtain ⟨q0, p0⟩ := hws.row (k := w48.heap.size) (by first | (simp; done) | (simp; omega) | omega); go_simp; (try with_reducible rfl); done)))
      try simp only [Act.put, List.getElem_toArray, List.getElem_cons_zero, List.getElem_cons_succ, List.setIfInBounds_toArray, List.set_cons_zero, List.set_cons_succ]
      (refine wpF_call 15 ?_ rfl rfl (by rfl) ?_ ?_; rotate_left; (focus (go_simp; (try with_reducible rfl); done)))
      refine (EndOf_impl nx3 ao3 _ ca3 cs3 _ (h3.out.ext (by repeat (first | with_reducible exact Ext.refl _ | with_reducible assumption | with_reducible refine Ext.alloc ?_ _ | with_reducible refine Ext.drew ?_ | ((with_reducible refine Ext.set ?_ ?_ _); (focus (first | (simp; done) | (simp; omega) | omega))) | with_reducible refine Ext.trans ?_ hw51 | with_reducible refine Ext.trans ?_ hw50 | with_reducible refine Ext.trans ?_ hw49))) rfl (by omega) f3.out).mono ?_
      rintro en w52 ⟨rfl, hw52⟩
      refine ⟨_, rfl, hw52, ?_⟩
      try simp only [Act.put, List.getElem_toArray, List.getElem_cons_zero, List.getElem_cons_succ, List.setIfInBounds_toArray, List.set_cons_zero, List.set_cons_succ]
      have zw52 := hw52.size
      (try simp at zw52)
      have kw52_0 := hw52.more (k := w1.heap.size) (by first | (simp; done) | (simp; omega) | omega)
      obtain ⟨cw52_0, fw52_0⟩ := hw52.row (k := w1.heap.size) (by first | (simp; done) | (simp; omega) | omega)
      have kw52_1 := hw52.more (k := w2.heap.size) (by first | (simp; done) | (simp; omega) | omega)
      obtain ⟨cw52_1, fw52_1⟩ := hw52.row (k := w2.heap.size) (by first | (simp; done) | (simp; omega) | omega)
      have kw52_2 := hw52.more (k := w3.heap.size) (by first | (simp; done) | (simp; omega) | omega)
      obtain ⟨cw52_2, fw52_2⟩ := hw52.row (k := w3.heap.size) (by first | (simp; done) | (simp; omega) | omega)
      have kw52_3 := hw52.more (k := w47.heap.size) (by first | (simp; done) | (simp; omega) | omega)
      obtain ⟨cw52_3, fw52_3⟩ := hw52.row (k := w47.heap.size) (by first | (simp; done) | (simp; omega) | omega)
      have kw52_4 := hw52.more (k := w47.heap.size + 1) (by first | (simp; done) | (simp; omega) | omega)
      obtain ⟨cw52_4, fw52_4⟩ := hw52.row (k := w47.heap.size + 1) (by first | (simp; done) | (simp; omega) | omega)
      have kw52_5 := hw52.more (k := w48.heap.size) (by first | (simp; done) | (simp; omega) | omega)
      obtain ⟨cw52_5, fw52_5⟩ := hw52.row (k := w48.heap.size) (by first | (simp; done) | (simp; omega) | omega)
      have kw52_6 := hw52.more (k := w49.heap.size) (by first | (simp; done) | (simp; omega) | omega)
      obtain ⟨cw52_6, fw52_6⟩ := hw52.row (k := w49.heap.size) (by first | (simp; done) | (simp; omega) | omega)
      (refine wpF_call 20 ?_ rfl rfl (by rfl) ?_ ?_; rotate_left; (focus (go_simp; (try with_reducible rfl); done)))
      refine (EndOf_spec nx3 ao3 _ ca3 cs3 _ (h3.out.ext (by repeat (first | with_reducible exact Ext.refl _ | with_reducible assumption | with_reducible refine Ext.alloc ?_ _ | with_reducible refine Ext.drew ?_ | ((with_reducible refine Ext.set ?_ ?_ _); (focus (first | (simp; done) | (simp; omega) | omega))) | with_reducible refine Ext.trans ?_ hw52 | with_reducible refine Ext.trans ?_ hw51 | with_reducible refine Ext.trans ?_ hw50 | with_reducible refine Ext.trans ?_ hw49))) rfl (by omega) f3.out).mono ?_
      rintro en w53 ⟨rfl, hw53⟩
      refine ⟨_, rfl, hw53, ?_⟩
      try simp only [Act.put, List.getElem_toArray, List.getElem_cons_zero, List.getElem_cons_succ, List.setIfInBounds_toArray, List.set_cons_zero, List.set_cons_succ]
      have zw53 := hw53.size
      (try simp at zw53)
      have kw53_0 := hw53.more (k := w1.heap.size) (by first | (simp; done) | (simp; omega) | omega)
      obtain ⟨cw53_0, fw53_0⟩ := hw53.row (k := w1.heap.size) (by first | (simp; done) | (simp; omega) | omega)
      have kw53_1 := hw53.more (k := w2.heap.size) (by first | (simp; done) | (simp; omega) | omega)
      obtain ⟨cw53_1, fw53_1⟩ := hw53.row (k := w2.heap.size) (by first | (simp; done) | (simp; omega) | omega)
      have kw53_2 := hw53.more (k := w3.heap.size) (by first | (simp; done) | (simp; omega) | omega)
      obtain ⟨cw53_2, fw53_2⟩ := hw53.row (k := w3.heap.size) (by first | (simp; done) | (simp; omega) | omega)
      have kw53_3 := hw53.more (k := w47.heap.size) (by first | (simp; done) | (simp; omega) | omega)
      obtain ⟨cw53_3, fw53_3⟩ := hw53.row (k := w47.heap.size) (by first | (simp; done) | (simp; omega) | omega)
      have kw53_4 := hw53.more (k := w47.heap.size + 1) (by first | (simp; done) | (simp; omega) | omega)
      obtain ⟨cw53_4, fw53_4⟩ := hw53.row (k := w47.heap.size + 1) (by first | (simp; done) | (simp; omega) | omega)
      have kw53_5 := hw53.more (k := w48.heap.size) (by first | (simp; done) | (simp; omega) | omega)
      obtain ⟨cw53_5, fw53_5⟩ := hw53.row (k := w48.heap.size) (by first | (simp; done) | (simp; omega) | omega)
      have kw53_6 := hw53.more (k := w49.heap.size) (by first | (simp; done) | (simp; omega) | omega)
      obtain ⟨cw53_6, fw53_6⟩ := hw53.row (k := w49.heap.size) (by first | (simp; done) | (simp; omega) | omega)
      (refine wpF_pure (v := ?_) rfl rfl (by rfl) ?_ ?_; rotate_left; (focus (intro ws hws; go_simp; (try with_reducible rfl); done)))
      try simp only [Act.put, List.getElem_toArray, List.getElem_cons_zero, List.getElem_cons_succ, List.setIfInBounds_toArray, List.set_cons_zero, List.set_cons_succ]
      (refine wpF_pure (v := ?_) rfl rfl (by rfl) ?_ ?_; rotate_left; (focus (intro ws hws; go_simp; (try with_reducible rfl); done)))
      try simp only [Act.put, List.getElem_toArray, List.getElem_cons_zero, List.getElem_cons_succ, List.setIfInBounds_toArray, List.set_cons_zero, List.set_cons_succ]
      (refine wpF_pure (v := ?_) rfl rfl (by rfl) ?_ ?_; rotate_left; (focus (intro ws hws; go_simp; (try with_reducible rfl); done)))
      try simp only [Act.put, List.getElem_toArray, List.getElem_cons_zero, List.getElem_cons_succ, List.setIfInBounds_toArray, List.set_cons_zero, List.set_cons_succ]
      (refine wpF_pure (v := ?_) rfl rfl (by rfl) ?_ ?_; rotate_left; (focus (intro ws hws; obtain ⟨q0, p0⟩ := hws.row (k := w48.heap.size) (by first | (simp; done) | (simp; omega) | omega); go_simp; (try with_reducible rfl); done)))
      try simp only [Act.put, List.getElem_toArray, List.getElem_cons_zero, List.getElem_cons_succ, List.setIfInBounds_toArray, List.set_cons_zero, List.set_cons_succ]
      (refine wpF_pure (v := ?_) rfl rfl (by rfl) ?_ ?_; rotate_left; (focus (intro ws hws; obtain ⟨q0, p0⟩ := hws.row (k := w48.heap.size) (by first | (simp; done) | (simp; omega) | omega); go_simp; (try with_reducible rfl); done)))
      try simp only [Act.put, List.getElem_toArray, List.getElem_cons_zero, List.getElem_cons_succ, List.setIfInBounds_toArray, List.set_cons_zero, List.set_cons_succ]
      (refine wpF_call 21 ?_ rfl rfl (by rfl) ?_ ?_; rotate_left; (focus (go_simp; (try with_reducible rfl); done)))
      refine (ReadyBytes_impl nx3 ao3 _ ca3 cs3 _ (h3.out.ext (by repeat (first | with_reducible exact Ext.refl _ | with_reducible assumption | with_reducible refine Ext.alloc ?_ _ | with_reducible refine Ext.drew ?_ | ((with_reducible refine Ext.set ?_ ?_ _); (focus (first | (simp; done) | (simp; omega) | omega))) | with_reducible refine Ext.trans ?_ hw53 | with_reducible refine Ext.trans ?_ hw52 | with_reducible refine Ext.trans ?_ hw51 | with_reducible refine Ext.trans ?_ hw50 | with_reducible refine Ext.trans ?_ hw49))) rfl (by omega) f3.out).mono ?_
      rintro en w54 ⟨rfl, hw54⟩
      refine ⟨_, rfl, hw54, ?_⟩
      try simp only [Act.put, List.getElem_toArray, List.getElem_cons_zero, List.getElem_cons_succ, List.setIfInBounds_toArray, List.set_cons_zero, List.set_cons_succ]
      have zw54 := hw54.size
      (try simp at zw54)
      have kw54_0 := hw54.more (k := w1.heap.size) (by first | (simp; done) | (simp; omega) | omega)
      obtain ⟨cw54_0, fw54_0⟩ := hw54.row (k := w1.heap.size) (by first | (simp; done) | (simp; omega) | omega)
      have kw54_1 := hw54.more (k := w2.heap.size) (by first | (simp; done) | (simp; omega) | omega)
      obtain ⟨cw54_1, fw54_1⟩ := hw54.row (k := w2.heap.size) (by first | (simp; done) | (simp; omega) | omega)
      have kw54_2 := hw54.more (k := w3.heap.size) (by first | (simp; done) | (simp; omega) | omega)
      obtain ⟨cw54_2, fw54_2⟩ := hw54.row (k := w3.heap.size) (by first | (simp; done) | (simp; omega) | omega)
      have kw54_3 := hw54.more (k := w47.heap.size) (by first | (simp; done) | (simp; omega) | omega)
      obtain ⟨cw54_3, fw54_3⟩ := hw54.row (k := w47.heap.size) (by first | (simp; done) | (simp; omega) | omega)
      have kw54_4 := hw54.more (k := w47.heap.size + 1) (by first | (simp; done) | (simp; omega) | omega)
      obtain ⟨cw54_4, fw54_4⟩ := hw54.row (k := w47.heap.size + 1) (by first | (simp; done) | (simp; omega) | omega)
      have kw54_5 := hw54.more (k := w48.heap.size) (by first | (simp; done) | (simp; omega) | omega)
      obtain ⟨cw54_5, fw54_5⟩ := hw54.row (k := w48.heap.size) (by first | (simp; done) | (simp; omega) | omega)
      have kw54_6 := hw54.more (k := w49.heap.size) (by first | (simp; done) | (simp; omega) | omega)
      obtain ⟨cw54_6, fw54_6⟩ := hw54.row (k := w49.heap.size) (by first | (simp; done) | (simp; omega) | omega)
      (refine wpF_call 22 ?_ rfl rfl (by rfl) ?_ ?_; rotate_left; (focus (go_simp; (try with_reducible rfl); done)))
      refine (ReadyBytes_spec nx3 ao3 _ ca3 cs3 _ (h3.out.ext (by repeat (first | with_reducible exact Ext.refl _ | with_reducible assumption | with_reducible refine Ext.alloc ?_ _ | with_reducible refine Ext.drew ?_ | ((with_reducible refine Ext.set ?_ ?_ _); (focus (first | (simp; done) | (simp; omega) | omega))) | with_reducible refine Ext.trans ?_ hw54 | with_reducible refine Ext.trans ?_ hw53 | with_reducible refine Ext.trans ?_ hw52 | with_reducible refine Ext.trans ?_ hw51 | with_reducible refine Ext.trans ?_ hw50 | with_reducible refine Ext.trans ?_ hw49))) rfl (by omega) f3.out).mono ?_
      rintro en w55 ⟨rfl, hw55⟩
      refine ⟨_, rfl, hw55, ?_⟩
      try simp only [Act.put, List.getElem_toArray, List.getElem_cons_zero, List.getElem_cons_succ, List.setIfInBounds_toArray, List.set_cons_zero, List.set_cons_succ]
      have zw55 := hw55.size
      (try simp at zw55)
      have kw55_0 := hw55.more (k := w1.heap.size) (by first | (simp; done) | (simp; omega) | omega)
      obtain ⟨cw55_0, fw55_0⟩ := hw55.row (k := w1.heap.size) (by first | (simp; done) | (simp; omega) | omega)
      have kw55_1 := hw55.more (k := w2.heap.size) (by first | (simp; done) | (simp; omega) | omega)
      obtain ⟨cw55_1, fw55_1⟩ := hw55.row (k := w2.heap.size) (by first | (simp; done) | (simp; omega) | omega)
      have kw55_2 := hw55.more (k := w3.heap.size) (by first | (simp; done) | (simp; omega) | omega)
      obtain ⟨cw55_2, fw55_2⟩ := hw55.row (k := w3.heap.size) (by first | (simp; done) | (simp; omega) | omega)
      have kw55_3 := hw55.more (k := w47.heap.size) (by first | (simp; done) | (simp; omega) | omega)
      obtain ⟨cw55_3, fw55_3⟩ := hw55.row (k := w47.heap.size) (by first | (simp; done) | (simp; omega) | omega)
      have kw55_4 := hw55.more (k := w47.heap.size + 1) (by first | (simp; done) | (simp; omega) | omega)
      obtain ⟨cw55_4, fw55_4⟩ := hw55.row (k := w47.heap.size + 1) (by first | (simp; done) | (simp; omega) | omega)
      have kw55_5 := hw55.more (k := w48.heap.size) (by first | (simp; done) | (simp; omega) | omega)
      obtain ⟨cw55_5, fw55_5⟩ := hw55.row (k := w48.heap.size) (by first | (simp; done) | (simp; omega) | omega)
      have kw55_6 := hw55.more (k := w49.heap.size) (by first | (simp; done) | (simp; omega) | omega)
      obtain ⟨cw55_6, fw55_6⟩ := hw55.row (k := w49.heap.size) (by first | (simp; done) | (simp; omega) | omega)
      (refine wpF_pure (v := ?_) rfl rfl (by rfl) ?_ ?_; rotate_left; (focus (intro ws hws; go_simp; (try with_reducible rfl); done)))
      try simp only [Act.put, List.getElem_toArray, List.getElem_cons_zero, List.getElem_cons_succ, List.setIfInBounds_toArray, List.set_cons_zero, List.set_cons_succ]
      (refine wpF_pure (v := ?_) rfl rfl (by rfl) ?_ ?_; rotate_left; (focus (intro ws hws; go_simp; (try with_reducible rfl); done)))
      try simp only [Act.put, List.getElem_toArray, List.getElem_cons_zero, List.getElem_cons_succ, List.setIfInBounds_toArray, List.set_cons_zero, List.set_cons_succ]
      (refine wpF_pure (v := ?_) rfl rfl (by rfl) ?_ ?_; rotate_left; (focus (intro ws hws; go_simp; (try with_reducible rfl); done)))
      try simp only [Act.put, List.getElem_toArray, List.getElem_cons_zero, List.getElem_cons_succ, List.setIfInBounds_toArray, List.set_cons_zero, List.set_cons_succ]
      (refine wpF_pure (v := ?_) rfl rfl (by rfl) ?_ ?_; rotate_left; (focus (intro ws hws; obtain ⟨q0, p0⟩ := hws.row (k := w48.heap.size) (by first | (simp; done) | (simp; omega) | omega); go_simp; (try with_reducible rfl); done)))
      try simp only [Act.put, List.getElem_toArray, List.getElem_cons_zero, List.getElem_cons_succ, List.setIfInBounds_toArray, List.set_cons_zero, List.set_cons_succ]
      (refine wpF_pure (v := ?_) rfl rfl (by rfl) ?_ ?_; rotate_left; (focus (intro ws hws; obtain ⟨q0, p0⟩ := hws.row (k := w48.heap.size) (by first | (simp; done) | (simp; omega) | omega); go_simp; (try with_reducible rfl); done)))
      try simp only [Act.put, List.getElem_toArray, List.getElem_cons_zero, List.getElem_cons_succ, List.setIfInBounds_toArray, List.set_cons_zero, List.set_cons_succ]
      (refine wpF_call 14 ?_ rfl rfl (by rfl) ?_ ?_; rotate_left; (focus (go_simp; (try with_reducible rfl); done)))
      refine (BufferRanges_impl nx3 ao3 _ ca3 cs3 _ (h3.out.ext (by repeat (first | with_reducible exact Ext.refl _ | with_reducible assumption | with_reducible refine Ext.alloc ?_ _ | with_reducible refine Ext.drew ?_ | ((with_reducible refine Ext.set ?_ ?_ _); (focus (first | (simp; done) | (simp; omega) | omega))) | with_reducible refine Ext.trans ?_ hw55 | with_reducible refine Ext.trans ?_ hw54 | with_reducible refine Ext.trans ?_ hw53 | with_reducible refine Ext.trans ?_ hw52 | with_reducible refine Ext.trans ?_ hw51 | with_reducible refine Ext.trans ?_ hw50 | with_reducible refine Ext.trans ?_ hw49))) rfl (by omega) f3.out).mono ?_
      rintro en w56 ⟨ag1, cg1, rfl, owg1, hw56⟩
      refine ⟨_, rfl, hw56, ?_⟩
      try simp only [Act.put, List.getElem_toArray, List.getElem_cons_zero, List.getElem_cons_succ, List.setIfInBounds_toArray, List.set_cons_zero, List.set_cons_succ]
      have zw56 := hw56.size
      (try simp at zw56)
      have kw56_0 := hw56.more (k := w1.heap.size) (by first | (simp; done) | (simp; omega) | omega)
      obtain ⟨cw56_0, fw56_0⟩ := hw56.row (k := w1.heap.size) (by first | (simp; done) | (simp; omega) | omega)
      have kw56_1 := hw56.more (k := w2.heap.size) (by first | (simp; done) | (simp; omega) | omega)
      obtain ⟨cw56_1, fw56_1⟩ := hw56.row (k := w2.heap.size) (by first | (simp; done) | (simp; omega) | omega)
      have kw56_2 := hw56.more (k := w3.heap.size) (by first | (simp; done) | (simp; omega) | omega)
      obtain ⟨cw56_2, fw56_2⟩ := hw56.row (k := w3.heap.size) (by first | (simp; done) | (simp; omega) | omega)
      have kw56_3 := hw56.more (k := w47.heap.size) (by first | (simp; done) | (simp; omega) | omega)
      obtain ⟨cw56_3, fw56_3⟩ := hw56.row (k := w47.heap.size) (by first | (simp; done) | (simp; omega) | omega)
      have kw56_4 := hw56.more (k := w47.heap.size + 1) (by first | (simp; done) | (simp; omega) | omega)
      obtain ⟨cw56_4, fw56_4⟩ := hw56.row (k := w47.heap.size + 1) (by first | (simp; done) | (simp; omega) | omega)
      have kw56_5 := hw56.more (k := w48.heap.size) (by first | (simp; done) | (simp; omega) | omega)
      obtain ⟨cw56_5, fw56_5⟩ := hw56.row (k := w48.heap.size) (by first | (simp; done) | (simp; omega) | omega)
      have kw56_6 := hw56.more (k := w49.heap.size) (by first | (simp; done) | (simp; omega) | omega)
      obtain ⟨cw56_6, fw56_6⟩ := hw56.row (k := w49.heap.size) (by first | (simp; done) | (simp; omega) | omega)
      have hg1 := hide owg1.read
      clear owg1
      (refine wpF_call 24 ?_ rfl rfl (by rfl) ?_ ?_; rotate_left; (focus (go_simp; (try with_reducible rfl); done)))
      refine (BufferRanges_spec nx3 ao3 _ ca3 cs3 _ (h3.out.ext (by repeat (first | with_reducible exact Ext.refl _ | with_reducible assumption | with_reducible refine Ext.alloc ?_ _ | with_reducible refine Ext.drew ?_ | ((with_reducible refine Ext.set ?_ ?_ _); (focus (first | (simp; done) | (simp; omega) | omega))) | with_reducible refine Ext.trans ?_ hw56 | with_reducible refine Ext.trans ?_ hw55 | with_reducible refine Ext.trans ?_ hw54 | with_reducible refine Ext.trans ?_ hw53 | with_reducible refine Ext.trans ?_ hw52 | with_reducible refine Ext.trans ?_ hw51 | with_reducible refine Ext.trans ?_ hw50 | with_reducible refine Ext.trans ?_ hw49))) rfl (by omega) f3.out).mono ?_
      rintro en w57 ⟨ag2, cg2, rfl, owg2, hw57⟩
      refine ⟨_, rfl, hw57, ?_⟩
      try simp only [Act.put, List.getElem_toArray, List.getElem_cons_zero, List.getElem_cons_succ, List.setIfInBounds_toArray, List.set_cons_zero, List.set_cons_succ]
      have zw57 := hw57.size
      (try simp at zw57)
      have kw57_0 := hw57.more (k := w1.heap.size) (by first | (simp; done) | (simp; omega) | omega)
      obtain ⟨cw57_0, fw57_0⟩ := hw57.row (k := w1.heap.size) (by first | (simp; done) | (simp; omega) | omega)
      have kw57_1 := hw57.more (k := w2.heap.size) (by first | (simp; done) | (simp; omega) | omega)
      obtain ⟨cw57_1, fw57_1⟩ := hw57.row (k := w2.heap.size) (by first | (simp; done) | (simp; omega) | omega)
      have kw57_2 := hw57.more (k := w3.heap.size) (by first | (simp; done) | (simp; omega) | omega)
      obtain ⟨cw57_2, fw57_2⟩ := hw57.row (k := w3.heap.size) (by first | (simp; done) | (simp; omega) | omega)
      have kw57_3 := hw57.more (k := w47.heap.size) (by first | (simp; done) | (simp; omega) | omega)
      obtain ⟨cw57_3, fw57_3⟩ := hw57.row (k := w47.heap.size) (by first | (simp; done) | (simp; omega) | omega)
      have kw57_4 := hw57.more (k := w47.heap.size + 1) (by first | (simp; done) | (simp; omega) | omega)
      obtain ⟨cw57_4, fw57_4⟩ := hw57.row (k := w47.heap.size + 1) (by first | (simp; done) | (simp; omega) | omega)
      have kw57_5 := hw57.more (k := w48.heap.size) (by first | (simp; done) | (simp; omega) | omega)
      obtain ⟨cw57_5, fw57_5⟩ := hw57.row (k := w48.heap.size) (by first | (simp; done) | (simp; omega) | omega)
      have kw57_6 := hw57.more (k := w49.heap.size) (by first | (simp; done) | (simp; omega) | omega)
      obtain ⟨cw57_6, fw57_6⟩ := hw57.row (k := w49.heap.size) (by first | (simp; done) | (simp; omega) | omega)
      have hg2 := hide owg2.read
      clear owg2
      (refine wpF_call 23 ?_ rfl rfl (by rfl) ?_ ?_; rotate_left; (focus (go_simp; (try with_reducible rfl); done)))
      refine (eqr_same ag1 ag2 cg1 cg2 (bufRgs nx3 cs3) _ (hg1.out.ext (by repeat (first | with_reducible exact Ext.refl _ | with_reducible assumption | with_reducible refine Ext.alloc ?_ _ | with_reducible refine Ext.drew ?_ | ((with_reducible refine Ext.set ?_ ?_ _); (focus (first | (simp; done) | (simp; omega) | omega))) | with_reducible refine Ext.trans ?_ hw57))) (hg2.out.ext (by repeat (first | with_reducible exact Ext.refl _ | with_reducible assumption | with_reducible refine Ext.alloc ?_ _ | with_reducible refine Ext.drew ?_ | ((with_reducible refine Ext.set ?_ ?_ _); (focus (first | (simp; done) | (simp; omega) | omega)))))) (by omega)).mono ?_
      rintro en w58 ⟨rfl, hw58⟩
      refine ⟨_, rfl, hw58, ?_⟩
      try simp only [Act.put, List.getElem_toArray, List.getElem_cons_zero, List.getElem_cons_succ, List.setIfInBounds_toArray, List.set_cons_zero, List.set_cons_succ]
      have zw58 := hw58.size
      (try simp at zw58)
      have kw58_0 := hw58.more (k := w1.heap.size) (by first | (simp; done) | (simp; omega) | omega)
      obtain ⟨cw58_0, fw58_0⟩ := hw58.row (k := w1.heap.size) (by first | (simp; done) | (simp; omega) | omega)
      have kw58_1 := hw58.more (k := w2.heap.size) (by first | (simp; done) | (simp; omega) | omega)
      obtain ⟨cw58_1, fw58_1⟩ := hw58.row (k := w2.heap.size) (by first | (simp; done) | (simp; omega) | omega)
      have kw58_2 := hw58.more (k := w3.heap.size) (by first | (simp; done) | (simp; omega) | omega)
      obtain ⟨cw58_2, fw58_2⟩ := hw58.row (k := w3.heap.size) (by first | (simp; done) | (simp; omega) | omega)
      have kw58_3 := hw58.more (k := w47.heap.size) (by first | (simp; done) | (simp; omega) | omega)
      obtain ⟨cw58_3, fw58_3⟩ := hw58.row (k := w47.heap.size) (by first | (simp; done) | (simp; omega) | omega)
      have kw58_4 := hw58.more (k := w47.heap.size + 1) (by first | (simp; done) | (simp; omega) | omega)
      obtain ⟨cw58_4, fw58_4⟩ := hw58.row (k := w47.heap.size + 1) (by first | (simp; done) | (simp; omega) | omega)
      have kw58_5 := hw58.more (k := w48.heap.size) (by first | (simp; done) | (simp; omega) | omega)
      obtain ⟨cw58_5, fw58_5⟩ := hw58.row (k := w48.heap.size) (by first | (simp; done) | (simp; omega) | omega)
      have kw58_6 := hw58.more (k := w49.heap.size) (by first | (simp; done) | (simp; omega) | omega)
      obtain ⟨cw58_6, fw58_6⟩ := hw58.row (k := w49.heap.size) (by first | (simp; done) | (simp; omega) | omega)
      (refine wpF_pure (v := ?_) rfl rfl (by rfl) ?_ ?_; rotate_left; (focus (intro ws hws; go_simp; (try with_reducible rfl); done)))
      try simp only [Act.put, List.getElem_toArray, List.getElem_cons_zero, List.getElem_cons_succ, List.setIfInBounds_toArray, List.set_cons_zero, List.set_cons_succ]
      (refine wpF_pure (v := ?_) rfl rfl (by rfl) ?_ ?_; rotate_left; (focus (intro ws hws; go_simp; (try with_reducible rfl); done)))
      try simp only [Act.put, List.getElem_toArray, List.getElem_cons_zero, List.getElem_cons_succ, List.setIfInBounds_toArray, List.set_cons_zero, List.set_cons_succ]
      (refine wpF_pure (v := ?_) rfl rfl (by rfl) ?_ ?_; rotate_left; (focus (intro ws hws; obtain ⟨q0, p0⟩ := hws.row (k := w49.heap.size) (by first | (simp; done) | (simp; omega) | omega); go_simp; (try with_reducible rfl); done)))
      try simp only [Act.put, List.getElem_toArray, List.getElem_cons_zero, List.getElem_cons_succ, List.setIfInBounds_toArray, List.set_cons_zero, List.set_cons_succ]
      (refine wpF_pure (v := ?_) rfl rfl (by rfl) ?_ ?_; rotate_left; (focus (intro ws hws; go_simp; (try with_reducible rfl); done)))
      try simp only [Act.put, List.getElem_toArray, List.getElem_cons_zero, List.getElem_cons_succ, List.setIfInBounds_toArray, List.set_cons_zero, List.set_cons_succ]
      (refine wpF_pure (v := ?_) rfl rfl (by rfl) ?_ ?_; rotate_left; (focus (intro ws hws; obtain ⟨q0, p0⟩ := hws.row (k := w49.heap.size) (by first | (simp; done) | (simp; omega) | omega); go_simp; (try with_reducible rfl); done)))
      try simp only [Act.put, List.getElem_toArray, List.getElem_cons_zero, List.getElem_cons_succ, List.setIfInBounds_toArray, List.set_cons_zero, List.set_cons_succ]
      (refine wpF_pure (v := ?_) rfl rfl (by rfl) ?_ ?_; rotate_left; (focus (intro ws hws; go_simp; (try with_reducible rfl); done)))
      try simp only [Act.put, List.getElem_toArray, List.getElem_cons_zero, List.getElem_cons_succ, List.setIfInBounds_toArray, List.set_cons_zero, List.set_cons_succ]
      (refine wpF_call 12 ?_ rfl rfl (by rfl) ?_ ?_; rotate_left; (focus (go_simp; (try with_reducible rfl); done)))
      refine (ByteAt_impl nx4 k ao4 _ ca4 cs4 _ (h4.out.ext (by repeat (first | with_reducible exact Ext.refl _ | with_reducible assumption | with_reducible refine Ext.alloc ?_ _ | with_reducible refine Ext.drew ?_ | ((with_reducible refine Ext.set ?_ ?_ _); (focus (first | (simp; done) | (simp; omega) | omega))) | with_reducible refine Ext.trans ?_ hw58 | with_reducible refine Ext.trans ?_ hw57 | with_reducible refine Ext.trans ?_ hw56 | with_reducible refine Ext.trans ?_ hw55 | with_reducible refine Ext.trans ?_ hw54 | with_reducible refine Ext.trans ?_ hw53 | with_reducible refine Ext.trans ?_ hw52 | with_reducible refine Ext.trans ?_ hw51 | with_reducible refine Ext.trans ?_ hw50))) rfl (by omega) f4.out (by omega)).mono ?_
      rintro en w59 ⟨rfl, hw59⟩
      refine ⟨_, rfl, hw59, ?_⟩
      try simp only [Act.put, List.getElem_toArray, List.getElem_cons_zero, List.getElem_cons_succ, List.setIfInBounds_toArray, List.set_cons_zero, List.set_cons_succ]
      have zw59 := hw59.size
      (try simp at zw59)
      have kw59_0 := hw59.more (k := w1.heap.size) (by first | (simp; done) | (simp; omega) | omega)
      obtain ⟨cw59_0, fw59_0⟩ := hw59.row (k := w1.heap.size) (by first | (simp; done) | (simp; omega) | omega)
      have kw59_1 := hw59.more (k := w2.heap.size) (by first | (simp; done) | (simp; omega) | omega)
      obtain ⟨cw59_1, fw59_1⟩ := hw59.row (k := w2.heap.size) (by first | (simp; done) | (simp; omega) | omega)
      have kw59_2 := hw59.more (k := w3.heap.size) (by first | (simp; done) | (simp; omega) | omega)
      obtain ⟨cw59_2, fw59_2⟩ := hw59.row (k := w3.heap.size) (by first | (simp; done) | (simp; omega) | omega)
      have kw59_3 := hw59.more (k := w47.heap.size) (by first | (simp; done) | (simp; omega) | omega)
      obtain ⟨cw59_3, fw59_3⟩ := hw59.row (k := w47.heap.size) (by first | (simp; done) | (simp; omega) | omega)
      have kw59_4 := hw59.more (k := w47.heap.size + 1) (by first | (simp; done) | (simp; omega) | omega)
      obtain ⟨cw59_4, fw59_4⟩ := hw59.row (k := w47.heap.size + 1) (by first | (simp; done) | (simp; omega) | omega)
      have kw59_5 := hw59.more (k := w48.heap.size) (by first | (simp; done) | (simp; omega) | omega)
      obtain ⟨cw59_5, fw59_5⟩ := hw59.row (k := w48.heap.size) (by first | (simp; done) | (simp; omega) | omega)
      have kw59_6 := hw59.more (k := w49.heap.size) (by first | (simp; done) | (simp; omega) | omega)
      obtain ⟨cw59_6, fw59_6⟩ := hw59.row (k := w49.heap.size) (by first | (simp; done) | (simp; omega) | omega)
      (refine wpF_call 11 ?_ rfl rfl (by rfl) ?_ ?_; rotate_left; (focus (go_simp; (try with_reducible rfl); done)))
      refine (ByteAt_spec nx4 k ao4 _ ca4 cs4 _ (h4.out.ext (by repeat (first | with_reducible exact Ext.refl _ | with_reducible assumption | with_reducible refine Ext.alloc ?_ _ | with_reducible refine Ext.drew ?_ | ((with_reducible refine Ext.set ?_ ?_ _); (focus (first | (simp; done) | (simp; omega) | omega))) | with_reducible refine Ext.trans ?_ hw59 | with_reducible refine Ext.trans ?_ hw58 | with_reducible refine Ext.trans ?_ hw57 | with_reducible refine Ext.trans ?_ hw56 | with_reducible refine Ext.trans ?_ hw55 | with_reducible refine Ext.trans ?_ hw54 | with_reducible refine Ext.trans ?_ hw53 | with_reducible refine Ext.trans ?_ hw52 | with_reducible refine Ext.trans ?_ hw51 | with_reducible refine Ext.trans ?_ hw50))) rfl (by omega) f4.out (by omega)).mono ?_
      rintro en w60 ⟨rfl, hw60⟩
      refine ⟨_, rfl, hw60, ?_⟩
      try simp only [Act.put, List.getElem_toArray, List.getElem_cons_zero, List.getElem_cons_succ, List.setIfInBounds_toArray, List.set_cons_zero, List.set_cons_succ]
      have zw60 := hw60.size
      (try simp at zw60)
      have kw60_0 := hw60.more (k := w1.heap.size) (by first | (simp; done) | (simp; omega) | omega)
      obtain ⟨cw60_0, fw60_0⟩ := hw60.row (k := w1.heap.size) (by first | (simp; done) | (simp; omega) | omega)
      have kw60_1 := hw60.more (k := w2.heap.size) (by first | (simp; done) | (simp; omega) | omega)
      obtain ⟨cw60_1, fw60_1⟩ := hw60.row (k := w2.heap.size) (by first | (simp; done) | (simp; omega) | omega)
      have kw60_2 := hw60.more (k := w3.heap.size) (by first | (simp; done) | (simp; omega) | omega)
      obtain ⟨cw60_2, fw60_2⟩ := hw60.row (k := w3.heap.size) (by first | (simp; done) | (simp; omega) | omega)
      have kw60_3 := hw60.more (k := w47.heap.size) (by first | (simp; done) | (simp; omega) | omega)
      obtain ⟨cw60_3, fw60_3⟩ := hw60.row (k := w47.heap.size) (by first | (simp; done) | (simp; omega) | omega)
      have kw60_4 := hw60.more (k := w47.heap.size + 1) (by first | (simp; done) | (simp; omega) | omega)
      obtain ⟨cw60_4, fw60_4⟩ := hw60.row (k := w47.heap.size + 1) (by first | (simp; done) | (simp; omega) | omega)
      have kw60_5 := hw60.more (k := w48.heap.size) (by first | (simp; done) | (simp; omega) | omega)
      obtain ⟨cw60_5, fw60_5⟩ := hw60.row (k := w48.heap.size) (by first | (simp; done) | (simp; omega) | omega)
      have kw60_6 := hw60.more (k := w49.heap.size) (by first | (simp; done) | (simp; omega) | omega)
      obtain ⟨cw60_6, fw60_6⟩ := hw60.row (k := w49.heap.size) (by first | (simp; done) | (simp; omega) | omega)
      (refine wpF_pure (v := ?_) rfl rfl (by rfl) ?_ ?_; rotate_left; (focus (intro ws hws; go_simp; (try with_reducible rfl); done)))
      try simp only [Act.put, List.getElem_toArray, List.getElem_cons_zero, List.getElem_cons_succ, List.setIfInBounds_toArray, List.set_cons_zero, List.set_cons_succ]
      (refine wpF_pure (v := ?_) rfl rfl (by rfl) ?_ ?_; rotate_left; (focus (intro ws hws; go_simp; (try with_reducible rfl); done)))
      try simp only [Act.put, List.getElem_toArray, List.getElem_cons_zero, List.getElem_cons_succ, List.setIfInBounds_toArray, List.set_cons_zero, List.set_cons_succ]
      (refine wpF_pure (v := ?_) rfl rfl (by rfl) ?_ ?_; rotate_left; (focus (intro ws hws; go_simp; (try with_reducible rfl); done)))
      try simp only [Act.put, List.getElem_toArray, List.getElem_cons_zero, List.getElem_cons_succ, List.setIfInBounds_toArray, List.set_cons_zero, List.set_cons_succ]
      refine wpF_done rfl ?_
      simp only [List.drop_succ_cons, List.drop_zero, List.drop_nil]
      go_wp2
      go_ret
      exact ⟨rfl, (by repeat (first | with_reducible exact Ext.refl _ | with_reducible assumption | with_reducible refine Ext.alloc ?_ _ | with_reducible refine Ext.drew ?_ | ((with_reducible refine Ext.set ?_ ?_ _); (focus (first | (simp; done) | (simp; omega) | omega))) | with_reducible refine Ext.trans ?_ hw60 | with_reducible refine Ext.trans ?_ hw59 | with_reducible refine Ext.trans ?_ hw58 | with_reducible refine Ext.trans ?_ hw57 | with_reducible refine Ext.trans ?_ hw56 | with_reducible refine Ext.trans ?_ hw55 | with_reducible refine Ext.trans ?_ hw54 | with_reducible refine Ext.trans ?_ hw53 | with_reducible refine Ext.trans ?_ hw52 | with_reducible refine Ext.trans ?_ hw51 | with_reducible refine Ext.trans ?_ hw50 | with_reducible refine Ext.trans ?_ hw49 | with_reducible refine Ext.trans ?_ hw48 | with_reducible refine Ext.trans ?_ hw47 | with_reducible refine Ext.trans ?_ hw46 | with_reducible refine Ext.trans ?_ hw45 | with_reducible refine Ext.trans ?_ hw44 | with_reducible refine Ext.trans ?_ hw43 | with_reducible refine Ext.trans ?_ hw42 | with_reducible refine Ext.trans ?_ hw41 | with_reducible refine Ext.trans ?_ hcut | with_reducible refine Ext.trans ?_ hw6 | with_reducible refine Ext.trans ?_ hw5 | with_reducible refine Ext.trans ?_ hw4 | with_reducible refine Ext.trans ?_ hw3 | with_reducible refine Ext.trans ?_ hw2 | with_reducible refine Ext.trans ?_ hw1))⟩
/-! ### the row of FnBuffers -/
theorem buffers_reads : ∀ t ∈ Try.f3.params.toList, Try.prog.readableRec t = true ∧ t < Try.prog.types.size := by
  rw [Try.params3]
  intro t ht
  simp only [List.mem_cons, List.not_mem_nil, or_false] at ht
  subst ht
  exact ⟨by kernel_rfl, of_decide_eq_true (by kernel_rfl)⟩
set_option maxRecDepth 100000 in
theorem buffers_lifted (os : Os) (started : os.Started) (H : Type) (enc : TypeId × Value → H) :
    ReturnsInHanded {} Try.checked os 3 .any (Rows.fnBuffersSpec.pre6 enc Try.prog Try.f3 Rows.fnBuffersRow.domain false) (Rows.fnBuffersSpec.post enc Try.prog Try.f3 false true false false) := by
  refine returnsInHanded_of_change (C := Try.checked) ownKnobNone started (by kernel_rfl) Try.func3
    (ChangeSpec.witness6 (enc := enc) (C := Try.checked) false ⟨#[], #[.slice none 0 0], []⟩ 8 (by kernel_rfl) (by kernel_rfl) (by kernel_rfl) (by kernel_rfl)) ?_
  intro W base args ds gs before hval0 hW hcnd _
  have hval : ∀ (j : Nat) t v, Try.f3.params[j]? = some t → args[j]? = some v → Value.okWide Try.prog W .any base t v := hval0
  have hW' := hW
  obtain ⟨p, q, hA0, hV, rfl, hfz, hnd⟩ := hW
  have hA : DataW.TrodAll enc Try.prog W 0 (fun _ => true) true Try.f3.params.toList args.toList ds p := hA0
  rw [Try.params3] at hA hval
  obtain ⟨v0, vs0, d0, ds0, p0, q0, hargs, rfl, rfl, h0, r0⟩ := trodAll_cons hA
  obtain ⟨rfl, rfl, rfl⟩ := trodAll_nil r0
  obtain rfl : args = #[v0] := by cases args; simp_all
  obtain ⟨ao, len, cap, rfl, hcode⟩ := open_code Try.underlying22 Try.underlying5 (by kernel_rfl) (hval 0 22 v0 rfl rfl) h0
  refine (buffers_walk ao len cap W hcode).mono fun e W' ⟨he, hg⟩ => ?_
  subst he
  exact ⟨_, rfl, law_post laidOut buffers_reads rfl rfl Try.underlying4 hW' (fun gs h => by subst h; rfl) hg⟩
theorem buffers_over : Rows.fnBuffersRow.holds Try.pinned (OpenSpec.ofChange Rows.fnBuffersSpec) :=
  OpenClaim.holds_of_wide 3 Try.f3 rfl rfl rfl rfl rfl rfl rfl ⟨rfl, rfl, rfl, rfl, rfl⟩ rfl rfl rfl rfl rfl (by kernel_rfl) Try.func3 (by kernel_rfl)
    (of_decide_eq_true (by kernel_rfl)) (by unfold Func.isWrapper; first | (rw [if_pos (by decide +kernel)]; kernel_rfl) | (rw [if_neg (by decide +kernel)]; exact ⟨rfl, rfl⟩))
    (fun os started H enc _ => buffers_lifted os started H enc)
/-- The statement. -/
theorem buffers_holds : Rows.FnBuffersSaid := buffers_over
#print axioms buffers_holds
end
end Go.Proofs.Ytjnbiacnhimkgaa

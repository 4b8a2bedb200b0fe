/-
  Drawn buffers. Conditions: the cursor.
-/
import Derived.Test.YtjnbiacnhimkgaaBufW
import Derived.Test.YtjnbiacnhimkgaaFlow
import Derived.Test.YtjnbiacnhimkgaaBoxV
import Derived.Test.YtjnbiacnhimkgaaDrawD
import Derived.Test.YtjnbiacnhimkgaaRvP
namespace Go.Proofs.Ytjnbiacnhimkgaa
open Go.ChangeShapes Go.WideShapes Go.ChangeAt Go.RowKit
set_option linter.unusedSimpArgs false
set_option linter.unusedVariables false
structure BufOk (m : Nat) (nx : Int) (cs : List Ck) : Prop where
  len : cs.length ≤ m
  wb : WB cs
  nx : -9223372036854775808 ≤ nx ∧ nx ≤ 9223372036854775807
theorem BufOk.wf {m : Nat} {nx : Int} {cs : List Ck} (h : BufOk m nx cs) : WfC cs := wb_wf h.wb
structure BufV (m : Nat) (nx : Int) (cs : List Ck) : Prop where
  len : cs.length ≤ m
  ok : isBuf nx cs = true
theorem BufV.wb {m : Nat} {nx : Int} {cs : List Ck} (h : BufV m nx cs) : WB cs := isBuf_wb h.ok
theorem BufV.wf {m : Nat} {nx : Int} {cs : List Ck} (h : BufV m nx cs) : WfC cs := wb_wf h.wb
theorem BufV.nx {m : Nat} {nx : Int} {cs : List Ck} (h : BufV m nx cs) : -9223372036854775808 ≤ nx ∧ nx ≤ 9223372036854775807 := by
  have := isBuf_nx h.ok
  omega
/-- A drawn buffer: its chunks in a row of the call's own; the cursor alone has turned. -/
def DrewBuf (p : Nat) (code : Value) (w : World) (en : Ending) (w' : World) : Prop :=
  ∃ (nx : Int) (cs : List Ck) (ao : Option Addr) (cap : Nat), en = .returned (.agg #[.int .i64 nx, .slice ao cs.length cap]) ∧ BufOk 8 nx cs ∧ OwnCW w.heap.size w'.heap.size w' ao cap cs ∧ CurAt w' p code ∧ Chg (fun k => k = p) w w'
set_option maxHeartbeats 8000000 in
set_option maxRecDepth 100000 in
theorem l6Buffer_any (p : Nat) (code : Value) (w : World) (hc : CurAt w p code) :
    Calls Try.prog 26 #[.pointer (some ⟨p, 0, none⟩)] w (DrewBuf p code w) := by
  have hpl := hc.lt
  go_enter Try.func26, Try.ntmps26
  have hgw0 : Chg (fun b => b = p ∨ w.heap.size ≤ b) w w := Chg.refl _ _
  go_wp2_with fail
  refine (l1Below_pos p code 7 _ (by omega) (hc.stays (S := fun b => False) (by repeat (first | with_reducible exact Chg.refl _ _ | with_reducible refine Chg.alloc ?_ _ | with_reducible refine Chg.drew ?_ | ((with_reducible refine Chg.set ?_ ?_ _); (focus (first | (left; first | rfl | (simp; done) | ((try dsimp only); omega) | (simp; omega)) | (right; simp; done) | (right; simp; omega) | (right; omega)))))) (fun b h => (by first | exact fun h => h | ((try dsimp only); omega))))).mono ?_
  rintro en w1 ⟨n0, rfl, ⟨x0, x1⟩, hcuw1, hw1⟩
  have gw1 : Chg (fun b => b = p) w w1 := Chg.trans (by repeat (first | with_reducible exact Chg.refl _ _ | with_reducible refine Chg.alloc ?_ _ | with_reducible refine Chg.drew ?_ | ((with_reducible refine Chg.set ?_ ?_ _); (focus (first | (left; first | rfl | (simp; done) | ((try dsimp only); omega) | (simp; omega)) | (right; simp; done) | (right; simp; omega) | (right; omega)))))) (Chg.mono (T := fun b => b = p) hw1 (fun b _ h => by first | exact False.elim h | ((try dsimp only at h ⊢); omega)))
  have zw1 := hw1.size
  (try simp at zw1)
  have yw1 : w.heap.size ≤ w1.heap.size := gw1.size
  have hr_w1 := hide (BoxV.chg (BoxV.new w [.int .i64 0, .slice none 0 0] 26) (S := fun b => b = p) (Chg.trans (by repeat (first | with_reducible exact Chg.refl _ _ | with_reducible refine Chg.alloc ?_ _ | with_reducible refine Chg.drew ?_ | ((with_reducible refine Chg.set ?_ ?_ _); (focus (first | (left; first | rfl | (simp; done) | ((try dsimp only); omega) | (simp; omega)) | (right; simp; done) | (right; simp; omega) | (right; omega)))))) (Chg.mono (T := fun b => b = p) hw1 (fun b _ h => by first | exact False.elim h | ((try dsimp only at h ⊢); omega)))) (by first | exact fun h => h | ((try dsimp only); omega)))
  have hb_w1 := hide (BoxV.chg (show BoxV (w.heap.size + 1) _ [.int .i64 0, .slice none 0 0] from by have h := (BoxV.new (w.alloc (.cells #[.int .i64 0, .slice none 0 0] 26)) [.int .i64 0, .slice none 0 0] 26); simpa only [World.size_alloc, World.size_drew] using h) (S := fun b => b = p) (Chg.trans (by repeat (first | with_reducible exact Chg.refl _ _ | with_reducible refine Chg.alloc ?_ _ | with_reducible refine Chg.drew ?_ | ((with_reducible refine Chg.set ?_ ?_ _); (focus (first | (left; first | rfl | (simp; done) | ((try dsimp only); omega) | (simp; omega)) | (right; simp; done) | (right; simp; omega) | (right; omega)))))) (Chg.mono (T := fun b => b = p) hw1 (fun b _ h => by first | exact False.elim h | ((try dsimp only at h ⊢); omega)))) (by first | exact fun h => h | ((try dsimp only); omega)))
  have hgww1 : Chg (fun b => b = p ∨ w.heap.size ≤ b) w w1 := Chg.trans hgw0 (Chg.mono (T := fun b => b = p ∨ w.heap.size ≤ b) gw1 (fun b _ h => by first | exact False.elim h | ((try dsimp only at h ⊢); omega)))
  clear hgw0
  clear gw1 hw1
  have br0 := hr_w1.out.c 0 _ rfl
  have br1 := hr_w1.out.c 1 _ rfl
  have brF := hr_w1.out.fr
  have kbr : w.heap.size < w1.heap.size := hr_w1.out.lt
  have bb0 := hb_w1.out.c 0 _ rfl
  have bb1 := hb_w1.out.c 1 _ rfl
  have bbF := hb_w1.out.fr
  have kbb : w.heap.size + 1 < w1.heap.size := hb_w1.out.lt
  have nerb : w.heap.size ≠ w.heap.size + 1 := by omega
  have nebr : w.heap.size + 1 ≠ w.heap.size := by omega
  go_wp2_with fail
  go_loopw [4] (fun i wr => ∃ (k : Int) (nx : Int) (cs : List Ck) (ao : Option Addr) (cap : Nat), i = .int .i64 k ∧ 0 ≤ k ∧ k ≤ n0 ∧ BufV (n0 - k).toNat nx cs ∧ BoxV (w.heap.size) wr [.int .i64 0, .slice none 0 0] ∧ BoxV (w.heap.size + 1) wr [.int .i64 nx, .slice ao cs.length cap] ∧ OwnCW (w.heap.size + 2) wr.heap.size wr ao cap cs ∧ CurAt wr p code ∧ Chg (fun b => b = p ∨ w.heap.size ≤ b) w wr ∧ w.heap.size + 2 ≤ wr.heap.size) (fun i _ => (intOf i).toNat)
  case atStart => exact ⟨n0, 0, [], none, 0, rfl, x0, Int.le_refl _, ⟨Nat.zero_le _, by decide⟩, hr_w1.out, hb_w1.out, (OwnCW.nil (w.heap.size + 2) _).mono (Nat.le_refl _) (by omega), hcuw1, hgww1, by omega⟩
  case round =>
    clear br0 br1 brF kbr bb0 bb1 bbF kbb nerb nebr hr_w1 hb_w1 hcuw1 hgww1
    obtain ⟨k, nx, cs, ao, cap, rfl, k0, k1, hok, hB0, hB1, ho, hcu, hgw, hsz⟩ := hrel
    replace hB0 := hide hB0
    replace hB1 := hide hB1
    replace ho := hide ho
    have br0 := hB0.out.c 0 _ rfl
    have br1 := hB0.out.c 1 _ rfl
    have brF := hB0.out.fr
    have kbr : w.heap.size < wr.heap.size := hB0.out.lt
    have bb0 := hB1.out.c 0 _ rfl
    have bb1 := hB1.out.c 1 _ rfl
    have bbF := hB1.out.fr
    have kbb : w.heap.size + 1 < wr.heap.size := hB1.out.lt
    have nerb : w.heap.size ≠ w.heap.size + 1 := by omega
    have nebr : w.heap.size + 1 ≠ w.heap.size := by omega
    by_cases hlt : 0 < k
    · skip
      have hk1 : 1 ≤ k := by omega
      have hm : (n0 - k).toNat ≤ 1000 := by omega
      have hm1 : (n0 - k).toNat + 1 = (n0 - (k - 1)).toNat := by omega
      go_wp2_with fail
      refine (l1Below_pos p code 14 _ (by omega) (hcu.stays (S := fun b => False) (by repeat (first | with_reducible exact Chg.refl _ _ | with_reducible refine Chg.alloc ?_ _ | with_reducible refine Chg.drew ?_ | ((with_reducible refine Chg.set ?_ ?_ _); (focus (first | (left; first | rfl | (simp; done) | ((try dsimp only); omega) | (simp; omega)) | (right; simp; done) | (right; simp; omega) | (right; omega)))))) (fun b h => (by first | exact fun h => h | ((try dsimp only); omega))))).mono ?_
      rintro en v2 ⟨o, rfl, ⟨o0, o1⟩, hcuv2, hv2⟩
      have gv2 : Chg (fun b => b = p) wr v2 := Chg.trans (by repeat (first | with_reducible exact Chg.refl _ _ | with_reducible refine Chg.alloc ?_ _ | with_reducible refine Chg.drew ?_ | ((with_reducible refine Chg.set ?_ ?_ _); (focus (first | (left; first | rfl | (simp; done) | ((try dsimp only); omega) | (simp; omega)) | (right; simp; done) | (right; simp; omega) | (right; omega)))))) (Chg.mono (T := fun b => b = p) hv2 (fun b _ h => by first | exact False.elim h | ((try dsimp only at h ⊢); omega)))
      have zv2 := hv2.size
      (try simp at zv2)
      have yv2 : wr.heap.size ≤ v2.heap.size := gv2.size
      have hr_v2 := hide (hB0.out.chg gv2 (by first | exact fun h => h | ((try dsimp only); omega)))
      have hb_v2 := hide (hB1.out.chg gv2 (by first | exact fun h => h | ((try dsimp only); omega)))
      have oc_v2 := hide (OwnCW.chg ho.out gv2 (fun b h1 h2 h3 => by first | exact False.elim h3 | ((try dsimp only at h3); omega)))
      have hgwv2 : Chg (fun b => b = p ∨ w.heap.size ≤ b) w v2 := Chg.trans hgw (Chg.mono (T := fun b => b = p ∨ w.heap.size ≤ b) gv2 (fun b _ h => by first | exact False.elim h | ((try dsimp only at h ⊢); omega)))
      clear hB0 hB1 ho hgw hcu br0 br1 brF kbr bb0 bb1 bbF kbb nerb nebr
      clear gv2 hv2
      have br0 := hr_v2.out.c 0 _ rfl
      have br1 := hr_v2.out.c 1 _ rfl
      have brF := hr_v2.out.fr
      have kbr : w.heap.size < v2.heap.size := hr_v2.out.lt
      have bb0 := hb_v2.out.c 0 _ rfl
      have bb1 := hb_v2.out.c 1 _ rfl
      have bbF := hb_v2.out.fr
      have kbb : w.heap.size + 1 < v2.heap.size := hb_v2.out.lt
      have nerb : w.heap.size ≠ w.heap.size + 1 := by omega
      have nebr : w.heap.size + 1 ≠ w.heap.size := by omega
      go_wp2_with fail
      refine wp_region_flowC (fun b => b = p) 5 [(0, 1), (1, 1), (2, 1), (3, 0), (4, 0)] (by kernel_rfl) (by kernel_rfl) ?_
      (refine wpC_pure (v := ?_) rfl rfl (by rfl) ?_ ?_; rotate_left; (focus (intro ws hws; obtain ⟨q0, p0⟩ := hws.row (k := w.heap.size + 1) (by first | assumption | (simp; done) | (simp; omega) | omega) (by first | exact fun h => h | ((try dsimp only); omega)); go_simp; (try with_reducible rfl); done)))
      try simp only [Act.put, List.getElem_toArray, List.getElem_cons_zero, List.getElem_cons_succ, List.setIfInBounds_toArray, List.set_cons_zero, List.set_cons_succ]
      (refine wpC_pure (v := ?_) rfl rfl (by rfl) ?_ ?_; rotate_left; (focus (intro ws hws; go_simp; (try with_reducible rfl); done)))
      try simp only [Act.put, List.getElem_toArray, List.getElem_cons_zero, List.getElem_cons_succ, List.setIfInBounds_toArray, List.set_cons_zero, List.set_cons_succ]
      (refine wpC_pure (v := ?_) rfl rfl (by rfl) ?_ ?_; rotate_left; (focus (intro ws hws; go_simp; (try with_reducible rfl); done)))
      try simp only [Act.put, List.getElem_toArray, List.getElem_cons_zero, List.getElem_cons_succ, List.setIfInBounds_toArray, List.set_cons_zero, List.set_cons_succ]
      (refine wpC_call 30 ?_ rfl rfl (by rfl) ?_ ?_; rotate_left; (focus (go_simp; (try with_reducible rfl); done)))
      refine (l4Data_any p code 4 _ (hcuv2.stays (S := fun b => False) (by repeat (first | with_reducible exact Chg.refl _ _ | with_reducible refine Chg.alloc ?_ _ | with_reducible refine Chg.drew ?_ | ((with_reducible refine Chg.set ?_ ?_ _); (focus (first | (left; first | rfl | (simp; done) | ((try dsimp only); omega) | (simp; omega)) | (right; simp; done) | (right; simp; omega) | (right; omega)))))) (fun b h => (by first | exact fun h => h | ((try dsimp only); omega)))) (by omega) (by omega)).mono ?_
      rintro en v3 ⟨d, rfl, hd, hcuv3, hv3⟩
      refine ⟨_, rfl, hv3, ?_⟩
      try simp only [Act.put, List.getElem_toArray, List.getElem_cons_zero, List.getElem_cons_succ, List.setIfInBounds_toArray, List.set_cons_zero, List.set_cons_succ]
      have gv3 : Chg (fun b => b = p) v2 v3 := Chg.trans (by repeat (first | with_reducible exact Chg.refl _ _ | with_reducible refine Chg.alloc ?_ _ | with_reducible refine Chg.drew ?_ | ((with_reducible refine Chg.set ?_ ?_ _); (focus (first | (left; first | rfl | (simp; done) | ((try dsimp only); omega) | (simp; omega)) | (right; simp; done) | (right; simp; omega) | (right; omega)))))) (Chg.mono (T := fun b => b = p) hv3 (fun b _ h => by first | exact False.elim h | ((try dsimp only at h ⊢); omega)))
      have zv3 := hv3.size
      (try simp at zv3)
      have yv3 : v2.heap.size ≤ v3.heap.size := gv3.size
      have hr_v3 := hide (hr_v2.out.chg gv3 (by first | exact fun h => h | ((try dsimp only); omega)))
      have hb_v3 := hide (hb_v2.out.chg gv3 (by first | exact fun h => h | ((try dsimp only); omega)))
      have oc_v3 := hide (OwnCW.chg oc_v2.out gv3 (fun b h1 h2 h3 => by first | exact False.elim h3 | ((try dsimp only at h3); omega)))
      have hgwv3 : Chg (fun b => b = p ∨ w.heap.size ≤ b) w v3 := Chg.trans hgwv2 (Chg.mono (T := fun b => b = p ∨ w.heap.size ≤ b) gv3 (fun b _ h => by first | exact False.elim h | ((try dsimp only at h ⊢); omega)))
      clear hr_v2 hb_v2 oc_v2 hgwv2 hcuv2 br0 br1 brF kbr bb0 bb1 bbF kbb nerb nebr
      clear gv3 hv3
      have br0 := hr_v3.out.c 0 _ rfl
      have br1 := hr_v3.out.c 1 _ rfl
      have brF := hr_v3.out.fr
      have kbr : w.heap.size < v3.heap.size := hr_v3.out.lt
      have bb0 := hb_v3.out.c 0 _ rfl
      have bb1 := hb_v3.out.c 1 _ rfl
      have bbF := hb_v3.out.fr
      have kbb : w.heap.size + 1 < v3.heap.size := hb_v3.out.lt
      have nerb : w.heap.size ≠ w.heap.size + 1 := by omega
      have nebr : w.heap.size + 1 ≠ w.heap.size := by omega
      (refine wpC_call 7 ?_ rfl rfl (by rfl) ?_ ?_; rotate_left; (focus (go_simp; (try with_reducible rfl); done)))
      refine (InsertDataW nx o d ao cs.length cap cs _ (OwnCW.chg (S := fun b => b = p) oc_v3.out (by repeat (first | with_reducible exact Chg.refl _ _ | with_reducible refine Chg.alloc ?_ _ | with_reducible refine Chg.drew ?_ | ((with_reducible refine Chg.set ?_ ?_ _); (focus (first | (left; first | rfl | (simp; done) | ((try dsimp only); omega) | (simp; omega)) | (right; simp; done) | (right; simp; omega) | (right; omega)))))) (fun b h1 h2 h3 => by first | exact False.elim h3 | ((try dsimp only at h3); omega))).read rfl (by have := hok.len; omega) hok.wf (by omega) (by omega)).mono ?_
      rintro en v4 ⟨ao2, cap2, rfl, ho2, hv4⟩
      refine ⟨_, rfl, (Ext.chg hv4 _), ?_⟩
      try simp only [Act.put, List.getElem_toArray, List.getElem_cons_zero, List.getElem_cons_succ, List.setIfInBounds_toArray, List.set_cons_zero, List.set_cons_succ]
      have gv4 : Chg (fun b => False) v3 v4 := Chg.trans (by repeat (first | with_reducible exact Chg.refl _ _ | with_reducible refine Chg.alloc ?_ _ | with_reducible refine Chg.drew ?_ | ((with_reducible refine Chg.set ?_ ?_ _); (focus (first | (left; first | rfl | (simp; done) | ((try dsimp only); omega) | (simp; omega)) | (right; simp; done) | (right; simp; omega) | (right; omega)))))) (Ext.chg hv4 _)
      have zv4 := hv4.size
      (try simp at zv4)
      have yv4 : v3.heap.size ≤ v4.heap.size := gv4.size
      have hr_v4 := hide (hr_v3.out.chg gv4 (by first | exact fun h => h | ((try dsimp only); omega)))
      have hb_v4 := hide (hb_v3.out.chg gv4 (by first | exact fun h => h | ((try dsimp only); omega)))
      have oc_v4 := hide (OwnCW.chg oc_v3.out gv4 (fun b h1 h2 h3 => by first | exact False.elim h3 | ((try dsimp only at h3); omega)))
      have hgwv4 : Chg (fun b => b = p ∨ w.heap.size ≤ b) w v4 := Chg.trans hgwv3 (Chg.mono (T := fun b => b = p ∨ w.heap.size ≤ b) gv4 (fun b _ h => by first | exact False.elim h | ((try dsimp only at h ⊢); omega)))
      have hcuv4 := hcuv3.stays gv4 (fun b h => (by first | exact fun h => h | ((try dsimp only); omega)))
      clear hr_v3 hb_v3 oc_v3 hgwv3 hcuv3 br0 br1 brF kbr bb0 bb1 bbF kbb nerb nebr
      clear gv4 hv4
      have br0 := hr_v4.out.c 0 _ rfl
      have br1 := hr_v4.out.c 1 _ rfl
      have brF := hr_v4.out.fr
      have kbr : w.heap.size < v4.heap.size := hr_v4.out.lt
      have bb0 := hb_v4.out.c 0 _ rfl
      have bb1 := hb_v4.out.c 1 _ rfl
      have bbF := hb_v4.out.fr
      have kbb : w.heap.size + 1 < v4.heap.size := hb_v4.out.lt
      have nerb : w.heap.size ≠ w.heap.size + 1 := by omega
      have nebr : w.heap.size + 1 ≠ w.heap.size := by omega
      (try simp only [World.size_alloc, World.size_drew, World.size_setCell] at ho2)
      replace ho2 := hide ho2
      refine wpF_done rfl ?_
      simp only [List.drop_succ_cons, List.drop_zero, List.drop_nil]
      have hok2 : BufV (n0 - (k - 1)).toNat nx (insC nx cs o d) := ⟨by have := hok.len; have := insC_length nx cs o d; omega, insC_isBuf hok.ok⟩
      clear hok
      go_wp2_with fail
      refine (l1Once_any p code 4 _ (hcuv4.stays (S := fun b => b = w.heap.size + 1) (by repeat (first | with_reducible exact Chg.refl _ _ | with_reducible refine Chg.alloc ?_ _ | with_reducible refine Chg.drew ?_ | ((with_reducible refine Chg.set ?_ ?_ _); (focus (first | (left; first | rfl | (simp; done) | ((try dsimp only); omega) | (simp; omega)) | (right; simp; done) | (right; simp; omega) | (right; omega)))))) (fun b h => (by first | exact fun h => h | ((try dsimp only); omega))))).mono ?_
      rintro en v5 ⟨q, rfl, hcuv5, hv5⟩
      have gv5 : Chg (fun b => b = p ∨ b = w.heap.size + 1) v4 v5 := Chg.trans (by repeat (first | with_reducible exact Chg.refl _ _ | with_reducible refine Chg.alloc ?_ _ | with_reducible refine Chg.drew ?_ | ((with_reducible refine Chg.set ?_ ?_ _); (focus (first | (left; first | rfl | (simp; done) | ((try dsimp only); omega) | (simp; omega)) | (right; simp; done) | (right; simp; omega) | (right; omega)))))) (Chg.mono (T := fun b => b = p ∨ b = w.heap.size + 1) hv5 (fun b _ h => by first | exact False.elim h | ((try dsimp only at h ⊢); omega)))
      have zv5 := hv5.size
      (try simp at zv5)
      have yv5 : v4.heap.size ≤ v5.heap.size := gv5.size
      have hr_v5 := hide (hr_v4.out.chg gv5 (by first | exact fun h => h | ((try dsimp only); omega)))
      have hsb := (BoxV.set hb_v4.out [.int .i64 nx, .slice ao2 (insC nx cs o d).length cap2] rfl).1
      simp only [setFrom, Nat.zero_add, Nat.reduceAdd] at hsb
      have hb_v5 := hide (BoxV.chg hsb (S := fun b => b = p) (Chg.trans (by repeat (first | with_reducible exact Chg.refl _ _ | with_reducible refine Chg.alloc ?_ _ | with_reducible refine Chg.drew ?_ | ((with_reducible refine Chg.set ?_ ?_ _); (focus (first | (left; first | rfl | (simp; done) | ((try dsimp only); omega) | (simp; omega)) | (right; simp; done) | (right; simp; omega) | (right; omega)))))) hv5) (by first | exact fun h => h | ((try dsimp only); omega)))
      clear hsb
      have oc_v5 := hide (OwnCW.chg oc_v4.out gv5 (fun b h1 h2 h3 => by first | exact False.elim h3 | ((try dsimp only at h3); omega)))
      have oi_v5 := hide (OwnCW.chg ho2.out gv5 (fun b h1 h2 h3 => by first | exact False.elim h3 | ((try dsimp only at h3); omega)))
      have hgwv5 : Chg (fun b => b = p ∨ w.heap.size ≤ b) w v5 := Chg.trans hgwv4 (Chg.mono (T := fun b => b = p ∨ w.heap.size ≤ b) gv5 (fun b _ h => by first | exact False.elim h | ((try dsimp only at h ⊢); omega)))
      clear hr_v4 hb_v4 oc_v4 ho2 hgwv4 hcuv4 br0 br1 brF kbr bb0 bb1 bbF kbb nerb nebr
      clear gv5 hv5
      have br0 := hr_v5.out.c 0 _ rfl
      have br1 := hr_v5.out.c 1 _ rfl
      have brF := hr_v5.out.fr
      have kbr : w.heap.size < v5.heap.size := hr_v5.out.lt
      have bb0 := hb_v5.out.c 0 _ rfl
      have bb1 := hb_v5.out.c 1 _ rfl
      have bbF := hb_v5.out.fr
      have kbb : w.heap.size + 1 < v5.heap.size := hb_v5.out.lt
      have nerb : w.heap.size ≠ w.heap.size + 1 := by omega
      have nebr : w.heap.size + 1 ≠ w.heap.size := by omega
      cases q
      · skip
        go_wp2
        go_roundw
        case rel => exact ⟨k - 1, nx, _, ao2, cap2, by go_num, by omega, by omega, hok2, hr_v5.out, hb_v5.out, (oi_v5.out.mono (by omega) (by omega)), hcuv5, hgwv5, by omega⟩
        case measure => simp [intOf]; omega
      · skip
        go_wp2_with fail
        refine wp_region_flowC (fun b => b = p) 7 [(0, 1), (1, 1), (2, 0), (3, 0), (4, 1), (5, 1), (6, 1)] (by kernel_rfl) (by kernel_rfl) ?_
        (refine wpC_pure (v := ?_) rfl rfl (by rfl) ?_ ?_; rotate_left; (focus (intro ws hws; obtain ⟨q0, p0⟩ := hws.row (k := w.heap.size + 1) (by first | assumption | (simp; done) | (simp; omega) | omega) (by first | exact fun h => h | ((try dsimp only); omega)); go_simp; (try with_reducible rfl); done)))
        try simp only [Act.put, List.getElem_toArray, List.getElem_cons_zero, List.getElem_cons_succ, List.setIfInBounds_toArray, List.set_cons_zero, List.set_cons_succ]
        (refine wpC_pure (v := ?_) rfl rfl (by rfl) ?_ ?_; rotate_left; (focus (intro ws hws; go_simp; (try with_reducible rfl); done)))
        try simp only [Act.put, List.getElem_toArray, List.getElem_cons_zero, List.getElem_cons_succ, List.setIfInBounds_toArray, List.set_cons_zero, List.set_cons_succ]
        (refine wpC_call 27 ?_ rfl rfl (by rfl) ?_ ?_; rotate_left; (focus (go_simp; (try with_reducible rfl); done)))
        refine (l1Below_pos p code 4 _ (by omega) (hcuv5.stays (S := fun b => False) (by repeat (first | with_reducible exact Chg.refl _ _ | with_reducible refine Chg.alloc ?_ _ | with_reducible refine Chg.drew ?_ | ((with_reducible refine Chg.set ?_ ?_ _); (focus (first | (left; first | rfl | (simp; done) | ((try dsimp only); omega) | (simp; omega)) | (right; simp; done) | (right; simp; omega) | (right; omega)))))) (fun b h => (by first | exact fun h => h | ((try dsimp only); omega))))).mono ?_
        rintro en v6 ⟨y, rfl, ⟨y0, y1⟩, hcuv6, hv6⟩
        refine ⟨_, rfl, hv6, ?_⟩
        try simp only [Act.put, List.getElem_toArray, List.getElem_cons_zero, List.getElem_cons_succ, List.setIfInBounds_toArray, List.set_cons_zero, List.set_cons_succ]
        have gv6 : Chg (fun b => b = p) v5 v6 := Chg.trans (by repeat (first | with_reducible exact Chg.refl _ _ | with_reducible refine Chg.alloc ?_ _ | with_reducible refine Chg.drew ?_ | ((with_reducible refine Chg.set ?_ ?_ _); (focus (first | (left; first | rfl | (simp; done) | ((try dsimp only); omega) | (simp; omega)) | (right; simp; done) | (right; simp; omega) | (right; omega)))))) (Chg.mono (T := fun b => b = p) hv6 (fun b _ h => by first | exact False.elim h | ((try dsimp only at h ⊢); omega)))
        have zv6 := hv6.size
        (try simp at zv6)
        have yv6 : v5.heap.size ≤ v6.heap.size := gv6.size
        have hr_v6 := hide (hr_v5.out.chg gv6 (by first | exact fun h => h | ((try dsimp only); omega)))
        have hb_v6 := hide (hb_v5.out.chg gv6 (by first | exact fun h => h | ((try dsimp only); omega)))
        have oc_v6 := hide (OwnCW.chg oc_v5.out gv6 (fun b h1 h2 h3 => by first | exact False.elim h3 | ((try dsimp only at h3); omega)))
        have oi_v6 := hide (OwnCW.chg oi_v5.out gv6 (fun b h1 h2 h3 => by first | exact False.elim h3 | ((try dsimp only at h3); omega)))
        have hgwv6 : Chg (fun b => b = p ∨ w.heap.size ≤ b) w v6 := Chg.trans hgwv5 (Chg.mono (T := fun b => b = p ∨ w.heap.size ≤ b) gv6 (fun b _ h => by first | exact False.elim h | ((try dsimp only at h ⊢); omega)))
        clear hr_v5 hb_v5 oc_v5 oi_v5 hgwv5 hcuv5 br0 br1 brF kbr bb0 bb1 bbF kbb nerb nebr
        clear gv6 hv6
        have br0 := hr_v6.out.c 0 _ rfl
        have br1 := hr_v6.out.c 1 _ rfl
        have brF := hr_v6.out.fr
        have kbr : w.heap.size < v6.heap.size := hr_v6.out.lt
        have bb0 := hb_v6.out.c 0 _ rfl
        have bb1 := hb_v6.out.c 1 _ rfl
        have bbF := hb_v6.out.fr
        have kbb : w.heap.size + 1 < v6.heap.size := hb_v6.out.lt
        have nerb : w.heap.size ≠ w.heap.size + 1 := by omega
        have nebr : w.heap.size + 1 ≠ w.heap.size := by omega
        (refine wpC_call 44 ?_ rfl rfl (by rfl) ?_ ?_; rotate_left; (focus (go_simp; (try with_reducible rfl); done)))
        refine (TakeBytesW nx y ao2 (insC nx cs o d).length cap2 (insC nx cs o d) _ (OwnCW.chg (S := fun b => b = p) oi_v6.out (by repeat (first | with_reducible exact Chg.refl _ _ | with_reducible refine Chg.alloc ?_ _ | with_reducible refine Chg.drew ?_ | ((with_reducible refine Chg.set ?_ ?_ _); (focus (first | (left; first | rfl | (simp; done) | ((try dsimp only); omega) | (simp; omega)) | (right; simp; done) | (right; simp; omega) | (right; omega)))))) (fun b h1 h2 h3 => by first | exact False.elim h3 | ((try dsimp only at h3); omega))).read rfl (by have := hok2.len; omega) hok2.wf).mono ?_
        rintro en v7 ⟨ao3, cap3, rfl, ho3, hv7⟩
        refine ⟨_, rfl, (Ext.chg hv7 _), ?_⟩
        try simp only [Act.put, List.getElem_toArray, List.getElem_cons_zero, List.getElem_cons_succ, List.setIfInBounds_toArray, List.set_cons_zero, List.set_cons_succ]
        have gv7 : Chg (fun b => False) v6 v7 := Chg.trans (by repeat (first | with_reducible exact Chg.refl _ _ | with_reducible refine Chg.alloc ?_ _ | with_reducible refine Chg.drew ?_ | ((with_reducible refine Chg.set ?_ ?_ _); (focus (first | (left; first | rfl | (simp; done) | ((try dsimp only); omega) | (simp; omega)) | (right; simp; done) | (right; simp; omega) | (right; omega)))))) (Ext.chg hv7 _)
        have zv7 := hv7.size
        (try simp at zv7)
        have yv7 : v6.heap.size ≤ v7.heap.size := gv7.size
        have hr_v7 := hide (hr_v6.out.chg gv7 (by first | exact fun h => h | ((try dsimp only); omega)))
        have hb_v7 := hide (hb_v6.out.chg gv7 (by first | exact fun h => h | ((try dsimp only); omega)))
        have oc_v7 := hide (OwnCW.chg oc_v6.out gv7 (fun b h1 h2 h3 => by first | exact False.elim h3 | ((try dsimp only at h3); omega)))
        have oi_v7 := hide (OwnCW.chg oi_v6.out gv7 (fun b h1 h2 h3 => by first | exact False.elim h3 | ((try dsimp only at h3); omega)))
        have hgwv7 : Chg (fun b => b = p ∨ w.heap.size ≤ b) w v7 := Chg.trans hgwv6 (Chg.mono (T := fun b => b = p ∨ w.heap.size ≤ b) gv7 (fun b _ h => by first | exact False.elim h | ((try dsimp only at h ⊢); omega)))
        have hcuv7 := hcuv6.stays gv7 (fun b h => (by first | exact fun h => h | ((try dsimp only); omega)))
        clear hr_v6 hb_v6 oc_v6 oi_v6 hgwv6 hcuv6 br0 br1 brF kbr bb0 bb1 bbF kbb nerb nebr
        clear gv7 hv7
        have br0 := hr_v7.out.c 0 _ rfl
        have br1 := hr_v7.out.c 1 _ rfl
        have brF := hr_v7.out.fr
        have kbr : w.heap.size < v7.heap.size := hr_v7.out.lt
        have bb0 := hb_v7.out.c 0 _ rfl
        have bb1 := hb_v7.out.c 1 _ rfl
        have bbF := hb_v7.out.fr
        have kbb : w.heap.size + 1 < v7.heap.size := hb_v7.out.lt
        have nerb : w.heap.size ≠ w.heap.size + 1 := by omega
        have nebr : w.heap.size + 1 ≠ w.heap.size := by omega
        (try simp only [World.size_alloc, World.size_drew, World.size_setCell] at ho3)
        replace ho3 := hide ho3
        (refine wpC_pure (v := ?_) rfl rfl (by rfl) ?_ ?_; rotate_left; (focus (intro ws hws; go_simp; (try with_reducible rfl); done)))
        try simp only [Act.put, List.getElem_toArray, List.getElem_cons_zero, List.getElem_cons_succ, List.setIfInBounds_toArray, List.set_cons_zero, List.set_cons_succ]
        (refine wpC_pure (v := ?_) rfl rfl (by rfl) ?_ ?_; rotate_left; (focus (intro ws hws; go_simp; (try with_reducible rfl); done)))
        try simp only [Act.put, List.getElem_toArray, List.getElem_cons_zero, List.getElem_cons_succ, List.setIfInBounds_toArray, List.set_cons_zero, List.set_cons_succ]
        (refine wpC_pure (v := ?_) rfl rfl (by rfl) ?_ ?_; rotate_left; (focus (intro ws hws; go_simp; (try with_reducible rfl); done)))
        try simp only [Act.put, List.getElem_toArray, List.getElem_cons_zero, List.getElem_cons_succ, List.setIfInBounds_toArray, List.set_cons_zero, List.set_cons_succ]
        refine wpF_done rfl ?_
        simp only [List.drop_succ_cons, List.drop_zero, List.drop_nil]
        have hok3 : BufV (n0 - (k - 1)).toNat (takeX nx y (insC nx cs o d)) (takeC nx y (insC nx cs o d)) := ⟨Nat.le_trans (takeC_length _ _ _) hok2.len, (take_ok hok2.ok).1⟩
        have hset := BoxV.set hb_v7.out [.int .i64 (takeX nx y (insC nx cs o d)), .slice ao3 (takeC nx y (insC nx cs o d)).length cap3] rfl
        simp only [setFrom, Nat.zero_add, Nat.reduceAdd] at hset
        have hq2 := hide (hr_v7.out.chg hset.2 (by first | exact fun h => h | ((try dsimp only); omega)))
        have hq3 := hide (OwnCW.chg ho3.out hset.2 (fun b h1 h2 h3 => by (try dsimp only at h3); omega))
        have hq4 := hcuv7.stays hset.2 (fun b h => (by first | exact fun h => h | ((try dsimp only); omega)))
        have hq5 := hgwv7.trans (hset.2.mono (T := fun b => b = p ∨ w.heap.size ≤ b) (fun b _ h => by (try dsimp only at h ⊢); omega))
        have hq6 := hset.2.size
        have hq1 := hide hset.1
        clear hset
        go_wp2
        go_roundw
        case rel => exact ⟨k - 1, _, _, ao3, cap3, by go_num, by omega, by omega, hok3, hq2.out, hq1.out, hq3.out.mono (by omega) hq6, hq4, hq5, by omega⟩
        case measure => simp [intOf]; omega
    · obtain rfl : k = 0 := by omega
      go_wp2_with fail
      refine (l1Below_pos p code 16 _ (by omega) (hcu.stays (S := fun b => False) (by repeat (first | with_reducible exact Chg.refl _ _ | with_reducible refine Chg.alloc ?_ _ | with_reducible refine Chg.drew ?_ | ((with_reducible refine Chg.set ?_ ?_ _); (focus (first | (left; first | rfl | (simp; done) | ((try dsimp only); omega) | (simp; omega)) | (right; simp; done) | (right; simp; omega) | (right; omega)))))) (fun b h => (by first | exact fun h => h | ((try dsimp only); omega))))).mono ?_
      rintro en u2 ⟨y, rfl, ⟨y0, y1⟩, hcuu2, hu2⟩
      have gu2 : Chg (fun b => b = p) wr u2 := Chg.trans (by repeat (first | with_reducible exact Chg.refl _ _ | with_reducible refine Chg.alloc ?_ _ | with_reducible refine Chg.drew ?_ | ((with_reducible refine Chg.set ?_ ?_ _); (focus (first | (left; first | rfl | (simp; done) | ((try dsimp only); omega) | (simp; omega)) | (right; simp; done) | (right; simp; omega) | (right; omega)))))) (Chg.mono (T := fun b => b = p) hu2 (fun b _ h => by first | exact False.elim h | ((try dsimp only at h ⊢); omega)))
      have zu2 := hu2.size
      (try simp at zu2)
      have yu2 : wr.heap.size ≤ u2.heap.size := gu2.size
      have hr_u2 := hide (hB0.out.chg gu2 (by first | exact fun h => h | ((try dsimp only); omega)))
      have hb_u2 := hide (hB1.out.chg gu2 (by first | exact fun h => h | ((try dsimp only); omega)))
      have oc_u2 := hide (OwnCW.chg ho.out gu2 (fun b h1 h2 h3 => by first | exact False.elim h3 | ((try dsimp only at h3); omega)))
      have hgwu2 : Chg (fun b => b = p ∨ w.heap.size ≤ b) w u2 := Chg.trans hgw (Chg.mono (T := fun b => b = p ∨ w.heap.size ≤ b) gu2 (fun b _ h => by first | exact False.elim h | ((try dsimp only at h ⊢); omega)))
      clear hB0 hB1 ho hgw hcu br0 br1 brF kbr bb0 bb1 bbF kbb nerb nebr
      clear gu2 hu2
      have br0 := hr_u2.out.c 0 _ rfl
      have br1 := hr_u2.out.c 1 _ rfl
      have brF := hr_u2.out.fr
      have kbr : w.heap.size < u2.heap.size := hr_u2.out.lt
      have bb0 := hb_u2.out.c 0 _ rfl
      have bb1 := hb_u2.out.c 1 _ rfl
      have bbF := hb_u2.out.fr
      have kbb : w.heap.size + 1 < u2.heap.size := hb_u2.out.lt
      have nerb : w.heap.size ≠ w.heap.size + 1 := by omega
      have nebr : w.heap.size + 1 ≠ w.heap.size := by omega
      by_cases c0 : y = 0
      · skip
        have c0e : (y == 0) = true := by simp [c0]
        go_wp2_with fail
        refine (l1PickInt_new p code [-1, 30, 4611686018427387903, 4611686018427387904] 3 u2 (hcuu2.stays (S := fun b => False) (by repeat (first | with_reducible exact Chg.refl _ _ | with_reducible refine Chg.alloc ?_ _ | with_reducible refine Chg.drew ?_ | ((with_reducible refine Chg.set ?_ ?_ _); (focus (first | (left; first | rfl | (simp; done) | ((try dsimp only); omega) | (simp; omega)) | (right; simp; done) | (right; simp; omega) | (right; omega)))))) (fun b h => (by first | exact fun h => h | ((try dsimp only); omega)))) (by decide) (by decide)).mono ?_
        rintro en u3 ⟨v, rfl, hv, hcuu3, hu3⟩
        have gu3 : Chg (fun b => b = p) u2 u3 := Chg.trans (by repeat (first | with_reducible exact Chg.refl _ _ | with_reducible refine Chg.alloc ?_ _ | with_reducible refine Chg.drew ?_ | ((with_reducible refine Chg.set ?_ ?_ _); (focus (first | (left; first | rfl | (simp; done) | ((try dsimp only); omega) | (simp; omega)) | (right; simp; done) | (right; simp; omega) | (right; omega)))))) (Chg.mono (T := fun b => b = p) hu3 (fun b _ h => by first | exact False.elim h | ((try dsimp only at h ⊢); omega)))
        have zu3 := hu3.size
        (try simp at zu3)
        have yu3 : u2.heap.size ≤ u3.heap.size := gu3.size
        have hr_u3 := hide (hr_u2.out.chg gu3 (by first | exact fun h => h | ((try dsimp only); omega)))
        have hb_u3 := hide (hb_u2.out.chg gu3 (by first | exact fun h => h | ((try dsimp only); omega)))
        have oc_u3 := hide (OwnCW.chg oc_u2.out gu3 (fun b h1 h2 h3 => by first | exact False.elim h3 | ((try dsimp only at h3); omega)))
        have hgwu3 : Chg (fun b => b = p ∨ w.heap.size ≤ b) w u3 := Chg.trans hgwu2 (Chg.mono (T := fun b => b = p ∨ w.heap.size ≤ b) gu3 (fun b _ h => by first | exact False.elim h | ((try dsimp only at h ⊢); omega)))
        clear hr_u2 hb_u2 oc_u2 hgwu2 hcuu2 br0 br1 brF kbr bb0 bb1 bbF kbb nerb nebr
        clear gu3 hu3
        have br0 := hr_u3.out.c 0 _ rfl
        have br1 := hr_u3.out.c 1 _ rfl
        have brF := hr_u3.out.fr
        have kbr : w.heap.size < u3.heap.size := hr_u3.out.lt
        have bb0 := hb_u3.out.c 0 _ rfl
        have bb1 := hb_u3.out.c 1 _ rfl
        have bbF := hb_u3.out.fr
        have kbb : w.heap.size + 1 < u3.heap.size := hb_u3.out.lt
        have nerb : w.heap.size ≠ w.heap.size + 1 := by omega
        have nebr : w.heap.size + 1 ≠ w.heap.size := by omega
        have hv2 : -9223372036854775808 ≤ v ∧ v ≤ 9223372036854775807 := by simp at hv; omega
        clear hv
        have hset0 := BoxV.set1 hb_u3.out (j := 0) (by simp) (.int .i64 v)
        simp only [List.set_cons_zero, List.set_cons_succ] at hset0
        have hs1 := hide hset0.1
        have hs2 := hide (hr_u3.out.chg hset0.2 (by first | exact fun h => h | ((try dsimp only); omega)))
        have hs3 := hide (oc_u3.out.chg hset0.2 (fun b h1 h2 h3 => by (try dsimp only at h3); omega))
        have hs4 := hcuu3.stays hset0.2 (fun b h => (by first | exact fun h => h | ((try dsimp only); omega)))
        have hs5 := hgwu3.trans (hset0.2.mono (T := fun b => b = p ∨ w.heap.size ≤ b) (fun b _ h => by (try dsimp only at h ⊢); omega))
        have hs6 := hset0.2.size
        clear hset0
        have hset := BoxV.set hs2.out [.int .i64 v, .slice ao cs.length cap] rfl
        simp only [setFrom, Nat.zero_add, Nat.reduceAdd] at hset
        go_wp2
        refine bodyPost_ret (v := .agg #[.int .i64 v, .slice ao cs.length cap]) (by simp [results, Try.results26, go_sem, *]) rfl ⟨v, cs, ao, cap, rfl, ⟨by have := hok.len; omega, hok.wb, hv2⟩, ?_, ?_, ?_⟩
        · exact (OwnCW.chg hs3.out hset.2 (fun b h1 h2 h3 => by (try dsimp only at h3); omega)).mono (by omega) (by have := hset.2.size; omega)
        · exact hs4.stays hset.2 (fun b h => (by first | exact fun h => h | ((try dsimp only); omega)))
        · exact (hs5.trans (hset.2.mono (T := fun b => b = p ∨ w.heap.size ≤ b) (fun b _ h => by (try dsimp only at h ⊢); omega))).mono (fun b hb h => by (try dsimp only at h ⊢); omega)
      · skip
        have c0e : (y == 0) = false := by simp [c0]
        by_cases c1 : y = 1
        · skip
          have c1e : (y == 1) = true := by simp [c1]
          clear c0 c1
          obtain ⟨i0, hi0, hz0, hz1, hz2⟩ := info_parts infoChunk
          go_wp2_with fail
          refine wp_region_flowC (fun b => b = p) 8 [(0, 1), (1, 1), (2, 1), (4, 1), (3, 0), (5, 0), (6, 1), (7, 0)] (by kernel_rfl) (by kernel_rfl) ?_
          (refine wpC_pure (v := ?_) rfl rfl (by rfl) ?_ ?_; rotate_left; (focus (intro ws hws; go_simp; (try with_reducible rfl); done)))
          try simp only [Act.put, List.getElem_toArray, List.getElem_cons_zero, List.getElem_cons_succ, List.setIfInBounds_toArray, List.set_cons_zero, List.set_cons_succ]
          (refine wpC_pure (v := ?_) rfl rfl (by rfl) ?_ ?_; rotate_left; (focus (intro ws hws; obtain ⟨q0, p0⟩ := hws.row (k := w.heap.size + 1) (by first | assumption | (simp; done) | (simp; omega) | omega) (by first | exact fun h => h | ((try dsimp only); omega)); go_simp; (try with_reducible rfl); done)))
          try simp only [Act.put, List.getElem_toArray, List.getElem_cons_zero, List.getElem_cons_succ, List.setIfInBounds_toArray, List.set_cons_zero, List.set_cons_succ]
          (refine wpC_pure (v := ?_) rfl rfl (by rfl) ?_ ?_; rotate_left; (focus (intro ws hws; go_simp; (try with_reducible rfl); done)))
          try simp only [Act.put, List.getElem_toArray, List.getElem_cons_zero, List.getElem_cons_succ, List.setIfInBounds_toArray, List.set_cons_zero, List.set_cons_succ]
          (refine wpC_pure (v := ?_) rfl rfl (by rfl) ?_ ?_; rotate_left; (focus (intro ws hws; go_simp; (try with_reducible rfl); done)))
          try simp only [Act.put, List.getElem_toArray, List.getElem_cons_zero, List.getElem_cons_succ, List.setIfInBounds_toArray, List.set_cons_zero, List.set_cons_succ]
          (refine wpC_call 27 ?_ rfl rfl (by rfl) ?_ ?_; rotate_left; (focus (go_simp; (try with_reducible rfl); done)))
          refine (l1Below_pos p code 20 _ (by omega) (hcuu2.stays (S := fun b => False) (by repeat (first | with_reducible exact Chg.refl _ _ | with_reducible refine Chg.alloc ?_ _ | with_reducible refine Chg.drew ?_ | ((with_reducible refine Chg.set ?_ ?_ _); (focus (first | (left; first | rfl | (simp; done) | ((try dsimp only); omega) | (simp; omega)) | (right; simp; done) | (right; simp; omega) | (right; omega)))))) (fun b h => (by first | exact fun h => h | ((try dsimp only); omega))))).mono ?_
          rintro en x3 ⟨o, rfl, ⟨o0, o1⟩, hcux3, hx3⟩
          refine ⟨_, rfl, hx3, ?_⟩
          try simp only [Act.put, List.getElem_toArray, List.getElem_cons_zero, List.getElem_cons_succ, List.setIfInBounds_toArray, List.set_cons_zero, List.set_cons_succ]
          have gx3 : Chg (fun b => b = p) u2 x3 := Chg.trans (by repeat (first | with_reducible exact Chg.refl _ _ | with_reducible refine Chg.alloc ?_ _ | with_reducible refine Chg.drew ?_ | ((with_reducible refine Chg.set ?_ ?_ _); (focus (first | (left; first | rfl | (simp; done) | ((try dsimp only); omega) | (simp; omega)) | (right; simp; done) | (right; simp; omega) | (right; omega)))))) (Chg.mono (T := fun b => b = p) hx3 (fun b _ h => by first | exact False.elim h | ((try dsimp only at h ⊢); omega)))
          have zx3 := hx3.size
          (try simp at zx3)
          have yx3 : u2.heap.size ≤ x3.heap.size := gx3.size
          have hr_x3 := hide (hr_u2.out.chg gx3 (by first | exact fun h => h | ((try dsimp only); omega)))
          have hb_x3 := hide (hb_u2.out.chg gx3 (by first | exact fun h => h | ((try dsimp only); omega)))
          have oc_x3 := hide (OwnCW.chg oc_u2.out gx3 (fun b h1 h2 h3 => by first | exact False.elim h3 | ((try dsimp only at h3); omega)))
          have hgwx3 : Chg (fun b => b = p ∨ w.heap.size ≤ b) w x3 := Chg.trans hgwu2 (Chg.mono (T := fun b => b = p ∨ w.heap.size ≤ b) gx3 (fun b _ h => by first | exact False.elim h | ((try dsimp only at h ⊢); omega)))
          clear hr_u2 hb_u2 oc_u2 hgwu2 hcuu2 br0 br1 brF kbr bb0 bb1 bbF kbb nerb nebr
          clear gx3 hx3
          have br0 := hr_x3.out.c 0 _ rfl
          have br1 := hr_x3.out.c 1 _ rfl
          have brF := hr_x3.out.fr
          have kbr : w.heap.size < x3.heap.size := hr_x3.out.lt
          have bb0 := hb_x3.out.c 0 _ rfl
          have bb1 := hb_x3.out.c 1 _ rfl
          have bbF := hb_x3.out.fr
          have kbb : w.heap.size + 1 < x3.heap.size := hb_x3.out.lt
          have nerb : w.heap.size ≠ w.heap.size + 1 := by omega
          have nebr : w.heap.size + 1 ≠ w.heap.size := by omega
          (refine wpC_call 30 ?_ rfl rfl (by rfl) ?_ ?_; rotate_left; (focus (go_simp; (try with_reducible rfl); done)))
          refine (l4Data_any p code 3 _ (hcux3.stays (S := fun b => False) (by repeat (first | with_reducible exact Chg.refl _ _ | with_reducible refine Chg.alloc ?_ _ | with_reducible refine Chg.drew ?_ | ((with_reducible refine Chg.set ?_ ?_ _); (focus (first | (left; first | rfl | (simp; done) | ((try dsimp only); omega) | (simp; omega)) | (right; simp; done) | (right; simp; omega) | (right; omega)))))) (fun b h => (by first | exact fun h => h | ((try dsimp only); omega)))) (by omega) (by omega)).mono ?_
          rintro en x4 ⟨d, rfl, hd, hcux4, hx4⟩
          refine ⟨_, rfl, hx4, ?_⟩
          try simp only [Act.put, List.getElem_toArray, List.getElem_cons_zero, List.getElem_cons_succ, List.setIfInBounds_toArray, List.set_cons_zero, List.set_cons_succ]
          have gx4 : Chg (fun b => b = p) x3 x4 := Chg.trans (by repeat (first | with_reducible exact Chg.refl _ _ | with_reducible refine Chg.alloc ?_ _ | with_reducible refine Chg.drew ?_ | ((with_reducible refine Chg.set ?_ ?_ _); (focus (first | (left; first | rfl | (simp; done) | ((try dsimp only); omega) | (simp; omega)) | (right; simp; done) | (right; simp; omega) | (right; omega)))))) (Chg.mono (T := fun b => b = p) hx4 (fun b _ h => by first | exact False.elim h | ((try dsimp only at h ⊢); omega)))
          have zx4 := hx4.size
          (try simp at zx4)
          have yx4 : x3.heap.size ≤ x4.heap.size := gx4.size
          have hr_x4 := hide (hr_x3.out.chg gx4 (by first | exact fun h => h | ((try dsimp only); omega)))
          have hb_x4 := hide (hb_x3.out.chg gx4 (by first | exact fun h => h | ((try dsimp only); omega)))
          have oc_x4 := hide (OwnCW.chg oc_x3.out gx4 (fun b h1 h2 h3 => by first | exact False.elim h3 | ((try dsimp only at h3); omega)))
          have hgwx4 : Chg (fun b => b = p ∨ w.heap.size ≤ b) w x4 := Chg.trans hgwx3 (Chg.mono (T := fun b => b = p ∨ w.heap.size ≤ b) gx4 (fun b _ h => by first | exact False.elim h | ((try dsimp only at h ⊢); omega)))
          clear hr_x3 hb_x3 oc_x3 hgwx3 hcux3 br0 br1 brF kbr bb0 bb1 bbF kbb nerb nebr
          clear gx4 hx4
          have br0 := hr_x4.out.c 0 _ rfl
          have br1 := hr_x4.out.c 1 _ rfl
          have brF := hr_x4.out.fr
          have kbr : w.heap.size < x4.heap.size := hr_x4.out.lt
          have bb0 := hb_x4.out.c 0 _ rfl
          have bb1 := hb_x4.out.c 1 _ rfl
          have bbF := hb_x4.out.fr
          have kbb : w.heap.size + 1 < x4.heap.size := hb_x4.out.lt
          have nerb : w.heap.size ≠ w.heap.size + 1 := by omega
          have nebr : w.heap.size + 1 ≠ w.heap.size := by omega
          (refine wpC_pure (v := ?_) rfl rfl (by rfl) ?_ ?_; rotate_left; (focus (intro ws hws; go_simp; (try with_reducible rfl); done)))
          try simp only [Act.put, List.getElem_toArray, List.getElem_cons_zero, List.getElem_cons_succ, List.setIfInBounds_toArray, List.set_cons_zero, List.set_cons_succ]
          refine wpC_made (.slice (some ⟨x4.heap.size, 0, none⟩) 1 1) (x4.alloc (.cells #[.int .i64 o, .string d] 53)) rfl rfl (by rfl) (by go_simp) (Chg.alloc (Chg.refl _ _) _) ?_
          try simp only [Act.put, List.getElem_toArray, List.getElem_cons_zero, List.getElem_cons_succ, List.setIfInBounds_toArray, List.set_cons_zero, List.set_cons_succ]
          refine wpF_done rfl ?_
          simp only [List.drop_succ_cons, List.drop_zero, List.drop_nil]
          have hcl := ckCells_length cs
          have hlen := hok.len
          go_wp2_with (at_builtin; refine wpList_append_lies _ rfl _ _ _ (by rfl) (w.heap.size + 2) 53 i0 _ 2 24 Try.underlying24 hi0 hz0 hz1 hz2 rfl (by omega) (.slice ao cs.length cap) cs.length _ (by rfl) ((oc_x4.out.1).alloc _) ⟨x4.heap.size, 0, none⟩ 1 1 [.int .i64 o, .string d] (by rfl) (by rfl) (World.news_of_block (cs := #[.int .i64 o, .string d]) (t := 53) (fr := (0, 0)) (heap_alloc_new x4 _)) (by simp [Value.oneCell']) (by omega) (by simp [maxLen] <;> omega) (by omega) (by simp; omega) (x4.heap.size + 1) (by simp) ?_)
          intro gg capg wg hown1 hgrow1 hat1 hlt1
          have hgc : Chg (fun b => (Value.slice ao cs.length cap).ownBlock = some b) x4 wg := (((Ext.refl x4).alloc _).chg _).trans (grown_chg hgrow1 (fun k hk => hk))
          have hlb : ∀ b, (Value.slice ao cs.length cap).ownBlock = some b → w.heap.size + 2 ≤ b ∧ b < x4.heap.size := fun b hb => (oc_x4.out.1).lt _ hb
          rw [ckCells_app2 cs o d] at hown1
          have how : OwnCW (w.heap.size + 2) wg.heap.size wg (some ⟨gg, 0, none⟩) capg (cs ++ [(o, d)]) := by
            have hl : (cs ++ [(o, d)]).length = cs.length + 1 := by simp
            refine ⟨by rw [hl]; exact hown1, ?_⟩
            rw [hl]
            exact fun k hk => (hown1.lt k hk).2
          replace how := hide how
          have zg := hgc.size
          clear hgrow1 hat1 hlt1 hown1
          have hr1 := hide (hr_x4.out.chg hgc (fun h => by have := hlb _ h; omega))
          have hr2 := hide (hb_x4.out.chg hgc (fun h => by have := hlb _ h; omega))
          have hr4 := hcux4.stays hgc (fun b h hb => by have := hlb b hb; omega)
          have hr5 := hgwx4.trans (hgc.mono (T := fun b => b = p ∨ w.heap.size ≤ b) (fun b _ h => by have := hlb b h; (try dsimp only); omega))
          clear hgc hlb br0 br1 brF kbr bb0 bb1 bbF kbb nerb nebr hr_x4 hb_x4 hcux4 hgwx4 oc_x4
          have br0 := hr1.out.c 0 _ rfl
          have br1 := hr1.out.c 1 _ rfl
          have brF := hr1.out.fr
          have kbr : w.heap.size < wg.heap.size := hr1.out.lt
          have bb0 := hr2.out.c 0 _ rfl
          have bb1 := hr2.out.c 1 _ rfl
          have bbF := hr2.out.fr
          have kbb : w.heap.size + 1 < wg.heap.size := hr2.out.lt
          have nerb : w.heap.size ≠ w.heap.size + 1 := by omega
          have nebr : w.heap.size + 1 ≠ w.heap.size := by omega
          have hset0 := BoxV.set1 hr2.out (j := 1) (by simp) (.slice (some ⟨gg, 0, none⟩) (cs.length + 1) capg)
          simp only [List.set_cons_zero, List.set_cons_succ] at hset0
          have hs1 := hide hset0.1
          have hs2 := hide (hr1.out.chg hset0.2 (by first | exact fun h => h | ((try dsimp only); omega)))
          have hs3 := hide (how.out.chg hset0.2 (fun b h1 h2 h3 => by (try dsimp only at h3); omega))
          have hs4 := hr4.stays hset0.2 (fun b h => (by first | exact fun h => h | ((try dsimp only); omega)))
          have hs5 := hr5.trans (hset0.2.mono (T := fun b => b = p ∨ w.heap.size ≤ b) (fun b _ h => by (try dsimp only at h ⊢); omega))
          have hs6 := hset0.2.size
          clear hset0
          have hset := BoxV.set hs2.out [.int .i64 nx, .slice (some ⟨gg, 0, none⟩) (cs.length + 1) capg] rfl
          simp only [setFrom, Nat.zero_add, Nat.reduceAdd] at hset
          go_wp2
          refine bodyPost_ret (v := .agg #[.int .i64 nx, .slice (some ⟨gg, 0, none⟩) (cs.length + 1) capg]) (by simp [results, Try.results26, go_sem, *]) rfl ⟨nx, (cs ++ [(o, d)]), (some ⟨gg, 0, none⟩), capg, by rw [List.length_append]; rfl, ⟨by rw [List.length_append]; have := hok.len; show cs.length + 1 ≤ 8; omega, fun c hc => by rcases List.mem_append.1 hc with h | h; exact hok.wb c h; obtain rfl := List.mem_singleton.1 h; exact ⟨by (try dsimp only); omega, by (try dsimp only); omega⟩, hok.nx⟩, ?_, ?_, ?_⟩
          · exact (OwnCW.chg hs3.out hset.2 (fun b h1 h2 h3 => by (try dsimp only at h3); omega)).mono (by omega) (by have := hset.2.size; omega)
          · exact hs4.stays hset.2 (fun b h => (by first | exact fun h => h | ((try dsimp only); omega)))
          · exact (hs5.trans (hset.2.mono (T := fun b => b = p ∨ w.heap.size ≤ b) (fun b _ h => by (try dsimp only at h ⊢); omega))).mono (fun b hb h => by (try dsimp only at h ⊢); omega)
        · have c1e : (y == 1) = false := by simp [c1]
          have hset := BoxV.set hr_u2.out [.int .i64 nx, .slice ao cs.length cap] rfl
          simp only [setFrom, Nat.zero_add, Nat.reduceAdd] at hset
          go_wp2
          refine bodyPost_ret (v := .agg #[.int .i64 nx, .slice ao cs.length cap]) (by simp [results, Try.results26, go_sem, *]) rfl ⟨nx, cs, ao, cap, rfl, ⟨by have := hok.len; omega, hok.wb, hok.nx⟩, ?_, ?_, ?_⟩
          · exact (OwnCW.chg oc_u2.out hset.2 (fun b h1 h2 h3 => by (try dsimp only at h3); omega)).mono (by omega) (by have := hset.2.size; omega)
          · exact hcuu2.stays hset.2 (fun b h => (by first | exact fun h => h | ((try dsimp only); omega)))
          · exact (hgwu2.trans (hset.2.mono (T := fun b => b = p ∨ w.heap.size ≤ b) (fun b _ h => by (try dsimp only at h ⊢); omega))).mono (fun b hb h => by (try dsimp only at h ⊢); omega)
end Go.Proofs.Ytjnbiacnhimkgaa

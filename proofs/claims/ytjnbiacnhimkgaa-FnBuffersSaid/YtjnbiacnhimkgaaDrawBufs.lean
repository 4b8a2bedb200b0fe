/-
  The draws of FnBuffers. Condition: the code can be read.
-/
import Derived.Test.YtjnbiacnhimkgaaDrawBuf
namespace Go.Proofs.Ytjnbiacnhimkgaa
open Go.ChangeShapes Go.WideShapes Go.ChangeAt Go.RowKit
set_option linter.unusedSimpArgs false
set_option linter.unusedVariables false
def DrewBuf1 (w : World) (en : Ending) (w' : World) : Prop :=
  ∃ (nx : Int) (cs : List Ck) (ao : Option Addr) (cap : Nat), en = .returned (.agg #[.int .i64 nx, .slice ao cs.length cap]) ∧ BufOk 8 nx cs ∧ OwnC w.heap.size w'.heap.size w' ao cs ∧ Ext w w'
def DrewBuf2 (w : World) (en : Ending) (w' : World) : Prop :=
  ∃ (nx1 nx2 : Int) (cs1 cs2 : List Ck) (ao1 ao2 : Option Addr) (cap1 cap2 : Nat), en = .returned (.tuple #[.agg #[.int .i64 nx1, .slice ao1 cs1.length cap1], .agg #[.int .i64 nx2, .slice ao2 cs2.length cap2]]) ∧ BufOk 8 nx1 cs1 ∧ BufOk 8 nx2 cs2 ∧ OwnC w.heap.size w'.heap.size w' ao1 cs1 ∧ OwnC w.heap.size w'.heap.size w' ao2 cs2 ∧ Ext w w'
def DrewBufN (w : World) (en : Ending) (w' : World) : Prop :=
  ∃ (nx : Int) (cs : List Ck) (ao : Option Addr) (cap : Nat) (k : Int), en = .returned (.tuple #[.agg #[.int .i64 nx, .slice ao cs.length cap], .int .i64 k]) ∧ BufOk 8 nx cs ∧ (-1 ≤ k ∧ k ≤ 20) ∧ OwnC w.heap.size w'.heap.size w' ao cs ∧ Ext w w'
def DrewBufD (w : World) (en : Ending) (w' : World) : Prop :=
  ∃ (nx : Int) (cs : List Ck) (ao : Option Addr) (cap : Nat) (off : Int) (d : ByteArray), en = .returned (.tuple #[.agg #[.int .i64 nx, .slice ao cs.length cap], .int .i64 off, .string d]) ∧ BufOk 8 nx cs ∧ (-1 ≤ off ∧ off ≤ 4611686018427387903) ∧ (d.size : Int) ≤ 5 ∧ OwnC w.heap.size w'.heap.size w' ao cs ∧ Ext w w'
set_option maxHeartbeats 4000000 in
set_option maxRecDepth 100000 in
theorem DrawEndOf_any (code : Value) (w : World) (hc : CodeAt w w.heap.size code) :
    Calls Try.prog 17 #[code] w (DrewBuf1 w) := by
  skip
  go_enter Try.func17, Try.ntmps17
  have hgw0 : Chg (fun b => w.heap.size ≤ b) w w := Chg.refl _ _
  go_wp2_with fail
  refine (l1New_any code _ (hc.grown (by repeat (first | with_reducible exact Ext.refl _ | with_reducible refine Ext.alloc ?_ _)))).mono ?_
  rintro en w1 ⟨rfl, hcuw1, hw1⟩
  (try simp only [World.size_alloc] at hcuw1)
  have hcl := hcuw1.lt
  have gw1 : Chg (fun b => False) w w1 := Chg.trans (by repeat (first | with_reducible exact Chg.refl _ _ | with_reducible refine Chg.alloc ?_ _ | with_reducible refine Chg.drew ?_ | ((with_reducible refine Chg.set ?_ ?_ _); (focus (first | (left; first | rfl | (simp; done) | ((try dsimp only); omega) | (simp; omega)) | (right; simp; done) | (right; simp; omega) | (right; omega)))))) (Ext.chg hw1 _)
  have zw1 := hw1.size
  (try simp at zw1)
  have yw1 : w.heap.size ≤ w1.heap.size := gw1.size
  have hr_w1 := hide (BoxV.chg (BoxV.new w [.int .i64 0, .slice none 0 0] 26) (S := fun b => False) (Chg.trans (by repeat (first | with_reducible exact Chg.refl _ _ | with_reducible refine Chg.alloc ?_ _ | with_reducible refine Chg.drew ?_ | ((with_reducible refine Chg.set ?_ ?_ _); (focus (first | (left; first | rfl | (simp; done) | ((try dsimp only); omega) | (simp; omega)) | (right; simp; done) | (right; simp; omega) | (right; omega)))))) (Ext.chg hw1 _)) (by first | exact fun h => h | ((try dsimp only); omega)))
  have hgww1 : Chg (fun b => w.heap.size ≤ b) w w1 := Chg.trans hgw0 (Chg.mono (T := fun b => w.heap.size ≤ b) gw1 (fun b _ h => by first | exact False.elim h | ((try dsimp only at h ⊢); omega)))
  clear hgw0
  clear gw1 hw1
  have br0 := hr_w1.out.c 0 _ rfl
  have br1 := hr_w1.out.c 1 _ rfl
  have brF := hr_w1.out.fr
  have kbr : w.heap.size < w1.heap.size := hr_w1.out.lt
  go_wp2_with fail
  refine (l6Buffer_any (w.heap.size + 1) code _ (hcuw1.stays (S := fun b => False) (by repeat (first | with_reducible exact Chg.refl _ _ | with_reducible refine Chg.alloc ?_ _ | with_reducible refine Chg.drew ?_ | ((with_reducible refine Chg.set ?_ ?_ _); (focus (first | (left; first | rfl | (simp; done) | ((try dsimp only); omega) | (simp; omega)) | (right; simp; done) | (right; simp; omega) | (right; omega)))))) (fun b h => (by first | exact fun h => h | ((try dsimp only); omega))))).mono ?_
  rintro en w2 ⟨nx, cs, ao, cap, rfl, ok, ob, hcuw2, hw2⟩
  have gw2 : Chg (fun b => b = (w.heap.size + 1)) w1 w2 := Chg.trans (by repeat (first | with_reducible exact Chg.refl _ _ | with_reducible refine Chg.alloc ?_ _ | with_reducible refine Chg.drew ?_ | ((with_reducible refine Chg.set ?_ ?_ _); (focus (first | (left; first | rfl | (simp; done) | ((try dsimp only); omega) | (simp; omega)) | (right; simp; done) | (right; simp; omega) | (right; omega)))))) (Chg.mono (T := fun b => b = (w.heap.size + 1)) hw2 (fun b _ h => by first | exact False.elim h | ((try dsimp only at h ⊢); omega)))
  have zw2 := hw2.size
  (try simp at zw2)
  have yw2 : w1.heap.size ≤ w2.heap.size := gw2.size
  have hr_w2 := hide (hr_w1.out.chg gw2 (by first | exact fun h => h | ((try dsimp only); omega)))
  have hgww2 : Chg (fun b => w.heap.size ≤ b) w w2 := Chg.trans hgww1 (Chg.mono (T := fun b => w.heap.size ≤ b) gw2 (fun b _ h => by first | exact False.elim h | ((try dsimp only at h ⊢); omega)))
  clear hr_w1 hgww1 hcuw1 br0 br1 brF kbr
  clear gw2 hw2
  have br0 := hr_w2.out.c 0 _ rfl
  have br1 := hr_w2.out.c 1 _ rfl
  have brF := hr_w2.out.fr
  have kbr : w.heap.size < w2.heap.size := hr_w2.out.lt
  (try simp only [World.size_alloc, World.size_drew, World.size_setCell] at ob)
  replace ob := hide ob
  have hset1 := BoxV.set hr_w2.out [.int .i64 nx, .slice ao cs.length cap] rfl
  simp only [setFrom, Nat.zero_add, Nat.reduceAdd] at hset1
  have hr_s1 := hide hset1.1
  have ob_s1 := hide (ob.out.chg hset1.2 (fun b h1 h2 h3 => by (try dsimp only at h3); omega))
  have hgs1 := hgww2.trans (hset1.2.mono (T := fun b => w.heap.size ≤ b) (fun b _ h => by (try dsimp only at h ⊢); omega))
  have hzs1 := hset1.2.size
  clear hset1
  go_wp2
  refine bodyPost_ret (v := .agg #[.int .i64 nx, .slice ao cs.length cap]) (by simp [results, Try.results17, go_sem, *]) rfl ⟨nx, cs, ao, cap, rfl, ok, ?_, ?_⟩
  · exact ob_s1.out.own.mono (by omega) (by omega)
  · exact hgs1.ext (fun b h1 h2 => by (try dsimp only at h2); omega)
set_option maxHeartbeats 4000000 in
set_option maxRecDepth 100000 in
theorem DrawByteAt_any (code : Value) (w : World) (hc : CodeAt w w.heap.size code) :
    Calls Try.prog 18 #[code] w (DrewBufN w) := by
  skip
  go_enter Try.func18, Try.ntmps18
  have hgw0 : Chg (fun b => w.heap.size ≤ b) w w := Chg.refl _ _
  go_wp2_with fail
  refine (l1New_any code _ (hc.grown (by repeat (first | with_reducible exact Ext.refl _ | with_reducible refine Ext.alloc ?_ _)))).mono ?_
  rintro en w1 ⟨rfl, hcuw1, hw1⟩
  (try simp only [World.size_alloc] at hcuw1)
  have hcl := hcuw1.lt
  have gw1 : Chg (fun b => False) w w1 := Chg.trans (by repeat (first | with_reducible exact Chg.refl _ _ | with_reducible refine Chg.alloc ?_ _ | with_reducible refine Chg.drew ?_ | ((with_reducible refine Chg.set ?_ ?_ _); (focus (first | (left; first | rfl | (simp; done) | ((try dsimp only); omega) | (simp; omega)) | (right; simp; done) | (right; simp; omega) | (right; omega)))))) (Ext.chg hw1 _)
  have zw1 := hw1.size
  (try simp at zw1)
  have yw1 : w.heap.size ≤ w1.heap.size := gw1.size
  have hr_w1 := hide (BoxV.chg (BoxV.new w [.int .i64 0, .slice none 0 0] 26) (S := fun b => False) (Chg.trans (by repeat (first | with_reducible exact Chg.refl _ _ | with_reducible refine Chg.alloc ?_ _ | with_reducible refine Chg.drew ?_ | ((with_reducible refine Chg.set ?_ ?_ _); (focus (first | (left; first | rfl | (simp; done) | ((try dsimp only); omega) | (simp; omega)) | (right; simp; done) | (right; simp; omega) | (right; omega)))))) (Ext.chg hw1 _)) (by first | exact fun h => h | ((try dsimp only); omega)))
  have hgww1 : Chg (fun b => w.heap.size ≤ b) w w1 := Chg.trans hgw0 (Chg.mono (T := fun b => w.heap.size ≤ b) gw1 (fun b _ h => by first | exact False.elim h | ((try dsimp only at h ⊢); omega)))
  clear hgw0
  clear gw1 hw1
  have br0 := hr_w1.out.c 0 _ rfl
  have br1 := hr_w1.out.c 1 _ rfl
  have brF := hr_w1.out.fr
  have kbr : w.heap.size < w1.heap.size := hr_w1.out.lt
  go_wp2_with fail
  refine (l6Buffer_any (w.heap.size + 1) code _ (hcuw1.stays (S := fun b => False) (by repeat (first | with_reducible exact Chg.refl _ _ | with_reducible refine Chg.alloc ?_ _ | with_reducible refine Chg.drew ?_ | ((with_reducible refine Chg.set ?_ ?_ _); (focus (first | (left; first | rfl | (simp; done) | ((try dsimp only); omega) | (simp; omega)) | (right; simp; done) | (right; simp; omega) | (right; omega)))))) (fun b h => (by first | exact fun h => h | ((try dsimp only); omega))))).mono ?_
  rintro en w2 ⟨nx, cs, ao, cap, rfl, ok, ob, hcuw2, hw2⟩
  have gw2 : Chg (fun b => b = (w.heap.size + 1)) w1 w2 := Chg.trans (by repeat (first | with_reducible exact Chg.refl _ _ | with_reducible refine Chg.alloc ?_ _ | with_reducible refine Chg.drew ?_ | ((with_reducible refine Chg.set ?_ ?_ _); (focus (first | (left; first | rfl | (simp; done) | ((try dsimp only); omega) | (simp; omega)) | (right; simp; done) | (right; simp; omega) | (right; omega)))))) (Chg.mono (T := fun b => b = (w.heap.size + 1)) hw2 (fun b _ h => by first | exact False.elim h | ((try dsimp only at h ⊢); omega)))
  have zw2 := hw2.size
  (try simp at zw2)
  have yw2 : w1.heap.size ≤ w2.heap.size := gw2.size
  have hr_w2 := hide (hr_w1.out.chg gw2 (by first | exact fun h => h | ((try dsimp only); omega)))
  have hgww2 : Chg (fun b => w.heap.size ≤ b) w w2 := Chg.trans hgww1 (Chg.mono (T := fun b => w.heap.size ≤ b) gw2 (fun b _ h => by first | exact False.elim h | ((try dsimp only at h ⊢); omega)))
  clear hr_w1 hgww1 hcuw1 br0 br1 brF kbr
  clear gw2 hw2
  have br0 := hr_w2.out.c 0 _ rfl
  have br1 := hr_w2.out.c 1 _ rfl
  have brF := hr_w2.out.fr
  have kbr : w.heap.size < w2.heap.size := hr_w2.out.lt
  (try simp only [World.size_alloc, World.size_drew, World.size_setCell] at ob)
  replace ob := hide ob
  go_wp2_with fail
  refine wp_region_flowC (fun b => b = (w.heap.size + 1) ∨ b = w.heap.size) 5 [(0, 1), (1, 1), (2, 0), (3, 1), (4, 0)] (by kernel_rfl) (by kernel_rfl) ?_
  (refine wpC_pure (v := ?_) rfl rfl (by rfl) ?_ ?_; rotate_left; (focus (intro ws hws; obtain ⟨q0, p0⟩ := hws.row (k := w2.heap.size) (by first | assumption | (simp; done) | (simp; omega) | omega) (by first | exact fun h => h | ((try dsimp only); omega)); go_simp; (try with_reducible rfl); done)))
  try simp only [Act.put, List.getElem_toArray, List.getElem_cons_zero, List.getElem_cons_succ, List.setIfInBounds_toArray, List.set_cons_zero, List.set_cons_succ]
  (refine wpC_pure (v := ?_) rfl rfl (by rfl) ?_ ?_; rotate_left; (focus (intro ws hws; go_simp; (try with_reducible rfl); done)))
  try simp only [Act.put, List.getElem_toArray, List.getElem_cons_zero, List.getElem_cons_succ, List.setIfInBounds_toArray, List.set_cons_zero, List.set_cons_succ]
  (refine wpC_call 27 ?_ rfl rfl (by rfl) ?_ ?_; rotate_left; (focus (go_simp; (try with_reducible rfl); done)))
  refine (l1Below_pos (w.heap.size + 1) code 20 _ (by omega) (hcuw2.stays (S := fun b => False) (by repeat (first | with_reducible exact Chg.refl _ _ | with_reducible refine Chg.alloc ?_ _ | with_reducible refine Chg.drew ?_ | ((with_reducible refine Chg.set ?_ ?_ _); (focus (first | (left; first | rfl | (simp; done) | ((try dsimp only); omega) | (simp; omega)) | (right; simp; done) | (right; simp; omega) | (right; omega)))))) (fun b h => (by first | exact fun h => h | ((try dsimp only); omega))))).mono ?_
  rintro en w3 ⟨k, rfl, ⟨k0, k1⟩, hcuw3, hw3⟩
  refine ⟨_, rfl, (Chg.mono hw3 (fun b _ h => Or.inl h)), ?_⟩
  try simp only [Act.put, List.getElem_toArray, List.getElem_cons_zero, List.getElem_cons_succ, List.setIfInBounds_toArray, List.set_cons_zero, List.set_cons_succ]
  have gw3 : Chg (fun b => b = (w.heap.size + 1)) w2 w3 := Chg.trans (by repeat (first | with_reducible exact Chg.refl _ _ | with_reducible refine Chg.alloc ?_ _ | with_reducible refine Chg.drew ?_ | ((with_reducible refine Chg.set ?_ ?_ _); (focus (first | (left; first | rfl | (simp; done) | ((try dsimp only); omega) | (simp; omega)) | (right; simp; done) | (right; simp; omega) | (right; omega)))))) (Chg.mono (T := fun b => b = (w.heap.size + 1)) hw3 (fun b _ h => by first | exact False.elim h | ((try dsimp only at h ⊢); omega)))
  have zw3 := hw3.size
  (try simp at zw3)
  have yw3 : w2.heap.size ≤ w3.heap.size := gw3.size
  have hr_w3 := hide (hr_w2.out.chg gw3 (by first | exact fun h => h | ((try dsimp only); omega)))
  have hx_w3 := hide (BoxV.chg (BoxV.new w2 [.int .i64 nx, .slice ao cs.length cap] 26) (S := fun b => b = (w.heap.size + 1)) (Chg.trans (by repeat (first | with_reducible exact Chg.refl _ _ | with_reducible refine Chg.alloc ?_ _ | with_reducible refine Chg.drew ?_ | ((with_reducible refine Chg.set ?_ ?_ _); (focus (first | (left; first | rfl | (simp; done) | ((try dsimp only); omega) | (simp; omega)) | (right; simp; done) | (right; simp; omega) | (right; omega)))))) (Chg.mono (T := fun b => b = (w.heap.size + 1)) hw3 (fun b _ h => by first | exact False.elim h | ((try dsimp only at h ⊢); omega)))) (by first | exact fun h => h | ((try dsimp only); omega)))
  have oob_w3 := hide (OwnCW.chg ob.out gw3 (fun b h1 h2 h3 => by first | exact False.elim h3 | ((try dsimp only at h3); omega)))
  have hgww3 : Chg (fun b => w.heap.size ≤ b) w w3 := Chg.trans hgww2 (Chg.mono (T := fun b => w.heap.size ≤ b) gw3 (fun b _ h => by first | exact False.elim h | ((try dsimp only at h ⊢); omega)))
  clear hr_w2 ob hgww2 hcuw2 br0 br1 brF kbr
  clear gw3 hw3
  have br0 := hr_w3.out.c 0 _ rfl
  have br1 := hr_w3.out.c 1 _ rfl
  have brF := hr_w3.out.fr
  have kbr : w.heap.size < w3.heap.size := hr_w3.out.lt
  have bx0 := hx_w3.out.c 0 _ rfl
  have bx1 := hx_w3.out.c 1 _ rfl
  have bxF := hx_w3.out.fr
  have kbx : w2.heap.size < w3.heap.size := hx_w3.out.lt
  have nerx : w.heap.size ≠ w2.heap.size := by omega
  have nexr : w2.heap.size ≠ w.heap.size := by omega
  (refine wpC_pure (v := ?_) rfl rfl (by rfl) ?_ ?_; rotate_left; (focus (intro ws hws; go_simp; (try with_reducible rfl); done)))
  try simp only [Act.put, List.getElem_toArray, List.getElem_cons_zero, List.getElem_cons_succ, List.setIfInBounds_toArray, List.set_cons_zero, List.set_cons_succ]
  (refine wpC_store ?_ rfl rfl (by rfl) ?_ ?_ ?_; rotate_left; (focus (go_simp; (try with_reducible rfl); done)))
  · exact (by repeat (first | with_reducible exact Chg.refl _ _ | with_reducible refine Chg.alloc ?_ _ | with_reducible refine Chg.drew ?_ | ((with_reducible refine Chg.set ?_ ?_ _); (focus (first | (left; first | rfl | (simp; done) | ((try dsimp only); omega) | (simp; omega)) | (right; simp; done) | (right; simp; omega) | (right; omega))))))
  try simp only [Act.put, List.getElem_toArray, List.getElem_cons_zero, List.getElem_cons_succ, List.setIfInBounds_toArray, List.set_cons_zero, List.set_cons_succ]
  refine wpF_done rfl ?_
  simp only [List.drop_succ_cons, List.drop_zero, List.drop_nil]
  have hkw : IntKind.i64.wrap (k - 1) = k - 1 := IntWalk.i64_in _ (by omega)
  have hset1 := BoxV.set hr_w3.out [.int .i64 nx, .slice ao cs.length cap] rfl
  simp only [setFrom, Nat.zero_add, Nat.reduceAdd] at hset1
  have hr_s1 := hide hset1.1
  have hx_s1 := hide (hx_w3.out.chg hset1.2 (by first | exact fun h => h | ((try dsimp only); omega)))
  have ob_s1 := hide (oob_w3.out.chg hset1.2 (fun b h1 h2 h3 => by (try dsimp only at h3); omega))
  have hgs1 := hgww3.trans (hset1.2.mono (T := fun b => w.heap.size ≤ b) (fun b _ h => by (try dsimp only at h ⊢); omega))
  have hzs1 := hset1.2.size
  clear hset1
  go_wp2
  refine bodyPost_ret (v := .tuple #[.agg #[.int .i64 nx, .slice ao cs.length cap], .int .i64 (k - 1)]) (by simp [results, Try.results18, go_sem, *]) rfl ⟨nx, cs, ao, cap, k - 1, rfl, ok, (by omega), ?_, ?_⟩
  · exact ob_s1.out.own.mono (by omega) (by omega)
  · exact hgs1.ext (fun b h1 h2 => by (try dsimp only at h2); omega)
set_option maxHeartbeats 4000000 in
set_option maxRecDepth 100000 in
theorem DrawInsertData_any (code : Value) (w : World) (hc : CodeAt w w.heap.size code) :
    Calls Try.prog 5 #[code] w (DrewBufD w) := by
  skip
  go_enter Try.func5, Try.ntmps5
  have hgw0 : Chg (fun b => w.heap.size ≤ b) w w := Chg.refl _ _
  go_wp2_with fail
  refine (l1New_any code _ (hc.grown (by repeat (first | with_reducible exact Ext.refl _ | with_reducible refine Ext.alloc ?_ _)))).mono ?_
  rintro en w1 ⟨rfl, hcuw1, hw1⟩
  (try simp only [World.size_alloc] at hcuw1)
  have hcl := hcuw1.lt
  have gw1 : Chg (fun b => False) w w1 := Chg.trans (by repeat (first | with_reducible exact Chg.refl _ _ | with_reducible refine Chg.alloc ?_ _ | with_reducible refine Chg.drew ?_ | ((with_reducible refine Chg.set ?_ ?_ _); (focus (first | (left; first | rfl | (simp; done) | ((try dsimp only); omega) | (simp; omega)) | (right; simp; done) | (right; simp; omega) | (right; omega)))))) (Ext.chg hw1 _)
  have zw1 := hw1.size
  (try simp at zw1)
  have yw1 : w.heap.size ≤ w1.heap.size := gw1.size
  have hr_w1 := hide (BoxV.chg (BoxV.new w [.int .i64 0, .slice none 0 0] 26) (S := fun b => False) (Chg.trans (by repeat (first | with_reducible exact Chg.refl _ _ | with_reducible refine Chg.alloc ?_ _ | with_reducible refine Chg.drew ?_ | ((with_reducible refine Chg.set ?_ ?_ _); (focus (first | (left; first | rfl | (simp; done) | ((try dsimp only); omega) | (simp; omega)) | (right; simp; done) | (right; simp; omega) | (right; omega)))))) (Ext.chg hw1 _)) (by first | exact fun h => h | ((try dsimp only); omega)))
  have hgww1 : Chg (fun b => w.heap.size ≤ b) w w1 := Chg.trans hgw0 (Chg.mono (T := fun b => w.heap.size ≤ b) gw1 (fun b _ h => by first | exact False.elim h | ((try dsimp only at h ⊢); omega)))
  clear hgw0
  clear gw1 hw1
  have br0 := hr_w1.out.c 0 _ rfl
  have br1 := hr_w1.out.c 1 _ rfl
  have brF := hr_w1.out.fr
  have kbr : w.heap.size < w1.heap.size := hr_w1.out.lt
  go_wp2_with fail
  refine (l6Buffer_any (w.heap.size + 1) code _ (hcuw1.stays (S := fun b => False) (by repeat (first | with_reducible exact Chg.refl _ _ | with_reducible refine Chg.alloc ?_ _ | with_reducible refine Chg.drew ?_ | ((with_reducible refine Chg.set ?_ ?_ _); (focus (first | (left; first | rfl | (simp; done) | ((try dsimp only); omega) | (simp; omega)) | (right; simp; done) | (right; simp; omega) | (right; omega)))))) (fun b h => (by first | exact fun h => h | ((try dsimp only); omega))))).mono ?_
  rintro en w2 ⟨nx, cs, ao, cap, rfl, ok, ob, hcuw2, hw2⟩
  have gw2 : Chg (fun b => b = (w.heap.size + 1)) w1 w2 := Chg.trans (by repeat (first | with_reducible exact Chg.refl _ _ | with_reducible refine Chg.alloc ?_ _ | with_reducible refine Chg.drew ?_ | ((with_reducible refine Chg.set ?_ ?_ _); (focus (first | (left; first | rfl | (simp; done) | ((try dsimp only); omega) | (simp; omega)) | (right; simp; done) | (right; simp; omega) | (right; omega)))))) (Chg.mono (T := fun b => b = (w.heap.size + 1)) hw2 (fun b _ h => by first | exact False.elim h | ((try dsimp only at h ⊢); omega)))
  have zw2 := hw2.size
  (try simp at zw2)
  have yw2 : w1.heap.size ≤ w2.heap.size := gw2.size
  have hr_w2 := hide (hr_w1.out.chg gw2 (by first | exact fun h => h | ((try dsimp only); omega)))
  have hgww2 : Chg (fun b => w.heap.size ≤ b) w w2 := Chg.trans hgww1 (Chg.mono (T := fun b => w.heap.size ≤ b) gw2 (fun b _ h => by first | exact False.elim h | ((try dsimp only at h ⊢); omega)))
  clear hr_w1 hgww1 hcuw1 br0 br1 brF kbr
  clear gw2 hw2
  have br0 := hr_w2.out.c 0 _ rfl
  have br1 := hr_w2.out.c 1 _ rfl
  have brF := hr_w2.out.fr
  have kbr : w.heap.size < w2.heap.size := hr_w2.out.lt
  (try simp only [World.size_alloc, World.size_drew, World.size_setCell] at ob)
  replace ob := hide ob
  go_wp2_with fail
  refine (l1Below_pos (w.heap.size + 1) code 16 _ (by omega) (hcuw2.stays (S := fun b => False) (by repeat (first | with_reducible exact Chg.refl _ _ | with_reducible refine Chg.alloc ?_ _ | with_reducible refine Chg.drew ?_ | ((with_reducible refine Chg.set ?_ ?_ _); (focus (first | (left; first | rfl | (simp; done) | ((try dsimp only); omega) | (simp; omega)) | (right; simp; done) | (right; simp; omega) | (right; omega)))))) (fun b h => (by first | exact fun h => h | ((try dsimp only); omega))))).mono ?_
  rintro en w3 ⟨o, rfl, ⟨o0, o1⟩, hcuw3, hw3⟩
  have gw3 : Chg (fun b => b = (w.heap.size + 1)) w2 w3 := Chg.trans (by repeat (first | with_reducible exact Chg.refl _ _ | with_reducible refine Chg.alloc ?_ _ | with_reducible refine Chg.drew ?_ | ((with_reducible refine Chg.set ?_ ?_ _); (focus (first | (left; first | rfl | (simp; done) | ((try dsimp only); omega) | (simp; omega)) | (right; simp; done) | (right; simp; omega) | (right; omega)))))) (Chg.mono (T := fun b => b = (w.heap.size + 1)) hw3 (fun b _ h => by first | exact False.elim h | ((try dsimp only at h ⊢); omega)))
  have zw3 := hw3.size
  (try simp at zw3)
  have yw3 : w2.heap.size ≤ w3.heap.size := gw3.size
  have hr_w3 := hide (hr_w2.out.chg gw3 (by first | exact fun h => h | ((try dsimp only); omega)))
  have hx_w3 := hide (BoxV.chg (BoxV.new w2 [.int .i64 nx, .slice ao cs.length cap] 26) (S := fun b => b = (w.heap.size + 1)) (Chg.trans (by repeat (first | with_reducible exact Chg.refl _ _ | with_reducible refine Chg.alloc ?_ _ | with_reducible refine Chg.drew ?_ | ((with_reducible refine Chg.set ?_ ?_ _); (focus (first | (left; first | rfl | (simp; done) | ((try dsimp only); omega) | (simp; omega)) | (right; simp; done) | (right; simp; omega) | (right; omega)))))) (Chg.mono (T := fun b => b = (w.heap.size + 1)) hw3 (fun b _ h => by first | exact False.elim h | ((try dsimp only at h ⊢); omega)))) (by first | exact fun h => h | ((try dsimp only); omega)))
  have oob_w3 := hide (OwnCW.chg ob.out gw3 (fun b h1 h2 h3 => by first | exact False.elim h3 | ((try dsimp only at h3); omega)))
  have hgww3 : Chg (fun b => w.heap.size ≤ b) w w3 := Chg.trans hgww2 (Chg.mono (T := fun b => w.heap.size ≤ b) gw3 (fun b _ h => by first | exact False.elim h | ((try dsimp only at h ⊢); omega)))
  clear hr_w2 ob hgww2 hcuw2 br0 br1 brF kbr
  clear gw3 hw3
  have br0 := hr_w3.out.c 0 _ rfl
  have br1 := hr_w3.out.c 1 _ rfl
  have brF := hr_w3.out.fr
  have kbr : w.heap.size < w3.heap.size := hr_w3.out.lt
  have bx0 := hx_w3.out.c 0 _ rfl
  have bx1 := hx_w3.out.c 1 _ rfl
  have bxF := hx_w3.out.fr
  have kbx : w2.heap.size < w3.heap.size := hx_w3.out.lt
  have nerx : w.heap.size ≠ w2.heap.size := by omega
  have nexr : w2.heap.size ≠ w.heap.size := by omega
  go_wp2_with fail
  refine (l1Once_any (w.heap.size + 1) code 12 _ (hcuw3.stays (S := fun b => False) (by repeat (first | with_reducible exact Chg.refl _ _ | with_reducible refine Chg.alloc ?_ _ | with_reducible refine Chg.drew ?_ | ((with_reducible refine Chg.set ?_ ?_ _); (focus (first | (left; first | rfl | (simp; done) | ((try dsimp only); omega) | (simp; omega)) | (right; simp; done) | (right; simp; omega) | (right; omega)))))) (fun b h => (by first | exact fun h => h | ((try dsimp only); omega))))).mono ?_
  rintro en w4 ⟨q, rfl, hcuw4, hw4⟩
  have gw4 : Chg (fun b => b = (w.heap.size + 1)) w3 w4 := Chg.trans (by repeat (first | with_reducible exact Chg.refl _ _ | with_reducible refine Chg.alloc ?_ _ | with_reducible refine Chg.drew ?_ | ((with_reducible refine Chg.set ?_ ?_ _); (focus (first | (left; first | rfl | (simp; done) | ((try dsimp only); omega) | (simp; omega)) | (right; simp; done) | (right; simp; omega) | (right; omega)))))) (Chg.mono (T := fun b => b = (w.heap.size + 1)) hw4 (fun b _ h => by first | exact False.elim h | ((try dsimp only at h ⊢); omega)))
  have zw4 := hw4.size
  (try simp at zw4)
  have yw4 : w3.heap.size ≤ w4.heap.size := gw4.size
  have hr_w4 := hide (hr_w3.out.chg gw4 (by first | exact fun h => h | ((try dsimp only); omega)))
  have hx_w4 := hide (hx_w3.out.chg gw4 (by first | exact fun h => h | ((try dsimp only); omega)))
  have oob_w4 := hide (OwnCW.chg oob_w3.out gw4 (fun b h1 h2 h3 => by first | exact False.elim h3 | ((try dsimp only at h3); omega)))
  have hgww4 : Chg (fun b => w.heap.size ≤ b) w w4 := Chg.trans hgww3 (Chg.mono (T := fun b => w.heap.size ≤ b) gw4 (fun b _ h => by first | exact False.elim h | ((try dsimp only at h ⊢); omega)))
  clear hr_w3 hx_w3 oob_w3 hgww3 hcuw3 br0 br1 brF kbr bx0 bx1 bxF kbx nerx nexr
  clear gw4 hw4
  have br0 := hr_w4.out.c 0 _ rfl
  have br1 := hr_w4.out.c 1 _ rfl
  have brF := hr_w4.out.fr
  have kbr : w.heap.size < w4.heap.size := hr_w4.out.lt
  have bx0 := hx_w4.out.c 0 _ rfl
  have bx1 := hx_w4.out.c 1 _ rfl
  have bxF := hx_w4.out.fr
  have kbx : w2.heap.size < w4.heap.size := hx_w4.out.lt
  have nerx : w.heap.size ≠ w2.heap.size := by omega
  have nexr : w2.heap.size ≠ w.heap.size := by omega
  cases q
  · skip
    go_wp2_with fail
    refine wp_region_flowC (fun b => b = (w.heap.size + 1) ∨ b = w.heap.size) 5 [(0, 1), (1, 1), (2, 1), (3, 0), (4, 0)] (by kernel_rfl) (by kernel_rfl) ?_
    (refine wpC_pure (v := ?_) rfl rfl (by rfl) ?_ ?_; rotate_left; (focus (intro ws hws; obtain ⟨q0, p0⟩ := hws.row (k := w2.heap.size) (by first | assumption | (simp; done) | (simp; omega) | omega) (by first | exact fun h => h | ((try dsimp only); omega)); go_simp; (try with_reducible rfl); done)))
    try simp only [Act.put, List.getElem_toArray, List.getElem_cons_zero, List.getElem_cons_succ, List.setIfInBounds_toArray, List.set_cons_zero, List.set_cons_succ]
    (refine wpC_pure (v := ?_) rfl rfl (by rfl) ?_ ?_; rotate_left; (focus (intro ws hws; go_simp; (try with_reducible rfl); done)))
    try simp only [Act.put, List.getElem_toArray, List.getElem_cons_zero, List.getElem_cons_succ, List.setIfInBounds_toArray, List.set_cons_zero, List.set_cons_succ]
    (refine wpC_pure (v := ?_) rfl rfl (by rfl) ?_ ?_; rotate_left; (focus (intro ws hws; go_simp; (try with_reducible rfl); done)))
    try simp only [Act.put, List.getElem_toArray, List.getElem_cons_zero, List.getElem_cons_succ, List.setIfInBounds_toArray, List.set_cons_zero, List.set_cons_succ]
    (refine wpC_call 30 ?_ rfl rfl (by rfl) ?_ ?_; rotate_left; (focus (go_simp; (try with_reducible rfl); done)))
    refine (l4Data_any (w.heap.size + 1) code 5 _ (hcuw4.stays (S := fun b => False) (by repeat (first | with_reducible exact Chg.refl _ _ | with_reducible refine Chg.alloc ?_ _ | with_reducible refine Chg.drew ?_ | ((with_reducible refine Chg.set ?_ ?_ _); (focus (first | (left; first | rfl | (simp; done) | ((try dsimp only); omega) | (simp; omega)) | (right; simp; done) | (right; simp; omega) | (right; omega)))))) (fun b h => (by first | exact fun h => h | ((try dsimp only); omega)))) (by omega) (by omega)).mono ?_
    rintro en v5 ⟨d, rfl, hd, hcuv5, hv5⟩
    refine ⟨_, rfl, (Chg.mono hv5 (fun b _ h => Or.inl h)), ?_⟩
    try simp only [Act.put, List.getElem_toArray, List.getElem_cons_zero, List.getElem_cons_succ, List.setIfInBounds_toArray, List.set_cons_zero, List.set_cons_succ]
    have gv5 : Chg (fun b => b = (w.heap.size + 1)) w4 v5 := Chg.trans (by repeat (first | with_reducible exact Chg.refl _ _ | with_reducible refine Chg.alloc ?_ _ | with_reducible refine Chg.drew ?_ | ((with_reducible refine Chg.set ?_ ?_ _); (focus (first | (left; first | rfl | (simp; done) | ((try dsimp only); omega) | (simp; omega)) | (right; simp; done) | (right; simp; omega) | (right; omega)))))) (Chg.mono (T := fun b => b = (w.heap.size + 1)) hv5 (fun b _ h => by first | exact False.elim h | ((try dsimp only at h ⊢); omega)))
    have zv5 := hv5.size
    (try simp at zv5)
    have yv5 : w4.heap.size ≤ v5.heap.size := gv5.size
    have hr_v5 := hide (hr_w4.out.chg gv5 (by first | exact fun h => h | ((try dsimp only); omega)))
    have hx_v5 := hide (hx_w4.out.chg gv5 (by first | exact fun h => h | ((try dsimp only); omega)))
    have oob_v5 := hide (OwnCW.chg oob_w4.out gv5 (fun b h1 h2 h3 => by first | exact False.elim h3 | ((try dsimp only at h3); omega)))
    have hgwv5 : Chg (fun b => w.heap.size ≤ b) w v5 := Chg.trans hgww4 (Chg.mono (T := fun b => w.heap.size ≤ b) gv5 (fun b _ h => by first | exact False.elim h | ((try dsimp only at h ⊢); omega)))
    clear hr_w4 hx_w4 oob_w4 hgww4 hcuw4 br0 br1 brF kbr bx0 bx1 bxF kbx nerx nexr
    clear gv5 hv5
    have br0 := hr_v5.out.c 0 _ rfl
    have br1 := hr_v5.out.c 1 _ rfl
    have brF := hr_v5.out.fr
    have kbr : w.heap.size < v5.heap.size := hr_v5.out.lt
    have bx0 := hx_v5.out.c 0 _ rfl
    have bx1 := hx_v5.out.c 1 _ rfl
    have bxF := hx_v5.out.fr
    have kbx : w2.heap.size < v5.heap.size := hx_v5.out.lt
    have nerx : w.heap.size ≠ w2.heap.size := by omega
    have nexr : w2.heap.size ≠ w.heap.size := by omega
    (refine wpC_store ?_ rfl rfl (by rfl) ?_ ?_ ?_; rotate_left; (focus (go_simp; (try with_reducible rfl); done)))
    · exact (by repeat (first | with_reducible exact Chg.refl _ _ | with_reducible refine Chg.alloc ?_ _ | with_reducible refine Chg.drew ?_ | ((with_reducible refine Chg.set ?_ ?_ _); (focus (first | (left; first | rfl | (simp; done) | ((try dsimp only); omega) | (simp; omega)) | (right; simp; done) | (right; simp; omega) | (right; omega))))))
    try simp only [Act.put, List.getElem_toArray, List.getElem_cons_zero, List.getElem_cons_succ, List.setIfInBounds_toArray, List.set_cons_zero, List.set_cons_succ]
    refine wpF_done rfl ?_
    simp only [List.drop_succ_cons, List.drop_zero, List.drop_nil]
    have hset1 := BoxV.set hr_v5.out [.int .i64 nx, .slice ao cs.length cap] rfl
    simp only [setFrom, Nat.zero_add, Nat.reduceAdd] at hset1
    have hr_s1 := hide hset1.1
    have hx_s1 := hide (hx_v5.out.chg hset1.2 (by first | exact fun h => h | ((try dsimp only); omega)))
    have ob_s1 := hide (oob_v5.out.chg hset1.2 (fun b h1 h2 h3 => by (try dsimp only at h3); omega))
    have hgs1 := hgwv5.trans (hset1.2.mono (T := fun b => w.heap.size ≤ b) (fun b _ h => by (try dsimp only at h ⊢); omega))
    have hzs1 := hset1.2.size
    clear hset1
    go_wp2
    refine bodyPost_ret (v := .tuple #[.agg #[.int .i64 nx, .slice ao cs.length cap], .int .i64 o, .string d]) (by simp [results, Try.results5, go_sem, *]) rfl ⟨nx, cs, ao, cap, o, d, rfl, ok, (by omega), hd, ?_, ?_⟩
    · exact ob_s1.out.own.mono (by omega) (by omega)
    · exact hgs1.ext (fun b h1 h2 => by (try dsimp only at h2); omega)
  · skip
    go_wp2_with fail
    refine (l1PickInt_new (w.heap.size + 1) code [-1, 4611686018427387901, 4611686018427387903] 3 w4 (hcuw4.stays (S := fun b => False) (by repeat (first | with_reducible exact Chg.refl _ _ | with_reducible refine Chg.alloc ?_ _ | with_reducible refine Chg.drew ?_ | ((with_reducible refine Chg.set ?_ ?_ _); (focus (first | (left; first | rfl | (simp; done) | ((try dsimp only); omega) | (simp; omega)) | (right; simp; done) | (right; simp; omega) | (right; omega)))))) (fun b h => (by first | exact fun h => h | ((try dsimp only); omega)))) (by decide) (by decide)).mono ?_
    rintro en v5 ⟨v, rfl, hv, hcuv5, hv5⟩
    have gv5 : Chg (fun b => b = (w.heap.size + 1)) w4 v5 := Chg.trans (by repeat (first | with_reducible exact Chg.refl _ _ | with_reducible refine Chg.alloc ?_ _ | with_reducible refine Chg.drew ?_ | ((with_reducible refine Chg.set ?_ ?_ _); (focus (first | (left; first | rfl | (simp; done) | ((try dsimp only); omega) | (simp; omega)) | (right; simp; done) | (right; simp; omega) | (right; omega)))))) (Chg.mono (T := fun b => b = (w.heap.size + 1)) hv5 (fun b _ h => by first | exact False.elim h | ((try dsimp only at h ⊢); omega)))
    have zv5 := hv5.size
    (try simp at zv5)
    have yv5 : w4.heap.size ≤ v5.heap.size := gv5.size
    have hr_v5 := hide (hr_w4.out.chg gv5 (by first | exact fun h => h | ((try dsimp only); omega)))
    have hx_v5 := hide (hx_w4.out.chg gv5 (by first | exact fun h => h | ((try dsimp only); omega)))
    have oob_v5 := hide (OwnCW.chg oob_w4.out gv5 (fun b h1 h2 h3 => by first | exact False.elim h3 | ((try dsimp only at h3); omega)))
    have hgwv5 : Chg (fun b => w.heap.size ≤ b) w v5 := Chg.trans hgww4 (Chg.mono (T := fun b => w.heap.size ≤ b) gv5 (fun b _ h => by first | exact False.elim h | ((try dsimp only at h ⊢); omega)))
    clear hr_w4 hx_w4 oob_w4 hgww4 hcuw4 br0 br1 brF kbr bx0 bx1 bxF kbx nerx nexr
    clear gv5 hv5
    have br0 := hr_v5.out.c 0 _ rfl
    have br1 := hr_v5.out.c 1 _ rfl
    have brF := hr_v5.out.fr
    have kbr : w.heap.size < v5.heap.size := hr_v5.out.lt
    have bx0 := hx_v5.out.c 0 _ rfl
    have bx1 := hx_v5.out.c 1 _ rfl
    have bxF := hx_v5.out.fr
    have kbx : w2.heap.size < v5.heap.size := hx_v5.out.lt
    have nerx : w.heap.size ≠ w2.heap.size := by omega
    have nexr : w2.heap.size ≠ w.heap.size := by omega
    have hv2 : -1 ≤ v ∧ v ≤ 4611686018427387903 := by simp at hv; omega
    clear hv
    go_wp2_with fail
    refine wp_region_flowC (fun b => b = (w.heap.size + 1) ∨ b = w.heap.size) 5 [(0, 1), (1, 1), (2, 1), (3, 0), (4, 0)] (by kernel_rfl) (by kernel_rfl) ?_
    (refine wpC_pure (v := ?_) rfl rfl (by rfl) ?_ ?_; rotate_left; (focus (intro ws hws; obtain ⟨q0, p0⟩ := hws.row (k := w2.heap.size) (by first | assumption | (simp; done) | (simp; omega) | omega) (by first | exact fun h => h | ((try dsimp only); omega)); go_simp; (try with_reducible rfl); done)))
    try simp only [Act.put, List.getElem_toArray, List.getElem_cons_zero, List.getElem_cons_succ, List.setIfInBounds_toArray, List.set_cons_zero, List.set_cons_succ]
    (refine wpC_pure (v := ?_) rfl rfl (by rfl) ?_ ?_; rotate_left; (focus (intro ws hws; go_simp; (try with_reducible rfl); done)))
    try simp only [Act.put, List.getElem_toArray, List.getElem_cons_zero, List.getElem_cons_succ, List.setIfInBounds_toArray, List.set_cons_zero, List.set_cons_succ]
    (refine wpC_pure (v := ?_) rfl rfl (by rfl) ?_ ?_; rotate_left; (focus (intro ws hws; go_simp; (try with_reducible rfl); done)))
    try simp only [Act.put, List.getElem_toArray, List.getElem_cons_zero, List.getElem_cons_succ, List.setIfInBounds_toArray, List.set_cons_zero, List.set_cons_succ]
    (refine wpC_call 30 ?_ rfl rfl (by rfl) ?_ ?_; rotate_left; (focus (go_simp; (try with_reducible rfl); done)))
    refine (l4Data_any (w.heap.size + 1) code 5 _ (hcuv5.stays (S := fun b => False) (by repeat (first | with_reducible exact Chg.refl _ _ | with_reducible refine Chg.alloc ?_ _ | with_reducible refine Chg.drew ?_ | ((with_reducible refine Chg.set ?_ ?_ _); (focus (first | (left; first | rfl | (simp; done) | ((try dsimp only); omega) | (simp; omega)) | (right; simp; done) | (right; simp; omega) | (right; omega)))))) (fun b h => (by first | exact fun h => h | ((try dsimp only); omega)))) (by omega) (by omega)).mono ?_
    rintro en v6 ⟨d, rfl, hd, hcuv6, hv6⟩
    refine ⟨_, rfl, (Chg.mono hv6 (fun b _ h => Or.inl h)), ?_⟩
    try simp only [Act.put, List.getElem_toArray, List.getElem_cons_zero, List.getElem_cons_succ, List.setIfInBounds_toArray, List.set_cons_zero, List.set_cons_succ]
    have gv6 : Chg (fun b => b = (w.heap.size + 1)) v5 v6 := Chg.trans (by repeat (first | with_reducible exact Chg.refl _ _ | with_reducible refine Chg.alloc ?_ _ | with_reducible refine Chg.drew ?_ | ((with_reducible refine Chg.set ?_ ?_ _); (focus (first | (left; first | rfl | (simp; done) | ((try dsimp only); omega) | (simp; omega)) | (right; simp; done) | (right; simp; omega) | (right; omega)))))) (Chg.mono (T := fun b => b = (w.heap.size + 1)) hv6 (fun b _ h => by first | exact False.elim h | ((try dsimp only at h ⊢); omega)))
    have zv6 := hv6.size
    (try simp at zv6)
    have yv6 : v5.heap.size ≤ v6.heap.size := gv6.size
    have hr_v6 := hide (hr_v5.out.chg gv6 (by first | exact fun h => h | ((try dsimp only); omega)))
    have hx_v6 := hide (hx_v5.out.chg gv6 (by first | exact fun h => h | ((try dsimp only); omega)))
    have oob_v6 := hide (OwnCW.chg oob_v5.out gv6 (fun b h1 h2 h3 => by first | exact False.elim h3 | ((try dsimp only at h3); omega)))
    have hgwv6 : Chg (fun b => w.heap.size ≤ b) w v6 := Chg.trans hgwv5 (Chg.mono (T := fun b => w.heap.size ≤ b) gv6 (fun b _ h => by first | exact False.elim h | ((try dsimp only at h ⊢); omega)))
    clear hr_v5 hx_v5 oob_v5 hgwv5 hcuv5 br0 br1 brF kbr bx0 bx1 bxF kbx nerx nexr
    clear gv6 hv6
    have br0 := hr_v6.out.c 0 _ rfl
    have br1 := hr_v6.out.c 1 _ rfl
    have brF := hr_v6.out.fr
    have kbr : w.heap.size < v6.heap.size := hr_v6.out.lt
    have bx0 := hx_v6.out.c 0 _ rfl
    have bx1 := hx_v6.out.c 1 _ rfl
    have bxF := hx_v6.out.fr
    have kbx : w2.heap.size < v6.heap.size := hx_v6.out.lt
    have nerx : w.heap.size ≠ w2.heap.size := by omega
    have nexr : w2.heap.size ≠ w.heap.size := by omega
    (refine wpC_store ?_ rfl rfl (by rfl) ?_ ?_ ?_; rotate_left; (focus (go_simp; (try with_reducible rfl); done)))
    · exact (by repeat (first | with_reducible exact Chg.refl _ _ | with_reducible refine Chg.alloc ?_ _ | with_reducible refine Chg.drew ?_ | ((with_reducible refine Chg.set ?_ ?_ _); (focus (first | (left; first | rfl | (simp; done) | ((try dsimp only); omega) | (simp; omega)) | (right; simp; done) | (right; simp; omega) | (right; omega))))))
    try simp only [Act.put, List.getElem_toArray, List.getElem_cons_zero, List.getElem_cons_succ, List.setIfInBounds_toArray, List.set_cons_zero, List.set_cons_succ]
    refine wpF_done rfl ?_
    simp only [List.drop_succ_cons, List.drop_zero, List.drop_nil]
    have hset1 := BoxV.set hr_v6.out [.int .i64 nx, .slice ao cs.length cap] rfl
    simp only [setFrom, Nat.zero_add, Nat.reduceAdd] at hset1
    have hr_s1 := hide hset1.1
    have hx_s1 := hide (hx_v6.out.chg hset1.2 (by first | exact fun h => h | ((try dsimp only); omega)))
    have ob_s1 := hide (oob_v6.out.chg hset1.2 (fun b h1 h2 h3 => by (try dsimp only at h3); omega))
    have hgs1 := hgwv6.trans (hset1.2.mono (T := fun b => w.heap.size ≤ b) (fun b _ h => by (try dsimp only at h ⊢); omega))
    have hzs1 := hset1.2.size
    clear hset1
    go_wp2
    refine bodyPost_ret (v := .tuple #[.agg #[.int .i64 nx, .slice ao cs.length cap], .int .i64 v, .string d]) (by simp [results, Try.results5, go_sem, *]) rfl ⟨nx, cs, ao, cap, v, d, rfl, ok, hv2, hd, ?_, ?_⟩
    · exact ob_s1.out.own.mono (by omega) (by omega)
    · exact hgs1.ext (fun b h1 h2 => by (try dsimp only at h2); omega)
set_option maxHeartbeats 4000000 in
set_option maxRecDepth 100000 in
theorem DrawEqualBuffers_any (code : Value) (w : World) (hc : CodeAt w w.heap.size code) :
    Calls Try.prog 16 #[code] w (DrewBuf2 w) := by
  skip
  go_enter Try.func16, Try.ntmps16
  have hgw0 : Chg (fun b => w.heap.size ≤ b) w w := Chg.refl _ _
  go_wp2_with fail
  refine (l1New_any code _ (hc.grown (by repeat (first | with_reducible exact Ext.refl _ | with_reducible refine Ext.alloc ?_ _)))).mono ?_
  rintro en w1 ⟨rfl, hcuw1, hw1⟩
  (try simp only [World.size_alloc] at hcuw1)
  have hcl := hcuw1.lt
  have gw1 : Chg (fun b => False) w w1 := Chg.trans (by repeat (first | with_reducible exact Chg.refl _ _ | with_reducible refine Chg.alloc ?_ _ | with_reducible refine Chg.drew ?_ | ((with_reducible refine Chg.set ?_ ?_ _); (focus (first | (left; first | rfl | (simp; done) | ((try dsimp only); omega) | (simp; omega)) | (right; simp; done) | (right; simp; omega) | (right; omega)))))) (Ext.chg hw1 _)
  have zw1 := hw1.size
  (try simp at zw1)
  have yw1 : w.heap.size ≤ w1.heap.size := gw1.size
  have hr_w1 := hide (BoxV.chg (BoxV.new w [.int .i64 0, .slice none 0 0] 26) (S := fun b => False) (Chg.trans (by repeat (first | with_reducible exact Chg.refl _ _ | with_reducible refine Chg.alloc ?_ _ | with_reducible refine Chg.drew ?_ | ((with_reducible refine Chg.set ?_ ?_ _); (focus (first | (left; first | rfl | (simp; done) | ((try dsimp only); omega) | (simp; omega)) | (right; simp; done) | (right; simp; omega) | (right; omega)))))) (Ext.chg hw1 _)) (by first | exact fun h => h | ((try dsimp only); omega)))
  have hq_w1 := hide (BoxV.chg (show BoxV (w.heap.size + 1) _ [.int .i64 0, .slice none 0 0] from by have h := (BoxV.new (w.alloc (.cells #[.int .i64 0, .slice none 0 0] 26)) [.int .i64 0, .slice none 0 0] 26); simpa only [World.size_alloc, World.size_drew] using h) (S := fun b => False) (Chg.trans (by repeat (first | with_reducible exact Chg.refl _ _ | with_reducible refine Chg.alloc ?_ _ | with_reducible refine Chg.drew ?_ | ((with_reducible refine Chg.set ?_ ?_ _); (focus (first | (left; first | rfl | (simp; done) | ((try dsimp only); omega) | (simp; omega)) | (right; simp; done) | (right; simp; omega) | (right; omega)))))) (Ext.chg hw1 _)) (by first | exact fun h => h | ((try dsimp only); omega)))
  have hgww1 : Chg (fun b => w.heap.size ≤ b) w w1 := Chg.trans hgw0 (Chg.mono (T := fun b => w.heap.size ≤ b) gw1 (fun b _ h => by first | exact False.elim h | ((try dsimp only at h ⊢); omega)))
  clear hgw0
  clear gw1 hw1
  have br0 := hr_w1.out.c 0 _ rfl
  have br1 := hr_w1.out.c 1 _ rfl
  have brF := hr_w1.out.fr
  have kbr : w.heap.size < w1.heap.size := hr_w1.out.lt
  have bq0 := hq_w1.out.c 0 _ rfl
  have bq1 := hq_w1.out.c 1 _ rfl
  have bqF := hq_w1.out.fr
  have kbq : w.heap.size + 1 < w1.heap.size := hq_w1.out.lt
  have nerq : w.heap.size ≠ w.heap.size + 1 := by omega
  have neqr : w.heap.size + 1 ≠ w.heap.size := by omega
  go_wp2_with fail
  refine (l6Buffer_any (w.heap.size + 1 + 1) code _ (hcuw1.stays (S := fun b => False) (by repeat (first | with_reducible exact Chg.refl _ _ | with_reducible refine Chg.alloc ?_ _ | with_reducible refine Chg.drew ?_ | ((with_reducible refine Chg.set ?_ ?_ _); (focus (first | (left; first | rfl | (simp; done) | ((try dsimp only); omega) | (simp; omega)) | (right; simp; done) | (right; simp; omega) | (right; omega)))))) (fun b h => (by first | exact fun h => h | ((try dsimp only); omega))))).mono ?_
  rintro en w2 ⟨nx1, cs1, ao1, cap1, rfl, ok1, oa, hcuw2, hw2⟩
  have gw2 : Chg (fun b => b = (w.heap.size + 1 + 1)) w1 w2 := Chg.trans (by repeat (first | with_reducible exact Chg.refl _ _ | with_reducible refine Chg.alloc ?_ _ | with_reducible refine Chg.drew ?_ | ((with_reducible refine Chg.set ?_ ?_ _); (focus (first | (left; first | rfl | (simp; done) | ((try dsimp only); omega) | (simp; omega)) | (right; simp; done) | (right; simp; omega) | (right; omega)))))) (Chg.mono (T := fun b => b = (w.heap.size + 1 + 1)) hw2 (fun b _ h => by first | exact False.elim h | ((try dsimp only at h ⊢); omega)))
  have zw2 := hw2.size
  (try simp at zw2)
  have yw2 : w1.heap.size ≤ w2.heap.size := gw2.size
  have hr_w2 := hide (hr_w1.out.chg gw2 (by first | exact fun h => h | ((try dsimp only); omega)))
  have hq_w2 := hide (hq_w1.out.chg gw2 (by first | exact fun h => h | ((try dsimp only); omega)))
  have hgww2 : Chg (fun b => w.heap.size ≤ b) w w2 := Chg.trans hgww1 (Chg.mono (T := fun b => w.heap.size ≤ b) gw2 (fun b _ h => by first | exact False.elim h | ((try dsimp only at h ⊢); omega)))
  clear hr_w1 hq_w1 hgww1 hcuw1 br0 br1 brF kbr bq0 bq1 bqF kbq nerq neqr
  clear gw2 hw2
  have br0 := hr_w2.out.c 0 _ rfl
  have br1 := hr_w2.out.c 1 _ rfl
  have brF := hr_w2.out.fr
  have kbr : w.heap.size < w2.heap.size := hr_w2.out.lt
  have bq0 := hq_w2.out.c 0 _ rfl
  have bq1 := hq_w2.out.c 1 _ rfl
  have bqF := hq_w2.out.fr
  have kbq : w.heap.size + 1 < w2.heap.size := hq_w2.out.lt
  have nerq : w.heap.size ≠ w.heap.size + 1 := by omega
  have neqr : w.heap.size + 1 ≠ w.heap.size := by omega
  (try simp only [World.size_alloc, World.size_drew, World.size_setCell] at oa)
  replace oa := hide oa
  go_wp2_with fail
  refine (l1Once_any (w.heap.size + 1 + 1) code 2 _ (hcuw2.stays (S := fun b => False) (by repeat (first | with_reducible exact Chg.refl _ _ | with_reducible refine Chg.alloc ?_ _ | with_reducible refine Chg.drew ?_ | ((with_reducible refine Chg.set ?_ ?_ _); (focus (first | (left; first | rfl | (simp; done) | ((try dsimp only); omega) | (simp; omega)) | (right; simp; done) | (right; simp; omega) | (right; omega)))))) (fun b h => (by first | exact fun h => h | ((try dsimp only); omega))))).mono ?_
  rintro en w3 ⟨q, rfl, hcuw3, hw3⟩
  have gw3 : Chg (fun b => b = (w.heap.size + 1 + 1)) w2 w3 := Chg.trans (by repeat (first | with_reducible exact Chg.refl _ _ | with_reducible refine Chg.alloc ?_ _ | with_reducible refine Chg.drew ?_ | ((with_reducible refine Chg.set ?_ ?_ _); (focus (first | (left; first | rfl | (simp; done) | ((try dsimp only); omega) | (simp; omega)) | (right; simp; done) | (right; simp; omega) | (right; omega)))))) (Chg.mono (T := fun b => b = (w.heap.size + 1 + 1)) hw3 (fun b _ h => by first | exact False.elim h | ((try dsimp only at h ⊢); omega)))
  have zw3 := hw3.size
  (try simp at zw3)
  have yw3 : w2.heap.size ≤ w3.heap.size := gw3.size
  have hr_w3 := hide (hr_w2.out.chg gw3 (by first | exact fun h => h | ((try dsimp only); omega)))
  have hq_w3 := hide (hq_w2.out.chg gw3 (by first | exact fun h => h | ((try dsimp only); omega)))
  have hx_w3 := hide (BoxV.chg (BoxV.new w2 [.int .i64 nx1, .slice ao1 cs1.length cap1] 26) (S := fun b => b = (w.heap.size + 1 + 1)) (Chg.trans (by repeat (first | with_reducible exact Chg.refl _ _ | with_reducible refine Chg.alloc ?_ _ | with_reducible refine Chg.drew ?_ | ((with_reducible refine Chg.set ?_ ?_ _); (focus (first | (left; first | rfl | (simp; done) | ((try dsimp only); omega) | (simp; omega)) | (right; simp; done) | (right; simp; omega) | (right; omega)))))) (Chg.mono (T := fun b => b = (w.heap.size + 1 + 1)) hw3 (fun b _ h => by first | exact False.elim h | ((try dsimp only at h ⊢); omega)))) (by first | exact fun h => h | ((try dsimp only); omega)))
  have ooa_w3 := hide (OwnCW.chg oa.out gw3 (fun b h1 h2 h3 => by first | exact False.elim h3 | ((try dsimp only at h3); omega)))
  have hgww3 : Chg (fun b => w.heap.size ≤ b) w w3 := Chg.trans hgww2 (Chg.mono (T := fun b => w.heap.size ≤ b) gw3 (fun b _ h => by first | exact False.elim h | ((try dsimp only at h ⊢); omega)))
  clear hr_w2 hq_w2 oa hgww2 hcuw2 br0 br1 brF kbr bq0 bq1 bqF kbq nerq neqr
  clear gw3 hw3
  have br0 := hr_w3.out.c 0 _ rfl
  have br1 := hr_w3.out.c 1 _ rfl
  have brF := hr_w3.out.fr
  have kbr : w.heap.size < w3.heap.size := hr_w3.out.lt
  have bq0 := hq_w3.out.c 0 _ rfl
  have bq1 := hq_w3.out.c 1 _ rfl
  have bqF := hq_w3.out.fr
  have kbq : w.heap.size + 1 < w3.heap.size := hq_w3.out.lt
  have bx0 := hx_w3.out.c 0 _ rfl
  have bx1 := hx_w3.out.c 1 _ rfl
  have bxF := hx_w3.out.fr
  have kbx : w2.heap.size < w3.heap.size := hx_w3.out.lt
  have nerq : w.heap.size ≠ w.heap.size + 1 := by omega
  have neqr : w.heap.size + 1 ≠ w.heap.size := by omega
  have nerx : w.heap.size ≠ w2.heap.size := by omega
  have nexr : w2.heap.size ≠ w.heap.size := by omega
  have neqx : w.heap.size + 1 ≠ w2.heap.size := by omega
  have nexq : w2.heap.size ≠ w.heap.size + 1 := by omega
  cases q
  · skip
    go_wp2_with fail
    refine wp_region_flowC (fun b => b = (w.heap.size + 1 + 1)) 3 [(0, 1), (1, 1), (2, 0)] (by kernel_rfl) (by kernel_rfl) ?_
    (refine wpC_pure (v := ?_) rfl rfl (by rfl) ?_ ?_; rotate_left; (focus (intro ws hws; obtain ⟨q0, p0⟩ := hws.row (k := w2.heap.size) (by first | assumption | (simp; done) | (simp; omega) | omega) (by first | exact fun h => h | ((try dsimp only); omega)); go_simp; (try with_reducible rfl); done)))
    try simp only [Act.put, List.getElem_toArray, List.getElem_cons_zero, List.getElem_cons_succ, List.setIfInBounds_toArray, List.set_cons_zero, List.set_cons_succ]
    (refine wpC_pure (v := ?_) rfl rfl (by rfl) ?_ ?_; rotate_left; (focus (intro ws hws; go_simp; (try with_reducible rfl); done)))
    try simp only [Act.put, List.getElem_toArray, List.getElem_cons_zero, List.getElem_cons_succ, List.setIfInBounds_toArray, List.set_cons_zero, List.set_cons_succ]
    (refine wpC_call 26 ?_ rfl rfl (by rfl) ?_ ?_; rotate_left; (focus (go_simp; (try with_reducible rfl); done)))
    refine (l6Buffer_any (w.heap.size + 1 + 1) code _ (hcuw3.stays (S := fun b => False) (by repeat (first | with_reducible exact Chg.refl _ _ | with_reducible refine Chg.alloc ?_ _ | with_reducible refine Chg.drew ?_ | ((with_reducible refine Chg.set ?_ ?_ _); (focus (first | (left; first | rfl | (simp; done) | ((try dsimp only); omega) | (simp; omega)) | (right; simp; done) | (right; simp; omega) | (right; omega)))))) (fun b h => (by first | exact fun h => h | ((try dsimp only); omega))))).mono ?_
    rintro en v4 ⟨nx2, cs2, ao2, cap2, rfl, ok2, o2, hcuv4, hv4⟩
    refine ⟨_, rfl, hv4, ?_⟩
    try simp only [Act.put, List.getElem_toArray, List.getElem_cons_zero, List.getElem_cons_succ, List.setIfInBounds_toArray, List.set_cons_zero, List.set_cons_succ]
    have gv4 : Chg (fun b => b = (w.heap.size + 1 + 1)) w3 v4 := Chg.trans (by repeat (first | with_reducible exact Chg.refl _ _ | with_reducible refine Chg.alloc ?_ _ | with_reducible refine Chg.drew ?_ | ((with_reducible refine Chg.set ?_ ?_ _); (focus (first | (left; first | rfl | (simp; done) | ((try dsimp only); omega) | (simp; omega)) | (right; simp; done) | (right; simp; omega) | (right; omega)))))) (Chg.mono (T := fun b => b = (w.heap.size + 1 + 1)) hv4 (fun b _ h => by first | exact False.elim h | ((try dsimp only at h ⊢); omega)))
    have zv4 := hv4.size
    (try simp at zv4)
    have yv4 : w3.heap.size ≤ v4.heap.size := gv4.size
    have hr_v4 := hide (hr_w3.out.chg gv4 (by first | exact fun h => h | ((try dsimp only); omega)))
    have hq_v4 := hide (hq_w3.out.chg gv4 (by first | exact fun h => h | ((try dsimp only); omega)))
    have hx_v4 := hide (hx_w3.out.chg gv4 (by first | exact fun h => h | ((try dsimp only); omega)))
    have ooa_v4 := hide (OwnCW.chg ooa_w3.out gv4 (fun b h1 h2 h3 => by first | exact False.elim h3 | ((try dsimp only at h3); omega)))
    have hgwv4 : Chg (fun b => w.heap.size ≤ b) w v4 := Chg.trans hgww3 (Chg.mono (T := fun b => w.heap.size ≤ b) gv4 (fun b _ h => by first | exact False.elim h | ((try dsimp only at h ⊢); omega)))
    clear hr_w3 hq_w3 hx_w3 ooa_w3 hgww3 hcuw3 br0 br1 brF kbr bq0 bq1 bqF kbq bx0 bx1 bxF kbx nerq neqr nerx nexr neqx nexq
    clear gv4 hv4
    have br0 := hr_v4.out.c 0 _ rfl
    have br1 := hr_v4.out.c 1 _ rfl
    have brF := hr_v4.out.fr
    have kbr : w.heap.size < v4.heap.size := hr_v4.out.lt
    have bq0 := hq_v4.out.c 0 _ rfl
    have bq1 := hq_v4.out.c 1 _ rfl
    have bqF := hq_v4.out.fr
    have kbq : w.heap.size + 1 < v4.heap.size := hq_v4.out.lt
    have bx0 := hx_v4.out.c 0 _ rfl
    have bx1 := hx_v4.out.c 1 _ rfl
    have bxF := hx_v4.out.fr
    have kbx : w2.heap.size < v4.heap.size := hx_v4.out.lt
    have nerq : w.heap.size ≠ w.heap.size + 1 := by omega
    have neqr : w.heap.size + 1 ≠ w.heap.size := by omega
    have nerx : w.heap.size ≠ w2.heap.size := by omega
    have nexr : w2.heap.size ≠ w.heap.size := by omega
    have neqx : w.heap.size + 1 ≠ w2.heap.size := by omega
    have nexq : w2.heap.size ≠ w.heap.size + 1 := by omega
    (try simp only [World.size_alloc, World.size_drew, World.size_setCell] at o2)
    replace o2 := hide o2
    refine wpF_done rfl ?_
    simp only [List.drop_succ_cons, List.drop_zero, List.drop_nil]
    have hset1 := BoxV.set hr_v4.out [.int .i64 nx1, .slice ao1 cs1.length cap1] rfl
    simp only [setFrom, Nat.zero_add, Nat.reduceAdd] at hset1
    have hr_s1 := hide hset1.1
    have hq_s1 := hide (hq_v4.out.chg hset1.2 (by first | exact fun h => h | ((try dsimp only); omega)))
    have hx_s1 := hide (hx_v4.out.chg hset1.2 (by first | exact fun h => h | ((try dsimp only); omega)))
    have oa_s1 := hide (ooa_v4.out.chg hset1.2 (fun b h1 h2 h3 => by (try dsimp only at h3); omega))
    have o2_s1 := hide (o2.out.chg hset1.2 (fun b h1 h2 h3 => by (try dsimp only at h3); omega))
    have hgs1 := hgwv4.trans (hset1.2.mono (T := fun b => w.heap.size ≤ b) (fun b _ h => by (try dsimp only at h ⊢); omega))
    have hzs1 := hset1.2.size
    clear hset1
    have hset2 := BoxV.set hq_s1.out [.int .i64 nx2, .slice ao2 cs2.length cap2] rfl
    simp only [setFrom, Nat.zero_add, Nat.reduceAdd] at hset2
    have hr_s2 := hide (hr_s1.out.chg hset2.2 (by first | exact fun h => h | ((try dsimp only); omega)))
    have hq_s2 := hide hset2.1
    have hx_s2 := hide (hx_s1.out.chg hset2.2 (by first | exact fun h => h | ((try dsimp only); omega)))
    have oa_s2 := hide (oa_s1.out.chg hset2.2 (fun b h1 h2 h3 => by (try dsimp only at h3); omega))
    have o2_s2 := hide (o2_s1.out.chg hset2.2 (fun b h1 h2 h3 => by (try dsimp only at h3); omega))
    have hgs2 := hgs1.trans (hset2.2.mono (T := fun b => w.heap.size ≤ b) (fun b _ h => by (try dsimp only at h ⊢); omega))
    have hzs2 := hset2.2.size
    clear hset2
    go_wp2
    refine bodyPost_ret (v := .tuple #[.agg #[.int .i64 nx1, .slice ao1 cs1.length cap1], .agg #[.int .i64 nx2, .slice ao2 cs2.length cap2]]) (by simp [results, Try.results16, go_sem, *]) rfl ⟨nx1, nx2, cs1, cs2, ao1, ao2, cap1, cap2, rfl, ok1, ok2, ?_, ?_, ?_⟩
    · exact oa_s2.out.own.mono (by omega) (by omega)
    · exact o2_s2.out.own.mono (by omega) (by omega)
    · exact hgs2.ext (fun b h1 h2 => by (try dsimp only at h2); omega)
  · skip
    go_wp2_with fail
    refine wp_region_flowC (fun b => b = (w.heap.size + 1 + 1)) 3 [(0, 1), (1, 1), (2, 0)] (by kernel_rfl) (by kernel_rfl) ?_
    (refine wpC_pure (v := ?_) rfl rfl (by rfl) ?_ ?_; rotate_left; (focus (intro ws hws; obtain ⟨q0, p0⟩ := hws.row (k := w2.heap.size) (by first | assumption | (simp; done) | (simp; omega) | omega) (by first | exact fun h => h | ((try dsimp only); omega)); go_simp; (try with_reducible rfl); done)))
    try simp only [Act.put, List.getElem_toArray, List.getElem_cons_zero, List.getElem_cons_succ, List.setIfInBounds_toArray, List.set_cons_zero, List.set_cons_succ]
    (refine wpC_pure (v := ?_) rfl rfl (by rfl) ?_ ?_; rotate_left; (focus (intro ws hws; obtain ⟨q0, p0⟩ := hws.row (k := w2.heap.size) (by first | assumption | (simp; done) | (simp; omega) | omega) (by first | exact fun h => h | ((try dsimp only); omega)); go_simp; (try with_reducible rfl); done)))
    try simp only [Act.put, List.getElem_toArray, List.getElem_cons_zero, List.getElem_cons_succ, List.setIfInBounds_toArray, List.set_cons_zero, List.set_cons_succ]
    (refine wpC_call 37 ?_ rfl rfl (by rfl) ?_ ?_; rotate_left; (focus (go_simp; (try with_reducible rfl); done)))
    refine (l6CopyW nx1 ao1 cs1.length cap1 cs1 _ (OwnCW.chg (S := fun b => b = (w.heap.size + 1 + 1)) ooa_w3.out (by repeat (first | with_reducible exact Chg.refl _ _ | with_reducible refine Chg.alloc ?_ _ | with_reducible refine Chg.drew ?_ | ((with_reducible refine Chg.set ?_ ?_ _); (focus (first | (left; first | rfl | (simp; done) | ((try dsimp only); omega) | (simp; omega)) | (right; simp; done) | (right; simp; omega) | (right; omega)))))) (fun b h1 h2 h3 => by first | exact False.elim h3 | ((try dsimp only at h3); omega))).read rfl (by have := ok1.len; omega)).mono ?_
    rintro en v4 ⟨ao2, cap2, rfl, o2, hv4⟩
    refine ⟨_, rfl, (Ext.chg hv4 _), ?_⟩
    try simp only [Act.put, List.getElem_toArray, List.getElem_cons_zero, List.getElem_cons_succ, List.setIfInBounds_toArray, List.set_cons_zero, List.set_cons_succ]
    have gv4 : Chg (fun b => False) w3 v4 := Chg.trans (by repeat (first | with_reducible exact Chg.refl _ _ | with_reducible refine Chg.alloc ?_ _ | with_reducible refine Chg.drew ?_ | ((with_reducible refine Chg.set ?_ ?_ _); (focus (first | (left; first | rfl | (simp; done) | ((try dsimp only); omega) | (simp; omega)) | (right; simp; done) | (right; simp; omega) | (right; omega)))))) (Ext.chg hv4 _)
    have zv4 := hv4.size
    (try simp at zv4)
    have yv4 : w3.heap.size ≤ v4.heap.size := gv4.size
    have hr_v4 := hide (hr_w3.out.chg gv4 (by first | exact fun h => h | ((try dsimp only); omega)))
    have hq_v4 := hide (hq_w3.out.chg gv4 (by first | exact fun h => h | ((try dsimp only); omega)))
    have hx_v4 := hide (hx_w3.out.chg gv4 (by first | exact fun h => h | ((try dsimp only); omega)))
    have ooa_v4 := hide (OwnCW.chg ooa_w3.out gv4 (fun b h1 h2 h3 => by first | exact False.elim h3 | ((try dsimp only at h3); omega)))
    have hgwv4 : Chg (fun b => w.heap.size ≤ b) w v4 := Chg.trans hgww3 (Chg.mono (T := fun b => w.heap.size ≤ b) gv4 (fun b _ h => by first | exact False.elim h | ((try dsimp only at h ⊢); omega)))
    have hcuv4 := hcuw3.stays gv4 (fun b h => (by first | exact fun h => h | ((try dsimp only); omega)))
    clear hr_w3 hq_w3 hx_w3 ooa_w3 hgww3 hcuw3 br0 br1 brF kbr bq0 bq1 bqF kbq bx0 bx1 bxF kbx nerq neqr nerx nexr neqx nexq
    clear gv4 hv4
    have br0 := hr_v4.out.c 0 _ rfl
    have br1 := hr_v4.out.c 1 _ rfl
    have brF := hr_v4.out.fr
    have kbr : w.heap.size < v4.heap.size := hr_v4.out.lt
    have bq0 := hq_v4.out.c 0 _ rfl
    have bq1 := hq_v4.out.c 1 _ rfl
    have bqF := hq_v4.out.fr
    have kbq : w.heap.size + 1 < v4.heap.size := hq_v4.out.lt
    have bx0 := hx_v4.out.c 0 _ rfl
    have bx1 := hx_v4.out.c 1 _ rfl
    have bxF := hx_v4.out.fr
    have kbx : w2.heap.size < v4.heap.size := hx_v4.out.lt
    have nerq : w.heap.size ≠ w.heap.size + 1 := by omega
    have neqr : w.heap.size + 1 ≠ w.heap.size := by omega
    have nerx : w.heap.size ≠ w2.heap.size := by omega
    have nexr : w2.heap.size ≠ w.heap.size := by omega
    have neqx : w.heap.size + 1 ≠ w2.heap.size := by omega
    have nexq : w2.heap.size ≠ w.heap.size + 1 := by omega
    (try simp only [World.size_alloc, World.size_drew, World.size_setCell] at o2)
    replace o2 := hide o2
    refine wpF_done rfl ?_
    simp only [List.drop_succ_cons, List.drop_zero, List.drop_nil]
    have hset1 := BoxV.set hr_v4.out [.int .i64 nx1, .slice ao1 cs1.length cap1] rfl
    simp only [setFrom, Nat.zero_add, Nat.reduceAdd] at hset1
    have hr_s1 := hide hset1.1
    have hq_s1 := hide (hq_v4.out.chg hset1.2 (by first | exact fun h => h | ((try dsimp only); omega)))
    have hx_s1 := hide (hx_v4.out.chg hset1.2 (by first | exact fun h => h | ((try dsimp only); omega)))
    have oa_s1 := hide (ooa_v4.out.chg hset1.2 (fun b h1 h2 h3 => by (try dsimp only at h3); omega))
    have o2_s1 := hide (o2.out.chg hset1.2 (fun b h1 h2 h3 => by (try dsimp only at h3); omega))
    have hgs1 := hgwv4.trans (hset1.2.mono (T := fun b => w.heap.size ≤ b) (fun b _ h => by (try dsimp only at h ⊢); omega))
    have hzs1 := hset1.2.size
    clear hset1
    have hset2 := BoxV.set hq_s1.out [.int .i64 nx1, .slice ao2 cs1.length cap2] rfl
    simp only [setFrom, Nat.zero_add, Nat.reduceAdd] at hset2
    have hr_s2 := hide (hr_s1.out.chg hset2.2 (by first | exact fun h => h | ((try dsimp only); omega)))
    have hq_s2 := hide hset2.1
    have hx_s2 := hide (hx_s1.out.chg hset2.2 (by first | exact fun h => h | ((try dsimp only); omega)))
    have oa_s2 := hide (oa_s1.out.chg hset2.2 (fun b h1 h2 h3 => by (try dsimp only at h3); omega))
    have o2_s2 := hide (o2_s1.out.chg hset2.2 (fun b h1 h2 h3 => by (try dsimp only at h3); omega))
    have hgs2 := hgs1.trans (hset2.2.mono (T := fun b => w.heap.size ≤ b) (fun b _ h => by (try dsimp only at h ⊢); omega))
    have hzs2 := hset2.2.size
    clear hset2
    go_wp2
    refine bodyPost_ret (v := .tuple #[.agg #[.int .i64 nx1, .slice ao1 cs1.length cap1], .agg #[.int .i64 nx1, .slice ao2 cs1.length cap2]]) (by simp [results, Try.results16, go_sem, *]) rfl ⟨nx1, nx1, cs1, cs1, ao1, ao2, cap1, cap2, rfl, ok1, ok1, ?_, ?_, ?_⟩
    · exact oa_s2.out.own.mono (by omega) (by omega)
    · exact o2_s2.out.own.mono (by omega) (by omega)
    · exact hgs2.ext (fun b h1 h2 => by (try dsimp only at h2); omega)
end Go.Proofs.Ytjnbiacnhimkgaa

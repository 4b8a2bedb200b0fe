/-
  Contracts of the laws' helpers on buffers and receivers: sz, to, eq. Conditions: the chunks can be read.
-/
import Derived.Test.YtifhbchlmlaanaaChunkS
namespace Go.Proofs.Ytifhbchlmlaanaa
open Go.ChangeShapes Go.WideShapes Go.ChangeAt Go.RowKit
set_option linter.unusedSimpArgs false
set_option maxHeartbeats 1000000 in
theorem szBuffer_any (nx : Int) (ao : Option Addr) (n ca : Nat) (cs : List Ck) (left : Int) (w : World) (hx : ReadC w ao cs) (hn : cs.length = n) (hl : (n : Int) ≤ 9223372036854775807) (h0 : 0 ≤ left) (h1 : left ≤ 1048576) (hz : ∀ c ∈ cs, (c.2.size : Int) ≤ 9223372036854775807) :
    Calls Try.prog 68 #[.agg #[.int .i64 nx, .slice ao n ca], .int .i64 left] w fun e w' => e = .returned (.int .i64 (if left < (n : Int) + (tot cs : Int) then -1 else left - n - (tot cs : Int))) ∧ Ext w w' := by
  by_cases h : left < (n : Int) + (tot cs : Int)
  · go_enter Try.func68, Try.ntmps68
    go_wp2_with fail
    refine (szChunkS_any ao n ca cs left _ (hx.ext (by repeat (first | with_reducible exact Ext.refl _ | with_reducible assumption | with_reducible refine Ext.alloc ?_ _ | with_reducible refine Ext.drew ?_ | with_reducible refine Ext.drewN ?_ _ | ((with_reducible refine Ext.set ?_ ?_ _); (focus (first | (simp; done) | (simp; omega)))) | with_reducible refine Ext.trans ?_ (by assumption)))) hn hl h0 h1 hz).mono ?_
    rintro en w1 ⟨rfl, hb⟩
    rw [if_pos h]
    clear hx hn hz
    go_wp2
    go_ret
    exact ⟨by first | rfl | (rw [if_pos h]; rfl), (by repeat (first | with_reducible exact Ext.refl _ | with_reducible assumption | with_reducible refine Ext.alloc ?_ _ | with_reducible refine Ext.drew ?_ | with_reducible refine Ext.drewN ?_ _ | ((with_reducible refine Ext.set ?_ ?_ _); (focus (first | (simp; done) | (simp; omega)))) | with_reducible refine Ext.trans ?_ (by assumption)))⟩
  · have h2 : decide (left - (n : Int) - (tot cs : Int) < 0) = false := by simp; omega
    go_enter Try.func68, Try.ntmps68
    go_wp2_with fail
    refine (szChunkS_any ao n ca cs left _ (hx.ext (by repeat (first | with_reducible exact Ext.refl _ | with_reducible assumption | with_reducible refine Ext.alloc ?_ _ | with_reducible refine Ext.drew ?_ | with_reducible refine Ext.drewN ?_ _ | ((with_reducible refine Ext.set ?_ ?_ _); (focus (first | (simp; done) | (simp; omega)))) | with_reducible refine Ext.trans ?_ (by assumption)))) hn hl h0 h1 hz).mono ?_
    rintro en w1 ⟨rfl, hb⟩
    rw [if_neg (by omega)]
    clear hx hn hz
    go_wp2
    go_ret
    exact ⟨by first | rfl | (rw [if_neg (by omega)]; rfl), (by repeat (first | with_reducible exact Ext.refl _ | with_reducible assumption | with_reducible refine Ext.alloc ?_ _ | with_reducible refine Ext.drew ?_ | with_reducible refine Ext.drewN ?_ _ | ((with_reducible refine Ext.set ?_ ?_ _); (focus (first | (simp; done) | (simp; omega)))) | with_reducible refine Ext.trans ?_ (by assumption)))⟩
set_option maxHeartbeats 1000000 in
theorem szReceiver_any (st nx fi hg co : Int) (ao : Option Addr) (n ca : Nat) (cs : List Ck) (left : Int) (w : World) (hx : ReadC w ao cs) (hn : cs.length = n) (hl : (n : Int) ≤ 9223372036854775807) (h0 : 0 ≤ left) (h1 : left ≤ 1048576) (hz : ∀ c ∈ cs, (c.2.size : Int) ≤ 9223372036854775807) :
    Calls Try.prog 20 #[.agg #[.int .i64 st, .int .i64 nx, .slice ao n ca, .int .i64 fi, .int .i64 hg, .int .i64 co], .int .i64 left] w fun e w' => e = .returned (.int .i64 (if left < (n : Int) + (tot cs : Int) then -1 else left - n - (tot cs : Int))) ∧ Ext w w' := by
  by_cases h : left < (n : Int) + (tot cs : Int)
  · go_enter Try.func20, Try.ntmps20
    go_wp2_with fail
    refine (szBuffer_any nx ao n ca cs left _ (hx.ext (by repeat (first | with_reducible exact Ext.refl _ | with_reducible assumption | with_reducible refine Ext.alloc ?_ _ | with_reducible refine Ext.drew ?_ | with_reducible refine Ext.drewN ?_ _ | ((with_reducible refine Ext.set ?_ ?_ _); (focus (first | (simp; done) | (simp; omega)))) | with_reducible refine Ext.trans ?_ (by assumption)))) hn hl h0 h1 hz).mono ?_
    rintro en w1 ⟨rfl, hb⟩
    rw [if_pos h]
    clear hx hn hz
    go_wp2
    go_ret
    exact ⟨by first | rfl | (rw [if_pos h]; rfl), (by repeat (first | with_reducible exact Ext.refl _ | with_reducible assumption | with_reducible refine Ext.alloc ?_ _ | with_reducible refine Ext.drew ?_ | with_reducible refine Ext.drewN ?_ _ | ((with_reducible refine Ext.set ?_ ?_ _); (focus (first | (simp; done) | (simp; omega)))) | with_reducible refine Ext.trans ?_ (by assumption)))⟩
  · have h2 : decide (left - (n : Int) - (tot cs : Int) < 0) = false := by simp; omega
    go_enter Try.func20, Try.ntmps20
    go_wp2_with fail
    refine (szBuffer_any nx ao n ca cs left _ (hx.ext (by repeat (first | with_reducible exact Ext.refl _ | with_reducible assumption | with_reducible refine Ext.alloc ?_ _ | with_reducible refine Ext.drew ?_ | with_reducible refine Ext.drewN ?_ _ | ((with_reducible refine Ext.set ?_ ?_ _); (focus (first | (simp; done) | (simp; omega)))) | with_reducible refine Ext.trans ?_ (by assumption)))) hn hl h0 h1 hz).mono ?_
    rintro en w1 ⟨rfl, hb⟩
    rw [if_neg (by omega)]
    clear hx hn hz
    go_wp2
    go_ret
    exact ⟨by first | rfl | (rw [if_neg (by omega)]; rfl), (by repeat (first | with_reducible exact Ext.refl _ | with_reducible assumption | with_reducible refine Ext.alloc ?_ _ | with_reducible refine Ext.drew ?_ | with_reducible refine Ext.drewN ?_ _ | ((with_reducible refine Ext.set ?_ ?_ _); (focus (first | (simp; done) | (simp; omega)))) | with_reducible refine Ext.trans ?_ (by assumption)))⟩
def NewBufV (nx : Int) (cs : List Ck) (w : World) (en : Ending) (w' : World) : Prop :=
  ∃ (ao : Option Addr) (cap : Nat), en = .returned (.agg #[.int .i64 nx, .slice ao cs.length cap]) ∧ OwnC w.heap.size w'.heap.size w' ao cs ∧ Ext w w'
set_option maxHeartbeats 1000000 in
theorem toBuffer_any (nx : Int) (ao : Option Addr) (n ca : Nat) (cs : List Ck) (w : World) (hx : ReadC w ao cs) (hn : cs.length = n) (hl : n ≤ 1048576) :
    Calls Try.prog 69 #[.agg #[.int .i64 nx, .slice ao n ca]] w (NewBufV nx cs w) := by
  have hn' := hide hn
  have hx' := hide hx
  clear hn hx
  go_enter Try.func69, Try.ntmps69
  go_wp2_with fail
  refine (toChunkS_any ao n ca cs _ (hx'.out.ext (by repeat (first | with_reducible exact Ext.refl _ | with_reducible assumption | with_reducible refine Ext.alloc ?_ _ | with_reducible refine Ext.drew ?_ | with_reducible refine Ext.drewN ?_ _ | ((with_reducible refine Ext.set ?_ ?_ _); (focus (first | (simp; done) | (simp; omega)))) | with_reducible refine Ext.trans ?_ (by assumption)))) hn'.out hl).mono ?_
  rintro e1 w1 ⟨ao1, cap1, rfl, ho, hb1⟩
  have hk0 := hb1.more (k := w.heap.size) (by first | assumption | (simp; done) | (simp; omega) | omega)
  obtain ⟨hc0, hf0⟩ := hb1.row (k := w.heap.size) (by first | assumption | (simp; done) | (simp; omega) | omega)
  have hk1 := hb1.more (k := w.heap.size + 1) (by first | assumption | (simp; done) | (simp; omega) | omega)
  obtain ⟨hc1, hf1⟩ := hb1.row (k := w.heap.size + 1) (by first | assumption | (simp; done) | (simp; omega) | omega)
  have hk2 := hb1.more (k := w.heap.size + 1 + 1) (by first | assumption | (simp; done) | (simp; omega) | omega)
  obtain ⟨hc2, hf2⟩ := hb1.row (k := w.heap.size + 1 + 1) (by first | assumption | (simp; done) | (simp; omega) | omega)
  have ho' := hide ho
  clear ho
  go_wp2
  refine bodyPost_ret (v := .agg #[.int .i64 nx, .slice ao1 cs.length cap1]) (by simp [results, Try.results69, go_sem, *]) rfl ⟨ao1, cap1, rfl, ?_, ?_⟩
  · refine OwnC.mono (OwnC.chg (S := fun k => k < w.heap.size + 1 + 1 + 1) ho'.out (by repeat (first | with_reducible exact Chg.refl _ _ | with_reducible assumption | with_reducible refine Chg.alloc ?_ _ | with_reducible refine Chg.drew ?_ | with_reducible refine Chg.drewN ?_ _ | ((with_reducible refine Chg.set ?_ ?_ _); (focus (first | (left; simp; done) | (left; simp; omega) | (right; simp; done) | (right; simp; omega)))))) (fun b h1 h2 h3 => by simp at h1; omega)) (by simp; omega) (by simp)
  · exact (by repeat (first | with_reducible exact Ext.refl _ | with_reducible assumption | with_reducible refine Ext.alloc ?_ _ | with_reducible refine Ext.drew ?_ | with_reducible refine Ext.drewN ?_ _ | ((with_reducible refine Ext.set ?_ ?_ _); (focus (first | (simp; done) | (simp; omega)))) | with_reducible refine Ext.trans ?_ (by assumption)))
def NewRecV (st nx fi hg co : Int) (cs : List Ck) (w : World) (en : Ending) (w' : World) : Prop :=
  ∃ (ao : Option Addr) (cap : Nat), en = .returned (.agg #[.int .i64 st, .int .i64 nx, .slice ao cs.length cap, .int .i64 fi, .int .i64 hg, .int .i64 co]) ∧ OwnC w.heap.size w'.heap.size w' ao cs ∧ Ext w w'
set_option maxHeartbeats 1000000 in
theorem toReceiver_any (st nx fi hg co : Int) (ao : Option Addr) (n ca : Nat) (cs : List Ck) (w : World) (hx : ReadC w ao cs) (hn : cs.length = n) (hl : n ≤ 1048576) :
    Calls Try.prog 22 #[.agg #[.int .i64 st, .int .i64 nx, .slice ao n ca, .int .i64 fi, .int .i64 hg, .int .i64 co]] w (NewRecV st nx fi hg co cs w) := by
  have hn' := hide hn
  have hx' := hide hx
  clear hn hx
  go_enter Try.func22, Try.ntmps22
  go_wp2_with fail
  refine (toBuffer_any nx ao n ca cs _ (hx'.out.ext (by repeat (first | with_reducible exact Ext.refl _ | with_reducible assumption | with_reducible refine Ext.alloc ?_ _ | with_reducible refine Ext.drew ?_ | with_reducible refine Ext.drewN ?_ _ | ((with_reducible refine Ext.set ?_ ?_ _); (focus (first | (simp; done) | (simp; omega)))) | with_reducible refine Ext.trans ?_ (by assumption)))) hn'.out hl).mono ?_
  rintro e1 w1 ⟨ao1, cap1, rfl, ho, hb1⟩
  have hk0 := hb1.more (k := w.heap.size) (by first | assumption | (simp; done) | (simp; omega) | omega)
  obtain ⟨hc0, hf0⟩ := hb1.row (k := w.heap.size) (by first | assumption | (simp; done) | (simp; omega) | omega)
  have hk1 := hb1.more (k := w.heap.size + 1) (by first | assumption | (simp; done) | (simp; omega) | omega)
  obtain ⟨hc1, hf1⟩ := hb1.row (k := w.heap.size + 1) (by first | assumption | (simp; done) | (simp; omega) | omega)
  have hk2 := hb1.more (k := w.heap.size + 1 + 1) (by first | assumption | (simp; done) | (simp; omega) | omega)
  obtain ⟨hc2, hf2⟩ := hb1.row (k := w.heap.size + 1 + 1) (by first | assumption | (simp; done) | (simp; omega) | omega)
  have ho' := hide ho
  clear ho
  go_wp2
  refine bodyPost_ret (v := .agg #[.int .i64 st, .int .i64 nx, .slice ao1 cs.length cap1, .int .i64 fi, .int .i64 hg, .int .i64 co]) (by simp [results, Try.results22, go_sem, *]) rfl ⟨ao1, cap1, rfl, ?_, ?_⟩
  · refine OwnC.mono (OwnC.chg (S := fun k => k < w.heap.size + 1 + 1 + 1) ho'.out (by repeat (first | with_reducible exact Chg.refl _ _ | with_reducible assumption | with_reducible refine Chg.alloc ?_ _ | with_reducible refine Chg.drew ?_ | with_reducible refine Chg.drewN ?_ _ | ((with_reducible refine Chg.set ?_ ?_ _); (focus (first | (left; simp; done) | (left; simp; omega) | (right; simp; done) | (right; simp; omega)))))) (fun b h1 h2 h3 => by simp at h1; omega)) (by simp; omega) (by simp)
  · exact (by repeat (first | with_reducible exact Ext.refl _ | with_reducible assumption | with_reducible refine Ext.alloc ?_ _ | with_reducible refine Ext.drew ?_ | with_reducible refine Ext.drewN ?_ _ | ((with_reducible refine Ext.set ?_ ?_ _); (focus (first | (simp; done) | (simp; omega)))) | with_reducible refine Ext.trans ?_ (by assumption)))
set_option maxHeartbeats 1000000 in
theorem eqBuffer_any (nx : Int) (ao bo : Option Addr) (n m ca cb : Nat) (xs ys : List Ck) (w : World) (hx : ReadC w ao xs) (hy : ReadC w bo ys) (hn : xs.length = n) (hm : ys.length = m) (hl : (n : Int) ≤ 9223372036854775807) :
    Calls Try.prog 65 #[.agg #[.int .i64 nx, .slice ao n ca], .agg #[.int .i64 nx, .slice bo m cb]] w fun e w' => e = .returned (.bool (decide (xs = ys))) ∧ Ext w w' := by
  have hn' := hide hn
  have hm' := hide hm
  clear hn hm
  by_cases h : xs = ys
  · have hd := decide_eq_true h
    have h' := hide h
    clear h
    go_enter Try.func65, Try.ntmps65
    go_wp2_with fail
    refine (eqChunkS_any ao bo n m ca cb xs ys _ (hx.ext (by repeat (first | with_reducible exact Ext.refl _ | with_reducible assumption | with_reducible refine Ext.alloc ?_ _ | with_reducible refine Ext.drew ?_ | with_reducible refine Ext.drewN ?_ _ | ((with_reducible refine Ext.set ?_ ?_ _); (focus (first | (simp; done) | (simp; omega)))) | with_reducible refine Ext.trans ?_ (by assumption)))) (hy.ext (by repeat (first | with_reducible exact Ext.refl _ | with_reducible assumption | with_reducible refine Ext.alloc ?_ _ | with_reducible refine Ext.drew ?_ | with_reducible refine Ext.drewN ?_ _ | ((with_reducible refine Ext.set ?_ ?_ _); (focus (first | (simp; done) | (simp; omega)))) | with_reducible refine Ext.trans ?_ (by assumption)))) hn'.out hm'.out hl).mono ?_
    rintro en w1 ⟨rfl, hb⟩
    rw [hd]
    obtain ⟨c0, f0⟩ := hb.row (k := w.heap.size) (by first | assumption | (simp; done) | (simp; omega) | omega)
    obtain ⟨c1, f1⟩ := hb.row (k := w.heap.size + 1) (by first | assumption | (simp; done) | (simp; omega) | omega)
    clear hx hy
    go_wp2
    go_ret
    exact ⟨by rw [hd]; rfl, (by repeat (first | with_reducible exact Ext.refl _ | with_reducible assumption | with_reducible refine Ext.alloc ?_ _ | with_reducible refine Ext.drew ?_ | with_reducible refine Ext.drewN ?_ _ | ((with_reducible refine Ext.set ?_ ?_ _); (focus (first | (simp; done) | (simp; omega)))) | with_reducible refine Ext.trans ?_ (by assumption)))⟩
  · have hd := decide_eq_false h
    have h' := hide h
    clear h
    go_enter Try.func65, Try.ntmps65
    go_wp2_with fail
    refine (eqChunkS_any ao bo n m ca cb xs ys _ (hx.ext (by repeat (first | with_reducible exact Ext.refl _ | with_reducible assumption | with_reducible refine Ext.alloc ?_ _ | with_reducible refine Ext.drew ?_ | with_reducible refine Ext.drewN ?_ _ | ((with_reducible refine Ext.set ?_ ?_ _); (focus (first | (simp; done) | (simp; omega)))) | with_reducible refine Ext.trans ?_ (by assumption)))) (hy.ext (by repeat (first | with_reducible exact Ext.refl _ | with_reducible assumption | with_reducible refine Ext.alloc ?_ _ | with_reducible refine Ext.drew ?_ | with_reducible refine Ext.drewN ?_ _ | ((with_reducible refine Ext.set ?_ ?_ _); (focus (first | (simp; done) | (simp; omega)))) | with_reducible refine Ext.trans ?_ (by assumption)))) hn'.out hm'.out hl).mono ?_
    rintro en w1 ⟨rfl, hb⟩
    rw [hd]
    clear hx hy
    go_wp2
    go_ret
    exact ⟨by rw [hd]; rfl, (by repeat (first | with_reducible exact Ext.refl _ | with_reducible assumption | with_reducible refine Ext.alloc ?_ _ | with_reducible refine Ext.drew ?_ | with_reducible refine Ext.drewN ?_ _ | ((with_reducible refine Ext.set ?_ ?_ _); (focus (first | (simp; done) | (simp; omega)))) | with_reducible refine Ext.trans ?_ (by assumption)))⟩
set_option maxHeartbeats 1000000 in
theorem eqReceiver_any (st nx fi hg co : Int) (ao bo : Option Addr) (n m ca cb : Nat) (xs ys : List Ck) (w : World) (hx : ReadC w ao xs) (hy : ReadC w bo ys) (hn : xs.length = n) (hm : ys.length = m) (hl : (n : Int) ≤ 9223372036854775807) :
    Calls Try.prog 17 #[.agg #[.int .i64 st, .int .i64 nx, .slice ao n ca, .int .i64 fi, .int .i64 hg, .int .i64 co], .agg #[.int .i64 st, .int .i64 nx, .slice bo m cb, .int .i64 fi, .int .i64 hg, .int .i64 co]] w fun e w' => e = .returned (.bool (decide (xs = ys))) ∧ Ext w w' := by
  have hn' := hide hn
  have hm' := hide hm
  clear hn hm
  by_cases h : xs = ys
  · have hd := decide_eq_true h
    have h' := hide h
    clear h
    go_enter Try.func17, Try.ntmps17
    go_wp2_with fail
    refine (eqBuffer_any nx ao bo n m ca cb xs ys _ (hx.ext (by repeat (first | with_reducible exact Ext.refl _ | with_reducible assumption | with_reducible refine Ext.alloc ?_ _ | with_reducible refine Ext.drew ?_ | with_reducible refine Ext.drewN ?_ _ | ((with_reducible refine Ext.set ?_ ?_ _); (focus (first | (simp; done) | (simp; omega)))) | with_reducible refine Ext.trans ?_ (by assumption)))) (hy.ext (by repeat (first | with_reducible exact Ext.refl _ | with_reducible assumption | with_reducible refine Ext.alloc ?_ _ | with_reducible refine Ext.drew ?_ | with_reducible refine Ext.drewN ?_ _ | ((with_reducible refine Ext.set ?_ ?_ _); (focus (first | (simp; done) | (simp; omega)))) | with_reducible refine Ext.trans ?_ (by assumption)))) hn'.out hm'.out hl).mono ?_
    rintro en w1 ⟨rfl, hb⟩
    rw [hd]
    obtain ⟨c0, f0⟩ := hb.row (k := w.heap.size) (by first | assumption | (simp; done) | (simp; omega) | omega)
    obtain ⟨c1, f1⟩ := hb.row (k := w.heap.size + 1) (by first | assumption | (simp; done) | (simp; omega) | omega)
    clear hx hy
    go_wp2
    go_ret
    exact ⟨by rw [hd]; rfl, (by repeat (first | with_reducible exact Ext.refl _ | with_reducible assumption | with_reducible refine Ext.alloc ?_ _ | with_reducible refine Ext.drew ?_ | with_reducible refine Ext.drewN ?_ _ | ((with_reducible refine Ext.set ?_ ?_ _); (focus (first | (simp; done) | (simp; omega)))) | with_reducible refine Ext.trans ?_ (by assumption)))⟩
  · have hd := decide_eq_false h
    have h' := hide h
    clear h
    go_enter Try.func17, Try.ntmps17
    go_wp2_with fail
    refine (eqBuffer_any nx ao bo n m ca cb xs ys _ (hx.ext (by repeat (first | with_reducible exact Ext.refl _ | with_reducible assumption | with_reducible refine Ext.alloc ?_ _ | with_reducible refine Ext.drew ?_ | with_reducible refine Ext.drewN ?_ _ | ((with_reducible refine Ext.set ?_ ?_ _); (focus (first | (simp; done) | (simp; omega)))) | with_reducible refine Ext.trans ?_ (by assumption)))) (hy.ext (by repeat (first | with_reducible exact Ext.refl _ | with_reducible assumption | with_reducible refine Ext.alloc ?_ _ | with_reducible refine Ext.drew ?_ | with_reducible refine Ext.drewN ?_ _ | ((with_reducible refine Ext.set ?_ ?_ _); (focus (first | (simp; done) | (simp; omega)))) | with_reducible refine Ext.trans ?_ (by assumption)))) hn'.out hm'.out hl).mono ?_
    rintro en w1 ⟨rfl, hb⟩
    rw [hd]
    clear hx hy
    go_wp2
    go_ret
    exact ⟨by rw [hd]; rfl, (by repeat (first | with_reducible exact Ext.refl _ | with_reducible assumption | with_reducible refine Ext.alloc ?_ _ | with_reducible refine Ext.drew ?_ | with_reducible refine Ext.drewN ?_ _ | ((with_reducible refine Ext.set ?_ ?_ _); (focus (first | (simp; done) | (simp; omega)))) | with_reducible refine Ext.trans ?_ (by assumption)))⟩
end Go.Proofs.Ytifhbchlmlaanaa

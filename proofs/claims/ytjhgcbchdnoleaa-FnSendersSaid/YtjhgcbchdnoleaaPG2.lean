/-
  Part of the proof: Ints, Ring, RowV, Row, Copy, Num, In, Ring2, IsRing, RoomOf, Byte.
-/
import Derived.Deep.QuietTactic
import Derived.BigQuiet
import Derived.LoopTactic
import Derived.Deep.OwnRows
import Derived.Deep.AppendLies
import Derived.Laws.OwnMore
import Derived.Deep.RegionHeld3
import Derived.Laws.IdiomStrings
import Derived.Test.YtjhgcbchdnoleaaPG1
namespace Go.Proofs.Ytjhgcbchdnoleaa
section
open Go.ChangeShapes Go.WideShapes Go.ChangeAt Go.RowKit
set_option linter.unusedSimpArgs false
set_option linter.unusedVariables false
/-- The slice's first cells hold xs. -/
def ReadS (w : World) (ao : Option Addr) (xs : List Int) : Prop :=
  xs = [] ∨ ∃ b off : Nat, ao = some ⟨b, off, none⟩ ∧ ∀ j : Nat, j < xs.length → w.cell? ⟨b, off + j, none⟩ = some (.int .i64 (xs.getD j 0))
/-- Likewise, in a block from lo up to hi, which may be written. -/
def OwnS (lo hi : Nat) (w : World) (ao : Option Addr) (xs : List Int) : Prop :=
  xs = [] ∨ ∃ b off : Nat, ao = some ⟨b, off, none⟩ ∧ lo ≤ b ∧ b < hi ∧ (∀ o, w.frozen? ⟨b, o, none⟩ = false) ∧ ∀ j : Nat, j < xs.length → w.cell? ⟨b, off + j, none⟩ = some (.int .i64 (xs.getD j 0))
theorem OwnS.read {lo hi : Nat} {w : World} {ao : Option Addr} {xs : List Int} (h : OwnS lo hi w ao xs) : ReadS w ao xs := by
  rcases h with h | ⟨b, off, h1, _, _, _, h2⟩
  · exact Or.inl h
  · exact Or.inr ⟨b, off, h1, h2⟩
theorem ReadS.ext {w w' : World} {ao : Option Addr} {xs : List Int} (h : ReadS w ao xs) (hx : Ext w w') : ReadS w' ao xs := by
  rcases h with h | ⟨b, off, h1, h2⟩
  · exact Or.inl h
  · refine Or.inr ⟨b, off, h1, fun j hj => ?_⟩
    have := h2 j hj
    rw [(hx.row (World.block_lt_of_cell? w _ this)).1]
    exact this
theorem OwnS.chg {lo hi : Nat} {S : Nat → Prop} {w w' : World} {ao : Option Addr} {xs : List Int} (h : OwnS lo hi w ao xs) (hx : Chg S w w') (hS : ∀ b, lo ≤ b → b < hi → ¬ S b) : OwnS lo hi w' ao xs := by
  rcases h with h | ⟨b, off, h1, h2, h3, h4, h5⟩
  · exact Or.inl h
  · rcases xs with _ | ⟨x, xs⟩
    · exact Or.inl rfl
    · have hb := World.block_lt_of_cell? w _ (h5 0 (by simp))
      obtain ⟨r1, r2⟩ := hx.row hb (hS b h2 h3)
      exact Or.inr ⟨b, off, h1, h2, h3, fun o => by rw [r2]; exact h4 o, fun j hj => by rw [r1]; exact h5 j hj⟩
theorem OwnS.mono {lo hi lo' hi' : Nat} {w : World} {ao : Option Addr} {xs : List Int} (h : OwnS lo hi w ao xs) (h1 : lo' ≤ lo) (h2 : hi ≤ hi') : OwnS lo' hi' w ao xs := by
  rcases h with h | ⟨b, off, k1, k2, k3, k4, k5⟩
  · exact Or.inl h
  · exact Or.inr ⟨b, off, k1, Nat.le_trans h1 k2, Nat.lt_of_lt_of_le k3 h2, k4, k5⟩
theorem cell_set_other {w : World} {b o1 o2 : Nat} {v : Value} (h : o1 ≠ o2) : (w.setCell ⟨b, o1, none⟩ v).cell? ⟨b, o2, none⟩ = w.cell? ⟨b, o2, none⟩ :=
  World.cell?_setCell_other w ⟨b, o1, none⟩ ⟨b, o2, none⟩ v (fun e => h (by injection e))
theorem take_succ_getD (xs : List Int) {k : Nat} (hk : k < xs.length) : xs.take (k + 1) = xs.take k ++ [xs.getD k 0] := by
  rw [List.take_succ_eq_append_getElem hk]; simp [List.getD, List.getElem?_eq_getElem hk]
theorem take_succ_eq {xs ys : List Int} {k : Nat} (hk : k < xs.length) (hk2 : k < ys.length) (h : xs.take k = ys.take k) (e : xs.getD k 0 = ys.getD k 0) : xs.take (k + 1) = ys.take (k + 1) := by
  rw [take_succ_getD xs hk, take_succ_getD ys hk2, h, e]
theorem ne_of_getD {xs ys : List Int} {k : Nat} (e : ¬ xs.getD k 0 = ys.getD k 0) : ¬ xs = ys := fun h => e (by rw [h])
theorem infoInt : (Try.prog.info? 3).map (fun i => (i.zero, i.size, i.bytes)) = some (some (.int .i64 0), 1, 8) := by kernel_rfl
end
section
open Go.ChangeShapes Go.WideShapes Go.ChangeAt Go.RowKit
set_option linter.unusedSimpArgs false
/-- A new ring with these numbers, whose cells hold xs. -/
def NewRingV (z b e : Int) (xs : List Int) (w : World) (en : Ending) (w' : World) : Prop :=
  ∃ (ao : Option Addr) (cap : Nat), en = .returned (.agg #[.int .i64 z, .int .i64 b, .int .i64 e, .slice ao xs.length cap]) ∧ OwnS w.heap.size w'.heap.size w' ao xs ∧ Ext w w'
end
section
open Go.ChangeShapes Go.WideShapes Go.ChangeAt Go.RowKit
set_option linter.unusedSimpArgs false
section
variable {P : Program}
/-- The cells behind a slice's address can be read. -/
def ReadV (w : World) (ao : Option Addr) (cs : List Value) : Prop :=
  cs = [] ∨ ∃ b off : Nat, ao = some ⟨b, off, none⟩ ∧ ∀ j u, cs[j]? = some u → w.cell? ⟨b, off + j, none⟩ = some u
theorem ReadV.ext {w w' : World} {ao : Option Addr} {cs : List Value} (h : ReadV w ao cs) (hx : Ext w w') : ReadV w' ao cs := by
  rcases h with h | ⟨b, off, h1, h2⟩
  · exact Or.inl h
  · refine Or.inr ⟨b, off, h1, fun j u hj => ?_⟩
    have := h2 j u hj
    rw [(hx.row (World.block_lt_of_cell? w _ this)).1]
    exact this
theorem grown_chg {S : Nat → Prop} {w w' : World} {row : Option Nat} (h : w.grownBy w' row) (hr : ∀ k, row = some k → S k) : Chg S w w' :=
  ⟨h.os, h.tape, h.output, h.size, fun k hk hS => h.block k hk fun e => hS (hr k e.symm)⟩
theorem run_append_any {w : World} (base : Nat) (t ty e : TypeId) (i : TypeInfo) (z : Value) (size bytes : Nat) (ht : P.underlying t = some (.slice e)) (hi : P.info? e = some i) (hz : i.zero = some z)
    (hsize : i.size = size) (hby : i.bytes = bytes) (hzs : z.cells.size = size) (hsz : 0 < size)
    (v : Value) (n : Nat) (xs : List Value) (hown : w.ownsRow base e size v n xs)
    (ao : Option Addr) (m c : Nat) (news : List Value) (hl : news.length = m * size) (hnews : ReadV w ao news) (h1 : ∀ u ∈ news, u.oneCell' = true)
    (h63 : n + m ≤ maxLen) (hbytes : (n + m) * bytes ≤ 140737488355328) (hbase : base ≤ w.heap.size) :
    ∃ v' w', (Builtin.append_ #[t, t] ty #[v, .slice ao m c]).run P w = .ok v' w' ∧ w'.ownsRow base e size v' (n + m) (xs ++ news) ∧ w.grownBy w' v.ownBlock := by
  cases ao with
  | some ad =>
    obtain ⟨v', w', h1, h2, h3, _⟩ := run_append_own (P := P) (w := w) base t ty e i z size bytes ht hi hz hsize hby hzs hsz v n xs hown ad m c news hl (by
      rcases hnews with rfl | ⟨b, off, hb, hc⟩
      · intro j u hj; simp at hj
      · obtain rfl := Option.some.inj hb
        intro j u hj
        rw [Addr.add_lit]
        exact hc j u hj) h1 h63 hbytes hbase
    exact ⟨v', w', h1, h2, h3⟩
  | none =>
    have hn : news = [] := by
      rcases hnews with h | ⟨_, _, h, _⟩
      · exact h
      · cases h
    subst hn
    have hm : m = 0 := by
      simp only [List.length_nil] at hl
      rcases Nat.eq_zero_or_pos m with h | h
      · exact h
      · have := Nat.mul_pos h hsz; omega
    subst hm
    refine ⟨v, w, ?_, by simpa using hown, ⟨rfl, rfl, rfl, Nat.le_refl _, fun _ _ _ => rfl⟩⟩
    rcases hown.2 with ⟨rfl, rfl⟩ | ⟨g, cap, cur, rfl, _, _, hnc, _⟩
    · simp [Builtin.append_, run_underlying ht, sizeOf, typeInfo, hi, Builtin.lenOf, Builtin.firstCells]
    · simp [Builtin.append_, run_underlying ht, sizeOf, typeInfo, hi, Builtin.lenOf, Builtin.firstCells, hnc, storeCells]
theorem wp_append_any {w : World} {o : Oper} {a : Act} {K : Act → World → Prop} {Q : Exit → Act → World → Prop} (s x : Operand) (t : TypeId)
    (ho : o.op = .call { callee := .builtin .append, args := #[s, x], argTypes := #[t, t] })
    (base : Nat) (e : TypeId) (i : TypeInfo) (z : Value) (size bytes : Nat) (ht : P.underlying t = some (.slice e)) (hi : P.info? e = some i) (hz : i.zero = some z)
    (hsize : i.size = size) (hby : i.bytes = bytes) (hzs : z.cells.size = size) (hsz : 0 < size)
    (v : Value) (n : Nat) (xs : List Value) (hs : a.eval s = v) (hown : w.ownsRow base e size v n xs)
    (ao : Option Addr) (m c : Nat) (news : List Value) (hx : a.eval x = .slice ao m c) (hl : news.length = m * size) (hnews : ReadV w ao news) (h1 : ∀ u ∈ news, u.oneCell' = true)
    (h63 : n + m ≤ maxLen) (hbytes : (n + m) * bytes ≤ 140737488355328) (hbase : base ≤ w.heap.size)
    (h : ∀ v' w', w'.ownsRow base e size v' (n + m) (xs ++ news) → w.grownBy w' v.ownBlock → K (a.put o.dst v') w') : o.wp P a w K Q := by
  obtain ⟨v', w', hr, h2, h3⟩ := run_append_any (P := P) (w := w) base t o.type e i z size bytes ht hi hz hsize hby hzs hsz v n xs hown ao m c news hl hnews h1 h63 hbytes hbase
  unfold Oper.wp execOp
  simp only [ho, resolve, invoke, builtin, Sem.run_bind, Sem.run_pure, Result.andThen_ok, List.map_toArray, List.map_cons, List.map_nil, hs, hx, hr]
  exact h v' w' h2 h3
theorem wpList_append_any {w : World} {ops : Array Oper} {rest : List Oper} {o : Oper} {a : Act} {Q : Exit → Act → World → Prop} (hgd : o.guard = none) (s x : Operand) (t : TypeId)
    (ho : o.op = .call { callee := .builtin .append, args := #[s, x], argTypes := #[t, t] })
    (base : Nat) (e : TypeId) (i : TypeInfo) (z : Value) (size bytes : Nat) (ht : P.underlying t = some (.slice e)) (hi : P.info? e = some i) (hz : i.zero = some z)
    (hsize : i.size = size) (hby : i.bytes = bytes) (hzs : z.cells.size = size) (hsz : 0 < size)
    (v : Value) (n : Nat) (xs : List Value) (hs : a.eval s = v) (hown : w.ownsRow base e size v n xs)
    (ao : Option Addr) (m c : Nat) (news : List Value) (hx : a.eval x = .slice ao m c) (hl : news.length = m * size) (hnews : ReadV w ao news) (h1 : ∀ u ∈ news, u.oneCell' = true)
    (h63 : n + m ≤ maxLen) (hbytes : (n + m) * bytes ≤ 140737488355328) (hbase : base ≤ w.heap.size)
    (h : ∀ v' w', w'.ownsRow base e size v' (n + m) (xs ++ news) → w.grownBy w' v.ownBlock → wpList P ops Q rest (a.put o.dst v') w') : wpList P ops Q (o :: rest) a w :=
  wpList_plain hgd fun _ hK => wp_append_any s x t ho base e i z size bytes ht hi hz hsize hby hzs hsz v n xs hs hown ao m c news hx hl hnews h1 h63 hbytes hbase fun v' w' h2 h3 => hK _ _ (h v' w' h2 h3)
theorem step_append_any {w : World} {ops : Array Oper} {o : Oper} {a : Act} {K : Act → World → Prop} {Q : Exit → Act → World → Prop} {E : Prop} (hgd : o.guard = none) (s x : Operand) (t : TypeId)
    (ho : o.op = .call { callee := .builtin .append, args := #[s, x], argTypes := #[t, t] })
    (base : Nat) (e : TypeId) (i : TypeInfo) (z : Value) (size bytes : Nat) (ht : P.underlying t = some (.slice e)) (hi : P.info? e = some i) (hz : i.zero = some z)
    (hsize : i.size = size) (hby : i.bytes = bytes) (hzs : z.cells.size = size) (hsz : 0 < size)
    (v : Value) (n : Nat) (xs : List Value) (hs : a.eval s = v) (hown : w.ownsRow base e size v n xs)
    (ao : Option Addr) (m c : Nat) (news : List Value) (hx : a.eval x = .slice ao m c) (hl : news.length = m * size) (hnews : ReadV w ao news) (h1 : ∀ u ∈ news, u.oneCell' = true)
    (h63 : n + m ≤ maxLen) (hbytes : (n + m) * bytes ≤ 140737488355328) (hbase : base ≤ w.heap.size)
    (h : ∀ v' w', w'.ownsRow base e size v' (n + m) (xs ++ news) → w.grownBy w' v.ownBlock → K (a.put o.dst v') w') :
    if Region.wanted o (yielded ops a.tmps) = true then Oper.wp P o a w K Q else E := by
  have hw : Region.wanted o (yielded ops a.tmps) = true := by simp [Region.wanted, hgd]
  rw [if_pos hw]
  exact wp_append_any s x t ho base e i z size bytes ht hi hz hsize hby hzs hsz v n xs hs hown ao m c news hx hl hnews h1 h63 hbytes hbase h
theorem own_made {w : World} {base B : Nat} {e : TypeId} {size : Nat} (hB : w.heap.size = B) (hb : base ≤ B) : (w.alloc (.cells #[] e)).ownsRow base e size (.slice (some ⟨B, 0, none⟩) 0 0) 0 [] := by
  subst hB
  exact World.ownsRow_made w #[] 0 hb (by decide) (by simp)
end
end
section
open Go.ChangeShapes Go.WideShapes Go.ChangeAt Go.RowKit
set_option linter.unusedSimpArgs false
section
theorem ReadS.v {w : World} {ao : Option Addr} {xs : List Int} (h : ReadS w ao xs) : ReadV w ao (xs.map (Value.int .i64)) := by
  rcases h with rfl | ⟨b, off, h1, h2⟩
  · exact Or.inl rfl
  · refine Or.inr ⟨b, off, h1, fun j u hj => ?_⟩
    rw [List.getElem?_map] at hj
    rcases hx : xs[j]? with _ | x
    · rw [hx] at hj; cases hj
    · rw [hx] at hj
      obtain rfl := Option.some.inj hj
      obtain ⟨hlt, hgx⟩ := List.getElem?_eq_some_iff.1 hx
      rw [h2 j hlt]
      simp [List.getD, hx]
theorem ints_one (xs : List Int) : ∀ u ∈ xs.map (Value.int .i64), u.oneCell' = true := by
  intro u hu
  simp only [List.mem_map] at hu
  obtain ⟨x, _, rfl⟩ := hu
  rfl
/-- A row of ints of the call's own. -/
theorem own_ints {w : World} {base : Nat} {e : TypeId} {v : Value} {n : Nat} {xs : List Int} (h : w.ownsRow base e 1 v n (xs.map (Value.int .i64))) :
    ∃ (ao : Option Addr) (cap : Nat), v = .slice ao xs.length cap ∧ xs.length = n ∧ OwnS base w.heap.size w ao xs := by
  obtain ⟨hl, ⟨rfl, rfl⟩ | ⟨g, cap, cur, rfl, hb, hblk, hle, _, hsz, htake⟩⟩ := h
  · have hx : xs = [] := by simpa using hl
    subst hx
    exact ⟨none, 0, rfl, rfl, Or.inl rfl⟩
  · have hl' : xs.length = n := by simpa using hl
    refine ⟨some ⟨g, 0, none⟩, cap, by rw [hl'], hl', Or.inr ⟨g, 0, rfl, hb, lt_of_block hblk, fun o => by simp [World.frozen?, hblk], fun j hj => ?_⟩⟩
    rw [Nat.zero_add, cell_of_row w g j cur _ _ hblk, ← Array.getElem?_toList]
    have h1 := congrArg (fun l => l[j]?) htake
    simp only [Nat.mul_one, List.getElem?_take, (by omega : j < n), if_true, List.getElem?_map] at h1
    rw [h1]
    simp [List.getElem?_eq_getElem hj, List.getD]
/-- Ints of the call's own, the block known whole, with its type. -/
def OwnT (e lo hi : Nat) (w : World) (ao : Option Addr) (xs : List Int) : Prop :=
  xs = [] ∨ ∃ (b off : Nat) (arr : Array Value), ao = some ⟨b, off, none⟩ ∧ lo ≤ b ∧ b < hi ∧ w.heap[b]? = some (.cells arr e (0, 0)) ∧ ∀ j : Nat, j < xs.length → arr[off + j]? = some (.int .i64 (xs.getD j 0))
theorem OwnT.own {e lo hi : Nat} {w : World} {ao : Option Addr} {xs : List Int} (h : OwnT e lo hi w ao xs) : OwnS lo hi w ao xs := by
  rcases h with h | ⟨b, off, arr, h1, h2, h3, h4, h5⟩
  · exact Or.inl h
  · exact Or.inr ⟨b, off, h1, h2, h3, fun o => by simp [World.frozen?, h4], fun j hj => by rw [cell_of_row w b (off + j) arr _ _ h4]; exact h5 j hj⟩
theorem OwnT.chg {e lo hi : Nat} {S : Nat → Prop} {w w' : World} {ao : Option Addr} {xs : List Int} (h : OwnT e lo hi w ao xs) (hx : Chg S w w') (hS : ∀ b arr, lo ≤ b → b < hi → w.heap[b]? = some (.cells arr e (0, 0)) → ¬ S b) : OwnT e lo hi w' ao xs := by
  rcases h with h | ⟨b, off, arr, h1, h2, h3, h4, h5⟩
  · exact Or.inl h
  · exact Or.inr ⟨b, off, arr, h1, h2, h3, by rw [hx.block b (lt_of_block h4) (hS b arr h2 h3 h4)]; exact h4, h5⟩
theorem OwnT.mono {e lo hi lo' hi' : Nat} {w : World} {ao : Option Addr} {xs : List Int} (h : OwnT e lo hi w ao xs) (h1 : lo' ≤ lo) (h2 : hi ≤ hi') : OwnT e lo' hi' w ao xs := by
  rcases h with h | ⟨b, off, arr, k1, k2, k3, k4, k5⟩
  · exact Or.inl h
  · exact Or.inr ⟨b, off, arr, k1, Nat.le_trans h1 k2, Nat.lt_of_lt_of_le k3 h2, k4, k5⟩
theorem own_intsT {w : World} {base : Nat} {e : TypeId} {v : Value} {n : Nat} {xs : List Int} (h : w.ownsRow base e 1 v n (xs.map (Value.int .i64))) :
    ∃ (ao : Option Addr) (cap : Nat), v = .slice ao xs.length cap ∧ xs.length = n ∧ OwnT e base w.heap.size w ao xs := by
  obtain ⟨hl, ⟨rfl, rfl⟩ | ⟨g, cap, cur, rfl, hb, hblk, hle, _, hsz, htake⟩⟩ := h
  · have hx : xs = [] := by simpa using hl
    subst hx
    exact ⟨none, 0, rfl, rfl, Or.inl rfl⟩
  · have hl' : xs.length = n := by simpa using hl
    refine ⟨some ⟨g, 0, none⟩, cap, by rw [hl'], hl', Or.inr ⟨g, 0, cur, rfl, hb, lt_of_block hblk, hblk, fun j hj => ?_⟩⟩
    rw [Nat.zero_add, ← Array.getElem?_toList]
    have h1 := congrArg (fun l => l[j]?) htake
    simp only [Nat.mul_one, List.getElem?_take, (by omega : j < n), if_true, List.getElem?_map] at h1
    rw [h1]
    simp [List.getElem?_eq_getElem hj, List.getD]
end
end
section
open Go.ChangeShapes Go.WideShapes Go.ChangeAt Go.RowKit
set_option linter.unusedSimpArgs false
def NewRingT (z b e : Int) (xs : List Int) (w : World) (en : Ending) (w' : World) : Prop :=
  ∃ (ao : Option Addr) (cap : Nat), en = .returned (.agg #[.int .i64 z, .int .i64 b, .int .i64 e, .slice ao xs.length cap]) ∧ OwnT 3 w.heap.size w'.heap.size w' ao xs ∧ Ext w w'
set_option maxHeartbeats 1000000 in
theorem copyRing_own (z b e : Int) (ao : Option Addr) (n ca : Nat) (xs : List Int) (w : World) (hx : ReadS w ao xs) (hn : xs.length = n) (hl : n ≤ 4194304) :
    Calls Try.prog 113 #[.agg #[.int .i64 z, .int .i64 b, .int .i64 e, .slice ao n ca]] w (NewRingT z b e xs w) := by
  have hn' := hide hn
  have hx' := hide hx
  clear hn hx
  obtain ⟨i0, hi0, hz0, hz1, hz2⟩ := info_parts infoInt
  go_enter Try.func113, Try.ntmps113
  go_wp2_with (at_builtin; refine wpList_append_any (by rfl) _ _ 22 (by rfl) (w.heap.size + 2) 3 i0 (.int .i64 0) 1 8 Try.underlying22 hi0 hz0 hz1 hz2 rfl (by omega) (.slice (some ⟨w.heap.size + 2, 0, none⟩) 0 0) 0 [] (by rfl) ?_ ao n ca (xs.map (Value.int .i64)) (by rfl) (by simp [hn'.out]) (hx'.out.v.ext Ext.go) (ints_one xs) (by simp [maxLen]; omega) (by omega) (by simp) ?_)
  · exact own_made (by simp) (by omega)
  · intro v' w' hown hgrow
    have hg : Chg (fun k => k = w.heap.size + 2) _ w' := grown_chg hgrow (fun k hk => (Option.some.inj hk).symm)
    obtain ⟨ao', cap', rfl, hxl, ho⟩ := own_intsT hown
    obtain ⟨c1, f1⟩ := hg.row (k := w.heap.size) xpf (by omega)
    obtain ⟨c2, f2⟩ := hg.row (k := w.heap.size + 1) xpf (by omega)
    have k1 := hg.more (k := w.heap.size) xpf
    have k2 := hg.more (k := w.heap.size + 1) xpf
    have hE : Ext w w' := (Chg.trans (Ext.chg (S := fun k => k = w.heap.size + 2) Ext.go) hg).ext (fun k hk h => by omega)
    have d0 : w'.cell? ⟨w.heap.size, 0, none⟩ = some (.int .i64 z) := (by rw [c1]; simp [go_sem])
    have d1 : w'.cell? ⟨w.heap.size, 1, none⟩ = some (.int .i64 b) := (by rw [c1]; simp [go_sem])
    have d2 : w'.cell? ⟨w.heap.size, 2, none⟩ = some (.int .i64 e) := (by rw [c1]; simp [go_sem])
    have d3 : w'.cell? ⟨w.heap.size, 3, none⟩ = some (.slice ao n ca) := (by rw [c1]; simp [go_sem])
    have g0 : w'.cell? ⟨w.heap.size + 1, 0, none⟩ = some (.int .i64 0) := (by rw [c2]; simp [go_sem])
    have g1 : w'.cell? ⟨w.heap.size + 1, 1, none⟩ = some (.int .i64 0) := (by rw [c2]; simp [go_sem])
    have g2 : w'.cell? ⟨w.heap.size + 1, 2, none⟩ = some (.int .i64 0) := (by rw [c2]; simp [go_sem])
    have g3 : w'.cell? ⟨w.heap.size + 1, 3, none⟩ = some (.slice none 0 0) := (by rw [c2]; simp [go_sem])
    clear hown hgrow hg hxl c1 c2
    go_wp2
    refine bodyPost_ret (v := .agg #[.int .i64 z, .int .i64 b, .int .i64 e, .slice ao' xs.length cap']) (by simp [results, Try.results113, go_sem, *]) rfl ⟨ao', cap', rfl, ?_, ?_⟩
    · refine OwnT.mono (OwnT.chg (S := fun k => k < w.heap.size + 2) ho (by repeat (first | with_reducible exact Chg.refl _ _ | with_reducible assumption | with_reducible refine Chg.alloc ?_ _ | with_reducible refine Chg.drew ?_ | with_reducible refine Chg.drewN ?_ _ | ((with_reducible refine Chg.set ?_ ?_ _); (focus (first | (left; simp; done) | (left; simp; omega) | (right; simp; done) | (right; simp; omega)))))) (fun b arr h1 h2 _ h3 => by omega)) (by omega) (by simp)
    · exact Ext.go
theorem copyRing_any (z b e : Int) (ao : Option Addr) (n ca : Nat) (xs : List Int) (w : World) (hx : ReadS w ao xs) (hn : xs.length = n) (hl : n ≤ 4194304) :
    Calls Try.prog 113 #[.agg #[.int .i64 z, .int .i64 b, .int .i64 e, .slice ao n ca]] w (NewRingV z b e xs w) :=
  (copyRing_own z b e ao n ca xs w hx hn hl).mono fun _ _ ⟨ao, cap, h1, h2, h3⟩ => ⟨ao, cap, h1, h2.own, h3⟩
set_option maxHeartbeats 1000000 in
theorem l8Copy_any (z b e : Int) (ao : Option Addr) (n ca : Nat) (xs : List Int) (w : World) (hx : ReadS w ao xs) (hn : xs.length = n) (hl : n ≤ 4194304) :
    Calls Try.prog 109 #[.agg #[.int .i64 z, .int .i64 b, .int .i64 e, .slice ao n ca]] w (NewRingV z b e xs w) := by
  have hn' := hide hn
  have hx' := hide hx
  clear hn hx
  obtain ⟨i0, hi0, hz0, hz1, hz2⟩ := info_parts infoInt
  go_enter Try.func109, Try.ntmps109
  go_wp2_with fail
  go_region_held3 (fun w' => w'.cell? ⟨w.heap.size, 0, none⟩ = some (.int .i64 z) ∧ w'.cell? ⟨w.heap.size, 1, none⟩ = some (.int .i64 b) ∧ w'.cell? ⟨w.heap.size, 2, none⟩ = some (.int .i64 e) ∧ w'.cell? ⟨w.heap.size, 3, none⟩ = some (.slice ao n ca))
    (first
      | go_keep
      | (go_split_ands
         refine ⟨?_, ?_, ?_, ?_⟩
         · (rw [hgrow.cell_far _ (by simp; omega) (by simp [Value.ownBlock])]; assumption)
         · (rw [hgrow.cell_far _ (by simp; omega) (by simp [Value.ownBlock])]; assumption)
         · (rw [hgrow.cell_far _ (by simp; omega) (by simp [Value.ownBlock])]; assumption)
         · (rw [hgrow.cell_far _ (by simp; omega) (by simp [Value.ownBlock])]; assumption)))
    ((refine step_append_any (by rfl) _ _ 22 (by rfl) (w.heap.size + 2) 3 i0 (.int .i64 0) 1 8 Try.underlying22 hi0 hz0 hz1 hz2 rfl (by omega) (.slice (some ⟨w.heap.size + 2, 0, none⟩) 0 0) 0 [] (by rfl) ((own_made (by simp) (by omega)).drew) ao n ca (xs.map (Value.int .i64)) (by rfl) (by simp [hn'.out]) (hx'.out.v.ext Ext.go) (ints_one xs) (by simp [maxLen]; omega) (by omega) (by simp) ?_; intro v' w1 hown hgrow; obtain ⟨ao', cap', rfl, hxl, ho⟩ := own_ints hown; have hg : Chg (fun k => k = w.heap.size + 2) _ w1 := grown_chg hgrow (fun k hk => (Option.some.inj hk).symm); obtain ⟨c2, f2⟩ := hg.row (k := w.heap.size + 1) xpf (by omega); have hE : Ext w w1 := (Chg.trans (Ext.chg (S := fun k => k = w.heap.size + 2) Ext.go) hg).ext (fun k hk h => by omega); have g0 : w1.cell? ⟨w.heap.size + 1, 0, none⟩ = some (.int .i64 0) := (by rw [c2]; simp [go_sem]); have g1 : w1.cell? ⟨w.heap.size + 1, 1, none⟩ = some (.int .i64 0) := (by rw [c2]; simp [go_sem]); have g2 : w1.cell? ⟨w.heap.size + 1, 2, none⟩ = some (.int .i64 0) := (by rw [c2]; simp [go_sem]); have g3 : w1.cell? ⟨w.heap.size + 1, 3, none⟩ = some (.slice none 0 0) := (by rw [c2]; simp [go_sem]); clear hxl hown hg c2))
  go_wp2
  refine bodyPost_ret (v := .agg #[.int .i64 z, .int .i64 b, .int .i64 e, .slice ao' xs.length cap']) (by simp [results, Try.results109, go_sem, *]) rfl ⟨ao', cap', rfl, ?_, ?_⟩
  · refine OwnS.mono (OwnS.chg (S := fun k => k < w.heap.size + 2) ho (by repeat (first | with_reducible exact Chg.refl _ _ | with_reducible assumption | with_reducible refine Chg.alloc ?_ _ | with_reducible refine Chg.drew ?_ | with_reducible refine Chg.drewN ?_ _ | ((with_reducible refine Chg.set ?_ ?_ _); (focus (first | (left; simp; done) | (left; simp; omega) | (right; simp; done) | (right; simp; omega)))))) (fun b h1 h2 h3 => by omega)) (by omega) (by simp)
  · exact Ext.go
end
section
open Go.ChangeShapes Go.WideShapes Go.ChangeAt Go.RowKit
set_option linter.unusedSimpArgs false
def inB (lo n hi : Int) : Bool := decide (lo ≤ n) && decide (n ≤ hi)
theorem inB_true {lo n hi : Int} (h : inB lo n hi = true) : lo ≤ n ∧ n ≤ hi := by simpa [inB] using h
theorem inB_mk {lo n hi : Int} (h1 : lo ≤ n) (h2 : n ≤ hi) : inB lo n hi = true := by simp [inB, h1, h2]
theorem inB_no {lo n hi : Int} (h : ¬ (lo ≤ n ∧ n ≤ hi)) : inB lo n hi = false := by
  cases e : inB lo n hi with
  | false => rfl
  | true => exact absurd (inB_true e) h
end
section
open Go.ChangeShapes Go.WideShapes Go.ChangeAt Go.RowKit
set_option linter.unusedSimpArgs false
theorem l1In_any (x lo hi : Int) (w : World) : Calls Try.prog 82 #[.int .i64 x, .int .i64 lo, .int .i64 hi] w fun e w' => e = .returned (.bool (inB lo x hi)) ∧ w = w' := by
  go_enter Try.func82, Try.ntmps82
  go_wp2
  all_goals go_ret
  all_goals (simp [inB, *]; try omega)
theorem within_any (x lo hi : Int) (w : World) : Calls Try.prog 74 #[.int .i64 x, .int .i64 lo, .int .i64 hi] w fun e w' => e = .returned (.bool (inB lo x hi)) ∧ w = w' := by
  go_enter Try.func74, Try.ntmps74
  go_wp2
  all_goals go_ret
  all_goals (simp [inB, *]; try omega)
end
section
open Go.ChangeShapes Go.WideShapes Go.ChangeAt Go.RowKit
set_option linter.unusedSimpArgs false
/-- Is this a ring's size? -/
def ringSz (n : Int) : Bool := inB 1 n 64 && (bits .and .i64 n (n - 1) == 0)
theorem ringSz_bd {n : Int} (h : ringSz n = true) : 1 ≤ n ∧ n ≤ 64 := by
  simp only [ringSz, Bool.and_eq_true] at h
  exact inB_true h.1
theorem isRingSize_any (n : Int) (w : World) : Calls Try.prog 125 #[.int .i64 n] w fun e w' => e = .returned (.bool (ringSz n)) ∧ w = w' := by
  rcases Bool.eq_false_or_eq_true (inB 1 n 64) with h | h
  · obtain ⟨k1, k2⟩ := inB_true h
    go_enter Try.func125, Try.ntmps125
    go_wp2_with (go_at_call 74; refine (within_any _ _ _ _).mono ?_; rintro e w1 ⟨rfl, rfl⟩)
    go_ret
    exact ⟨by simp [ringSz, h], rfl⟩
  · go_enter Try.func125, Try.ntmps125
    go_wp2_with (go_at_call 74; refine (within_any _ _ _ _).mono ?_; rintro e w1 ⟨rfl, rfl⟩)
    go_ret
    exact ⟨by simp [ringSz, h], rfl⟩
theorem l8Power_any (n : Int) (w : World) : Calls Try.prog 129 #[.int .i64 n] w fun e w' => e = .returned (.bool (ringSz n)) ∧ w = w' := by
  by_cases h1 : 1 ≤ n
  · by_cases h2 : n ≤ 64
    · have h := inB_mk h1 h2
      go_enter Try.func129, Try.ntmps129
      go_wp2
      go_ret
      exact ⟨by simp [ringSz, h], rfl⟩
    · have h : inB 1 n 64 = false := inB_no (by omega)
      have h3 : decide (n ≤ 64) = false := decide_eq_false h2
      have h4 : decide (0 < n) = true := by simp; omega
      go_enter Try.func129, Try.ntmps129
      go_wp2
      go_ret
      exact ⟨by simp [ringSz, h], rfl⟩
  · have h : inB 1 n 64 = false := inB_no (by omega)
    have h3 : decide (0 < n) = false := by simp; omega
    go_enter Try.func129, Try.ntmps129
    go_wp2
    go_ret
    exact ⟨by simp [ringSz, h], rfl⟩
/-- What NewRing gives for a good size. -/
def MadeRing (k : Nat) (w : World) (e : Ending) (w' : World) : Prop :=
  ∃ (ao : Option Addr) (cap : Nat), e = .returned (.tuple #[.agg #[.int .i64 k, .int .i64 0, .int .i64 0, .slice ao k cap], .bool true]) ∧ OwnS w.heap.size w'.heap.size w' ao (List.replicate k 0) ∧ Ext w w'
set_option maxHeartbeats 1000000 in
theorem NewRing_spec_yes (k : Nat) (w : World) (h : ringSz k = true) : Calls Try.prog 91 #[.int .i64 k] w (MadeRing k w) := by
  obtain ⟨k1, k2⟩ := ringSz_bd h
  have hmk := run_make_row' (P := Try.prog) 22 3 (.int .i64 0) 8 Try.underlying22 infoInt rfl .i64 .i64 k (by omega) (by omega)
  go_enter Try.func91, Try.ntmps91
  go_wp2_with (go_at_call 129; refine (l8Power_any _ _).mono ?_; rintro e w1 ⟨rfl, rfl⟩)
  refine bodyPost_ret (v := .tuple #[.agg #[.int .i64 k, .int .i64 0, .int .i64 0, .slice (some ⟨w.heap.size + 1, 0, none⟩) k k], .bool true]) (by simp [results, Try.results91, go_sem, *]) rfl ⟨_, _, rfl, ?_, ?_⟩
  · refine Or.inr ⟨w.heap.size + 1, 0, rfl, by omega, by simp [World.setCell], fun o => ?_, fun j hj => ?_⟩
    · simp [go_sem]
    · simp at hj
      simp [go_sem]
      rw [← Array.getElem?_toList, toList_madeCells_one]
      simp [hj]
  · exact ((Ext.refl w).alloc _).alloc _
theorem NewRing_spec_no (n : Int) (w : World) (h : ringSz n = false) : Calls Try.prog 91 #[.int .i64 n] w fun e w' => e = .returned (.tuple #[.agg #[.int .i64 0, .int .i64 0, .int .i64 0, .slice none 0 0], .bool false]) ∧ Ext w w' := by
  go_enter Try.func91, Try.ntmps91
  go_wp2_with (go_at_call 129; refine (l8Power_any _ _).mono ?_; rintro e w1 ⟨rfl, rfl⟩)
  exact bodyPost_ret (v := .tuple #[.agg #[.int .i64 0, .int .i64 0, .int .i64 0, .slice none 0 0], .bool false]) (by simp [results, Try.results91, go_sem, *]) rfl ⟨rfl, Ext.go⟩
end
section
open Go.ChangeShapes Go.WideShapes Go.ChangeAt Go.RowKit
set_option linter.unusedSimpArgs false
theorem any_take (p : Int → Bool) (xs : List Int) {k : Nat} (hk : k < xs.length) : (xs.take (k + 1)).any p = ((xs.take k).any p || p (xs.getD k 0)) := by
  rw [take_succ_getD xs hk]; simp
theorem any_of_getD (p : Int → Bool) (xs : List Int) {k : Nat} (hk : k < xs.length) (h : p (xs.getD k 0) = true) : xs.any p = true := by
  simp only [List.any_eq_true]
  refine ⟨xs.getD k 0, ?_, h⟩
  simp [List.getD, List.getElem?_eq_getElem hk]
theorem isRingCl_any (x : Int) (w : World) : Calls Try.prog 127 #[.int .i64 x] w fun e w' => e = .returned (.bool (!inB 0 x 255)) ∧ w = w' := by
  go_enter Try.func127, Try.ntmps127
  go_wp2_with (go_at_call 74; refine (within_any _ _ _ _).mono ?_; rintro e w1 ⟨rfl, rfl⟩)
  go_ret
  exact ⟨rfl, rfl⟩
/-- An index, or none. -/
def Found (p : Int → Bool) (xs : List Int) (w : World) (e : Ending) (w' : World) : Prop := ∃ k : Int, e = .returned (.int .i64 k) ∧ decide (0 ≤ k) = xs.any p ∧ Ext w w'
set_option maxHeartbeats 1000000 in
theorem indexFunc_any (ao : Option Addr) (n ca : Nat) (xs : List Int) (w : World) (hx : ReadS w ao xs) (hn : xs.length = n) (hl : (n : Int) ≤ 9223372036854775807) :
    Calls Try.prog 137 #[.slice ao n ca, .func (.func 127) #[] #[]] w (Found (fun x => !inB 0 x 255) xs w) := by
  rcases Nat.eq_zero_or_pos n with rfl | hpos
  · obtain rfl : xs = [] := List.eq_nil_of_length_eq_zero hn
    clear hx hn
    go_enter Try.func137, Try.ntmps137
    go_wp2
    go_loop [8] (fun i => i = .int .i64 0) (fun _ => 0)
    case atStart => rfl
    case round =>
      obtain rfl := hrel
      go_wp2
      go_ret
      exact ⟨_, rfl, by simp, Ext.refl _⟩
  · rcases hx with rfl | ⟨bx, off, rfl, hx⟩
    · simp at hn; omega
    rw [hn] at hx
    have hn' := hide hn
    clear hn
    go_enter Try.func137, Try.ntmps137
    go_wp2
    go_loopw [5, 8] (fun _ i wr => ∃ k : Nat, i = .int .i64 k ∧ k ≤ n ∧ (xs.take k).any (fun x => !inB 0 x 255) = false ∧ wr = w) (fun _ i _ => n - (intOf i).toNat)
    case atStart => exact ⟨0, rfl, by omega, by simp, rfl⟩
    case round =>
      obtain ⟨k, rfl, hk, ht, rfl⟩ := hrel
      have ht' := hide ht
      clear ht
      by_cases hlt : k < n
      · have cx := hx k hlt
        have i1 : (0 : Int) ≤ (k : Int) := by omega
        have i2 : (k : Int) < (n : Int) := by omega
        have hkx : k < xs.length := by rw [hn'.out]; exact hlt
        clear hx
        rcases Bool.eq_false_or_eq_true (!inB 0 (xs.getD k 0) 255) with he | he
        · have hts := hide (any_of_getD (fun x => !inB 0 x 255) xs hkx he)
          generalize xs.getD k 0 = x at *
          go_wp2_with fail
          refine (isRingCl_any _ _).mono ?_
          rintro en w1 ⟨rfl, rfl⟩
          rw [he]
          go_wp2
          go_ret
          exact ⟨_, rfl, by simp [hts.out], Ext.refl _⟩
        · have hts : Hid ((xs.take (k + 1)).any (fun x => !inB 0 x 255) = false) := hide (by rw [any_take _ xs hkx, ht'.out, he]; rfl)
          generalize xs.getD k 0 = x at *
          go_wp2_with fail
          refine (isRingCl_any _ _).mono ?_
          rintro en w1 ⟨rfl, rfl⟩
          rw [he]
          go_wp2
          go_roundw
          case rel => exact ⟨k + 1, by go_num, by omega, hts.out, by first | rfl | trivial⟩
          case measure => simp [intOf]; omega
      · obtain rfl : k = n := by omega
        have hxy' : Hid (xs.any (fun x => !inB 0 x 255) = false) := hide (by
          have h1 := ht'.out
          rwa [List.take_of_length_le (Nat.le_of_eq hn'.out)] at h1)
        clear hx
        go_wp2
        go_ret
        exact ⟨_, rfl, by simp [hxy'.out], Ext.refl _⟩
theorem containsFunc_any (ao : Option Addr) (n ca : Nat) (xs : List Int) (w : World) (hx : ReadS w ao xs) (hn : xs.length = n) (hl : (n : Int) ≤ 9223372036854775807) :
    Calls Try.prog 126 #[.slice ao n ca, .func (.func 127) #[] #[]] w fun e w' => e = .returned (.bool (xs.any (fun x => !inB 0 x 255))) ∧ Ext w w' := by
  go_enter Try.func126, Try.ntmps126
  go_wp2_with fail
  refine (indexFunc_any ao n ca xs _ hx hn hl).mono ?_
  rintro en w1 ⟨k, rfl, hk, hb⟩
  go_wp2
  go_ret
  exact ⟨by rw [← hk]; rfl, hb⟩
theorem isQuic_any (x : Int) (w : World) : Calls Try.prog 75 #[.int .i64 x] w fun e w' => e = .returned (.bool (inB 0 x 4611686018427387903)) ∧ w = w' := by
  go_enter Try.func75, Try.ntmps75
  go_wp2_with (go_at_call 74; refine (within_any _ _ _ _).mono ?_; rintro e w1 ⟨rfl, rfl⟩)
  go_ret
  exact ⟨rfl, rfl⟩
/-- Is this a ring? -/
def isRing (z b e : Int) (xs : List Int) : Bool := ringSz z && ((xs.length : Int) == z && (!xs.any (fun x => !inB 0 x 255) && (inB 0 b 4611686018427387903 && inB b e (min (b + z) 4611686018427387903))))
theorem isRing_bd {z b e : Int} {xs : List Int} (h : isRing z b e xs = true) : 1 ≤ z ∧ z ≤ 64 ∧ (xs.length : Int) = z ∧ 0 ≤ b ∧ b ≤ e ∧ e ≤ b + z ∧ e ≤ 4611686018427387903 := by
  simp only [isRing, Bool.and_eq_true, beq_iff_eq] at h
  obtain ⟨h1, h2, -, h3, h4⟩ := h
  have := ringSz_bd h1
  have := inB_true h3
  have := inB_true h4
  omega
set_option maxHeartbeats 1000000 in
theorem IsRing_impl (z b e : Int) (ao : Option Addr) (n ca : Nat) (xs : List Int) (w : World) (hx : ReadS w ao xs) (hn : xs.length = n) (hl : (n : Int) ≤ 9223372036854775807) :
    Calls Try.prog 72 #[.agg #[.int .i64 z, .int .i64 b, .int .i64 e, .slice ao n ca]] w fun en w' => en = .returned (.bool (isRing z b e xs)) ∧ Ext w w' := by
  rcases Bool.eq_false_or_eq_true (ringSz z) with hs | hs
  · -- yes
    obtain ⟨z1, z2⟩ := ringSz_bd hs
    by_cases hl2 : (n : Int) = z
    · -- equal
      have hl2e : ((n : Int) == z) = true := by simp [hl2]
      have hl2n : ((n : Int) != z) = false := by simp [hl2]
      have hl2H := hide hl2
      clear hl2
      rcases Bool.eq_false_or_eq_true (xs.any (fun x => !inB 0 x 255)) with hc | hc
      · -- yes
        have hn' := hide hn
        have hx' := hide hx
        have hlen' : Hid ((xs.length : Int) = n) := hide (by rw [hn])
        clear hn hx
        go_enter Try.func72, Try.ntmps72
        go_wp2_with (go_at_call 125; refine (isRingSize_any _ _).mono ?_; rintro e w1 ⟨rfl, rfl⟩)
        refine (containsFunc_any ao n ca xs _ (hx'.out.ext Ext.go) hn'.out hl).mono ?_
        rintro en w2 ⟨rfl, hb⟩
        rw [hc]
        obtain ⟨c2, f2⟩ := hb.row (k := w.heap.size) (by simp)
        go_wp2_with (first | (go_at_call 75; refine (isQuic_any _ _).mono ?_; rintro e w1 ⟨rfl, rfl⟩) | (go_at_call 74; refine (within_any _ _ _ _).mono ?_; rintro e w1 ⟨rfl, rfl⟩))
        all_goals (go_ret; exact ⟨by first | (simp [isRing, hlen'.out, *]; done) | (simp [isRing, hlen'.out, *]; congr 1; omega), Ext.go⟩)
      · -- no
        rcases Bool.eq_false_or_eq_true (inB 0 b 4611686018427387903) with hq | hq
        · -- yes
          obtain ⟨q1, q2⟩ := inB_true hq
          have hn' := hide hn
          have hx' := hide hx
          have hlen' : Hid ((xs.length : Int) = n) := hide (by rw [hn])
          clear hn hx
          go_enter Try.func72, Try.ntmps72
          go_wp2_with (go_at_call 125; refine (isRingSize_any _ _).mono ?_; rintro e w1 ⟨rfl, rfl⟩)
          refine (containsFunc_any ao n ca xs _ (hx'.out.ext Ext.go) hn'.out hl).mono ?_
          rintro en w2 ⟨rfl, hb⟩
          rw [hc]
          obtain ⟨c2, f2⟩ := hb.row (k := w.heap.size) (by simp)
          go_wp2_with (first | (go_at_call 75; refine (isQuic_any _ _).mono ?_; rintro e w1 ⟨rfl, rfl⟩) | (go_at_call 74; refine (within_any _ _ _ _).mono ?_; rintro e w1 ⟨rfl, rfl⟩))
          all_goals (go_ret; exact ⟨by first | (simp [isRing, hlen'.out, *]; done) | (simp [isRing, hlen'.out, *]; congr 1; omega), Ext.go⟩)
        · -- no
          have hn' := hide hn
          have hx' := hide hx
          have hlen' : Hid ((xs.length : Int) = n) := hide (by rw [hn])
          clear hn hx
          go_enter Try.func72, Try.ntmps72
          go_wp2_with (go_at_call 125; refine (isRingSize_any _ _).mono ?_; rintro e w1 ⟨rfl, rfl⟩)
          refine (containsFunc_any ao n ca xs _ (hx'.out.ext Ext.go) hn'.out hl).mono ?_
          rintro en w2 ⟨rfl, hb⟩
          rw [hc]
          obtain ⟨c2, f2⟩ := hb.row (k := w.heap.size) (by simp)
          go_wp2_with (first | (go_at_call 75; refine (isQuic_any _ _).mono ?_; rintro e w1 ⟨rfl, rfl⟩) | (go_at_call 74; refine (within_any _ _ _ _).mono ?_; rintro e w1 ⟨rfl, rfl⟩))
          all_goals (go_ret; exact ⟨by first | (simp [isRing, hlen'.out, *]; done) | (simp [isRing, hlen'.out, *]; congr 1; omega), Ext.go⟩)
    · -- other
      have hl2e : ((n : Int) == z) = false := by simp [hl2]
      have hl2n : ((n : Int) != z) = true := by simp [hl2]
      have hl2H := hide hl2
      clear hl2
      have hn' := hide hn
      have hx' := hide hx
      have hlen' : Hid ((xs.length : Int) = n) := hide (by rw [hn])
      clear hn hx
      go_enter Try.func72, Try.ntmps72
      go_wp2_with (go_at_call 125; refine (isRingSize_any _ _).mono ?_; rintro e w1 ⟨rfl, rfl⟩)
      all_goals (go_ret; exact ⟨by first | (simp [isRing, hlen'.out, *]; done) | (simp [isRing, hlen'.out, *]; congr 1; omega), Ext.go⟩)
  · -- no
    have hn' := hide hn
    have hx' := hide hx
    have hlen' : Hid ((xs.length : Int) = n) := hide (by rw [hn])
    clear hn hx
    go_enter Try.func72, Try.ntmps72
    go_wp2_with (go_at_call 125; refine (isRingSize_any _ _).mono ?_; rintro e w1 ⟨rfl, rfl⟩)
    all_goals (go_ret; exact ⟨by first | (simp [isRing, hlen'.out, *]; done) | (simp [isRing, hlen'.out, *]; congr 1; omega), Ext.go⟩)
set_option maxHeartbeats 1000000 in
theorem IsRing_spec (z b e : Int) (ao : Option Addr) (n ca : Nat) (xs : List Int) (w : World) (hx : ReadS w ao xs) (hn : xs.length = n) (hl : (n : Int) ≤ 9223372036854775807) (he : e ≤ 9223372036854775807) :
    Calls Try.prog 80 #[.agg #[.int .i64 z, .int .i64 b, .int .i64 e, .slice ao n ca]] w fun en w' => en = .returned (.bool (isRing z b e xs)) ∧ Ext w w' := by
  rcases Bool.eq_false_or_eq_true (ringSz z) with hs | hs
  · -- yes
    obtain ⟨z1, z2⟩ := ringSz_bd hs
    by_cases hl2 : (n : Int) = z
    · -- equal
      have hl2e : ((n : Int) == z) = true := by simp [hl2]
      have hl2n : ((n : Int) != z) = false := by simp [hl2]
      have hl2H := hide hl2
      clear hl2
      by_cases h1 : 0 ≤ b
      · -- yes
        by_cases h2 : b ≤ e
        · -- yes
          by_cases h3 : e - b ≤ z
          · -- yes
            by_cases h4 : e ≤ 4611686018427387903
            · -- yes
              have hpos : 0 < n := by have := hl2H.out; omega
              have hlen' : Hid ((xs.length : Int) = n) := hide (by rw [hn])
              have hq : Hid ((inB 0 b 4611686018427387903 && inB b e (min (b + z) 4611686018427387903)) = true) := hide (by simp [inB]; omega)
              rcases hx with rfl | ⟨bx, off, rfl, hx⟩
              · simp at hn; omega
              rw [hn] at hx
              have la : bx < w.heap.size := World.block_lt_of_cell? w _ (hx 0 hpos)
              have hn' := hide hn
              clear hn
              go_enter Try.func80, Try.ntmps80
              go_wp2_with (go_at_call 129; refine (l8Power_any _ _).mono ?_; rintro e w1 ⟨rfl, rfl⟩)
              go_loopw [3] (fun i wr => ∃ k : Nat, i = .int .i64 k ∧ k ≤ n ∧ (xs.take k).any (fun x => !inB 0 x 255) = false ∧ wr = (w.alloc (.cells #[.int .i64 z, .int .i64 b, .int .i64 e, .slice (some ⟨bx, off, none⟩) n ca] 29))) (fun i _ => n - (intOf i).toNat)
              case atStart => exact ⟨0, rfl, by omega, by simp, rfl⟩
              case round =>
                obtain ⟨k, rfl, hk, ht, rfl⟩ := hrel
                have ht' := hide ht
                clear ht
                by_cases hlt : k < n
                · have cx := hx k hlt
                  have i1 : (0 : Int) ≤ (k : Int) := by omega
                  have i2 : (k : Int) < (n : Int) := by omega
                  have hkx : k < xs.length := by rw [hn'.out]; exact hlt
                  clear hx
                  rcases Bool.eq_false_or_eq_true (inB 0 (xs.getD k 0) 255) with he | he
                  · have hts : Hid ((xs.take (k + 1)).any (fun x => !inB 0 x 255) = false) := hide (by rw [any_take _ xs hkx, ht'.out, he]; rfl)
                    generalize xs.getD k 0 = x at *
                    go_wp2_with (go_at_call 82; refine (l1In_any _ _ _ _).mono ?_; rintro en w1 ⟨rfl, rfl⟩; rw [he])
                    go_roundw
                    case rel => exact ⟨k + 1, by go_num, by omega, hts.out, by first | rfl | trivial⟩
                    case measure => simp [intOf]; omega
                  · have hts := hide (any_of_getD (fun x => !inB 0 x 255) xs hkx (by rw [he]; rfl))
                    generalize xs.getD k 0 = x at *
                    go_wp2_with (go_at_call 82; refine (l1In_any _ _ _ _).mono ?_; rintro en w1 ⟨rfl, rfl⟩; rw [he])
                    go_ret
                    exact ⟨by rw [isRing, hts.out]; simp, Ext.go⟩
                · obtain rfl : k = n := by omega
                  have hxy' : Hid (xs.any (fun x => !inB 0 x 255) = false) := hide (by
                    have h1 := ht'.out
                    rwa [List.take_of_length_le (Nat.le_of_eq hn'.out)] at h1)
                  clear hx
                  go_wp2
                  go_ret
                  have hok : isRing z b e xs = true := by rw [isRing, hq.out, hxy'.out, hlen'.out, hs, hl2e]; rfl
                  exact ⟨by rw [hok]; rfl, Ext.go⟩
            · -- no
              have h4x : ¬ (e ≤ 4611686018427387903) := h4
              have h4d : decide (e ≤ 4611686018427387903) = false := decide_eq_false h4x
              replace h4 : 4611686018427387903 < e := by omega
              have hlen' : Hid ((xs.length : Int) = n) := hide (by rw [hn])
              clear hn hx
              go_enter Try.func80, Try.ntmps80
              go_wp2_with (go_at_call 129; refine (l8Power_any _ _).mono ?_; rintro e w1 ⟨rfl, rfl⟩)
              go_ret
              exact ⟨by first | (simp [isRing, hlen'.out, *]; done) | (simp [isRing, hlen'.out, inB, *]; done) | (simp [isRing, hlen'.out, inB, *]; omega), Ext.go⟩
          · -- no
            have h3x : ¬ (e - b ≤ z) := h3
            have h3d : decide (e - b ≤ z) = false := decide_eq_false h3x
            replace h3 : z < e - b := by omega
            have hlen' : Hid ((xs.length : Int) = n) := hide (by rw [hn])
            clear hn hx
            go_enter Try.func80, Try.ntmps80
            go_wp2_with (go_at_call 129; refine (l8Power_any _ _).mono ?_; rintro e w1 ⟨rfl, rfl⟩)
            go_ret
            exact ⟨by first | (simp [isRing, hlen'.out, *]; done) | (simp [isRing, hlen'.out, inB, *]; done) | (simp [isRing, hlen'.out, inB, *]; omega), Ext.go⟩
        · -- no
          have h2x : ¬ (b ≤ e) := h2
          have h2d : decide (b ≤ e) = false := decide_eq_false h2x
          replace h2 : e < b := by omega
          have hlen' : Hid ((xs.length : Int) = n) := hide (by rw [hn])
          clear hn hx
          go_enter Try.func80, Try.ntmps80
          go_wp2_with (go_at_call 129; refine (l8Power_any _ _).mono ?_; rintro e w1 ⟨rfl, rfl⟩)
          go_ret
          exact ⟨by first | (simp [isRing, hlen'.out, *]; done) | (simp [isRing, hlen'.out, inB, *]; done) | (simp [isRing, hlen'.out, inB, *]; omega), Ext.go⟩
      · -- no
        have h1x : ¬ (0 ≤ b) := h1
        have h1d : decide (0 ≤ b) = false := decide_eq_false h1x
        replace h1 : b < 0 := by omega
        have hlen' : Hid ((xs.length : Int) = n) := hide (by rw [hn])
        clear hn hx
        go_enter Try.func80, Try.ntmps80
        go_wp2_with (go_at_call 129; refine (l8Power_any _ _).mono ?_; rintro e w1 ⟨rfl, rfl⟩)
        go_ret
        exact ⟨by first | (simp [isRing, hlen'.out, *]; done) | (simp [isRing, hlen'.out, inB, *]; done) | (simp [isRing, hlen'.out, inB, *]; omega), Ext.go⟩
    · -- other
      have hl2e : ((n : Int) == z) = false := by simp [hl2]
      have hl2n : ((n : Int) != z) = true := by simp [hl2]
      have hl2H := hide hl2
      clear hl2
      have hlen' : Hid ((xs.length : Int) = n) := hide (by rw [hn])
      clear hn hx
      go_enter Try.func80, Try.ntmps80
      go_wp2_with (go_at_call 129; refine (l8Power_any _ _).mono ?_; rintro e w1 ⟨rfl, rfl⟩)
      go_ret
      exact ⟨by first | (simp [isRing, hlen'.out, *]; done) | (simp [isRing, hlen'.out, inB, *]; done) | (simp [isRing, hlen'.out, inB, *]; omega), Ext.go⟩
  · -- no
    have hlen' : Hid ((xs.length : Int) = n) := hide (by rw [hn])
    clear hn hx
    go_enter Try.func80, Try.ntmps80
    go_wp2_with (go_at_call 129; refine (l8Power_any _ _).mono ?_; rintro e w1 ⟨rfl, rfl⟩)
    go_ret
    exact ⟨by first | (simp [isRing, hlen'.out, *]; done) | (simp [isRing, hlen'.out, inB, *]; done) | (simp [isRing, hlen'.out, inB, *]; omega), Ext.go⟩
end
section
open Go.ChangeShapes Go.WideShapes Go.ChangeAt Go.RowKit
set_option linter.unusedSimpArgs false
/-- The room of a ring. -/
def roomOf (z b e : Int) (xs : List Int) : Int := if isRing z b e xs = true then min (z - (e - b)) (4611686018427387903 - e) else 0
theorem roomOf_bd (z b e : Int) (xs : List Int) : 0 ≤ roomOf z b e xs ∧ roomOf z b e xs ≤ 64 := by
  unfold roomOf
  split
  · have := isRing_bd (by assumption)
    omega
  · omega
set_option maxHeartbeats 1000000 in
theorem RoomOf_spec (z b e : Int) (ao : Option Addr) (n ca : Nat) (xs : List Int) (w : World) (hx : ReadS w ao xs) (hn : xs.length = n) (hl : (n : Int) ≤ 9223372036854775807) (he : e ≤ 9223372036854775807) :
    Calls Try.prog 123 #[.agg #[.int .i64 z, .int .i64 b, .int .i64 e, .slice ao n ca]] w fun en w' => en = .returned (.int .i64 (roomOf z b e xs)) ∧ Ext w w' := by
  rcases Bool.eq_false_or_eq_true (isRing z b e xs) with hR | hR
  · obtain ⟨b1, b2, b3, b4, b5, b6, b7⟩ := isRing_bd hR
    go_enter Try.func123, Try.ntmps123
    go_wp2_with fail
    refine (IsRing_spec z b e ao n ca xs _ (hx.ext Ext.go) hn hl he).mono ?_
    rintro en w1 ⟨rfl, hb⟩
    rw [hR]
    obtain ⟨c1, f1⟩ := hb.row (k := w.heap.size) (by simp)
    clear hx hn
    go_wp2
    all_goals (go_ret; exact ⟨by simp [roomOf, hR]; omega, Ext.go⟩)
  · go_enter Try.func123, Try.ntmps123
    go_wp2_with fail
    refine (IsRing_spec z b e ao n ca xs _ (hx.ext Ext.go) hn hl he).mono ?_
    rintro en w1 ⟨rfl, hb⟩
    rw [hR]
    clear hx hn
    go_wp2
    go_ret
    exact ⟨by simp [roomOf, hR], Ext.go⟩
end
section
open Go.ChangeShapes Go.WideShapes Go.ChangeAt Go.RowKit
set_option linter.unusedSimpArgs false
/-- One byte as a string. -/
def byteS (x : Int) : ByteArray := ⟨#[UInt8.ofNat x.toNat]⟩
theorem and_255 (x : Int) (h0 : 0 ≤ x) (h1 : x ≤ 255) : bits .and .i64 x 255 = x := by
  obtain ⟨n, rfl⟩ := Int.eq_ofNat_of_zero_le h0
  have h : ∀ m : Fin 256, bits .and .i64 ((m.val : Nat) : Int) 255 = ((m.val : Nat) : Int) := by decide +kernel
  exact h ⟨n, by omega⟩
set_option maxRecDepth 100000 in
theorem encode1_any (x : Int) (w : World) (h0 : 0 ≤ x) (h1 : x ≤ 255) :
    Calls Try.prog 135 #[.int .i64 x, .int .i64 1] w fun e w' => e = .returned (.string (byteS x)) ∧ Ext w w' := by
  have hi : inB 1 1 7 = true := by decide
  have t1 : x.tmod 256 = x := Int.tmod_eq_of_lt h0 (by omega)
  have t2 : x.tdiv 256 = 0 := Int.tdiv_eq_zero_of_lt h0 (by omega)
  have t3 : decide (x < 0) = false := by simp; omega
  go_enter Try.func135, Try.ntmps135
  go_wp2_with (go_at_call 82; refine (l1In_any _ _ _ _).mono ?_; rintro e w1 ⟨rfl, rfl⟩)
  go_loopw [0, 5, 6] (fun n s i wr => (n = .int .i64 x ∧ s = .string ⟨#[]⟩ ∧ i = .int .i64 0 ∧ wr = w) ∨ (n = .int .i64 0 ∧ s = .string (byteS x) ∧ i = .int .i64 1 ∧ Ext w wr)) (fun _ _ i _ => 1 - (intOf i).toNat)
  case atStart => exact .inl ⟨rfl, rfl, rfl, rfl⟩
  case round =>
    rcases hrel with ⟨rfl, rfl, rfl, rfl⟩ | ⟨rfl, rfl, rfl, hg⟩
    · have hcv : (convert 39 9 (.slice (some ⟨wr.heap.size, 0, none⟩) 1 1)).run Try.prog (wr.alloc (.cells #[.int .u8 x] 5)) = .ok (.string (byteS x)) (wr.alloc (.cells #[.int .u8 x] 5)) := by
        refine run_convert_bytes_back _ _ _ 5 ⟨wr.heap.size, 0, none⟩ 1 [UInt8.ofNat x.toNat] Try.underlying39 Try.underlying5 Try.underlying9 ?_
        intro j hj
        obtain rfl : j = 0 := by simpa using hj
        simp [go_sem]
        omega
      go_wp2
      refine ⟨.inr ⟨rfl, ?_, rfl, (Ext.refl _).alloc _⟩, by simp [intOf]⟩
      congr 1
    · go_wp2
      go_ret
      exact ⟨rfl, hg⟩
theorem l2Byte_any (x : Int) (w : World) (h0 : 0 ≤ x) (h1 : x ≤ 255) :
    Calls Try.prog 104 #[.int .i64 x] w fun e w' => e = .returned (.string (byteS x)) ∧ Ext w w' := by
  have hb := and_255 x h0 h1
  go_enter Try.func104, Try.ntmps104
  go_wp2_with fail
  refine (encode1_any _ _ h0 h1).mono ?_
  rintro e w1 ⟨rfl, hg⟩
  go_wp2
  go_ret
  exact ⟨rfl, hg⟩
end
end Go.Proofs.Ytjhgcbchdnoleaa

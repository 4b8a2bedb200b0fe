/-
  The closures of InsertData. Conditions: the captured variables can be read.
-/
import Derived.Test.YtjnbiacnhimkgaaIsBuf
import Derived.Test.YtjnbiacnhimkgaaRowC
import Derived.Test.YtjnbiacnhimkgaaInsPlain
import Derived.Test.YtjnbiacnhimkgaaTail
import Derived.Deep.AppendLies
namespace Go.Proofs.Ytjnbiacnhimkgaa
open Go.ChangeShapes Go.WideShapes Go.ChangeAt Go.RowKit
set_option linter.unusedSimpArgs false
set_option linter.unusedVariables false
theorem own_slice {w : World} {base : Nat} {v : Value} {n : Nat} {ls : List Ck} (h : w.ownsRow base 53 2 v n (ckCells ls)) : n = ls.length ∧ ∃ (ao : Option Addr) (ca : Nat), v = .slice ao n ca := by
  have hl := h.1
  rw [ckCells_length] at hl
  refine ⟨by omega, ?_⟩
  rcases h.2 with ⟨rfl, h0⟩ | ⟨g, cap, cur, rfl, _⟩
  · exact ⟨none, 0, by rw [h0]⟩
  · exact ⟨_, _, rfl⟩
theorem own_ext {w w' : World} {base : Nat} {e : TypeId} {size : Nat} {v : Value} {n : Nat} {xs : List Value} (h : w.ownsRow base e size v n xs) (hx : Ext w w') : w'.ownsRow base e size v n xs :=
  h.kept (row := none) ⟨hx.os, hx.tape, hx.output, hx.size, fun k hk _ => hx.block k hk⟩ (by cases v.ownBlock <;> simp)
theorem own_chg {S : Nat → Prop} {w w' : World} {base : Nat} {e : TypeId} {size : Nat} {v : Value} {n : Nat} {xs : List Value} (h : w.ownsRow base e size v n xs) (hx : Chg S w w') (hS : ∀ k, v.ownBlock = some k → ¬ S k) : w'.ownsRow base e size v n xs := by
  refine ⟨h.1, ?_⟩
  rcases h.2 with k | ⟨g, cap, cur, rfl, h2, h3, h4⟩
  · exact Or.inl k
  · exact Or.inr ⟨g, cap, cur, rfl, h2, by rw [hx.block g (lt_of_block h3) (hS g rfl)]; exact h3, h4⟩
/-- The list in box B9 is ls, in memory of its own from base on, in a block of which P holds, not in the box itself. -/
def ListAt (B9 base : Nat) (P : Nat → Prop) (ls : List Ck) (w : World) : Prop :=
  ∃ (ao : Option Addr) (ca : Nat), w.cell? ⟨B9, 0, none⟩ = some (.slice ao ls.length ca) ∧ w.ownsRow base 53 2 (.slice ao ls.length ca) ls.length (ckCells ls) ∧ (∀ k, (Value.slice ao ls.length ca).ownBlock = some k → P k ∧ k ≠ B9) ∧ w.frozen? ⟨B9, 0, none⟩ = false
theorem ListAt.mono {B9 base : Nat} {P P' : Nat → Prop} {ls : List Ck} {w : World} (h : ListAt B9 base P ls w) (hl : ∀ k, base ≤ k → k < w.heap.size → P k → P' k) : ListAt B9 base P' ls w := by
  obtain ⟨ao, ca, h1, h2, h3, h4⟩ := h
  exact ⟨ao, ca, h1, h2, fun k hk => ⟨hl k (h2.lt k hk).1 (h2.lt k hk).2 (h3 k hk).1, (h3 k hk).2⟩, h4⟩
theorem ListAt.chg {S : Nat → Prop} {B9 base : Nat} {P : Nat → Prop} {ls : List Ck} {w w' : World} (h : ListAt B9 base P ls w) (hx : Chg S w w') (hB : ¬ S B9) (hS : ∀ k, base ≤ k → P k → ¬ S k) : ListAt B9 base P ls w' := by
  obtain ⟨ao, ca, h1, h2, h3, h4⟩ := h
  have hr := hx.row (World.block_lt_of_cell? w _ h1) hB
  exact ⟨ao, ca, (hr.1 0).trans h1, own_chg h2 hx (fun k hk => hS k (h2.lt k hk).1 (h3 k hk).1), h3, (hr.2 0).trans h4⟩
theorem ListAt.ext {B9 base : Nat} {P : Nat → Prop} {ls : List Ck} {w w' : World} (h : ListAt B9 base P ls w) (hx : Ext w w') : ListAt B9 base P ls w' :=
  h.chg (S := fun _ => False) (hx.chg _) (fun h => h) (fun _ _ _ h => h)
theorem ckCells_app (ls : List Ck) (o : Int) (s : ByteArray) : ckCells ls ++ [.int .i64 o, .string s] = ckCells (ls ++ [(o, s)]) := by
  simp [ckCells]
/-- One chunk more, stored into the list's box. -/
theorem list_appended {B9 base H gg cap : Nat} {P : Nat → Prop} {ao : Option Addr} {ca : Nat} {ls : List Ck} {o : Int} {s : ByteArray} {w wa w2 : World}
    (c9 : w.cell? ⟨B9, 0, none⟩ = some (.slice ao ls.length ca)) (f9 : w.frozen? ⟨B9, 0, none⟩ = false) (hap : ∀ k, (Value.slice ao ls.length ca).ownBlock = some k → P k ∧ k ≠ B9) (hx : Ext w wa) (hH : w.heap.size ≤ H)
    (hown1 : w2.ownsRow base 53 2 (.slice (some ⟨gg, 0, none⟩) (ls.length + 1) cap) (ls.length + 1) (ckCells ls ++ [.int .i64 o, .string s])) (hgrow : wa.grownBy w2 (Value.slice ao ls.length ca).ownBlock) (hat : (Value.slice ao ls.length ca).ownBlock = some gg ∨ gg = H) :
    w2.cell? ⟨B9, 0, none⟩ = some (.slice ao ls.length ca) ∧ w2.frozen? ⟨B9, 0, none⟩ = false ∧ ListAt B9 base (fun k => P k ∨ H ≤ k) (ls ++ [(o, s)]) (w2.setCell ⟨B9, 0, none⟩ (.slice (some ⟨gg, 0, none⟩) (ls.length + 1) cap)) ∧
      Chg (fun k => k = B9 ∨ P k) w (w2.setCell ⟨B9, 0, none⟩ (.slice (some ⟨gg, 0, none⟩) (ls.length + 1) cap)) := by
  have kk9 : B9 < w.heap.size := World.block_lt_of_cell? w _ c9
  have hW0 : Chg (fun k => (Value.slice ao ls.length ca).ownBlock = some k) w w2 := (Ext.chg hx _).trans (grown_chg hgrow (fun k hk => hk))
  have hW : Chg P w w2 := hW0.mono (fun k _ hk => (hap k hk).1)
  have g9 : w2.cell? ⟨B9, 0, none⟩ = some (.slice ao ls.length ca) := ((hW0.row (k := B9) kk9 (fun h => (hap B9 h).2 rfl)).1 0).trans c9
  have y9 : w2.frozen? ⟨B9, 0, none⟩ = false := ((hW0.row (k := B9) kk9 (fun h => (hap B9 h).2 rfl)).2 0).trans f9
  have hgb := hown1.lt gg rfl
  have hg9 : gg ≠ B9 := by
    rcases hat with h | h
    · exact (hap gg h).2
    · omega
  rw [ckCells_app] at hown1
  have hset : Chg (fun k => k = B9) w2 (w2.setCell ⟨B9, 0, none⟩ (.slice (some ⟨gg, 0, none⟩) (ls.length + 1) cap)) := Chg.set (S := fun k => k = B9) (p := ⟨B9, 0, none⟩) (Or.inl rfl) (Chg.refl _ _) _
  refine ⟨g9, y9, ⟨some ⟨gg, 0, none⟩, cap, ?_, ?_, ?_, ?_⟩, ?_⟩
  · rw [World.cell?_setCell_same' _ _ _ (by rw [g9]; rfl)]; simp
  · rw [List.length_append]
    exact own_chg hown1 hset (fun k hk h => by have h5 : gg = k := Option.some.inj hk; have h6 : k = B9 := h; omega)
  · intro k hk
    have h5 : gg = k := Option.some.inj hk
    subst h5
    refine ⟨?_, hg9⟩
    rcases hat with h | h
    · exact Or.inl (hap gg h).1
    · exact Or.inr (Nat.le_of_eq h.symm)
  · rw [World.frozen?_setCell]; exact y9
  · exact (hW.mono (fun k _ h => Or.inr h)).trans (hset.mono (fun k _ h => Or.inl h))
set_option maxHeartbeats 2000000 in
set_option maxRecDepth 100000 in
theorem put_yes_a (to fr off : Int) (data : ByteArray) (B7 B8 B9 B5 B4 base : Nat) (P : Nat → Prop) (ls : List Ck) (w : World)
    (c7 : w.cell? ⟨B7, 0, none⟩ = some (.int .i64 fr)) (c8 : w.cell? ⟨B8, 0, none⟩ = some (.int .i64 (off + (data.size : Int)))) (c5 : w.cell? ⟨B5, 0, none⟩ = some (.string data)) (c4 : w.cell? ⟨B4, 0, none⟩ = some (.int .i64 off))
    (hL : ListAt B9 base P ls w) (hbase : base ≤ w.heap.size) (k7 : B7 < base) (k8 : B8 < base) (k9 : B9 < w.heap.size) (k5 : B5 < base) (k4 : B4 < base)
    (h0 : 0 ≤ off) (h1 : off ≤ fr) (h2 : off + (data.size : Int) ≤ 4611686018427387903) (hls : ls.length ≤ 4194304) (ht : to ≤ (off + (data.size : Int))) (hlt : fr < to) :
    Calls Try.prog 32 #[.int .i64 to, .pointer (some ⟨B7, 0, none⟩), .pointer (some ⟨B8, 0, none⟩), .pointer (some ⟨B9, 0, none⟩), .pointer (some ⟨B5, 0, none⟩), .pointer (some ⟨B4, 0, none⟩)] w fun e w' => e = .returned (.tuple #[]) ∧
      ListAt B9 base (fun k => P k ∨ w.heap.size ≤ k) (ls ++ [(fr, cutD off data fr to)]) w' ∧ Chg (fun k => k = B9 ∨ P k) w w' := by
  have hT2 : (if (off + (data.size : Int)) < to then (off + (data.size : Int)) else to) = to := if_neg (by omega)
  have hD : decide (fr < to) = true := decide_eq_true hlt
  obtain ⟨p, hp⟩ : ∃ p : Int, p = fr - off := ⟨_, rfl⟩
  obtain ⟨q, hq⟩ : ∃ q : Int, q = to - off := ⟨_, rfl⟩
  have w1 : IntKind.i64.wrap (fr - off) = p := by rw [hp]; exact IntWalk.i64_in _ (by omega)
  have w2 : IntKind.i64.wrap (to - off) = q := by rw [hq]; exact IntWalk.i64_in _ (by omega)
  have q1 : (0 : Int) ≤ p := by omega
  have q2 : p ≤ q := by omega
  have q3 : q ≤ (data.size : Int) := by omega
  have q4 : (0 : Int) ≤ q := by omega
  have hcut : (data.extract p.toNat q.toNat) = cutD off data fr to := by rw [hp, hq]; rfl
  have hp' := hide hp
  have hq' := hide hq
  have hcut' := hide hcut
  clear hp hq hcut
  have kk7 : B7 < w.heap.size := by omega
  have kk8 : B8 < w.heap.size := by omega
  have kk9 := k9
  have kk5 : B5 < w.heap.size := by omega
  have kk4 : B4 < w.heap.size := by omega
  obtain ⟨ao, ca, c9, hown, hap, f9⟩ := hL
  obtain ⟨i0, hi0, hz0, hz1, hz2⟩ := info_parts infoChunk
  have hne : ∀ k, (Value.slice ao ls.length ca).ownBlock = some k → base ≤ k ∧ k < w.heap.size := hown.lt
  go_enter Try.func32, Try.ntmps32
  go_wp2_with fail
  refine wp_region_tail 14 [Line.is (.slice ao ls.length ca), Line.is (.int .i64 fr), Line.is (.string data), Line.is (.int .i64 fr), Line.is (.int .i64 off), Line.is (.int .i64 p), Line.is (.int .i64 to), Line.is (.int .i64 (off + (data.size : Int))), Line.is (.int .i64 to), Line.is (.int .i64 off), Line.is (.int .i64 q), Line.is (.string (data.extract p.toNat q.toNat)), Line.is (.agg #[.int .i64 fr, .string (data.extract p.toNat q.toNat)]), builtL 53 1 #[.int .i64 fr, .string (data.extract p.toNat q.toNat)]] [12, 13, 14, 15, 16, 17, 18, 19, 20, 21, 22, 23, 24, 25] (by kernel_rfl) (by kernel_rfl) (by kernel_rfl) (by kernel_rfl) (by kernel_rfl) (by kernel_rfl) (by kernel_rfl) ?_ ?_
  · refine Each.cons ?_ (Each.cons ?_ (Each.cons ?_ (Each.cons ?_ (Each.cons ?_ (Each.cons ?_ (Each.cons ?_ (Each.cons ?_ (Each.cons ?_ (Each.cons ?_ (Each.cons ?_ (Each.cons ?_ (Each.cons ?_ (Each.cons ?_ (Each.nil))))))))))))))
    · intro g ws hws hl
      simp only [fillAt, List.foldl_cons, List.foldl_nil, Act.put, List.setIfInBounds_toArray, List.set_cons_zero, List.set_cons_succ]
      obtain ⟨q0, p0⟩ := hws.row (k := B7) (by first | assumption | (simp; done) | (simp; omega) | omega)
      obtain ⟨q1, p1⟩ := hws.row (k := B8) (by first | assumption | (simp; done) | (simp; omega) | omega)
      obtain ⟨q2, p2⟩ := hws.row (k := B9) (by first | assumption | (simp; done) | (simp; omega) | omega)
      obtain ⟨q3, p3⟩ := hws.row (k := B5) (by first | assumption | (simp; done) | (simp; omega) | omega)
      obtain ⟨q4, p4⟩ := hws.row (k := B4) (by first | assumption | (simp; done) | (simp; omega) | omega)
      refine Stays.plain ?_ (by rfl) ?_ ?_
      rotate_left
      · go_simp
        try with_reducible rfl
      · exact rfl
    · intro g ws hws hl
      simp only [fillAt, List.foldl_cons, List.foldl_nil, Act.put, List.setIfInBounds_toArray, List.set_cons_zero, List.set_cons_succ]
      obtain ⟨q0, p0⟩ := hws.row (k := B7) (by first | assumption | (simp; done) | (simp; omega) | omega)
      obtain ⟨q1, p1⟩ := hws.row (k := B8) (by first | assumption | (simp; done) | (simp; omega) | omega)
      obtain ⟨q2, p2⟩ := hws.row (k := B9) (by first | assumption | (simp; done) | (simp; omega) | omega)
      obtain ⟨q3, p3⟩ := hws.row (k := B5) (by first | assumption | (simp; done) | (simp; omega) | omega)
      obtain ⟨q4, p4⟩ := hws.row (k := B4) (by first | assumption | (simp; done) | (simp; omega) | omega)
      refine Stays.plain ?_ (by rfl) ?_ ?_
      rotate_left
      · go_simp
        try with_reducible rfl
      · exact rfl
    · intro g ws hws hl
      simp only [fillAt, List.foldl_cons, List.foldl_nil, Act.put, List.setIfInBounds_toArray, List.set_cons_zero, List.set_cons_succ]
      obtain ⟨q0, p0⟩ := hws.row (k := B7) (by first | assumption | (simp; done) | (simp; omega) | omega)
      obtain ⟨q1, p1⟩ := hws.row (k := B8) (by first | assumption | (simp; done) | (simp; omega) | omega)
      obtain ⟨q2, p2⟩ := hws.row (k := B9) (by first | assumption | (simp; done) | (simp; omega) | omega)
      obtain ⟨q3, p3⟩ := hws.row (k := B5) (by first | assumption | (simp; done) | (simp; omega) | omega)
      obtain ⟨q4, p4⟩ := hws.row (k := B4) (by first | assumption | (simp; done) | (simp; omega) | omega)
      refine Stays.plain ?_ (by rfl) ?_ ?_
      rotate_left
      · go_simp
        try with_reducible rfl
      · exact rfl
    · intro g ws hws hl
      simp only [fillAt, List.foldl_cons, List.foldl_nil, Act.put, List.setIfInBounds_toArray, List.set_cons_zero, List.set_cons_succ]
      obtain ⟨q0, p0⟩ := hws.row (k := B7) (by first | assumption | (simp; done) | (simp; omega) | omega)
      obtain ⟨q1, p1⟩ := hws.row (k := B8) (by first | assumption | (simp; done) | (simp; omega) | omega)
      obtain ⟨q2, p2⟩ := hws.row (k := B9) (by first | assumption | (simp; done) | (simp; omega) | omega)
      obtain ⟨q3, p3⟩ := hws.row (k := B5) (by first | assumption | (simp; done) | (simp; omega) | omega)
      obtain ⟨q4, p4⟩ := hws.row (k := B4) (by first | assumption | (simp; done) | (simp; omega) | omega)
      refine Stays.plain ?_ (by rfl) ?_ ?_
      rotate_left
      · go_simp
        try with_reducible rfl
      · exact rfl
    · intro g ws hws hl
      simp only [fillAt, List.foldl_cons, List.foldl_nil, Act.put, List.setIfInBounds_toArray, List.set_cons_zero, List.set_cons_succ]
      obtain ⟨q0, p0⟩ := hws.row (k := B7) (by first | assumption | (simp; done) | (simp; omega) | omega)
      obtain ⟨q1, p1⟩ := hws.row (k := B8) (by first | assumption | (simp; done) | (simp; omega) | omega)
      obtain ⟨q2, p2⟩ := hws.row (k := B9) (by first | assumption | (simp; done) | (simp; omega) | omega)
      obtain ⟨q3, p3⟩ := hws.row (k := B5) (by first | assumption | (simp; done) | (simp; omega) | omega)
      obtain ⟨q4, p4⟩ := hws.row (k := B4) (by first | assumption | (simp; done) | (simp; omega) | omega)
      refine Stays.plain ?_ (by rfl) ?_ ?_
      rotate_left
      · go_simp
        try with_reducible rfl
      · exact rfl
    · intro g ws hws hl
      have ln3 : g 15 = _ := (show (Line.is (.int .i64 fr)).p (g 15) ws from linesOf_get 3 hl (by kernel_rfl))
      have ln4 : g 16 = _ := (show (Line.is (.int .i64 off)).p (g 16) ws from linesOf_get 4 hl (by kernel_rfl))
      simp only [fillAt, List.foldl_cons, List.foldl_nil, Act.put, List.setIfInBounds_toArray, List.set_cons_zero, List.set_cons_succ, ln3, ln4]
      refine Stays.plain ?_ (by rfl) ?_ ?_
      rotate_left
      · go_simp
        try with_reducible rfl
      · exact rfl
    · intro g ws hws hl
      simp only [fillAt, List.foldl_cons, List.foldl_nil, Act.put, List.setIfInBounds_toArray, List.set_cons_zero, List.set_cons_succ]
      refine Stays.plain ?_ (by rfl) ?_ ?_
      rotate_left
      · go_simp
        try with_reducible rfl
      · exact rfl
    · intro g ws hws hl
      simp only [fillAt, List.foldl_cons, List.foldl_nil, Act.put, List.setIfInBounds_toArray, List.set_cons_zero, List.set_cons_succ]
      obtain ⟨q0, p0⟩ := hws.row (k := B7) (by first | assumption | (simp; done) | (simp; omega) | omega)
      obtain ⟨q1, p1⟩ := hws.row (k := B8) (by first | assumption | (simp; done) | (simp; omega) | omega)
      obtain ⟨q2, p2⟩ := hws.row (k := B9) (by first | assumption | (simp; done) | (simp; omega) | omega)
      obtain ⟨q3, p3⟩ := hws.row (k := B5) (by first | assumption | (simp; done) | (simp; omega) | omega)
      obtain ⟨q4, p4⟩ := hws.row (k := B4) (by first | assumption | (simp; done) | (simp; omega) | omega)
      refine Stays.plain ?_ (by rfl) ?_ ?_
      rotate_left
      · go_simp
        try with_reducible rfl
      · exact rfl
    · intro g ws hws hl
      have ln6 : g 18 = _ := (show (Line.is (.int .i64 to)).p (g 18) ws from linesOf_get 6 hl (by kernel_rfl))
      have ln7 : g 19 = _ := (show (Line.is (.int .i64 (off + (data.size : Int)))).p (g 19) ws from linesOf_get 7 hl (by kernel_rfl))
      simp only [fillAt, List.foldl_cons, List.foldl_nil, Act.put, List.setIfInBounds_toArray, List.set_cons_zero, List.set_cons_succ, ln6, ln7]
      refine Stays.plain ?_ (by rfl) ?_ ?_
      rotate_left
      · go_simp
        try with_reducible rfl
      · exact rfl
    · intro g ws hws hl
      simp only [fillAt, List.foldl_cons, List.foldl_nil, Act.put, List.setIfInBounds_toArray, List.set_cons_zero, List.set_cons_succ]
      obtain ⟨q0, p0⟩ := hws.row (k := B7) (by first | assumption | (simp; done) | (simp; omega) | omega)
      obtain ⟨q1, p1⟩ := hws.row (k := B8) (by first | assumption | (simp; done) | (simp; omega) | omega)
      obtain ⟨q2, p2⟩ := hws.row (k := B9) (by first | assumption | (simp; done) | (simp; omega) | omega)
      obtain ⟨q3, p3⟩ := hws.row (k := B5) (by first | assumption | (simp; done) | (simp; omega) | omega)
      obtain ⟨q4, p4⟩ := hws.row (k := B4) (by first | assumption | (simp; done) | (simp; omega) | omega)
      refine Stays.plain ?_ (by rfl) ?_ ?_
      rotate_left
      · go_simp
        try with_reducible rfl
      · exact rfl
    · intro g ws hws hl
      have ln8 : g 20 = _ := (show (Line.is (.int .i64 to)).p (g 20) ws from linesOf_get 8 hl (by kernel_rfl))
      have ln9 : g 21 = _ := (show (Line.is (.int .i64 off)).p (g 21) ws from linesOf_get 9 hl (by kernel_rfl))
      simp only [fillAt, List.foldl_cons, List.foldl_nil, Act.put, List.setIfInBounds_toArray, List.set_cons_zero, List.set_cons_succ, ln8, ln9]
      refine Stays.plain ?_ (by rfl) ?_ ?_
      rotate_left
      · go_simp
        try with_reducible rfl
      · exact rfl
    · intro g ws hws hl
      have ln2 : g 14 = _ := (show (Line.is (.string data)).p (g 14) ws from linesOf_get 2 hl (by kernel_rfl))
      have ln5 : g 17 = _ := (show (Line.is (.int .i64 p)).p (g 17) ws from linesOf_get 5 hl (by kernel_rfl))
      have ln10 : g 22 = _ := (show (Line.is (.int .i64 q)).p (g 22) ws from linesOf_get 10 hl (by kernel_rfl))
      simp only [fillAt, List.foldl_cons, List.foldl_nil, Act.put, List.setIfInBounds_toArray, List.set_cons_zero, List.set_cons_succ, ln2, ln5, ln10]
      refine Stays.plain ?_ (by rfl) ?_ ?_
      rotate_left
      · go_simp
        try with_reducible rfl
      · exact rfl
    · intro g ws hws hl
      have ln1 : g 13 = _ := (show (Line.is (.int .i64 fr)).p (g 13) ws from linesOf_get 1 hl (by kernel_rfl))
      have ln11 : g 23 = _ := (show (Line.is (.string (data.extract p.toNat q.toNat))).p (g 23) ws from linesOf_get 11 hl (by kernel_rfl))
      simp only [fillAt, List.foldl_cons, List.foldl_nil, Act.put, List.setIfInBounds_toArray, List.set_cons_zero, List.set_cons_succ, ln1, ln11]
      refine Stays.plain ?_ (by rfl) ?_ ?_
      rotate_left
      · go_simp
        try with_reducible rfl
      · exact rfl
    · intro g ws hws hl
      have ln12 : g 24 = _ := (show (Line.is (.agg #[.int .i64 fr, .string (data.extract p.toNat q.toNat)])).p (g 24) ws from linesOf_get 12 hl (by kernel_rfl))
      simp only [fillAt, List.foldl_cons, List.foldl_nil, Act.put, List.setIfInBounds_toArray, List.set_cons_zero, List.set_cons_succ, ln12]
      refine Stays.made (.slice (some ⟨ws.heap.size, 0, none⟩) 1 1) (ws.alloc (.cells #[.int .i64 fr, .string (data.extract p.toNat q.toNat)] 53)) (by rfl) ?_ ((Ext.refl _).alloc _) ⟨_, rfl, heap_alloc_new _ _⟩
      go_simp
  · intro g w1 hw1 hl
    have ln0 : g 12 = _ := (show (Line.is (.slice ao ls.length ca)).p (g 12) w1 from (allLines_get 12 0 0 hl rfl))
    have ln1 : g 13 = _ := (show (Line.is (.int .i64 fr)).p (g 13) w1 from (allLines_get 13 1 0 hl rfl))
    have ln2 : g 14 = _ := (show (Line.is (.string data)).p (g 14) w1 from (allLines_get 14 2 0 hl rfl))
    have ln3 : g 15 = _ := (show (Line.is (.int .i64 fr)).p (g 15) w1 from (allLines_get 15 3 0 hl rfl))
    have ln4 : g 16 = _ := (show (Line.is (.int .i64 off)).p (g 16) w1 from (allLines_get 16 4 0 hl rfl))
    have ln5 : g 17 = _ := (show (Line.is (.int .i64 p)).p (g 17) w1 from (allLines_get 17 5 0 hl rfl))
    have ln6 : g 18 = _ := (show (Line.is (.int .i64 to)).p (g 18) w1 from (allLines_get 18 6 0 hl rfl))
    have ln7 : g 19 = _ := (show (Line.is (.int .i64 (off + (data.size : Int)))).p (g 19) w1 from (allLines_get 19 7 0 hl rfl))
    have ln8 : g 20 = _ := (show (Line.is (.int .i64 to)).p (g 20) w1 from (allLines_get 20 8 0 hl rfl))
    have ln9 : g 21 = _ := (show (Line.is (.int .i64 off)).p (g 21) w1 from (allLines_get 21 9 0 hl rfl))
    have ln10 : g 22 = _ := (show (Line.is (.int .i64 q)).p (g 22) w1 from (allLines_get 22 10 0 hl rfl))
    have ln11 : g 23 = _ := (show (Line.is (.string (data.extract p.toNat q.toNat))).p (g 23) w1 from (allLines_get 23 11 0 hl rfl))
    have ln12 : g 24 = _ := (show (Line.is (.agg #[.int .i64 fr, .string (data.extract p.toNat q.toNat)])).p (g 24) w1 from (allLines_get 24 12 0 hl rfl))
    obtain ⟨BB, ln13, hBB⟩ := (show (builtL 53 1 #[.int .i64 fr, .string (data.extract p.toNat q.toNat)]).p (g 25) w1 from (allLines_get 25 13 0 hl rfl))
    clear hl
    simp only [fillAt, List.foldl_cons, List.foldl_nil, Act.put, List.setIfInBounds_toArray, List.set_cons_zero, List.set_cons_succ, ln0, ln1, ln2, ln3, ln4, ln5, ln6, ln7, ln8, ln9, ln10, ln11, ln12, ln13]
    simp only [List.drop_succ_cons, List.drop_zero]
    refine wpList_append_lies _ rfl _ _ _ (by rfl) base 53 i0 _ 2 24 Try.underlying24 hi0 hz0 hz1 hz2 rfl (by omega) (.slice ao ls.length ca) ls.length _ (by rfl) (own_ext hown ((Ext.refl w).drew.trans hw1)) ⟨BB, 0, none⟩ 1 1 [.int .i64 fr, .string (data.extract p.toNat q.toNat)] (by rfl) (by rfl) (World.news_of_block (cs := #[.int .i64 fr, .string (data.extract p.toNat q.toNat)]) (t := 53) (fr := (0, 0)) hBB) (by simp [Value.oneCell']) (by omega) (by simp [maxLen]; omega) (by omega) (by have := hw1.size; simp at this; omega) _ rfl ?_
    intro gg cap w2 hown1 hgrow hat hlt2
    obtain ⟨g9, y9, hLA, hCA⟩ := list_appended c9 f9 hap ((Ext.refl w).drew.trans hw1) (by have := hw1.size; simpa using this) hown1 hgrow hat
    go_wp2
    go_end0
    rw [← hcut'.out]
    have hsz1 := hw1.size
    simp at hsz1
    exact ⟨rfl, hLA.mono (fun k _ _ h => h.elim Or.inl (fun h => Or.inr (by omega))), hCA⟩
set_option maxHeartbeats 2000000 in
set_option maxRecDepth 100000 in
theorem put_yes_b (to fr off : Int) (data : ByteArray) (B7 B8 B9 B5 B4 base : Nat) (P : Nat → Prop) (ls : List Ck) (w : World)
    (c7 : w.cell? ⟨B7, 0, none⟩ = some (.int .i64 fr)) (c8 : w.cell? ⟨B8, 0, none⟩ = some (.int .i64 (off + (data.size : Int)))) (c5 : w.cell? ⟨B5, 0, none⟩ = some (.string data)) (c4 : w.cell? ⟨B4, 0, none⟩ = some (.int .i64 off))
    (hL : ListAt B9 base P ls w) (hbase : base ≤ w.heap.size) (k7 : B7 < base) (k8 : B8 < base) (k9 : B9 < w.heap.size) (k5 : B5 < base) (k4 : B4 < base)
    (h0 : 0 ≤ off) (h1 : off ≤ fr) (h2 : off + (data.size : Int) ≤ 4611686018427387903) (hls : ls.length ≤ 4194304) (ht : (off + (data.size : Int)) < to) (hlt : fr < (off + (data.size : Int))) :
    Calls Try.prog 32 #[.int .i64 to, .pointer (some ⟨B7, 0, none⟩), .pointer (some ⟨B8, 0, none⟩), .pointer (some ⟨B9, 0, none⟩), .pointer (some ⟨B5, 0, none⟩), .pointer (some ⟨B4, 0, none⟩)] w fun e w' => e = .returned (.tuple #[]) ∧
      ListAt B9 base (fun k => P k ∨ w.heap.size ≤ k) (ls ++ [(fr, cutD off data fr (off + (data.size : Int)))]) w' ∧ Chg (fun k => k = B9 ∨ P k) w w' := by
  have hT2 : (if (off + (data.size : Int)) < to then (off + (data.size : Int)) else to) = (off + (data.size : Int)) := if_pos ht
  have hD : decide (fr < (off + (data.size : Int))) = true := decide_eq_true hlt
  obtain ⟨p, hp⟩ : ∃ p : Int, p = fr - off := ⟨_, rfl⟩
  obtain ⟨q, hq⟩ : ∃ q : Int, q = (off + (data.size : Int)) - off := ⟨_, rfl⟩
  have w1 : IntKind.i64.wrap (fr - off) = p := by rw [hp]; exact IntWalk.i64_in _ (by omega)
  have w2 : IntKind.i64.wrap ((off + (data.size : Int)) - off) = q := by rw [hq]; exact IntWalk.i64_in _ (by omega)
  have q1 : (0 : Int) ≤ p := by omega
  have q2 : p ≤ q := by omega
  have q3 : q ≤ (data.size : Int) := by omega
  have q4 : (0 : Int) ≤ q := by omega
  have hcut : (data.extract p.toNat q.toNat) = cutD off data fr (off + (data.size : Int)) := by rw [hp, hq]; rfl
  have hp' := hide hp
  have hq' := hide hq
  have hcut' := hide hcut
  clear hp hq hcut
  have kk7 : B7 < w.heap.size := by omega
  have kk8 : B8 < w.heap.size := by omega
  have kk9 := k9
  have kk5 : B5 < w.heap.size := by omega
  have kk4 : B4 < w.heap.size := by omega
  obtain ⟨ao, ca, c9, hown, hap, f9⟩ := hL
  obtain ⟨i0, hi0, hz0, hz1, hz2⟩ := info_parts infoChunk
  have hne : ∀ k, (Value.slice ao ls.length ca).ownBlock = some k → base ≤ k ∧ k < w.heap.size := hown.lt
  go_enter Try.func32, Try.ntmps32
  go_wp2_with fail
  refine wp_region_tail 14 [Line.is (.slice ao ls.length ca), Line.is (.int .i64 fr), Line.is (.string data), Line.is (.int .i64 fr), Line.is (.int .i64 off), Line.is (.int .i64 p), Line.is (.int .i64 to), Line.is (.int .i64 (off + (data.size : Int))), Line.is (.int .i64 (off + (data.size : Int))), Line.is (.int .i64 off), Line.is (.int .i64 q), Line.is (.string (data.extract p.toNat q.toNat)), Line.is (.agg #[.int .i64 fr, .string (data.extract p.toNat q.toNat)]), builtL 53 1 #[.int .i64 fr, .string (data.extract p.toNat q.toNat)]] [12, 13, 14, 15, 16, 17, 18, 19, 20, 21, 22, 23, 24, 25] (by kernel_rfl) (by kernel_rfl) (by kernel_rfl) (by kernel_rfl) (by kernel_rfl) (by kernel_rfl) (by kernel_rfl) ?_ ?_
  · refine Each.cons ?_ (Each.cons ?_ (Each.cons ?_ (Each.cons ?_ (Each.cons ?_ (Each.cons ?_ (Each.cons ?_ (Each.cons ?_ (Each.cons ?_ (Each.cons ?_ (Each.cons ?_ (Each.cons ?_ (Each.cons ?_ (Each.cons ?_ (Each.nil))))))))))))))
    · intro g ws hws hl
      simp only [fillAt, List.foldl_cons, List.foldl_nil, Act.put, List.setIfInBounds_toArray, List.set_cons_zero, List.set_cons_succ]
      obtain ⟨q0, p0⟩ := hws.row (k := B7) (by first | assumption | (simp; done) | (simp; omega) | omega)
      obtain ⟨q1, p1⟩ := hws.row (k := B8) (by first | assumption | (simp; done) | (simp; omega) | omega)
      obtain ⟨q2, p2⟩ := hws.row (k := B9) (by first | assumption | (simp; done) | (simp; omega) | omega)
      obtain ⟨q3, p3⟩ := hws.row (k := B5) (by first | assumption | (simp; done) | (simp; omega) | omega)
      obtain ⟨q4, p4⟩ := hws.row (k := B4) (by first | assumption | (simp; done) | (simp; omega) | omega)
      refine Stays.plain ?_ (by rfl) ?_ ?_
      rotate_left
      · go_simp
        try with_reducible rfl
      · exact rfl
    · intro g ws hws hl
      simp only [fillAt, List.foldl_cons, List.foldl_nil, Act.put, List.setIfInBounds_toArray, List.set_cons_zero, List.set_cons_succ]
      obtain ⟨q0, p0⟩ := hws.row (k := B7) (by first | assumption | (simp; done) | (simp; omega) | omega)
      obtain ⟨q1, p1⟩ := hws.row (k := B8) (by first | assumption | (simp; done) | (simp; omega) | omega)
      obtain ⟨q2, p2⟩ := hws.row (k := B9) (by first | assumption | (simp; done) | (simp; omega) | omega)
      obtain ⟨q3, p3⟩ := hws.row (k := B5) (by first | assumption | (simp; done) | (simp; omega) | omega)
      obtain ⟨q4, p4⟩ := hws.row (k := B4) (by first | assumption | (simp; done) | (simp; omega) | omega)
      refine Stays.plain ?_ (by rfl) ?_ ?_
      rotate_left
      · go_simp
        try with_reducible rfl
      · exact rfl
    · intro g ws hws hl
      simp only [fillAt, List.foldl_cons, List.foldl_nil, Act.put, List.setIfInBounds_toArray, List.set_cons_zero, List.set_cons_succ]
      obtain ⟨q0, p0⟩ := hws.row (k := B7) (by first | assumption | (simp; done) | (simp; omega) | omega)
      obtain ⟨q1, p1⟩ := hws.row (k := B8) (by first | assumption | (simp; done) | (simp; omega) | omega)
      obtain ⟨q2, p2⟩ := hws.row (k := B9) (by first | assumption | (simp; done) | (simp; omega) | omega)
      obtain ⟨q3, p3⟩ := hws.row (k := B5) (by first | assumption | (simp; done) | (simp; omega) | omega)
      obtain ⟨q4, p4⟩ := hws.row (k := B4) (by first | assumption | (simp; done) | (simp; omega) | omega)
      refine Stays.plain ?_ (by rfl) ?_ ?_
      rotate_left
      · go_simp
        try with_reducible rfl
      · exact rfl
    · intro g ws hws hl
      simp only [fillAt, List.foldl_cons, List.foldl_nil, Act.put, List.setIfInBounds_toArray, List.set_cons_zero, List.set_cons_succ]
      obtain ⟨q0, p0⟩ := hws.row (k := B7) (by first | assumption | (simp; done) | (simp; omega) | omega)
      obtain ⟨q1, p1⟩ := hws.row (k := B8) (by first | assumption | (simp; done) | (simp; omega) | omega)
      obtain ⟨q2, p2⟩ := hws.row (k := B9) (by first | assumption | (simp; done) | (simp; omega) | omega)
      obtain ⟨q3, p3⟩ := hws.row (k := B5) (by first | assumption | (simp; done) | (simp; omega) | omega)
      obtain ⟨q4, p4⟩ := hws.row (k := B4) (by first | assumption | (simp; done) | (simp; omega) | omega)
      refine Stays.plain ?_ (by rfl) ?_ ?_
      rotate_left
      · go_simp
        try with_reducible rfl
      · exact rfl
    · intro g ws hws hl
      simp only [fillAt, List.foldl_cons, List.foldl_nil, Act.put, List.setIfInBounds_toArray, List.set_cons_zero, List.set_cons_succ]
      obtain ⟨q0, p0⟩ := hws.row (k := B7) (by first | assumption | (simp; done) | (simp; omega) | omega)
      obtain ⟨q1, p1⟩ := hws.row (k := B8) (by first | assumption | (simp; done) | (simp; omega) | omega)
      obtain ⟨q2, p2⟩ := hws.row (k := B9) (by first | assumption | (simp; done) | (simp; omega) | omega)
      obtain ⟨q3, p3⟩ := hws.row (k := B5) (by first | assumption | (simp; done) | (simp; omega) | omega)
      obtain ⟨q4, p4⟩ := hws.row (k := B4) (by first | assumption | (simp; done) | (simp; omega) | omega)
      refine Stays.plain ?_ (by rfl) ?_ ?_
      rotate_left
      · go_simp
        try with_reducible rfl
      · exact rfl
    · intro g ws hws hl
      have ln3 : g 15 = _ := (show (Line.is (.int .i64 fr)).p (g 15) ws from linesOf_get 3 hl (by kernel_rfl))
      have ln4 : g 16 = _ := (show (Line.is (.int .i64 off)).p (g 16) ws from linesOf_get 4 hl (by kernel_rfl))
      simp only [fillAt, List.foldl_cons, List.foldl_nil, Act.put, List.setIfInBounds_toArray, List.set_cons_zero, List.set_cons_succ, ln3, ln4]
      refine Stays.plain ?_ (by rfl) ?_ ?_
      rotate_left
      · go_simp
        try with_reducible rfl
      · exact rfl
    · intro g ws hws hl
      simp only [fillAt, List.foldl_cons, List.foldl_nil, Act.put, List.setIfInBounds_toArray, List.set_cons_zero, List.set_cons_succ]
      refine Stays.plain ?_ (by rfl) ?_ ?_
      rotate_left
      · go_simp
        try with_reducible rfl
      · exact rfl
    · intro g ws hws hl
      simp only [fillAt, List.foldl_cons, List.foldl_nil, Act.put, List.setIfInBounds_toArray, List.set_cons_zero, List.set_cons_succ]
      obtain ⟨q0, p0⟩ := hws.row (k := B7) (by first | assumption | (simp; done) | (simp; omega) | omega)
      obtain ⟨q1, p1⟩ := hws.row (k := B8) (by first | assumption | (simp; done) | (simp; omega) | omega)
      obtain ⟨q2, p2⟩ := hws.row (k := B9) (by first | assumption | (simp; done) | (simp; omega) | omega)
      obtain ⟨q3, p3⟩ := hws.row (k := B5) (by first | assumption | (simp; done) | (simp; omega) | omega)
      obtain ⟨q4, p4⟩ := hws.row (k := B4) (by first | assumption | (simp; done) | (simp; omega) | omega)
      refine Stays.plain ?_ (by rfl) ?_ ?_
      rotate_left
      · go_simp
        try with_reducible rfl
      · exact rfl
    · intro g ws hws hl
      have ln6 : g 18 = _ := (show (Line.is (.int .i64 to)).p (g 18) ws from linesOf_get 6 hl (by kernel_rfl))
      have ln7 : g 19 = _ := (show (Line.is (.int .i64 (off + (data.size : Int)))).p (g 19) ws from linesOf_get 7 hl (by kernel_rfl))
      simp only [fillAt, List.foldl_cons, List.foldl_nil, Act.put, List.setIfInBounds_toArray, List.set_cons_zero, List.set_cons_succ, ln6, ln7]
      refine Stays.plain ?_ (by rfl) ?_ ?_
      rotate_left
      · go_simp
        try with_reducible rfl
      · exact rfl
    · intro g ws hws hl
      simp only [fillAt, List.foldl_cons, List.foldl_nil, Act.put, List.setIfInBounds_toArray, List.set_cons_zero, List.set_cons_succ]
      obtain ⟨q0, p0⟩ := hws.row (k := B7) (by first | assumption | (simp; done) | (simp; omega) | omega)
      obtain ⟨q1, p1⟩ := hws.row (k := B8) (by first | assumption | (simp; done) | (simp; omega) | omega)
      obtain ⟨q2, p2⟩ := hws.row (k := B9) (by first | assumption | (simp; done) | (simp; omega) | omega)
      obtain ⟨q3, p3⟩ := hws.row (k := B5) (by first | assumption | (simp; done) | (simp; omega) | omega)
      obtain ⟨q4, p4⟩ := hws.row (k := B4) (by first | assumption | (simp; done) | (simp; omega) | omega)
      refine Stays.plain ?_ (by rfl) ?_ ?_
      rotate_left
      · go_simp
        try with_reducible rfl
      · exact rfl
    · intro g ws hws hl
      have ln8 : g 20 = _ := (show (Line.is (.int .i64 (off + (data.size : Int)))).p (g 20) ws from linesOf_get 8 hl (by kernel_rfl))
      have ln9 : g 21 = _ := (show (Line.is (.int .i64 off)).p (g 21) ws from linesOf_get 9 hl (by kernel_rfl))
      simp only [fillAt, List.foldl_cons, List.foldl_nil, Act.put, List.setIfInBounds_toArray, List.set_cons_zero, List.set_cons_succ, ln8, ln9]
      refine Stays.plain ?_ (by rfl) ?_ ?_
      rotate_left
      · go_simp
        try with_reducible rfl
      · exact rfl
    · intro g ws hws hl
      have ln2 : g 14 = _ := (show (Line.is (.string data)).p (g 14) ws from linesOf_get 2 hl (by kernel_rfl))
      have ln5 : g 17 = _ := (show (Line.is (.int .i64 p)).p (g 17) ws from linesOf_get 5 hl (by kernel_rfl))
      have ln10 : g 22 = _ := (show (Line.is (.int .i64 q)).p (g 22) ws from linesOf_get 10 hl (by kernel_rfl))
      simp only [fillAt, List.foldl_cons, List.foldl_nil, Act.put, List.setIfInBounds_toArray, List.set_cons_zero, List.set_cons_succ, ln2, ln5, ln10]
      refine Stays.plain ?_ (by rfl) ?_ ?_
      rotate_left
      · go_simp
        try with_reducible rfl
      · exact rfl
    · intro g ws hws hl
      have ln1 : g 13 = _ := (show (Line.is (.int .i64 fr)).p (g 13) ws from linesOf_get 1 hl (by kernel_rfl))
      have ln11 : g 23 = _ := (show (Line.is (.string (data.extract p.toNat q.toNat))).p (g 23) ws from linesOf_get 11 hl (by kernel_rfl))
      simp only [fillAt, List.foldl_cons, List.foldl_nil, Act.put, List.setIfInBounds_toArray, List.set_cons_zero, List.set_cons_succ, ln1, ln11]
      refine Stays.plain ?_ (by rfl) ?_ ?_
      rotate_left
      · go_simp
        try with_reducible rfl
      · exact rfl
    · intro g ws hws hl
      have ln12 : g 24 = _ := (show (Line.is (.agg #[.int .i64 fr, .string (data.extract p.toNat q.toNat)])).p (g 24) ws from linesOf_get 12 hl (by kernel_rfl))
      simp only [fillAt, List.foldl_cons, List.foldl_nil, Act.put, List.setIfInBounds_toArray, List.set_cons_zero, List.set_cons_succ, ln12]
      refine Stays.made (.slice (some ⟨ws.heap.size, 0, none⟩) 1 1) (ws.alloc (.cells #[.int .i64 fr, .string (data.extract p.toNat q.toNat)] 53)) (by rfl) ?_ ((Ext.refl _).alloc _) ⟨_, rfl, heap_alloc_new _ _⟩
      go_simp
  · intro g w1 hw1 hl
    have ln0 : g 12 = _ := (show (Line.is (.slice ao ls.length ca)).p (g 12) w1 from (allLines_get 12 0 0 hl rfl))
    have ln1 : g 13 = _ := (show (Line.is (.int .i64 fr)).p (g 13) w1 from (allLines_get 13 1 0 hl rfl))
    have ln2 : g 14 = _ := (show (Line.is (.string data)).p (g 14) w1 from (allLines_get 14 2 0 hl rfl))
    have ln3 : g 15 = _ := (show (Line.is (.int .i64 fr)).p (g 15) w1 from (allLines_get 15 3 0 hl rfl))
    have ln4 : g 16 = _ := (show (Line.is (.int .i64 off)).p (g 16) w1 from (allLines_get 16 4 0 hl rfl))
    have ln5 : g 17 = _ := (show (Line.is (.int .i64 p)).p (g 17) w1 from (allLines_get 17 5 0 hl rfl))
    have ln6 : g 18 = _ := (show (Line.is (.int .i64 to)).p (g 18) w1 from (allLines_get 18 6 0 hl rfl))
    have ln7 : g 19 = _ := (show (Line.is (.int .i64 (off + (data.size : Int)))).p (g 19) w1 from (allLines_get 19 7 0 hl rfl))
    have ln8 : g 20 = _ := (show (Line.is (.int .i64 (off + (data.size : Int)))).p (g 20) w1 from (allLines_get 20 8 0 hl rfl))
    have ln9 : g 21 = _ := (show (Line.is (.int .i64 off)).p (g 21) w1 from (allLines_get 21 9 0 hl rfl))
    have ln10 : g 22 = _ := (show (Line.is (.int .i64 q)).p (g 22) w1 from (allLines_get 22 10 0 hl rfl))
    have ln11 : g 23 = _ := (show (Line.is (.string (data.extract p.toNat q.toNat))).p (g 23) w1 from (allLines_get 23 11 0 hl rfl))
    have ln12 : g 24 = _ := (show (Line.is (.agg #[.int .i64 fr, .string (data.extract p.toNat q.toNat)])).p (g 24) w1 from (allLines_get 24 12 0 hl rfl))
    obtain ⟨BB, ln13, hBB⟩ := (show (builtL 53 1 #[.int .i64 fr, .string (data.extract p.toNat q.toNat)]).p (g 25) w1 from (allLines_get 25 13 0 hl rfl))
    clear hl
    simp only [fillAt, List.foldl_cons, List.foldl_nil, Act.put, List.setIfInBounds_toArray, List.set_cons_zero, List.set_cons_succ, ln0, ln1, ln2, ln3, ln4, ln5, ln6, ln7, ln8, ln9, ln10, ln11, ln12, ln13]
    simp only [List.drop_succ_cons, List.drop_zero]
    refine wpList_append_lies _ rfl _ _ _ (by rfl) base 53 i0 _ 2 24 Try.underlying24 hi0 hz0 hz1 hz2 rfl (by omega) (.slice ao ls.length ca) ls.length _ (by rfl) (own_ext hown ((Ext.refl w).drew.trans hw1)) ⟨BB, 0, none⟩ 1 1 [.int .i64 fr, .string (data.extract p.toNat q.toNat)] (by rfl) (by rfl) (World.news_of_block (cs := #[.int .i64 fr, .string (data.extract p.toNat q.toNat)]) (t := 53) (fr := (0, 0)) hBB) (by simp [Value.oneCell']) (by omega) (by simp [maxLen]; omega) (by omega) (by have := hw1.size; simp at this; omega) _ rfl ?_
    intro gg cap w2 hown1 hgrow hat hlt2
    obtain ⟨g9, y9, hLA, hCA⟩ := list_appended c9 f9 hap ((Ext.refl w).drew.trans hw1) (by have := hw1.size; simpa using this) hown1 hgrow hat
    go_wp2
    go_end0
    rw [← hcut'.out]
    have hsz1 := hw1.size
    simp at hsz1
    exact ⟨rfl, hLA.mono (fun k _ _ h => h.elim Or.inl (fun h => Or.inr (by omega))), hCA⟩
set_option maxHeartbeats 2000000 in
theorem put_any (to fr off : Int) (data : ByteArray) (B7 B8 B9 B5 B4 base : Nat) (P : Nat → Prop) (ls : List Ck) (w : World)
    (c7 : w.cell? ⟨B7, 0, none⟩ = some (.int .i64 fr)) (c8 : w.cell? ⟨B8, 0, none⟩ = some (.int .i64 (off + (data.size : Int)))) (c5 : w.cell? ⟨B5, 0, none⟩ = some (.string data)) (c4 : w.cell? ⟨B4, 0, none⟩ = some (.int .i64 off))
    (hL : ListAt B9 base P ls w) (hbase : base ≤ w.heap.size) (k7 : B7 < base) (k8 : B8 < base) (k9 : B9 < w.heap.size) (k5 : B5 < base) (k4 : B4 < base)
    (h0 : 0 ≤ off) (h1 : off ≤ fr) (h2 : off + (data.size : Int) ≤ 4611686018427387903) (hls : ls.length ≤ 4194304) :
    Calls Try.prog 32 #[.int .i64 to, .pointer (some ⟨B7, 0, none⟩), .pointer (some ⟨B8, 0, none⟩), .pointer (some ⟨B9, 0, none⟩), .pointer (some ⟨B5, 0, none⟩), .pointer (some ⟨B4, 0, none⟩)] w fun e w' => e = .returned (.tuple #[]) ∧
      ListAt B9 base (fun k => P k ∨ w.heap.size ≤ k) (ls ++ putL off data fr to) w' ∧ Chg (fun k => k = B9 ∨ P k) w w' := by
  by_cases ht : to ≤ off + (data.size : Int)
  · by_cases hlt : fr < to
    · have e : putL off data fr to = [(fr, cutD off data fr to)] := by rw [putL, Int.min_eq_left ht, if_pos hlt]
      rw [e]
      exact put_yes_a to fr off data B7 B8 B9 B5 B4 base P ls w c7 c8 c5 c4 hL hbase k7 k8 k9 k5 k4 h0 h1 h2 hls ht hlt
    · have e : putL off data fr to = [] := by rw [putL, Int.min_eq_left ht, if_neg hlt]
      have hT2 : (if off + (data.size : Int) < to then off + (data.size : Int) else to) = to := if_neg (by omega)
      have hD : decide (fr < to) = false := decide_eq_false hlt
      rw [e, List.append_nil]
      clear e
      go_enter Try.func32, Try.ntmps32
      go_wp2
      go_end0
      exact ⟨rfl, hL.mono (fun k _ _ h => Or.inl h), Chg.refl _ _⟩
  · have ht2 : off + (data.size : Int) < to := by omega
    by_cases hlt : fr < off + (data.size : Int)
    · have e : putL off data fr to = [(fr, cutD off data fr (off + (data.size : Int)))] := by rw [putL, Int.min_eq_right (by omega), if_pos hlt]
      rw [e]
      exact put_yes_b to fr off data B7 B8 B9 B5 B4 base P ls w c7 c8 c5 c4 hL hbase k7 k8 k9 k5 k4 h0 h1 h2 hls ht2 hlt
    · have e : putL off data fr to = [] := by rw [putL, Int.min_eq_right (by omega), if_neg hlt]
      have hT2 : (if off + (data.size : Int) < to then off + (data.size : Int) else to) = off + (data.size : Int) := if_pos ht2
      have hD : decide (fr < off + (data.size : Int)) = false := decide_eq_false hlt
      rw [e, List.append_nil]
      clear e
      go_enter Try.func32, Try.ntmps32
      go_wp2
      go_end0
      exact ⟨rfl, hL.mono (fun k _ _ h => Or.inl h), Chg.refl _ _⟩
end Go.Proofs.Ytjnbiacnhimkgaa

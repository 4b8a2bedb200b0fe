/-
  A sender as a law's argument, opened: eight ints, a slice of ints and three slices of ranges that can be read. Condition: the argument's reading.
-/
import Derived.Test.YtjhgcbchdnoleaaRingIn
import Derived.Test.YtjhgcbchdnoleaaSnd
import Derived.OpenShut
namespace Go.Proofs.Ytjhgcbchdnoleaa
open Go.ChangeShapes Go.WideShapes Go.ChangeAt Go.RowKit
set_option linter.unusedSimpArgs false
set_option linter.unusedVariables false
theorem exists_listR (Q : Nat → Rg → Prop) : ∀ n, (∀ i, i < n → ∃ c, Q i c) → ∃ l : List Rg, l.length = n ∧ ∀ i, i < n → Q i (l.getD i dr)
  | 0, _ => ⟨[], rfl, fun i hi => absurd hi (by omega)⟩
  | n + 1, h => by
    obtain ⟨l, hl, hq⟩ := exists_listR Q n fun i hi => h i (by omega)
    obtain ⟨c, hc⟩ := h n (by omega)
    refine ⟨l ++ [c], by simp [hl], fun i hi => ?_⟩
    by_cases hin : i < n
    · have : (l ++ [c]).getD i dr = l.getD i dr := by simp [List.getD, List.getElem?_append_left (show i < l.length by omega)]
      rw [this]; exact hq i hin
    · obtain rfl : i = n := by omega
      have : (l ++ [c]).getD i dr = c := by simp [List.getD, ← hl]
      rw [this]; exact hc
section
variable {H : Type} {enc : TypeId × Value → H} {P : Program}
theorem take2_drop {cs : List Value} {i : Nat} {v u : Value} (h : (cs.drop i).take 2 = [v, u]) : cs[i]? = some v ∧ cs[i + 1]? = some u := by
  have h0 := congrArg (fun l => l[0]?) h
  have h1 := congrArg (fun l => l[1]?) h
  exact ⟨by simpa [List.getElem?_take, List.getElem?_drop] using h0, by simpa [List.getElem?_take, List.getElem?_drop] using h1⟩
/-- A range's cells. -/
theorem open_range {w : World} {spare : Nat → Bool} {held : Bool} {t f0 f1 : TypeId} {fs : Array Field} {cs : List Value} {fuel : Nat} {x : DataW H × List MemPlace} (hs : P.underlying t = some (.struct fs)) (hC : P.cellsOf t = 2)
    (hF : fs.map (fun f => (f.type, f.offset)) = #[(f0, 0), (f1, 1)]) (h0 : P.underlying f0 = some (.int .i64)) (h1 : P.underlying f1 = some (.int .i64)) (c0 : P.cellsOf f0 = 1) (c1 : P.cellsOf f1 = 1)
    (h : DataW.trod enc P w 0 spare held fuel t cs = some x) : ∃ c : Rg, cs = [.int .i64 c.1, .int .i64 c.2] ∧ (Lit.int .i64 c.2).wf = true ∧ (Lit.int .i64 c.1).wf = true := by
  obtain ⟨xs, n, _, hx, hlen, hxl, hg⟩ := DataW.trod_struct hs h
  have hn : fs.size = 2 := by simpa using congrArg Array.size hF
  have hfi : ∀ (i : Nat) (hi : i < fs.size), ((fs[i]).type, (fs[i]).offset) = #[(f0, 0), (f1, 1)][i]! := by
    intro i hi
    have := congrArg (fun a => a[i]!) hF
    simpa [hi] using this
  have g0 := hg 0 _ (Array.getElem?_eq_getElem (by omega : 0 < fs.size))
  have g1 := hg 1 _ (Array.getElem?_eq_getElem (by omega : 1 < fs.size))
  obtain ⟨e0, o0⟩ := Prod.mk.inj (hfi 0 (by omega))
  obtain ⟨e1, o1⟩ := Prod.mk.inj (hfi 1 (by omega))
  rw [List.getElem?_eq_getElem (by omega)] at g0 g1
  rw [e0, o0, c0] at g0
  rw [e1, o1, c1] at g1
  obtain ⟨z, hz, _, wz⟩ := DataW.trod_int h0 g0
  obtain ⟨s, hs2, _, ws⟩ := DataW.trod_int h1 g1
  have q0 := take1_drop hz
  have q1 := take1_drop hs2
  refine ⟨(z, s), ?_, ws, wz⟩
  rw [hC] at hlen
  match cs, hlen, q0, q1 with
  | [a, b], _, q0, q1 =>
    simp at q0 q1
    rw [q0, q1]
/-- A slice of ranges, opened. -/
theorem open_ranges {w : World} {spare : Nat → Bool} {held : Bool} {t e f0 f1 : TypeId} {fs : Array Field} {cs : List Value} {fuel : Nat} {x : DataW H × List MemPlace} (ht : P.underlying t = some (.slice e)) (hs : P.underlying e = some (.struct fs)) (hC : P.cellsOf e = 2)
    (hF : fs.map (fun f => (f.type, f.offset)) = #[(f0, 0), (f1, 1)]) (h0 : P.underlying f0 = some (.int .i64)) (h1 : P.underlying f1 = some (.int .i64)) (c0 : P.cellsOf f0 = 1) (c1 : P.cellsOf f1 = 1)
    (h : DataW.trod enc P w 0 spare held fuel t cs = some x) :
    ∃ (ao : Option Addr) (n cap : Nat) (xs : List Rg), cs = [.slice ao n cap] ∧ xs.length = n ∧ (n : Int) ≤ 9223372036854775807 ∧ ReadR w ao xs ∧ ∀ c ∈ xs, (Lit.int .i64 c.2).wf = true ∧ (Lit.int .i64 c.1).wf = true := by
  rcases DataW.trod_slice ht h with ⟨rfl, _⟩ | ⟨a, len, cap, elems, rest, n, _, rfl, rfl, hb, hl, hm, hlen, hel, hsp, hns⟩
  · exact ⟨none, 0, 0, [], rfl, rfl, by omega, Or.inl rfl, fun y hy => by simp at hy⟩
  · have hm' : cap ≤ 9223372036854775807 := hm
    have each : ∀ i, i < len → ∃ c : Rg, (w.cell? (a.add (i * 2)) = some (.int .i64 c.1) ∧ w.cell? ((a.add (i * 2)).add 1) = some (.int .i64 c.2)) ∧ (Lit.int .i64 c.2).wf = true ∧ (Lit.int .i64 c.1).wf = true := by
      intro i hi
      have hy := hel i hi
      rw [List.getElem?_eq_getElem (by omega), hC, Option.bind_eq_some_iff] at hy
      obtain ⟨cs', hcs, hy'⟩ := hy
      obtain ⟨c, rfl, k1, k2⟩ := open_range hs hC hF h0 h1 c0 c1 hy'
      obtain ⟨_, _, hcell⟩ := World.cells?_some hcs
      refine ⟨c, ⟨?_, ?_⟩, by omega, k2⟩
      · have := hcell 0 (by omega)
        simpa [Addr.add] using this
      · exact hcell 1 (by omega)
    obtain ⟨xs, hxl, hxs⟩ := exists_listR _ len each
    refine ⟨some a, len, cap, xs, rfl, hxl, by omega, ?_, fun c hc => ?_⟩
    · rcases Nat.eq_zero_or_pos len with hz | hpos
      · exact Or.inl (List.eq_nil_of_length_eq_zero (by omega))
      · obtain ⟨b, off, spot⟩ := a
        have hspot : spot = none := by
          have h1 := (hxs 0 hpos).1.1
          simp only [Nat.zero_mul, Addr.add, if_true] at h1
          exact World.cell?_spot h1
        subst hspot
        refine Or.inr ⟨b, off, rfl, fun j hj => ?_⟩
        obtain ⟨⟨k1, k2⟩, _⟩ := hxs j (by omega)
        rw [Go.WideShapes.add_plain] at k1
        rw [Go.WideShapes.add_plain, Go.WideShapes.add_plain] at k2
        exact ⟨k1, k2⟩
    · obtain ⟨i, hi, rfl⟩ := List.getElem_of_mem hc
      have := (hxs i (by omega)).2
      simpa [List.getD, List.getElem?_eq_getElem hi] using this
/-- A sender, opened. -/
theorem open_sender {spare : Nat → Bool} {held : Bool} {w : World} {r : Reach} {b0 : Nat} {t ti tr tc tl tg : TypeId} {fs gs es : Array Field} {v : Value} {d : DataW H} {p : List MemPlace}
    (hs : P.underlying t = some (.struct fs)) (hC : P.cellsOf t = 12) (hF : fs.map (fun f => (f.type, f.offset)) = #[(ti, 0), (tr, 1), (tl, 5), (tl, 6), (tl, 7), (ti, 8), (ti, 9), (ti, 10), (ti, 11)])
    (hi : P.underlying ti = some (.int .i64)) (ci : P.cellsOf ti = 1)
    (hsr : P.underlying tr = some (.struct gs)) (hCr : P.cellsOf tr = 4) (hFr : gs.map (fun f => (f.type, f.offset)) = #[(ti, 0), (ti, 1), (ti, 2), (tc, 3)]) (hc : P.underlying tc = some (.slice ti)) (cc : P.cellsOf tc = 1)
    (hl : P.underlying tl = some (.slice tg)) (cl : P.cellsOf tl = 1) (hse : P.underlying tg = some (.struct es)) (hCe : P.cellsOf tg = 2) (hFe : es.map (fun f => (f.type, f.offset)) = #[(ti, 0), (ti, 1)])
    (hv : Value.okWide P w r b0 t v) (h : DataW.Trod enc P w 0 spare held t v d p) :
    ∃ st z b e fi fk se co : Int, ∃ (a1 a2 a3 a4 : Option Addr) (ca1 ca2 ca3 ca4 : Nat) (n1 n2 n3 n4 : Nat) (xs : List Int) (ps fs ks : List Rg), v = .agg #[.int .i64 st, .int .i64 z, .int .i64 b, .int .i64 e, .slice a1 n1 ca1, .slice a2 n2 ca2, .slice a3 n3 ca3, .slice a4 n4 ca4, .int .i64 fi, .int .i64 fk, .int .i64 se, .int .i64 co] ∧ (xs.length = n1 ∧ ps.length = n2 ∧ fs.length = n3 ∧ ks.length = n4) ∧ ((n1 : Int) ≤ 9223372036854775807 ∧ (n2 : Int) ≤ 9223372036854775807 ∧ (n3 : Int) ≤ 9223372036854775807 ∧ (n4 : Int) ≤ 9223372036854775807) ∧ ReadSnd w ⟨a1, a2, a3, a4⟩ ⟨xs, ps, fs, ks⟩ ∧
      ((Lit.int .i64 st).wf = true ∧ (Lit.int .i64 z).wf = true ∧ (Lit.int .i64 b).wf = true ∧ (Lit.int .i64 e).wf = true ∧ (Lit.int .i64 fi).wf = true ∧ (Lit.int .i64 fk).wf = true ∧ (Lit.int .i64 se).wf = true ∧ (Lit.int .i64 co).wf = true) ∧
      (∀ y ∈ xs, (Lit.int .i64 y).wf = true) ∧ (∀ c ∈ ps, (Lit.int .i64 c.2).wf = true ∧ (Lit.int .i64 c.1).wf = true) ∧ (∀ c ∈ fs, (Lit.int .i64 c.2).wf = true ∧ (Lit.int .i64 c.1).wf = true) ∧ ∀ c ∈ ks, (Lit.int .i64 c.2).wf = true ∧ (Lit.int .i64 c.1).wf = true := by
  obtain ⟨cs, rfl, hsz⟩ := okWide_struct hs hv
  obtain ⟨fuel, hf⟩ := h
  obtain ⟨zs, n, _, hx, hlen, hxl, hg⟩ := DataW.trod_struct hs hf
  have hn : fs.size = 9 := by simpa using congrArg Array.size hF
  have hfi : ∀ (i : Nat) (hi : i < fs.size), ((fs[i]).type, (fs[i]).offset) = #[(ti, 0), (tr, 1), (tl, 5), (tl, 6), (tl, 7), (ti, 8), (ti, 9), (ti, 10), (ti, 11)][i]! := by
    intro i hi
    have := congrArg (fun a => a[i]!) hF
    simpa [hi] using this
  have g0 := hg 0 _ (Array.getElem?_eq_getElem (by omega : 0 < fs.size))
  obtain ⟨e0, o0⟩ := Prod.mk.inj (hfi 0 (by omega))
  have g1 := hg 1 _ (Array.getElem?_eq_getElem (by omega : 1 < fs.size))
  obtain ⟨e1, o1⟩ := Prod.mk.inj (hfi 1 (by omega))
  have g2 := hg 2 _ (Array.getElem?_eq_getElem (by omega : 2 < fs.size))
  obtain ⟨e2, o2⟩ := Prod.mk.inj (hfi 2 (by omega))
  have g3 := hg 3 _ (Array.getElem?_eq_getElem (by omega : 3 < fs.size))
  obtain ⟨e3, o3⟩ := Prod.mk.inj (hfi 3 (by omega))
  have g4 := hg 4 _ (Array.getElem?_eq_getElem (by omega : 4 < fs.size))
  obtain ⟨e4, o4⟩ := Prod.mk.inj (hfi 4 (by omega))
  have g5 := hg 5 _ (Array.getElem?_eq_getElem (by omega : 5 < fs.size))
  obtain ⟨e5, o5⟩ := Prod.mk.inj (hfi 5 (by omega))
  have g6 := hg 6 _ (Array.getElem?_eq_getElem (by omega : 6 < fs.size))
  obtain ⟨e6, o6⟩ := Prod.mk.inj (hfi 6 (by omega))
  have g7 := hg 7 _ (Array.getElem?_eq_getElem (by omega : 7 < fs.size))
  obtain ⟨e7, o7⟩ := Prod.mk.inj (hfi 7 (by omega))
  have g8 := hg 8 _ (Array.getElem?_eq_getElem (by omega : 8 < fs.size))
  obtain ⟨e8, o8⟩ := Prod.mk.inj (hfi 8 (by omega))
  rw [List.getElem?_eq_getElem (by omega)] at g0 g1 g2 g3 g4 g5 g6 g7 g8
  rw [e0, o0] at g0
  rw [e1, o1] at g1
  rw [e2, o2] at g2
  rw [e3, o3] at g3
  rw [e4, o4] at g4
  rw [e5, o5] at g5
  rw [e6, o6] at g6
  rw [e7, o7] at g7
  rw [e8, o8] at g8
  try simp only [List.getElem!_toArray, List.getElem!_cons_zero, List.getElem!_cons_succ] at g0 g1 g2 g3 g4 g5 g6 g7 g8
  rw [ci] at g0 g5 g6 g7 g8
  rw [hCr] at g1
  rw [cl] at g2 g3 g4
  obtain ⟨st, z0, _, w0⟩ := DataW.trod_int hi g0
  obtain ⟨fi, z5, _, w5⟩ := DataW.trod_int hi g5
  obtain ⟨fk, z6, _, w6⟩ := DataW.trod_int hi g6
  obtain ⟨se, z7, _, w7⟩ := DataW.trod_int hi g7
  obtain ⟨co, z8, _, w8⟩ := DataW.trod_int hi g8
  obtain ⟨a2, n2, ca2, ps, z2, hl2, hb2, hr2, hw2⟩ := open_ranges hl hse hCe hFe hi hi ci ci g2
  obtain ⟨a3, n3, ca3, hfs, z3, hl3, hb3, hr3, hw3⟩ := open_ranges hl hse hCe hFe hi hi ci ci g3
  obtain ⟨a4, n4, ca4, ks, z4, hl4, hb4, hr4, hw4⟩ := open_ranges hl hse hCe hFe hi hi ci ci g4
  obtain ⟨ys, m, _, hy, hylen, hyl, hyg⟩ := DataW.trod_struct hsr g1
  have hm : gs.size = 4 := by simpa using congrArg Array.size hFr
  have hgi : ∀ (i : Nat) (hi : i < gs.size), ((gs[i]).type, (gs[i]).offset) = #[(ti, 0), (ti, 1), (ti, 2), (tc, 3)][i]! := by
    intro i hi
    have := congrArg (fun a => a[i]!) hFr
    simpa [hi] using this
  have k0 := hyg 0 _ (Array.getElem?_eq_getElem (by omega : 0 < gs.size))
  obtain ⟨d0, p0⟩ := Prod.mk.inj (hgi 0 (by omega))
  have k1 := hyg 1 _ (Array.getElem?_eq_getElem (by omega : 1 < gs.size))
  obtain ⟨d1, p1⟩ := Prod.mk.inj (hgi 1 (by omega))
  have k2 := hyg 2 _ (Array.getElem?_eq_getElem (by omega : 2 < gs.size))
  obtain ⟨d2, p2⟩ := Prod.mk.inj (hgi 2 (by omega))
  have k3 := hyg 3 _ (Array.getElem?_eq_getElem (by omega : 3 < gs.size))
  obtain ⟨d3, p3⟩ := Prod.mk.inj (hgi 3 (by omega))
  rw [List.getElem?_eq_getElem (by omega)] at k0 k1 k2 k3
  rw [d0, p0] at k0
  rw [d1, p1] at k1
  rw [d2, p2] at k2
  rw [d3, p3] at k3
  try simp only [List.getElem!_toArray, List.getElem!_cons_zero, List.getElem!_cons_succ] at k0 k1 k2 k3
  rw [ci] at k0 k1 k2
  rw [cc] at k3
  obtain ⟨z, y0, _, v0⟩ := DataW.trod_int hi k0
  obtain ⟨b, y1, _, v1⟩ := DataW.trod_int hi k1
  obtain ⟨e, y2, _, v2⟩ := DataW.trod_int hi k2
  obtain ⟨a1, n1, ca1, xs, y3, hl1, hb1, hr1, hw1⟩ := open_slice_ints hc hi ci k3
  have q0 := take1_drop z0
  have q2 := take1_drop z2
  have q3 := take1_drop z3
  have q4 := take1_drop z4
  have q5 := take1_drop z5
  have q6 := take1_drop z6
  have q7 := take1_drop z7
  have q8 := take1_drop z8
  have b0' := take1_drop y0
  have b1' := take1_drop y1
  have b2' := take1_drop y2
  have b3' := take1_drop y3
  have r0 : cs.toList[1]? = some (.int .i64 z) := by simpa [Value.cells, List.getElem?_take, List.getElem?_drop] using b0'
  have r1 : cs.toList[2]? = some (.int .i64 b) := by simpa [Value.cells, List.getElem?_take, List.getElem?_drop] using b1'
  have r2 : cs.toList[3]? = some (.int .i64 e) := by simpa [Value.cells, List.getElem?_take, List.getElem?_drop] using b2'
  have r3 : cs.toList[4]? = some (.slice a1 n1 ca1) := by simpa [Value.cells, List.getElem?_take, List.getElem?_drop] using b3'
  refine ⟨st, z, b, e, fi, fk, se, co, a1, a2, a3, a4, ca1, ca2, ca3, ca4, n1, n2, n3, n4, xs, ps, hfs, ks, ?_, ⟨hl1, hl2, hl3, hl4⟩, ⟨hb1, hb2, hb3, hb4⟩, ⟨hr1, hr2, hr3, hr4⟩, ⟨w0, v0, v1, v2, w5, w6, w7, w8⟩, hw1, hw2, hw3, hw4⟩
  congr 1
  apply Array.ext
  · simp; omega
  · intro i hi _
    have : i = 0 ∨ i = 1 ∨ i = 2 ∨ i = 3 ∨ i = 4 ∨ i = 5 ∨ i = 6 ∨ i = 7 ∨ i = 8 ∨ i = 9 ∨ i = 10 ∨ i = 11 := by omega
    clear z0 z2 z3 z4 z5 z6 z7 z8 y0 y1 y2 y3 b0' b1' b2' b3' hg hyg g0 g1 g2 g3 g4 g5 g6 g7 g8 k0 k1 k2 k3
    rcases this with rfl | rfl | rfl | rfl | rfl | rfl | rfl | rfl | rfl | rfl | rfl | rfl
    all_goals simp_all [Value.cells]
end
end Go.Proofs.Ytjhgcbchdnoleaa

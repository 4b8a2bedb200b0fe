/-
  A receiver as a law's argument, opened: five ints and a slice of chunks that can be read. Condition: the argument's reading.
-/
import Derived.Test.YtifhbchlmlaanaaChunk
import Derived.OpenShut
namespace Go.Proofs.Ytifhbchlmlaanaa
open Go.ChangeShapes Go.WideShapes Go.ChangeAt Go.RowKit
set_option linter.unusedSimpArgs false
theorem wf64 {x : Int} (h : (Lit.int .i64 x).wf = true) : -9223372036854775808 ≤ x ∧ x ≤ 9223372036854775807 := by
  simp only [Lit.wf, Bool.and_eq_true, decide_eq_true_eq] at h
  exact ⟨Int.le_trans (by decide) h.1, Int.le_trans h.2 (by decide)⟩
theorem exists_list (Q : Nat → Ck → Prop) : ∀ n, (∀ i, i < n → ∃ c, Q i c) → ∃ l : List Ck, l.length = n ∧ ∀ i, i < n → Q i (l.getD i dk)
  | 0, _ => ⟨[], rfl, fun i hi => absurd hi (by omega)⟩
  | n + 1, h => by
    obtain ⟨l, hl, hq⟩ := exists_list Q n fun i hi => h i (by omega)
    obtain ⟨c, hc⟩ := h n (by omega)
    refine ⟨l ++ [c], by simp [hl], fun i hi => ?_⟩
    by_cases hin : i < n
    · have : (l ++ [c]).getD i dk = l.getD i dk := by simp [List.getD, List.getElem?_append_left (show i < l.length by omega)]
      rw [this]; exact hq i hin
    · obtain rfl : i = n := by omega
      have : (l ++ [c]).getD i dk = c := by simp [List.getD, ← hl]
      rw [this]; exact hc
section
variable {H : Type} {enc : TypeId × Value → H} {P : Program}
theorem take1_drop {cs : List Value} {i : Nat} {v : Value} (h : (cs.drop i).take 1 = [v]) : cs[i]? = some v := by
  have := congrArg (fun l => l[0]?) h
  simpa [List.getElem?_take, List.getElem?_drop] using this
theorem take2_drop {cs : List Value} {i : Nat} {v u : Value} (h : (cs.drop i).take 2 = [v, u]) : cs[i]? = some v ∧ cs[i + 1]? = some u := by
  have h0 := congrArg (fun l => l[0]?) h
  have h1 := congrArg (fun l => l[1]?) h
  exact ⟨by simpa [List.getElem?_take, List.getElem?_drop] using h0, by simpa [List.getElem?_take, List.getElem?_drop] using h1⟩
/-- A chunk's cells. -/
theorem open_chunk {w : World} {spare : Nat → Bool} {held : Bool} {t f0 f1 : TypeId} {fs : Array Field} {cs : List Value} {fuel : Nat} {x : DataW H × List MemPlace} (hs : P.underlying t = some (.struct fs)) (hC : P.cellsOf t = 2)
    (hF : fs.map (fun f => (f.type, f.offset)) = #[(f0, 0), (f1, 1)]) (h0 : P.underlying f0 = some (.int .i64)) (h1 : P.underlying f1 = some .string) (c0 : P.cellsOf f0 = 1) (c1 : P.cellsOf f1 = 1)
    (h : DataW.trod enc P w 0 spare held fuel t cs = some x) : ∃ c : Ck, cs = [.int .i64 c.1, .string c.2] ∧ c.2.size ≤ maxLen ∧ (Lit.int .i64 c.1).wf = true := by
  obtain ⟨xs, n, _, hx, hlen, hxl, hg⟩ := DataW.trod_struct hs h
  have hn : fs.size = 2 := by simpa using congrArg Array.size hF
  have hfi : ∀ (i : Nat) (hi : i < fs.size), ((fs[i]).type, (fs[i]).offset) = #[(f0, 0), (f1, 1)][i]! := by
    intro i hi
    have := congrArg (fun a => a[i]!) hF
    simpa [hi] using this
  have g0 := hg 0 _ (Array.getElem?_eq_getElem (by omega : 0 < fs.size))
  have g1 := hg 1 _ (Array.getElem?_eq_getElem (by omega : 1 < fs.size))
  obtain ⟨e0, o0⟩ := Prod.mk.inj (hfi 0 (by omega))
  obtain ⟨e1, o1⟩ := Prod.mk.inj (hfi 1 (by omega))
  rw [List.getElem?_eq_getElem (by omega)] at g0 g1
  rw [e0, o0, c0] at g0
  rw [e1, o1, c1] at g1
  obtain ⟨z, hz, _, wz⟩ := DataW.trod_int h0 g0
  obtain ⟨s, hs2, _, ws⟩ := DataW.trod_string h1 g1
  have q0 := take1_drop hz
  have q1 := take1_drop hs2
  refine ⟨(z, s), ?_, ws, wz⟩
  rw [hC] at hlen
  match cs, hlen, q0, q1 with
  | [a, b], _, q0, q1 =>
    simp at q0 q1
    rw [q0, q1]
/-- A slice of chunks, opened. -/
theorem open_chunks {w : World} {spare : Nat → Bool} {held : Bool} {t e f0 f1 : TypeId} {fs : Array Field} {cs : List Value} {fuel : Nat} {x : DataW H × List MemPlace} (ht : P.underlying t = some (.slice e)) (hs : P.underlying e = some (.struct fs)) (hC : P.cellsOf e = 2)
    (hF : fs.map (fun f => (f.type, f.offset)) = #[(f0, 0), (f1, 1)]) (h0 : P.underlying f0 = some (.int .i64)) (h1 : P.underlying f1 = some .string) (c0 : P.cellsOf f0 = 1) (c1 : P.cellsOf f1 = 1)
    (h : DataW.trod enc P w 0 spare held fuel t cs = some x) :
    ∃ (ao : Option Addr) (n cap : Nat) (xs : List Ck), cs = [.slice ao n cap] ∧ xs.length = n ∧ (n : Int) ≤ 9223372036854775807 ∧ ReadC w ao xs ∧ ∀ c ∈ xs, (c.2.size : Int) ≤ 9223372036854775807 ∧ (Lit.int .i64 c.1).wf = true := by
  rcases DataW.trod_slice ht h with ⟨rfl, _⟩ | ⟨a, len, cap, elems, rest, n, _, rfl, rfl, hb, hl, hm, hlen, hel, hsp, hns⟩
  · exact ⟨none, 0, 0, [], rfl, rfl, by omega, Or.inl rfl, fun y hy => by simp at hy⟩
  · have hm' : cap ≤ 9223372036854775807 := hm
    have each : ∀ i, i < len → ∃ c : Ck, (w.cell? (a.add (i * 2)) = some (.int .i64 c.1) ∧ w.cell? ((a.add (i * 2)).add 1) = some (.string c.2)) ∧ (c.2.size : Int) ≤ 9223372036854775807 ∧ (Lit.int .i64 c.1).wf = true := by
      intro i hi
      have hy := hel i hi
      rw [List.getElem?_eq_getElem (by omega), hC, Option.bind_eq_some_iff] at hy
      obtain ⟨cs', hcs, hy'⟩ := hy
      obtain ⟨c, rfl, k1, k2⟩ := open_chunk hs hC hF h0 h1 c0 c1 hy'
      obtain ⟨_, _, hcell⟩ := World.cells?_some hcs
      have k1' : c.2.size ≤ 9223372036854775807 := k1
      refine ⟨c, ⟨?_, ?_⟩, by omega, k2⟩
      · have := hcell 0 (by omega)
        simpa [Addr.add] using this
      · exact hcell 1 (by omega)
    obtain ⟨xs, hxl, hxs⟩ := exists_list _ len each
    refine ⟨some a, len, cap, xs, rfl, hxl, by omega, ?_, fun c hc => ?_⟩
    · rcases Nat.eq_zero_or_pos len with hz | hpos
      · exact Or.inl (List.eq_nil_of_length_eq_zero (by omega))
      · obtain ⟨b, off, spot⟩ := a
        have hspot : spot = none := by
          have h1 := (hxs 0 hpos).1.1
          simp only [Nat.zero_mul, Addr.add, if_true] at h1
          exact World.cell?_spot h1
        subst hspot
        refine Or.inr ⟨b, off, rfl, fun j hj => ?_⟩
        obtain ⟨⟨k1, k2⟩, _⟩ := hxs j (by omega)
        rw [Go.WideShapes.add_plain] at k1
        rw [Go.WideShapes.add_plain, Go.WideShapes.add_plain] at k2
        exact ⟨k1, k2⟩
    · obtain ⟨i, hi, rfl⟩ := List.getElem_of_mem hc
      have := (hxs i (by omega)).2
      simpa [List.getD, List.getElem?_eq_getElem hi] using this
/-- A receiver, opened. -/
theorem open_receiver {spare : Nat → Bool} {held : Bool} {w : World} {r : Reach} {b0 : Nat} {t ti tb tl tc ts : TypeId} {fs gs es : Array Field} {v : Value} {d : DataW H} {p : List MemPlace}
    (hs : P.underlying t = some (.struct fs)) (hC : P.cellsOf t = 6) (hF : fs.map (fun f => (f.type, f.offset)) = #[(ti, 0), (tb, 1), (ti, 3), (ti, 4), (ti, 5)])
    (hi : P.underlying ti = some (.int .i64)) (ci : P.cellsOf ti = 1) (hsb : P.underlying tb = some (.struct gs)) (hCb : P.cellsOf tb = 2) (hFb : gs.map (fun f => (f.type, f.offset)) = #[(ti, 0), (tl, 1)]) (hl : P.underlying tl = some (.slice tc)) (cl : P.cellsOf tl = 1)
    (hse : P.underlying tc = some (.struct es)) (hCe : P.cellsOf tc = 2) (hFe : es.map (fun f => (f.type, f.offset)) = #[(ti, 0), (ts, 1)]) (hts : P.underlying ts = some .string) (cts : P.cellsOf ts = 1)
    (hv : Value.okWide P w r b0 t v) (h : DataW.Trod enc P w 0 spare held t v d p) :
    ∃ (st nx fi hg co : Int) (ao : Option Addr) (n cap : Nat) (xs : List Ck), v = .agg #[.int .i64 st, .int .i64 nx, .slice ao n cap, .int .i64 fi, .int .i64 hg, .int .i64 co] ∧ xs.length = n ∧ (n : Int) ≤ 9223372036854775807 ∧ ReadC w ao xs ∧
      (∀ c ∈ xs, (c.2.size : Int) ≤ 9223372036854775807 ∧ (Lit.int .i64 c.1).wf = true) ∧ (Lit.int .i64 st).wf = true ∧ (Lit.int .i64 nx).wf = true ∧ (Lit.int .i64 fi).wf = true ∧ (Lit.int .i64 hg).wf = true ∧ (Lit.int .i64 co).wf = true := by
  obtain ⟨cs, rfl, hsz⟩ := okWide_struct hs hv
  obtain ⟨fuel, hf⟩ := h
  obtain ⟨xs, n, _, hx, hlen, hxl, hg⟩ := DataW.trod_struct hs hf
  have hn : fs.size = 5 := by simpa using congrArg Array.size hF
  have hfi : ∀ (i : Nat) (hi : i < fs.size), ((fs[i]).type, (fs[i]).offset) = #[(ti, 0), (tb, 1), (ti, 3), (ti, 4), (ti, 5)][i]! := by
    intro i hi
    have := congrArg (fun a => a[i]!) hF
    simpa [hi] using this
  have g0 := hg 0 _ (Array.getElem?_eq_getElem (by omega : 0 < fs.size))
  have g1 := hg 1 _ (Array.getElem?_eq_getElem (by omega : 1 < fs.size))
  have g2 := hg 2 _ (Array.getElem?_eq_getElem (by omega : 2 < fs.size))
  have g3 := hg 3 _ (Array.getElem?_eq_getElem (by omega : 3 < fs.size))
  have g4 := hg 4 _ (Array.getElem?_eq_getElem (by omega : 4 < fs.size))
  obtain ⟨e0, o0⟩ := Prod.mk.inj (hfi 0 (by omega))
  obtain ⟨e1, o1⟩ := Prod.mk.inj (hfi 1 (by omega))
  obtain ⟨e2, o2⟩ := Prod.mk.inj (hfi 2 (by omega))
  obtain ⟨e3, o3⟩ := Prod.mk.inj (hfi 3 (by omega))
  obtain ⟨e4, o4⟩ := Prod.mk.inj (hfi 4 (by omega))
  rw [List.getElem?_eq_getElem (by omega)] at g0 g1 g2 g3 g4
  rw [e0, o0] at g0
  rw [e1, o1] at g1
  rw [e2, o2] at g2
  rw [e3, o3] at g3
  rw [e4, o4] at g4
  try simp only [List.getElem!_toArray, List.getElem!_cons_zero, List.getElem!_cons_succ] at g0 g1 g2 g3 g4
  rw [ci] at g0 g2 g3 g4
  rw [hCb] at g1
  obtain ⟨st, z0, _, w0⟩ := DataW.trod_int hi g0
  obtain ⟨fi, z2, _, w2⟩ := DataW.trod_int hi g2
  obtain ⟨hgh, z3, _, w3⟩ := DataW.trod_int hi g3
  obtain ⟨co, z4, _, w4⟩ := DataW.trod_int hi g4
  obtain ⟨ys, m, _, hy, hylen, hyl, hyg⟩ := DataW.trod_struct hsb g1
  have hm : gs.size = 2 := by simpa using congrArg Array.size hFb
  have hgi : ∀ (i : Nat) (hi : i < gs.size), ((gs[i]).type, (gs[i]).offset) = #[(ti, 0), (tl, 1)][i]! := by
    intro i hi
    have := congrArg (fun a => a[i]!) hFb
    simpa [hi] using this
  have k0 := hyg 0 _ (Array.getElem?_eq_getElem (by omega : 0 < gs.size))
  have k1 := hyg 1 _ (Array.getElem?_eq_getElem (by omega : 1 < gs.size))
  obtain ⟨a0, p0⟩ := Prod.mk.inj (hgi 0 (by omega))
  obtain ⟨a1, p1⟩ := Prod.mk.inj (hgi 1 (by omega))
  rw [List.getElem?_eq_getElem (by omega)] at k0 k1
  rw [a0, p0] at k0
  rw [a1, p1] at k1
  try simp only [List.getElem!_toArray, List.getElem!_cons_zero, List.getElem!_cons_succ] at k0 k1
  rw [ci] at k0
  rw [cl] at k1
  obtain ⟨nx, y0, _, wn⟩ := DataW.trod_int hi k0
  obtain ⟨ao, n', cap, zs, y1, hzl, hnb, hr, hw⟩ := open_chunks hl hse hCe hFe hi hts ci cts k1
  have q0 := take1_drop z0
  have q2 := take1_drop z2
  have q3 := take1_drop z3
  have q4 := take1_drop z4
  have b0 := take1_drop y0
  have b1 := take1_drop y1
  have q1 : cs.toList[1]? = some (.int .i64 nx) := by simpa [Value.cells, List.getElem?_take, List.getElem?_drop] using b0
  have q1' : cs.toList[2]? = some (.slice ao n' cap) := by simpa [Value.cells, List.getElem?_take, List.getElem?_drop] using b1
  refine ⟨st, nx, fi, hgh, co, ao, n', cap, zs, ?_, hzl, hnb, hr, hw, w0, wn, w2, w3, w4⟩
  congr 1
  apply Array.ext
  · simp; omega
  · intro i hi _
    have : i = 0 ∨ i = 1 ∨ i = 2 ∨ i = 3 ∨ i = 4 ∨ i = 5 := by omega
    rcases this with rfl | rfl | rfl | rfl | rfl | rfl
    all_goals simp_all [Value.cells]
end
end Go.Proofs.Ytifhbchlmlaanaa

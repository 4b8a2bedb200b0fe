/-
  A ring as a law's argument, opened: three ints and a slice of ints that can be read. Condition: the argument's reading.
-/
import Derived.Test.YtjhgcbchdnoleaaRing
namespace Go.Proofs.Ytjhgcbchdnoleaa
open Go.ChangeShapes Go.WideShapes Go.ChangeAt Go.RowKit
set_option linter.unusedSimpArgs false
theorem wf64 {x : Int} (h : (Lit.int .i64 x).wf = true) : -9223372036854775808 ≤ x ∧ x ≤ 9223372036854775807 := by
  simp only [Lit.wf, Bool.and_eq_true, decide_eq_true_eq] at h
  exact ⟨Int.le_trans (by decide) h.1, Int.le_trans h.2 (by decide)⟩
section
variable {H : Type} {enc : TypeId × Value → H} {P : Program}
theorem take1_drop {cs : List Value} {i : Nat} {v : Value} (h : (cs.drop i).take 1 = [v]) : cs[i]? = some v := by
  have := congrArg (fun l => l[0]?) h
  simpa [List.getElem?_take, List.getElem?_drop] using this
/-- A slice of ints, opened. -/
theorem open_slice_ints {w : World} {spare : Nat → Bool} {held : Bool} {t e : TypeId} {cs : List Value} {fuel : Nat} {x : DataW H × List MemPlace} (ht : P.underlying t = some (.slice e)) (he : P.underlying e = some (.int .i64)) (hC : P.cellsOf e = 1)
    (h : DataW.trod enc P w 0 spare held fuel t cs = some x) :
    ∃ (ao : Option Addr) (n cap : Nat) (xs : List Int), cs = [.slice ao n cap] ∧ xs.length = n ∧ (n : Int) ≤ 9223372036854775807 ∧ ReadS w ao xs ∧ ∀ y ∈ xs, (Lit.int .i64 y).wf = true := by
  rcases open_ints ht he hC h with ⟨rfl, _⟩ | ⟨a, len, cap, zs, rfl, _, hl, hm, hz, _, hcell, hwf⟩
  · exact ⟨none, 0, 0, [], rfl, rfl, by omega, Or.inl rfl, fun y hy => by simp at hy⟩
  · have hlz : len ≤ zs.length := by rw [hz]; split <;> omega
    have hm' : cap ≤ 9223372036854775807 := hm
    refine ⟨some a, len, cap, zs.take len, rfl, by simp; omega, by omega, ?_, fun y hy => hwf y (List.mem_of_mem_take hy)⟩
    rcases Nat.eq_zero_or_pos len with rfl | hpos
    · exact Or.inl (by simp)
    · obtain ⟨b, off, rfl, hcell2⟩ := ints_at hcell (by omega)
      refine Or.inr ⟨b, off, rfl, fun j hj => ?_⟩
      simp at hj
      rw [hcell2 j (by omega)]
      have hj' : j < len := by omega
      simp [List.getD, List.getElem?_take, hj']
theorem open_ring {spare : Nat → Bool} {held : Bool} {w : World} {r : Reach} {b0 : Nat} {t f0 f1 f2 f3 e : TypeId} {fs : Array Field} {v : Value} {d : DataW H} {p : List MemPlace} (hs : P.underlying t = some (.struct fs))
    (hC : P.cellsOf t = 4) (hF : fs.map (fun f => (f.type, f.offset)) = #[(f0, 0), (f1, 1), (f2, 2), (f3, 3)]) (h0 : P.underlying f0 = some (.int .i64)) (h1 : P.underlying f1 = some (.int .i64)) (h2 : P.underlying f2 = some (.int .i64)) (h3 : P.underlying f3 = some (.slice e)) (he : P.underlying e = some (.int .i64)) (c0 : P.cellsOf f0 = 1) (c1 : P.cellsOf f1 = 1) (c2 : P.cellsOf f2 = 1) (c3 : P.cellsOf f3 = 1) (ce : P.cellsOf e = 1)
    (hv : Value.okWide P w r b0 t v) (h : DataW.Trod enc P w 0 spare held t v d p) :
    ∃ (z b e : Int) (ao : Option Addr) (n cap : Nat) (xs : List Int), v = .agg #[.int .i64 z, .int .i64 b, .int .i64 e, .slice ao n cap] ∧ xs.length = n ∧ (n : Int) ≤ 9223372036854775807 ∧ ReadS w ao xs ∧ (Lit.int .i64 z).wf = true ∧ (Lit.int .i64 b).wf = true ∧ (Lit.int .i64 e).wf = true ∧ ∀ y ∈ xs, (Lit.int .i64 y).wf = true := by
  obtain ⟨cs, rfl, hsz⟩ := okWide_struct hs hv
  obtain ⟨fuel, hf⟩ := h
  obtain ⟨xs, n, _, hx, hlen, hxl, hg⟩ := DataW.trod_struct hs hf
  have hn : fs.size = 4 := by simpa using congrArg Array.size hF
  have hfi : ∀ (i : Nat) (hi : i < fs.size), ((fs[i]).type, (fs[i]).offset) = #[(f0, 0), (f1, 1), (f2, 2), (f3, 3)][i]! := by
    intro i hi
    have := congrArg (fun a => a[i]!) hF
    simpa [hi] using this
  have g0 := hg 0 _ (Array.getElem?_eq_getElem (by omega : 0 < fs.size))
  have g1 := hg 1 _ (Array.getElem?_eq_getElem (by omega : 1 < fs.size))
  have g2 := hg 2 _ (Array.getElem?_eq_getElem (by omega : 2 < fs.size))
  have g3 := hg 3 _ (Array.getElem?_eq_getElem (by omega : 3 < fs.size))
  obtain ⟨e0, o0⟩ := Prod.mk.inj (hfi 0 (by omega))
  obtain ⟨e1, o1⟩ := Prod.mk.inj (hfi 1 (by omega))
  obtain ⟨e2, o2⟩ := Prod.mk.inj (hfi 2 (by omega))
  obtain ⟨e3, o3⟩ := Prod.mk.inj (hfi 3 (by omega))
  rw [List.getElem?_eq_getElem (by omega)] at g0 g1 g2 g3
  rw [e0, o0, c0] at g0
  rw [e1, o1, c1] at g1
  rw [e2, o2, c2] at g2
  rw [e3, o3, c3] at g3
  obtain ⟨z, hz, _, wz⟩ := DataW.trod_int h0 g0
  obtain ⟨b, hb, _, wb⟩ := DataW.trod_int h1 g1
  obtain ⟨e', he', _, we⟩ := DataW.trod_int h2 g2
  obtain ⟨ao, n', cap, ys, hy, hl, hnb, hr, wy⟩ := open_slice_ints h3 he ce g3
  have q0 := take1_drop hz
  have q1 := take1_drop hb
  have q2 := take1_drop he'
  have q3 := take1_drop hy
  refine ⟨z, b, e', ao, n', cap, ys, ?_, hl, hnb, hr, wz, wb, we, wy⟩
  congr 1
  apply Array.ext
  · simp; omega
  · intro i hi _
    have : i = 0 ∨ i = 1 ∨ i = 2 ∨ i = 3 := by omega
    rcases this with rfl | rfl | rfl | rfl
    all_goals simp_all [Value.cells]
end
end Go.Proofs.Ytjhgcbchdnoleaa

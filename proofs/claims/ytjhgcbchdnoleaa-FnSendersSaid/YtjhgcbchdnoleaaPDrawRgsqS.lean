/-
  Part of the proof: DrawRgs.
-/
import Derived.Test.YtjhgcbchdnoleaaPWriteqS
import Derived.Test.YtjhgcbchdnoleaaPG8
namespace Go.Proofs.Ytjhgcbchdnoleaa
section
open Go.ChangeShapes Go.WideShapes Go.ChangeAt Go.RowKit
set_option linter.unusedSimpArgs false
set_option linter.unusedVariables false
set_option maxHeartbeats 4000000 in
set_option maxRecDepth 100000 in
theorem DrawNewRing_any (code : Value) (w : World) (hc : CodeAt w w.heap.size code) :
    Calls Try.prog 89 #[code] w (fun en w' => ∃ n : Int, en = .returned (.int .i64 n) ∧ (-1 ≤ n ∧ n ≤ 128) ∧ Ext w w') := by
  go_enter Try.func89, Try.ntmps89
  go_wp2_with fail
  refine (l1New_any code _ hc).mono ?_
  rintro en w1 ⟨rfl, hcu1, hx1⟩
  go_wp2_with fail
  refine (l1PickInt_new w.heap.size code [-1, 0, 1, 2, 3, 8, 64, 128] 3 w1 hcu1 (by simp) (by simp)).mono ?_
  rintro en w2 ⟨y, rfl, hy, hcu2, hg2⟩
  have hyb : -1 ≤ y ∧ y ≤ 128 := by
    simp only [List.mem_cons, List.not_mem_nil, or_false] at hy
    omega
  have hz1 : w.heap.size < w1.heap.size := hcu1.lt
  have hx2 : Ext w w2 := ((hx1.chg (fun b => w.heap.size ≤ b)).trans (Chg.trans (((Ext.refl w1).alloc _).chg _) (hg2.mono (fun b _ h => by (try dsimp only at h ⊢); omega)))).ext (fun b h1 h2 => by (try dsimp only at h2); omega)
  go_wp2
  go_ret
  exact ⟨y, rfl, hyb, hx2⟩
end
end Go.Proofs.Ytjhgcbchdnoleaa

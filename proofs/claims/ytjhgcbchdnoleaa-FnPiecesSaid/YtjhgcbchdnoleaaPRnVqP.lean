/-
  Part of the proof: RnV.
-/
import Derived.Test.YtjhgcbchdnoleaaPPeekqP
import Derived.Test.YtjhgcbchdnoleaaPG8
import Derived.Test.YtjhgcbchdnoleaaPStoreqPR
namespace Go.Proofs.Ytjhgcbchdnoleaa
section
open Go.ChangeShapes Go.WideShapes Go.ChangeAt Go.RowKit
set_option linter.unusedSimpArgs false
set_option linter.unusedVariables false
theorem pk_impl (r : Rn) (o n : Int) (ao : Option Addr) (ca : Nat) (w : World) (hx : ReadS w ao r.xs) (hl : r.xs.length ≤ 64) (he : r.e ≤ 9223372036854775807) :
    Calls Try.prog 103 #[.agg #[.int .i64 r.z, .int .i64 r.b, .int .i64 r.e, .slice ao r.xs.length ca], .int .i64 o, .int .i64 n] w fun en w' => en = .returned (.tuple #[.string (pkS r o n), .bool (pkOk r o n)]) ∧ Ext w w' := by
  have h := PeekRing_impl r.z r.b r.e o n ao _ ca r.xs w hx rfl (by omega)
  rw [pk_v] at h
  exact h
end
end Go.Proofs.Ytjhgcbchdnoleaa

/-
  Part of the proof: SnZ.
-/
import Derived.Deep.DeepCutAuto
import Derived.Test.YtjhgcbchdnoleaaPSnIqPR
import Derived.Test.YtjhgcbchdnoleaaPRgCqPR
import Derived.Test.YtjhgcbchdnoleaaPG10
namespace Go.Proofs.Ytjhgcbchdnoleaa
section
open Go.ChangeShapes Go.WideShapes Go.ChangeAt Go.RowKit
set_option linter.unusedSimpArgs false
set_option linter.unusedVariables false
def DrewSP (w : World) (en : Ending) (w' : World) : Prop :=
  ∃ (s : Sn) (a : Ads) (c1 c2 c3 c4 : Nat) (o : Int) (d : ByteArray) (fin : Bool), en = .returned (.tuple #[.agg #[.int .i64 s.st, .int .i64 s.z, .int .i64 s.b, .int .i64 s.e, .slice a.r s.xs.length c1, .slice a.p s.p.length c2, .slice a.f s.f.length c3, .slice a.k s.k.length c4, .int .i64 s.fi, .int .i64 s.fk, .int .i64 s.se, .int .i64 s.co], .agg #[.int .i64 o, .string d, .bool fin]]) ∧ SnAny s ∧ (-1 ≤ o ∧ o ≤ 1000) ∧ (d.size : Int) ≤ 1000 ∧ ReadSnd w' a ⟨s.xs, s.p, s.f, s.k⟩ ∧ Ext w w'
end
end Go.Proofs.Ytjhgcbchdnoleaa

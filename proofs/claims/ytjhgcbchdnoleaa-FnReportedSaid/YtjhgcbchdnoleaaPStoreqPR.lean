/-
  Part of the proof: Store.
-/
import Derived.Test.YtjhgcbchdnoleaaPG1
namespace Go.Proofs.Ytjhgcbchdnoleaa
section
open Go.ChangeShapes Go.WideShapes Go.ChangeAt Go.RowKit
section
variable {P : Program} {ops : Array Oper} {Q : Exit → Act → World → Prop} {R : World → World → Prop} {I : Bool → World → Prop} {T : Nat → Value → World → Prop} {ds : List Nat} {a0 : Act} {w0 : World}
theorem StepsB.made {b : Bool} {i : Nat} {o : Oper} {a : Act} {w : World} (v : Value) (w' : World) (hw : Region.wanted o (yielded ops a.tmps) = true) (he : (execOp a.eval o).run P w = .ok (.value v) w') (hR : R w w') (hI : I b w') (hv : T i v w') : StepsB P ops R I b T i o a w :=
  Or.inl ⟨hw, Or.inl ⟨v, w', he, hR, hI, hv⟩⟩
end
end
end Go.Proofs.Ytjhgcbchdnoleaa

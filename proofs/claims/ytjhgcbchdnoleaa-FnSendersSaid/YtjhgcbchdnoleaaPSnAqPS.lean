/-
  Part of the proof: SnA.
-/
import Derived.Test.YtjhgcbchdnoleaaPSnA
namespace Go.Proofs.Ytjhgcbchdnoleaa
section
open Go.ChangeShapes Go.WideShapes Go.ChangeAt Go.RowKit
set_option linter.unusedSimpArgs false
set_option linter.unusedVariables false
theorem sndI_hd {s : Sn} (h : sndI s = true) : Hd s := by
  unfold sndI at h
  rw [Bool.and_eq_true] at h
  exact (sndHd_iff s).1 h.1
end
end Go.Proofs.Ytjhgcbchdnoleaa

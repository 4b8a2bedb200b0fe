/-
  Part of the proof: SnP.
-/
import Derived.Test.YtjhgcbchdnoleaaPRgQqP
import Derived.Test.YtjhgcbchdnoleaaPPeekqP
import Derived.Test.YtjhgcbchdnoleaaPG5
namespace Go.Proofs.Ytjhgcbchdnoleaa
section
set_option linter.unusedSimpArgs false
set_option linter.unusedVariables false
theorem snd_valid {s : Sn} (hm : s.e ≤ 1152921504606846976) (h : sndI s = true) : sndS s = true := by
  rw [← snd_same hm (fun _ => (valid_top hm h).2)]
  exact h
end
end Go.Proofs.Ytjhgcbchdnoleaa

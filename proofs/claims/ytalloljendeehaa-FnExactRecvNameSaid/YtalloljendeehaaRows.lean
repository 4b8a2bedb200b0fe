/-
  No cell of these rows narrows 'for every input' (looked for: loops, veiled, ifaces, maps, wideKeys, modest, calm, conditions, laid).
  DERIVED. THE GIVEN ROWS OF THIS SEAT. 6 by the template 'for every input the law returns true; each argument reads behind the call as it read before'; 0 by the template 'total and deterministic' (their statements: YtalloljendeehaaTotals.lean).
  GIVEN WITH THE SEED: the statements are not yours to turn. If you find one false, say at which input.
  Laid BY PROGRAM, IN A SANDBOX (cutbox-rows.mjs): the forced cells as the released guide's own fill.sh prints them over the translation 382f8a1ffc660adf… (all of the seat's roots in one cut). By AI agents, Wed Nov 11 2026. No macro, syntax, notation, axiom, sorry.
-/
import Derived.Test.YtalloljendeehaaChecked
import GoSem.Claim
import GoSem.ClaimJoined
import GoSem.ClaimMapViews
import Derived.JoinedTies
import Derived.KernelRfl
namespace Go.Proofs.Ytalloljendeehaa
/- THE CELL 'sum', in the pinned program and in every row, IS THE sha256 OF THE DUMP (.gsa) THAT YtalloljendeehaaProg.lean LOADS. Nothing in Lean hashes anything: it is a label: what it is worth is what the hold of that sum in a sandbox is worth. -/
noncomputable def Try.pinned : Pinned := { name := "ytalloljendeehaa", sum := "382f8a1ffc660adf55379dc5d6f9a1e1f72a341e2c2ebbfc4b0d01aba45d3033", checked := Try.checked }
namespace Rows
def none {H : Type} : Left H := { results := [], args := [] }

/-- 'laws.FnExactRecvName': WHATEVER THE INPUT: true; the input reads as it did. -/
def fnExactRecvNameSpec : ChangeSpec := { name := "fnExactRecvName", fn := fun _ => fun
  | [d] => { results := [.lit (.bool true)], args := [d] }
  | _ => none }
def fnExactRecvNameRow : OpenClaim := { program := "ytalloljendeehaa", sum := "382f8a1ffc660adf55379dc5d6f9a1e1f72a341e2c2ebbfc4b0d01aba45d3033", func := "loop.example/g01633/laws.FnExactRecvName", spec := "fnExactRecvName", apart := false }
def FnExactRecvNameSaid : Prop := fnExactRecvNameRow.holds Try.pinned (OpenSpec.ofChange fnExactRecvNameSpec)

/-- ITS FALSE NEIGHBOUR: 'it returns false'. Refute it at one input. -/
def fnExactRecvNameWrong : ChangeSpec := { name := "fnExactRecvName", fn := fun _ => fun
  | [d] => { results := [.lit (.bool false)], args := [d] }
  | _ => none }
def FnExactRecvNameWrongFalsely : Prop := fnExactRecvNameRow.holds Try.pinned (OpenSpec.ofChange fnExactRecvNameWrong)

/-- 'laws.FnExactSendName': WHATEVER THE INPUT: true; the input reads as it did. -/
def fnExactSendNameSpec : ChangeSpec := { name := "fnExactSendName", fn := fun _ => fun
  | [d] => { results := [.lit (.bool true)], args := [d] }
  | _ => none }
def fnExactSendNameRow : OpenClaim := { program := "ytalloljendeehaa", sum := "382f8a1ffc660adf55379dc5d6f9a1e1f72a341e2c2ebbfc4b0d01aba45d3033", func := "loop.example/g01633/laws.FnExactSendName", spec := "fnExactSendName", apart := false }
def FnExactSendNameSaid : Prop := fnExactSendNameRow.holds Try.pinned (OpenSpec.ofChange fnExactSendNameSpec)

/-- ITS FALSE NEIGHBOUR: 'it returns false'. Refute it at one input. -/
def fnExactSendNameWrong : ChangeSpec := { name := "fnExactSendName", fn := fun _ => fun
  | [d] => { results := [.lit (.bool false)], args := [d] }
  | _ => none }
def FnExactSendNameWrongFalsely : Prop := fnExactSendNameRow.holds Try.pinned (OpenSpec.ofChange fnExactSendNameWrong)

/-- 'laws.FnExactIsCount': WHATEVER THE INPUT: true; the input reads as it did. -/
def fnExactIsCountSpec : ChangeSpec := { name := "fnExactIsCount", fn := fun _ => fun
  | [d] => { results := [.lit (.bool true)], args := [d] }
  | _ => none }
def fnExactIsCountRow : OpenClaim := { program := "ytalloljendeehaa", sum := "382f8a1ffc660adf55379dc5d6f9a1e1f72a341e2c2ebbfc4b0d01aba45d3033", func := "loop.example/g01633/laws.FnExactIsCount", spec := "fnExactIsCount", apart := false }
def FnExactIsCountSaid : Prop := fnExactIsCountRow.holds Try.pinned (OpenSpec.ofChange fnExactIsCountSpec)

/-- ITS FALSE NEIGHBOUR: 'it returns false'. Refute it at one input. -/
def fnExactIsCountWrong : ChangeSpec := { name := "fnExactIsCount", fn := fun _ => fun
  | [d] => { results := [.lit (.bool false)], args := [d] }
  | _ => none }
def FnExactIsCountWrongFalsely : Prop := fnExactIsCountRow.holds Try.pinned (OpenSpec.ofChange fnExactIsCountWrong)

/-- 'laws.FnExactIsAllow': WHATEVER THE INPUT: true; the input reads as it did. -/
def fnExactIsAllowSpec : ChangeSpec := { name := "fnExactIsAllow", fn := fun _ => fun
  | [d] => { results := [.lit (.bool true)], args := [d] }
  | _ => none }
def fnExactIsAllowRow : OpenClaim := { program := "ytalloljendeehaa", sum := "382f8a1ffc660adf55379dc5d6f9a1e1f72a341e2c2ebbfc4b0d01aba45d3033", func := "loop.example/g01633/laws.FnExactIsAllow", spec := "fnExactIsAllow", apart := false }
def FnExactIsAllowSaid : Prop := fnExactIsAllowRow.holds Try.pinned (OpenSpec.ofChange fnExactIsAllowSpec)

/-- ITS FALSE NEIGHBOUR: 'it returns false'. Refute it at one input. -/
def fnExactIsAllowWrong : ChangeSpec := { name := "fnExactIsAllow", fn := fun _ => fun
  | [d] => { results := [.lit (.bool false)], args := [d] }
  | _ => none }
def FnExactIsAllowWrongFalsely : Prop := fnExactIsAllowRow.holds Try.pinned (OpenSpec.ofChange fnExactIsAllowWrong)

/-- 'laws.FnExactIsWindow': WHATEVER THE INPUT: true; the input reads as it did. -/
def fnExactIsWindowSpec : ChangeSpec := { name := "fnExactIsWindow", fn := fun _ => fun
  | [d] => { results := [.lit (.bool true)], args := [d] }
  | _ => none }
def fnExactIsWindowRow : OpenClaim := { program := "ytalloljendeehaa", sum := "382f8a1ffc660adf55379dc5d6f9a1e1f72a341e2c2ebbfc4b0d01aba45d3033", func := "loop.example/g01633/laws.FnExactIsWindow", spec := "fnExactIsWindow", apart := false }
def FnExactIsWindowSaid : Prop := fnExactIsWindowRow.holds Try.pinned (OpenSpec.ofChange fnExactIsWindowSpec)

/-- ITS FALSE NEIGHBOUR: 'it returns false'. Refute it at one input. -/
def fnExactIsWindowWrong : ChangeSpec := { name := "fnExactIsWindow", fn := fun _ => fun
  | [d] => { results := [.lit (.bool false)], args := [d] }
  | _ => none }
def FnExactIsWindowWrongFalsely : Prop := fnExactIsWindowRow.holds Try.pinned (OpenSpec.ofChange fnExactIsWindowWrong)

/-- 'laws.FnExactIsCredit': WHATEVER THE INPUT: true; the input reads as it did. -/
def fnExactIsCreditSpec : ChangeSpec := { name := "fnExactIsCredit", fn := fun _ => fun
  | [d] => { results := [.lit (.bool true)], args := [d] }
  | _ => none }
def fnExactIsCreditRow : OpenClaim := { program := "ytalloljendeehaa", sum := "382f8a1ffc660adf55379dc5d6f9a1e1f72a341e2c2ebbfc4b0d01aba45d3033", func := "loop.example/g01633/laws.FnExactIsCredit", spec := "fnExactIsCredit", apart := false }
def FnExactIsCreditSaid : Prop := fnExactIsCreditRow.holds Try.pinned (OpenSpec.ofChange fnExactIsCreditSpec)

/-- ITS FALSE NEIGHBOUR: 'it returns false'. Refute it at one input. -/
def fnExactIsCreditWrong : ChangeSpec := { name := "fnExactIsCredit", fn := fun _ => fun
  | [d] => { results := [.lit (.bool false)], args := [d] }
  | _ => none }
def FnExactIsCreditWrongFalsely : Prop := fnExactIsCreditRow.holds Try.pinned (OpenSpec.ofChange fnExactIsCreditWrong)

/- THE SECOND FORM. 'bulk': how many values and letters a reading holds, each counted each time it is reached (what is shared counts as often as it is met; a slice's spare places count too). A statement '..UptoSaid' is the law's where the arguments, and the package variables that the reading takes, are together of bulk at most 1048576: NARROWER than '..Said'. Prove '..Said' where nothing that the law and all that it calls make is longer than what came in: it says more and counts as full. Else prove '..UptoSaid'. A law counts once. -/
mutual
def uptoBulk {H : Type} : DataW H → Nat
  | .lit (.string bytes) => bytes.length + 1
  | .lit _ => 1
  | .nil => 1
  | .ptr d => uptoBulk d + 1
  | .slice elems spare => uptoBulkAll elems + uptoBulkAll spare + 1
  | .agg parts => uptoBulkAll parts + 1
  | .iface _ d => uptoBulk d + 1
  | .map entries => uptoBulkEntries entries + 1
  | .held _ => 1
def uptoBulkAll {H : Type} : List (DataW H) → Nat
  | [] => 0
  | d :: r => uptoBulk d + uptoBulkAll r
def uptoBulkEntries {H : Type} : List (Lit × DataW H) → Nat
  | [] => 0
  | x :: r => uptoBulkEntry x + uptoBulkEntries r
def uptoBulkEntry {H : Type} : Lit × DataW H → Nat
  | (.string bytes, d) => bytes.length + uptoBulk d + 1
  | (_, d) => uptoBulk d + 1
 end
def uptoSmall : (H : Type) → List (DataW H) → Bool := fun _ ds => decide (uptoBulkAll ds ≤ 1048576)
def OpenSpec.upto (s : _root_.Go.ChangeSpec) : _root_.Go.OpenSpec := { _root_.Go.OpenSpec.ofChange s with cond := some uptoSmall }

/-- 'laws.FnExactRecvName', WHERE WHAT IT READS IS OF BULK AT MOST 1048576: true; the input reads as it did. -/
def fnExactRecvNameUptoRow : OpenClaim := { program := "ytalloljendeehaa", sum := "382f8a1ffc660adf55379dc5d6f9a1e1f72a341e2c2ebbfc4b0d01aba45d3033", func := "loop.example/g01633/laws.FnExactRecvName", spec := "fnExactRecvName", apart := false, narrowed := true }
def FnExactRecvNameUptoSaid : Prop := fnExactRecvNameUptoRow.holds Try.pinned (OpenSpec.upto fnExactRecvNameSpec)

/-- 'laws.FnExactSendName', WHERE WHAT IT READS IS OF BULK AT MOST 1048576: true; the input reads as it did. -/
def fnExactSendNameUptoRow : OpenClaim := { program := "ytalloljendeehaa", sum := "382f8a1ffc660adf55379dc5d6f9a1e1f72a341e2c2ebbfc4b0d01aba45d3033", func := "loop.example/g01633/laws.FnExactSendName", spec := "fnExactSendName", apart := false, narrowed := true }
def FnExactSendNameUptoSaid : Prop := fnExactSendNameUptoRow.holds Try.pinned (OpenSpec.upto fnExactSendNameSpec)

/-- 'laws.FnExactIsCount', WHERE WHAT IT READS IS OF BULK AT MOST 1048576: true; the input reads as it did. -/
def fnExactIsCountUptoRow : OpenClaim := { program := "ytalloljendeehaa", sum := "382f8a1ffc660adf55379dc5d6f9a1e1f72a341e2c2ebbfc4b0d01aba45d3033", func := "loop.example/g01633/laws.FnExactIsCount", spec := "fnExactIsCount", apart := false, narrowed := true }
def FnExactIsCountUptoSaid : Prop := fnExactIsCountUptoRow.holds Try.pinned (OpenSpec.upto fnExactIsCountSpec)

/-- 'laws.FnExactIsAllow', WHERE WHAT IT READS IS OF BULK AT MOST 1048576: true; the input reads as it did. -/
def fnExactIsAllowUptoRow : OpenClaim := { program := "ytalloljendeehaa", sum := "382f8a1ffc660adf55379dc5d6f9a1e1f72a341e2c2ebbfc4b0d01aba45d3033", func := "loop.example/g01633/laws.FnExactIsAllow", spec := "fnExactIsAllow", apart := false, narrowed := true }
def FnExactIsAllowUptoSaid : Prop := fnExactIsAllowUptoRow.holds Try.pinned (OpenSpec.upto fnExactIsAllowSpec)

/-- 'laws.FnExactIsWindow', WHERE WHAT IT READS IS OF BULK AT MOST 1048576: true; the input reads as it did. -/
def fnExactIsWindowUptoRow : OpenClaim := { program := "ytalloljendeehaa", sum := "382f8a1ffc660adf55379dc5d6f9a1e1f72a341e2c2ebbfc4b0d01aba45d3033", func := "loop.example/g01633/laws.FnExactIsWindow", spec := "fnExactIsWindow", apart := false, narrowed := true }
def FnExactIsWindowUptoSaid : Prop := fnExactIsWindowUptoRow.holds Try.pinned (OpenSpec.upto fnExactIsWindowSpec)

/-- 'laws.FnExactIsCredit', WHERE WHAT IT READS IS OF BULK AT MOST 1048576: true; the input reads as it did. -/
def fnExactIsCreditUptoRow : OpenClaim := { program := "ytalloljendeehaa", sum := "382f8a1ffc660adf55379dc5d6f9a1e1f72a341e2c2ebbfc4b0d01aba45d3033", func := "loop.example/g01633/laws.FnExactIsCredit", spec := "fnExactIsCredit", apart := false, narrowed := true }
def FnExactIsCreditUptoSaid : Prop := fnExactIsCreditUptoRow.holds Try.pinned (OpenSpec.upto fnExactIsCreditSpec)

end Rows
end Go.Proofs.Ytalloljendeehaa

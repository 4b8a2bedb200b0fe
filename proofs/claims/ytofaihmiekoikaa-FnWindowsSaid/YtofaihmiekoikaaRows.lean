/-
  No cell of these rows narrows 'for every input' (looked for: loops, veiled, ifaces, maps, wideKeys, modest, calm, conditions, laid).
  DERIVED. THE GIVEN ROWS OF THIS SEAT. 8 by the template 'for every input the law returns true; each argument reads behind the call as it read before'; 0 by the template 'total and deterministic' (their statements: YtofaihmiekoikaaTotals.lean).
  GIVEN WITH THE SEED: the statements are not yours to turn. If you find one false, say at which input.
  Laid BY PROGRAM, IN A SANDBOX (cutbox-rows.mjs): the forced cells as the released guide's own fill.sh prints them over the translation 2762e5034b216b43… (all of the seat's roots in one cut). By AI agents, Wed Nov 11 2026. No macro, syntax, notation, axiom, sorry.
-/
import Derived.Test.YtofaihmiekoikaaChecked
import GoSem.Claim
import GoSem.ClaimJoined
import GoSem.ClaimMapViews
import Derived.JoinedTies
import Derived.KernelRfl
namespace Go.Proofs.Ytofaihmiekoikaa
/- THE CELL 'sum', in the pinned program and in every row, IS THE sha256 OF THE DUMP (.gsa) THAT YtofaihmiekoikaaProg.lean LOADS. Nothing in Lean hashes anything: it is a label: what it is worth is what the hold of that sum in a sandbox is worth. -/
noncomputable def Try.pinned : Pinned := { name := "ytofaihmiekoikaa", sum := "2762e5034b216b4368881adb560a8d6f0c1b2dcb39d90710fbbda14cd6b98f93", checked := Try.checked }
namespace Rows
def none {H : Type} : Left H := { results := [], args := [] }

/-- 'laws.FnExactIsWindow': WHATEVER THE INPUT: true; the input reads as it did. -/
def fnExactIsWindowSpec : ChangeSpec := { name := "fnExactIsWindow", fn := fun _ => fun
  | [d] => { results := [.lit (.bool true)], args := [d] }
  | _ => none }
def fnExactIsWindowRow : OpenClaim := { program := "ytofaihmiekoikaa", sum := "2762e5034b216b4368881adb560a8d6f0c1b2dcb39d90710fbbda14cd6b98f93", func := "loop.example/g01633/laws.FnExactIsWindow", spec := "fnExactIsWindow", apart := false }
def FnExactIsWindowSaid : Prop := fnExactIsWindowRow.holds Try.pinned (OpenSpec.ofChange fnExactIsWindowSpec)

/-- ITS FALSE NEIGHBOUR: 'it returns false'. Refute it at one input. -/
def fnExactIsWindowWrong : ChangeSpec := { name := "fnExactIsWindow", fn := fun _ => fun
  | [d] => { results := [.lit (.bool false)], args := [d] }
  | _ => none }
def FnExactIsWindowWrongFalsely : Prop := fnExactIsWindowRow.holds Try.pinned (OpenSpec.ofChange fnExactIsWindowWrong)

/-- 'laws.FnExactMustRaise': WHATEVER THE INPUT: true; the input reads as it did. -/
def fnExactMustRaiseSpec : ChangeSpec := { name := "fnExactMustRaise", fn := fun _ => fun
  | [d] => { results := [.lit (.bool true)], args := [d] }
  | _ => none }
def fnExactMustRaiseRow : OpenClaim := { program := "ytofaihmiekoikaa", sum := "2762e5034b216b4368881adb560a8d6f0c1b2dcb39d90710fbbda14cd6b98f93", func := "loop.example/g01633/laws.FnExactMustRaise", spec := "fnExactMustRaise", apart := false }
def FnExactMustRaiseSaid : Prop := fnExactMustRaiseRow.holds Try.pinned (OpenSpec.ofChange fnExactMustRaiseSpec)

/-- ITS FALSE NEIGHBOUR: 'it returns false'. Refute it at one input. -/
def fnExactMustRaiseWrong : ChangeSpec := { name := "fnExactMustRaise", fn := fun _ => fun
  | [d] => { results := [.lit (.bool false)], args := [d] }
  | _ => none }
def FnExactMustRaiseWrongFalsely : Prop := fnExactMustRaiseRow.holds Try.pinned (OpenSpec.ofChange fnExactMustRaiseWrong)

/-- 'laws.FnExactLeftFor': WHATEVER THE INPUT: true; the input reads as it did. -/
def fnExactLeftForSpec : ChangeSpec := { name := "fnExactLeftFor", fn := fun _ => fun
  | [d] => { results := [.lit (.bool true)], args := [d] }
  | _ => none }
def fnExactLeftForRow : OpenClaim := { program := "ytofaihmiekoikaa", sum := "2762e5034b216b4368881adb560a8d6f0c1b2dcb39d90710fbbda14cd6b98f93", func := "loop.example/g01633/laws.FnExactLeftFor", spec := "fnExactLeftFor", apart := false }
def FnExactLeftForSaid : Prop := fnExactLeftForRow.holds Try.pinned (OpenSpec.ofChange fnExactLeftForSpec)

/-- ITS FALSE NEIGHBOUR: 'it returns false'. Refute it at one input. -/
def fnExactLeftForWrong : ChangeSpec := { name := "fnExactLeftFor", fn := fun _ => fun
  | [d] => { results := [.lit (.bool false)], args := [d] }
  | _ => none }
def FnExactLeftForWrongFalsely : Prop := fnExactLeftForRow.holds Try.pinned (OpenSpec.ofChange fnExactLeftForWrong)

/-- 'laws.FnExactNewWindow': WHATEVER THE INPUT: true; the input reads as it did. -/
def fnExactNewWindowSpec : ChangeSpec := { name := "fnExactNewWindow", fn := fun _ => fun
  | [d1, d2] => { results := [.lit (.bool true)], args := [d1, d2] }
  | _ => none }
def fnExactNewWindowRow : OpenClaim := { program := "ytofaihmiekoikaa", sum := "2762e5034b216b4368881adb560a8d6f0c1b2dcb39d90710fbbda14cd6b98f93", func := "loop.example/g01633/laws.FnExactNewWindow", spec := "fnExactNewWindow", apart := false }
def FnExactNewWindowSaid : Prop := fnExactNewWindowRow.holds Try.pinned (OpenSpec.ofChange fnExactNewWindowSpec)

/-- ITS FALSE NEIGHBOUR: 'it returns false'. Refute it at one input. -/
def fnExactNewWindowWrong : ChangeSpec := { name := "fnExactNewWindow", fn := fun _ => fun
  | [d1, d2] => { results := [.lit (.bool false)], args := [d1, d2] }
  | _ => none }
def FnExactNewWindowWrongFalsely : Prop := fnExactNewWindowRow.holds Try.pinned (OpenSpec.ofChange fnExactNewWindowWrong)

/-- 'laws.FnExactReadBytes': WHATEVER THE INPUT: true; the input reads as it did. -/
def fnExactReadBytesSpec : ChangeSpec := { name := "fnExactReadBytes", fn := fun _ => fun
  | [d1, d2] => { results := [.lit (.bool true)], args := [d1, d2] }
  | _ => none }
def fnExactReadBytesRow : OpenClaim := { program := "ytofaihmiekoikaa", sum := "2762e5034b216b4368881adb560a8d6f0c1b2dcb39d90710fbbda14cd6b98f93", func := "loop.example/g01633/laws.FnExactReadBytes", spec := "fnExactReadBytes", apart := false }
def FnExactReadBytesSaid : Prop := fnExactReadBytesRow.holds Try.pinned (OpenSpec.ofChange fnExactReadBytesSpec)

/-- ITS FALSE NEIGHBOUR: 'it returns false'. Refute it at one input. -/
def fnExactReadBytesWrong : ChangeSpec := { name := "fnExactReadBytes", fn := fun _ => fun
  | [d1, d2] => { results := [.lit (.bool false)], args := [d1, d2] }
  | _ => none }
def FnExactReadBytesWrongFalsely : Prop := fnExactReadBytesRow.holds Try.pinned (OpenSpec.ofChange fnExactReadBytesWrong)

/-- 'laws.FnExactSeeBytes': WHATEVER THE INPUT: true; the input reads as it did. -/
def fnExactSeeBytesSpec : ChangeSpec := { name := "fnExactSeeBytes", fn := fun _ => fun
  | [d1, d2] => { results := [.lit (.bool true)], args := [d1, d2] }
  | _ => none }
def fnExactSeeBytesRow : OpenClaim := { program := "ytofaihmiekoikaa", sum := "2762e5034b216b4368881adb560a8d6f0c1b2dcb39d90710fbbda14cd6b98f93", func := "loop.example/g01633/laws.FnExactSeeBytes", spec := "fnExactSeeBytes", apart := false }
def FnExactSeeBytesSaid : Prop := fnExactSeeBytesRow.holds Try.pinned (OpenSpec.ofChange fnExactSeeBytesSpec)

/-- ITS FALSE NEIGHBOUR: 'it returns false'. Refute it at one input. -/
def fnExactSeeBytesWrong : ChangeSpec := { name := "fnExactSeeBytes", fn := fun _ => fun
  | [d1, d2] => { results := [.lit (.bool false)], args := [d1, d2] }
  | _ => none }
def FnExactSeeBytesWrongFalsely : Prop := fnExactSeeBytesRow.holds Try.pinned (OpenSpec.ofChange fnExactSeeBytesWrong)

/-- 'laws.FnExactRaiseWindow': WHATEVER THE INPUT: true; the input reads as it did. -/
def fnExactRaiseWindowSpec : ChangeSpec := { name := "fnExactRaiseWindow", fn := fun _ => fun
  | [d1, d2, d3] => { results := [.lit (.bool true)], args := [d1, d2, d3] }
  | _ => none }
def fnExactRaiseWindowRow : OpenClaim := { program := "ytofaihmiekoikaa", sum := "2762e5034b216b4368881adb560a8d6f0c1b2dcb39d90710fbbda14cd6b98f93", func := "loop.example/g01633/laws.FnExactRaiseWindow", spec := "fnExactRaiseWindow", apart := false }
def FnExactRaiseWindowSaid : Prop := fnExactRaiseWindowRow.holds Try.pinned (OpenSpec.ofChange fnExactRaiseWindowSpec)

/-- ITS FALSE NEIGHBOUR: 'it returns false'. Refute it at one input. -/
def fnExactRaiseWindowWrong : ChangeSpec := { name := "fnExactRaiseWindow", fn := fun _ => fun
  | [d1, d2, d3] => { results := [.lit (.bool false)], args := [d1, d2, d3] }
  | _ => none }
def FnExactRaiseWindowWrongFalsely : Prop := fnExactRaiseWindowRow.holds Try.pinned (OpenSpec.ofChange fnExactRaiseWindowWrong)

/-- 'laws.FnWindows': WHATEVER THE INPUT: true; the input reads as it did. -/
def fnWindowsSpec : ChangeSpec := { name := "fnWindows", fn := fun _ => fun
  | [d] => { results := [.lit (.bool true)], args := [d] }
  | _ => none }
def fnWindowsRow : OpenClaim := { program := "ytofaihmiekoikaa", sum := "2762e5034b216b4368881adb560a8d6f0c1b2dcb39d90710fbbda14cd6b98f93", func := "loop.example/g01633/laws.FnWindows", spec := "fnWindows", apart := false }
def FnWindowsSaid : Prop := fnWindowsRow.holds Try.pinned (OpenSpec.ofChange fnWindowsSpec)

/-- ITS FALSE NEIGHBOUR: 'it returns false'. Refute it at one input. -/
def fnWindowsWrong : ChangeSpec := { name := "fnWindows", fn := fun _ => fun
  | [d] => { results := [.lit (.bool false)], args := [d] }
  | _ => none }
def FnWindowsWrongFalsely : Prop := fnWindowsRow.holds Try.pinned (OpenSpec.ofChange fnWindowsWrong)

/- THE SECOND FORM. 'bulk': how many values and letters a reading holds, each counted each time it is reached (what is shared counts as often as it is met; a slice's spare places count too). A statement '..UptoSaid' is the law's where the arguments, and the package variables that the reading takes, are together of bulk at most 1048576: NARROWER than '..Said'. Prove '..Said' where nothing that the law and all that it calls make is longer than what came in: it says more and counts as full. Else prove '..UptoSaid'. A law counts once. -/
mutual
def uptoBulk {H : Type} : DataW H → Nat
  | .lit (.string bytes) => bytes.length + 1
  | .lit _ => 1
  | .nil => 1
  | .ptr d => uptoBulk d + 1
  | .slice elems spare => uptoBulkAll elems + uptoBulkAll spare + 1
  | .agg parts => uptoBulkAll parts + 1
  | .iface _ d => uptoBulk d + 1
  | .map entries => uptoBulkEntries entries + 1
  | .held _ => 1
def uptoBulkAll {H : Type} : List (DataW H) → Nat
  | [] => 0
  | d :: r => uptoBulk d + uptoBulkAll r
def uptoBulkEntries {H : Type} : List (Lit × DataW H) → Nat
  | [] => 0
  | x :: r => uptoBulkEntry x + uptoBulkEntries r
def uptoBulkEntry {H : Type} : Lit × DataW H → Nat
  | (.string bytes, d) => bytes.length + uptoBulk d + 1
  | (_, d) => uptoBulk d + 1
 end
def uptoSmall : (H : Type) → List (DataW H) → Bool := fun _ ds => decide (uptoBulkAll ds ≤ 1048576)
def OpenSpec.upto (s : _root_.Go.ChangeSpec) : _root_.Go.OpenSpec := { _root_.Go.OpenSpec.ofChange s with cond := some uptoSmall }

/-- 'laws.FnExactIsWindow', WHERE WHAT IT READS IS OF BULK AT MOST 1048576: true; the input reads as it did. -/
def fnExactIsWindowUptoRow : OpenClaim := { program := "ytofaihmiekoikaa", sum := "2762e5034b216b4368881adb560a8d6f0c1b2dcb39d90710fbbda14cd6b98f93", func := "loop.example/g01633/laws.FnExactIsWindow", spec := "fnExactIsWindow", apart := false, narrowed := true }
def FnExactIsWindowUptoSaid : Prop := fnExactIsWindowUptoRow.holds Try.pinned (OpenSpec.upto fnExactIsWindowSpec)

/-- 'laws.FnExactMustRaise', WHERE WHAT IT READS IS OF BULK AT MOST 1048576: true; the input reads as it did. -/
def fnExactMustRaiseUptoRow : OpenClaim := { program := "ytofaihmiekoikaa", sum := "2762e5034b216b4368881adb560a8d6f0c1b2dcb39d90710fbbda14cd6b98f93", func := "loop.example/g01633/laws.FnExactMustRaise", spec := "fnExactMustRaise", apart := false, narrowed := true }
def FnExactMustRaiseUptoSaid : Prop := fnExactMustRaiseUptoRow.holds Try.pinned (OpenSpec.upto fnExactMustRaiseSpec)

/-- 'laws.FnExactLeftFor', WHERE WHAT IT READS IS OF BULK AT MOST 1048576: true; the input reads as it did. -/
def fnExactLeftForUptoRow : OpenClaim := { program := "ytofaihmiekoikaa", sum := "2762e5034b216b4368881adb560a8d6f0c1b2dcb39d90710fbbda14cd6b98f93", func := "loop.example/g01633/laws.FnExactLeftFor", spec := "fnExactLeftFor", apart := false, narrowed := true }
def FnExactLeftForUptoSaid : Prop := fnExactLeftForUptoRow.holds Try.pinned (OpenSpec.upto fnExactLeftForSpec)

/-- 'laws.FnExactNewWindow', WHERE WHAT IT READS IS OF BULK AT MOST 1048576: true; the input reads as it did. -/
def fnExactNewWindowUptoRow : OpenClaim := { program := "ytofaihmiekoikaa", sum := "2762e5034b216b4368881adb560a8d6f0c1b2dcb39d90710fbbda14cd6b98f93", func := "loop.example/g01633/laws.FnExactNewWindow", spec := "fnExactNewWindow", apart := false, narrowed := true }
def FnExactNewWindowUptoSaid : Prop := fnExactNewWindowUptoRow.holds Try.pinned (OpenSpec.upto fnExactNewWindowSpec)

/-- 'laws.FnExactReadBytes', WHERE WHAT IT READS IS OF BULK AT MOST 1048576: true; the input reads as it did. -/
def fnExactReadBytesUptoRow : OpenClaim := { program := "ytofaihmiekoikaa", sum := "2762e5034b216b4368881adb560a8d6f0c1b2dcb39d90710fbbda14cd6b98f93", func := "loop.example/g01633/laws.FnExactReadBytes", spec := "fnExactReadBytes", apart := false, narrowed := true }
def FnExactReadBytesUptoSaid : Prop := fnExactReadBytesUptoRow.holds Try.pinned (OpenSpec.upto fnExactReadBytesSpec)

/-- 'laws.FnExactSeeBytes', WHERE WHAT IT READS IS OF BULK AT MOST 1048576: true; the input reads as it did. -/
def fnExactSeeBytesUptoRow : OpenClaim := { program := "ytofaihmiekoikaa", sum := "2762e5034b216b4368881adb560a8d6f0c1b2dcb39d90710fbbda14cd6b98f93", func := "loop.example/g01633/laws.FnExactSeeBytes", spec := "fnExactSeeBytes", apart := false, narrowed := true }
def FnExactSeeBytesUptoSaid : Prop := fnExactSeeBytesUptoRow.holds Try.pinned (OpenSpec.upto fnExactSeeBytesSpec)

/-- 'laws.FnExactRaiseWindow', WHERE WHAT IT READS IS OF BULK AT MOST 1048576: true; the input reads as it did. -/
def fnExactRaiseWindowUptoRow : OpenClaim := { program := "ytofaihmiekoikaa", sum := "2762e5034b216b4368881adb560a8d6f0c1b2dcb39d90710fbbda14cd6b98f93", func := "loop.example/g01633/laws.FnExactRaiseWindow", spec := "fnExactRaiseWindow", apart := false, narrowed := true }
def FnExactRaiseWindowUptoSaid : Prop := fnExactRaiseWindowUptoRow.holds Try.pinned (OpenSpec.upto fnExactRaiseWindowSpec)

/-- 'laws.FnWindows', WHERE WHAT IT READS IS OF BULK AT MOST 1048576: true; the input reads as it did. -/
def fnWindowsUptoRow : OpenClaim := { program := "ytofaihmiekoikaa", sum := "2762e5034b216b4368881adb560a8d6f0c1b2dcb39d90710fbbda14cd6b98f93", func := "loop.example/g01633/laws.FnWindows", spec := "fnWindows", apart := false, narrowed := true }
def FnWindowsUptoSaid : Prop := fnWindowsUptoRow.holds Try.pinned (OpenSpec.upto fnWindowsSpec)

end Rows
end Go.Proofs.Ytofaihmiekoikaa

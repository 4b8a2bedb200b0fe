/-
  No cell of these rows narrows 'for every input' (looked for: loops, veiled, ifaces, maps, wideKeys, modest, calm, conditions, laid).
  DERIVED. THE GIVEN ROWS OF THIS SEAT. 6 by the template 'for every input the law returns true; each argument reads behind the call as it read before'; 0 by the template 'total and deterministic' (their statements: YtbjkopmdkdkapaaTotals.lean).
  GIVEN WITH THE SEED: the statements are not yours to turn. If you find one false, say at which input.
  Laid BY PROGRAM, IN A SANDBOX (cutbox-rows.mjs): the forced cells as the released guide's own fill.sh prints them over the translation 01f2f867684eab60… (all of the seat's roots in one cut). By AI agents, Wed Nov 11 2026. No macro, syntax, notation, axiom, sorry.
-/
import Derived.Test.YtbjkopmdkdkapaaChecked
import GoSem.Claim
import GoSem.ClaimJoined
import GoSem.ClaimMapViews
import Derived.JoinedTies
import Derived.KernelRfl
namespace Go.Proofs.Ytbjkopmdkdkapaa
/- THE CELL 'sum', in the pinned program and in every row, IS THE sha256 OF THE DUMP (.gsa) THAT YtbjkopmdkdkapaaProg.lean LOADS. Nothing in Lean hashes anything: it is a label: what it is worth is what the hold of that sum in a sandbox is worth. -/
noncomputable def Try.pinned : Pinned := { name := "ytbjkopmdkdkapaa", sum := "01f2f867684eab60bc83267cd46e866a9943d46a15900ffab679504d905c7b1e", checked := Try.checked }
namespace Rows
def none {H : Type} : Left H := { results := [], args := [] }

/-- 'laws.FnExactIsCount': WHATEVER THE INPUT: true; the input reads as it did. -/
def fnExactIsCountSpec : ChangeSpec := { name := "fnExactIsCount", fn := fun _ => fun
  | [d] => { results := [.lit (.bool true)], args := [d] }
  | _ => none }
def fnExactIsCountRow : OpenClaim := { program := "ytbjkopmdkdkapaa", sum := "01f2f867684eab60bc83267cd46e866a9943d46a15900ffab679504d905c7b1e", func := "loop.example/g01633/laws.FnExactIsCount", spec := "fnExactIsCount", apart := false }
def FnExactIsCountSaid : Prop := fnExactIsCountRow.holds Try.pinned (OpenSpec.ofChange fnExactIsCountSpec)

/-- ITS FALSE NEIGHBOUR: 'it returns false'. Refute it at one input. -/
def fnExactIsCountWrong : ChangeSpec := { name := "fnExactIsCount", fn := fun _ => fun
  | [d] => { results := [.lit (.bool false)], args := [d] }
  | _ => none }
def FnExactIsCountWrongFalsely : Prop := fnExactIsCountRow.holds Try.pinned (OpenSpec.ofChange fnExactIsCountWrong)

/-- 'laws.FnExactIsAllow': WHATEVER THE INPUT: true; the input reads as it did. -/
def fnExactIsAllowSpec : ChangeSpec := { name := "fnExactIsAllow", fn := fun _ => fun
  | [d] => { results := [.lit (.bool true)], args := [d] }
  | _ => none }
def fnExactIsAllowRow : OpenClaim := { program := "ytbjkopmdkdkapaa", sum := "01f2f867684eab60bc83267cd46e866a9943d46a15900ffab679504d905c7b1e", func := "loop.example/g01633/laws.FnExactIsAllow", spec := "fnExactIsAllow", apart := false }
def FnExactIsAllowSaid : Prop := fnExactIsAllowRow.holds Try.pinned (OpenSpec.ofChange fnExactIsAllowSpec)

/-- ITS FALSE NEIGHBOUR: 'it returns false'. Refute it at one input. -/
def fnExactIsAllowWrong : ChangeSpec := { name := "fnExactIsAllow", fn := fun _ => fun
  | [d] => { results := [.lit (.bool false)], args := [d] }
  | _ => none }
def FnExactIsAllowWrongFalsely : Prop := fnExactIsAllowRow.holds Try.pinned (OpenSpec.ofChange fnExactIsAllowWrong)

/-- 'laws.FnExactMustAllow': WHATEVER THE INPUT: true; the input reads as it did. -/
def fnExactMustAllowSpec : ChangeSpec := { name := "fnExactMustAllow", fn := fun _ => fun
  | [d] => { results := [.lit (.bool true)], args := [d] }
  | _ => none }
def fnExactMustAllowRow : OpenClaim := { program := "ytbjkopmdkdkapaa", sum := "01f2f867684eab60bc83267cd46e866a9943d46a15900ffab679504d905c7b1e", func := "loop.example/g01633/laws.FnExactMustAllow", spec := "fnExactMustAllow", apart := false }
def FnExactMustAllowSaid : Prop := fnExactMustAllowRow.holds Try.pinned (OpenSpec.ofChange fnExactMustAllowSpec)

/-- ITS FALSE NEIGHBOUR: 'it returns false'. Refute it at one input. -/
def fnExactMustAllowWrong : ChangeSpec := { name := "fnExactMustAllow", fn := fun _ => fun
  | [d] => { results := [.lit (.bool false)], args := [d] }
  | _ => none }
def FnExactMustAllowWrongFalsely : Prop := fnExactMustAllowRow.holds Try.pinned (OpenSpec.ofChange fnExactMustAllowWrong)

/-- 'laws.FnExactNewCount': WHATEVER THE INPUT: true; the input reads as it did. -/
def fnExactNewCountSpec : ChangeSpec := { name := "fnExactNewCount", fn := fun _ => fun
  | [d] => { results := [.lit (.bool true)], args := [d] }
  | _ => none }
def fnExactNewCountRow : OpenClaim := { program := "ytbjkopmdkdkapaa", sum := "01f2f867684eab60bc83267cd46e866a9943d46a15900ffab679504d905c7b1e", func := "loop.example/g01633/laws.FnExactNewCount", spec := "fnExactNewCount", apart := false }
def FnExactNewCountSaid : Prop := fnExactNewCountRow.holds Try.pinned (OpenSpec.ofChange fnExactNewCountSpec)

/-- ITS FALSE NEIGHBOUR: 'it returns false'. Refute it at one input. -/
def fnExactNewCountWrong : ChangeSpec := { name := "fnExactNewCount", fn := fun _ => fun
  | [d] => { results := [.lit (.bool false)], args := [d] }
  | _ => none }
def FnExactNewCountWrongFalsely : Prop := fnExactNewCountRow.holds Try.pinned (OpenSpec.ofChange fnExactNewCountWrong)

/-- 'laws.FnExactNewAllow': WHATEVER THE INPUT: true; the input reads as it did. -/
def fnExactNewAllowSpec : ChangeSpec := { name := "fnExactNewAllow", fn := fun _ => fun
  | [d] => { results := [.lit (.bool true)], args := [d] }
  | _ => none }
def fnExactNewAllowRow : OpenClaim := { program := "ytbjkopmdkdkapaa", sum := "01f2f867684eab60bc83267cd46e866a9943d46a15900ffab679504d905c7b1e", func := "loop.example/g01633/laws.FnExactNewAllow", spec := "fnExactNewAllow", apart := false }
def FnExactNewAllowSaid : Prop := fnExactNewAllowRow.holds Try.pinned (OpenSpec.ofChange fnExactNewAllowSpec)

/-- ITS FALSE NEIGHBOUR: 'it returns false'. Refute it at one input. -/
def fnExactNewAllowWrong : ChangeSpec := { name := "fnExactNewAllow", fn := fun _ => fun
  | [d] => { results := [.lit (.bool false)], args := [d] }
  | _ => none }
def FnExactNewAllowWrongFalsely : Prop := fnExactNewAllowRow.holds Try.pinned (OpenSpec.ofChange fnExactNewAllowWrong)

/-- 'laws.FnExactRaiseCount': WHATEVER THE INPUT: true; the input reads as it did. -/
def fnExactRaiseCountSpec : ChangeSpec := { name := "fnExactRaiseCount", fn := fun _ => fun
  | [d1, d2] => { results := [.lit (.bool true)], args := [d1, d2] }
  | _ => none }
def fnExactRaiseCountRow : OpenClaim := { program := "ytbjkopmdkdkapaa", sum := "01f2f867684eab60bc83267cd46e866a9943d46a15900ffab679504d905c7b1e", func := "loop.example/g01633/laws.FnExactRaiseCount", spec := "fnExactRaiseCount", apart := false }
def FnExactRaiseCountSaid : Prop := fnExactRaiseCountRow.holds Try.pinned (OpenSpec.ofChange fnExactRaiseCountSpec)

/-- ITS FALSE NEIGHBOUR: 'it returns false'. Refute it at one input. -/
def fnExactRaiseCountWrong : ChangeSpec := { name := "fnExactRaiseCount", fn := fun _ => fun
  | [d1, d2] => { results := [.lit (.bool false)], args := [d1, d2] }
  | _ => none }
def FnExactRaiseCountWrongFalsely : Prop := fnExactRaiseCountRow.holds Try.pinned (OpenSpec.ofChange fnExactRaiseCountWrong)

/- THE SECOND FORM. 'bulk': how many values and letters a reading holds, each counted each time it is reached (what is shared counts as often as it is met; a slice's spare places count too). A statement '..UptoSaid' is the law's where the arguments, and the package variables that the reading takes, are together of bulk at most 1048576: NARROWER than '..Said'. Prove '..Said' where nothing that the law and all that it calls make is longer than what came in: it says more and counts as full. Else prove '..UptoSaid'. A law counts once. -/
mutual
def uptoBulk {H : Type} : DataW H → Nat
  | .lit (.string bytes) => bytes.length + 1
  | .lit _ => 1
  | .nil => 1
  | .ptr d => uptoBulk d + 1
  | .slice elems spare => uptoBulkAll elems + uptoBulkAll spare + 1
  | .agg parts => uptoBulkAll parts + 1
  | .iface _ d => uptoBulk d + 1
  | .map entries => uptoBulkEntries entries + 1
  | .held _ => 1
def uptoBulkAll {H : Type} : List (DataW H) → Nat
  | [] => 0
  | d :: r => uptoBulk d + uptoBulkAll r
def uptoBulkEntries {H : Type} : List (Lit × DataW H) → Nat
  | [] => 0
  | x :: r => uptoBulkEntry x + uptoBulkEntries r
def uptoBulkEntry {H : Type} : Lit × DataW H → Nat
  | (.string bytes, d) => bytes.length + uptoBulk d + 1
  | (_, d) => uptoBulk d + 1
 end
def uptoSmall : (H : Type) → List (DataW H) → Bool := fun _ ds => decide (uptoBulkAll ds ≤ 1048576)
def OpenSpec.upto (s : _root_.Go.ChangeSpec) : _root_.Go.OpenSpec := { _root_.Go.OpenSpec.ofChange s with cond := some uptoSmall }

/-- 'laws.FnExactIsCount', WHERE WHAT IT READS IS OF BULK AT MOST 1048576: true; the input reads as it did. -/
def fnExactIsCountUptoRow : OpenClaim := { program := "ytbjkopmdkdkapaa", sum := "01f2f867684eab60bc83267cd46e866a9943d46a15900ffab679504d905c7b1e", func := "loop.example/g01633/laws.FnExactIsCount", spec := "fnExactIsCount", apart := false, narrowed := true }
def FnExactIsCountUptoSaid : Prop := fnExactIsCountUptoRow.holds Try.pinned (OpenSpec.upto fnExactIsCountSpec)

/-- 'laws.FnExactIsAllow', WHERE WHAT IT READS IS OF BULK AT MOST 1048576: true; the input reads as it did. -/
def fnExactIsAllowUptoRow : OpenClaim := { program := "ytbjkopmdkdkapaa", sum := "01f2f867684eab60bc83267cd46e866a9943d46a15900ffab679504d905c7b1e", func := "loop.example/g01633/laws.FnExactIsAllow", spec := "fnExactIsAllow", apart := false, narrowed := true }
def FnExactIsAllowUptoSaid : Prop := fnExactIsAllowUptoRow.holds Try.pinned (OpenSpec.upto fnExactIsAllowSpec)

/-- 'laws.FnExactMustAllow', WHERE WHAT IT READS IS OF BULK AT MOST 1048576: true; the input reads as it did. -/
def fnExactMustAllowUptoRow : OpenClaim := { program := "ytbjkopmdkdkapaa", sum := "01f2f867684eab60bc83267cd46e866a9943d46a15900ffab679504d905c7b1e", func := "loop.example/g01633/laws.FnExactMustAllow", spec := "fnExactMustAllow", apart := false, narrowed := true }
def FnExactMustAllowUptoSaid : Prop := fnExactMustAllowUptoRow.holds Try.pinned (OpenSpec.upto fnExactMustAllowSpec)

/-- 'laws.FnExactNewCount', WHERE WHAT IT READS IS OF BULK AT MOST 1048576: true; the input reads as it did. -/
def fnExactNewCountUptoRow : OpenClaim := { program := "ytbjkopmdkdkapaa", sum := "01f2f867684eab60bc83267cd46e866a9943d46a15900ffab679504d905c7b1e", func := "loop.example/g01633/laws.FnExactNewCount", spec := "fnExactNewCount", apart := false, narrowed := true }
def FnExactNewCountUptoSaid : Prop := fnExactNewCountUptoRow.holds Try.pinned (OpenSpec.upto fnExactNewCountSpec)

/-- 'laws.FnExactNewAllow', WHERE WHAT IT READS IS OF BULK AT MOST 1048576: true; the input reads as it did. -/
def fnExactNewAllowUptoRow : OpenClaim := { program := "ytbjkopmdkdkapaa", sum := "01f2f867684eab60bc83267cd46e866a9943d46a15900ffab679504d905c7b1e", func := "loop.example/g01633/laws.FnExactNewAllow", spec := "fnExactNewAllow", apart := false, narrowed := true }
def FnExactNewAllowUptoSaid : Prop := fnExactNewAllowUptoRow.holds Try.pinned (OpenSpec.upto fnExactNewAllowSpec)

/-- 'laws.FnExactRaiseCount', WHERE WHAT IT READS IS OF BULK AT MOST 1048576: true; the input reads as it did. -/
def fnExactRaiseCountUptoRow : OpenClaim := { program := "ytbjkopmdkdkapaa", sum := "01f2f867684eab60bc83267cd46e866a9943d46a15900ffab679504d905c7b1e", func := "loop.example/g01633/laws.FnExactRaiseCount", spec := "fnExactRaiseCount", apart := false, narrowed := true }
def FnExactRaiseCountUptoSaid : Prop := fnExactRaiseCountUptoRow.holds Try.pinned (OpenSpec.upto fnExactRaiseCountSpec)

end Rows
end Go.Proofs.Ytbjkopmdkdkapaa
